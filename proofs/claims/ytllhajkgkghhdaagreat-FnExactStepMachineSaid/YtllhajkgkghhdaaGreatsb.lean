/- Part of a proof: what its last text rests on. -/
import Derived.Test.YtllhajkgkghhdaaGreatProg
import Derived.Test.YtllhajkgkghhdaaGreatSh
import Derived.Test.YtllhajkgkghhdaaGreatsa
set_option linter.unusedVariables false
namespace Go.Gx
def stP : Option (Store × World) → Store
  | some (s, _) => s
  | none => []
def valOf : Option (Result Next) → Value
  | some (.ok (.value v) _) => v
  | _ => undef
def valsP (P : Program) (ops : Array Oper) (n : Nat) : Nat → List Oper → Store → List Value
  | 0, _, _ => []
  | _ + 1, [], _ => []
  | m + 1, o :: r, S => valOf (oneZ P ops n S default o) :: valsP P ops n m r (putS S o.dst (valOf (oneZ P ops n S default o)))
section
variable {α : Type} {E : Enc α} {F : List Nat} {w0 w w' : World} {Ls : List Seg} {xs ys : List α} {p q : Option Addr} {c : Nat} {seg : Seg}
variable {P : Program} {ops : Array Oper} {n : Nat} {Q : Exit → Act → World → Prop} {S S' : Store} {l rest : List Oper} {o : Oper} {C : World → Prop} {K : Act → Prop}
theorem MW (m : Nat) (k : W P ops n Q (stP (runP P ops n m l S w)) w (l.drop m)) (h : (runP P ops n m l S w).map Prod.snd = some w := by kernel_rfl) : W P ops n Q S w l := by
  cases hr : runP P ops n m l S w with
  | none => rw [hr] at h; cases h
  | some r =>
    obtain ⟨s, v⟩ := r
    rw [hr] at h k
    obtain rfl := Option.some.inj h
    exact W_runP m l S _ hr k
theorem MZ (m : Nat) (k : Z P ops n C K (putL (valsP P ops n m l S) l S) (l.drop m)) (h : ∀ w, resL P ops n (valsP P ops n m l S) l S w = (valsP P ops n m l S).map (fun v => some (.ok (.value v) w)) := by (intro w_; kernel_rfl)) (hl : (valsP P ops n m l S).length = m := by kernel_rfl) : Z P ops n C K S l :=
  Z_runL (valsP P ops n m l S) h (hl.symm ▸ k)
theorem MS (m : Nat) (S' : Store) (k : Z P ops n C K S' (l.drop m)) (hs : sub S' (putL (valsP P ops n m l S) l S) = some S' := by kernel_rfl) (h : ∀ w, resL P ops n (valsP P ops n m l S) l S w = (valsP P ops n m l S).map (fun v => some (.ok (.value v) w)) := by (intro w_; kernel_rfl)) (hl : (valsP P ops n m l S).length = m := by kernel_rfl) : Z P ops n C K S l :=
  Z_runL (valsP P ops n m l S) h (Z_sub S' hs (hl.symm ▸ k))
theorem ZC {f : FuncId} {args : Array Value} (v : Value) (hc : ∀ w, Mem F w0 w Ls → Calls P f args w fun e w' => e = .returned v ∧ Mem [] w w' []) (k : Z P ops n (fun w' => Mem F w0 w' Ls) K (putS S o.dst v) rest) (hok : okAll ops n S o = true := by kernel_rfl) (hr : ∀ w, (execOp (rho S) o).run P w = .ok (.enter f args) w := by (intro w_; kernel_rfl)) : Z P ops n (fun w' => Mem F w0 w' Ls) K S (o :: rest) :=
  Z_call f args v hok hr (fun w hM => (hc w hM).mono fun e w2 h => ⟨h.1, hM.call0 h.2⟩) k
theorem WC {f : FuncId} {args : Array Value} (hc : Calls P f args w fun e w' => ∃ v, e = .returned v ∧ W P ops n Q (putS S o.dst v) w' rest) (hok : okAll ops n S o = true := by kernel_rfl) (hr : (execOp (rho S) o).run P w = .ok (.enter f args) w := by kernel_rfl) : W P ops n Q S w (o :: rest) := W_call f args hok hr hc
theorem WD {f : FuncId} {args : Array Value} {v : Value} (hc : Calls P f args w fun e w' => e = .returned v ∧ Mem [] w w' []) (hM : Mem F w0 w Ls) (kk : ∀ w', Mem F w0 w' Ls → W P ops n Q (putS S o.dst v) w' rest) (hok : okAll ops n S o = true := by kernel_rfl) (hr : (execOp (rho S) o).run P w = .ok (.enter f args) w := by kernel_rfl) : W P ops n Q S w (o :: rest) :=
  W_call f args hok hr (hc.mono fun e w' h => ⟨v, h.1, kk w' (hM.call0 h.2)⟩)
theorem HS {β : Type} {a b : β} (h : some a = some b) : a = b := Option.some.inj h
section
variable {l' : List Oper} {y z : Code} {id : Nat}
theorem NA (h : W P l'.toArray n (Exit.then (y.wp P Q) Q) S w l') : W P ops n (Exit.then ((Code.seq (.region id l'.toArray false) y).wp P Q) Q) S w [] := W_nil (N_then (G_seq (G_region h)))
theorem NB (h : W P l'.toArray n (Exit.then (y.wp P (Exit.then (z.wp P Q) Q)) (Exit.then (z.wp P Q) Q)) S w l') : W P ops n (Exit.then ((Code.seq (.seq (.region id l'.toArray false) y) z).wp P Q) Q) S w [] := W_nil (N_then (G_seq (G_seq (G_region h))))
theorem NC (h : N n Q .ret S w) : W P ops n (Exit.then (Code.ret.wp P Q) Q) S w [] := W_nil (N_then (G_ret h))
theorem ND {K : Act → World → Prop} (h : N n Q .ret S w) : W P ops n (Exit.then (Code.ret.wp P (Exit.then K Q)) (Exit.then K Q)) S w [] := W_nil (N_then (G_ret (N_then_ret h)))
theorem NE (h : G P n y (Exit.then (z.wp P Q) Q) S w) : W P ops n (Exit.then ((Code.seq y z).wp P Q) Q) S w [] := W_nil (N_then (G_seq h))
theorem NF (h : W P l'.toArray n (Exit.then (y.wp P Q) Q) S w l') : N n (Exit.then ((Code.seq (.region id l'.toArray false) y).wp P Q) Q) .normal S w := N_then (G_seq (G_region h))
theorem NO (h : G P n y Q S w) : W P ops n (Exit.then (y.wp P Q) Q) S w [] := W_nil (N_then h)
theorem NX {i : Nat} {K1 K2 : Act → World → Prop} (h : N n Q .ret S w) : W P ops n (Exit.then (Code.ret.wp P (Exit.inBlock i (Exit.then K1 (Exit.then K2 Q)))) (Exit.inBlock i (Exit.then K1 (Exit.then K2 Q)))) S w [] := W_nil (N_then (G_ret (N_block_ret (N_then_ret (N_then_ret h)))))
theorem NG {i : Nat} (h : W P l'.toArray n Q S w l') : W P ops n (Exit.inBlock i (Exit.then ((Code.region id l'.toArray false).wp P Q) Q)) S w [] := W_nil (N_block (N_then (G_region h)))
theorem KA (h : W P l'.toArray n (Exit.then (y.wp P Q) Q) S w l') : G P n .skip (Exit.then ((Code.seq (.region id l'.toArray false) y).wp P Q) Q) S w := G_skip (N_then (G_seq (G_region h)))
theorem KB (h : W P l'.toArray n (Exit.then (y.wp P (Exit.then (z.wp P Q) Q)) (Exit.then (z.wp P Q) Q)) S w l') : G P n .skip (Exit.then ((Code.seq (.seq (.region id l'.toArray false) y) z).wp P Q) Q) S w := G_skip (N_then (G_seq (G_seq (G_region h))))
theorem KC {i : Nat} (h : W P l'.toArray n Q S w l') : G P n .skip (Exit.inBlock i (Exit.then ((Code.region id l'.toArray false).wp P Q) Q)) S w := G_skip (N_block (N_then (G_region h)))
theorem KD {i : Nat} (h : W P l'.toArray n (Exit.then (y.wp P (Exit.inBlock i (Exit.then (z.wp P Q) Q))) (Exit.inBlock i (Exit.then (z.wp P Q) Q))) S w l') : G P n .skip (Exit.then ((Code.seq (.block i (.seq (.region id l'.toArray false) y)) z).wp P Q) Q) S w := G_skip (N_then (G_seq (G_block (G_seq (G_region h)))))
theorem XA {K1 K2 : Act → World → Prop} (h : N n Q .normal S w) : G P n (.exit id) (Exit.then K1 (Exit.then K2 (Exit.inBlock id Q))) S w := G_exit (N_then_exit (N_then_exit (N_block_eq h)))
theorem QA (h : W P l'.toArray n (Exit.then (y.wp P Q) Q) S w l') : G P n (.seq (.region id l'.toArray false) y) Q S w := G_seq (G_region h)
theorem QB (h : W P l'.toArray n (Exit.then (y.wp P (Exit.then (z.wp P Q) Q)) (Exit.then (z.wp P Q) Q)) S w l') : G P n (.seq (.seq (.region id l'.toArray false) y) z) Q S w := G_seq (G_seq (G_region h))
theorem WN (h : N n Q .normal S w) : W P ops n Q S w [] := W_nil h
theorem TN (h : G P n y Q S w) : N n (Exit.then (y.wp P Q) Q) .normal S w := h
theorem TR {K : Act → World → Prop} (h : N n Q .ret S w) : N n (Exit.then K Q) .ret S w := h
theorem TE {K : Act → World → Prop} {id : Nat} (h : N n Q (.exit id) S w) : N n (Exit.then K Q) (.exit id) S w := h
theorem GS (h : G P n y (Exit.then (z.wp P Q) Q) S w) : G P n (.seq y z) Q S w := G_seq h
theorem GR (h : W P l'.toArray n Q S w l') : G P n (.region id l'.toArray false) Q S w := G_region h
theorem GK (h : N n Q .normal S w) : G P n .skip Q S w := G_skip h
theorem GB (h : G P n y (Exit.inBlock id Q) S w) : G P n (.block id y) Q S w := G_block h
theorem BN (h : N n Q .normal S w) : N n (Exit.inBlock id Q) .normal S w := h
theorem BR (h : N n Q .ret S w) : N n (Exit.inBlock id Q) .ret S w := h
end
theorem RA {fn : Func} {R : Ending → World → Prop} (vs : List Value) (hR : R (.returned (retV vs)) w) (h : RVs P S w fn.results.toList vs := by first | exact rC RVs_nil | exact rC (rC RVs_nil) | exact rC (rC (rC RVs_nil)) | exact rC (rC (rC (rC RVs_nil)))) : N n (bodyPost P fn R) .ret S w := N_ret vs h hR
theorem RX (g : Bool) (k off : Nat) {t : Nat} {ty : TypeId} {b : Nat} {cs : List Value} {e : TypeId} {fr : Nat × Nat} {v : Value} {rs : List ResultVar} {vs : List Value} (hb : w.heap[b]? = some (.cells ⟨cs⟩ e fr)) (hs : RVs P S w rs vs) (hx : look S t = some (.pointer (some ⟨b, off, none⟩)) := by kernel_rfl) (hp : shapeT P ty = some (g, k) := by kernel_rfl) (hv : loadV g k cs off = some v := by kernel_rfl) : RVs P S w (.cell t ty :: rs) (v :: vs) := RVs_cons (RV_cell hb hx hp hv) hs
theorem LX (k : Nat) (p : Option Addr) (c : Nat) (xs : List α) (i : Nat) (x : α) (h : W P ops n Q ((k, .slice p (xs.set i x).length c) :: S) w l) (hk : look S k = some (.slice p xs.length c) := by kernel_rfl) : W P ops n Q S w l := W_conv k _ _ hk (by rw [List.length_set]) h
theorem LY (k : Nat) (p : Option Addr) (c : Nat) {α β : Type} {xs : List α} {ys : List β} (he : ys.length = xs.length) (h : W P ops n Q ((k, .slice p ys.length c) :: S) w l) (hk : look S k = some (.slice p xs.length c) := by kernel_rfl) : W P ops n Q S w l := W_conv k _ _ hk (by rw [he]) h
theorem ownI.r {l : List Inn} (h : ownI l seg) (hM : Mem F w0 w Ls) (pl : Nat) (hi : Ls.getD pl [] = seg := by kernel_rfl) : rdI w l := h.rd hM pl hi
theorem ownS.r (h : ownS E xs p c seg) (hM : Mem F w0 w Ls) (pl : Nat) (hi : Ls.getD pl [] = seg := by kernel_rfl) : rdS E w xs p c := h.rd hM pl hi
end
end Go.Gx
set_option linter.unusedVariables false
namespace Go.Gx
section
variable {α : Type} {E : Enc α} {F : List Nat} {w0 w w' : World} {Ls : List Seg} {xs ys : List α} {p q : Option Addr} {c : Nat} {seg : Seg}
variable {P : Program} {ops : Array Oper} {n : Nat} {Q : Exit → Act → World → Prop} {S S' : Store} {l rest : List Oper} {o : Oper} {C : World → Prop} {K : Act → Prop}
abbrev SL {β : Type} (p : Option Addr) (xs : List β) (c : Nat) : Value := .slice p xs.length c
abbrev SN : Value := .slice none 0 0
theorem NM {J : Act → World → Prop} (h : ∀ a, Sat n S a → J a w) : N n (Meet J Q) .normal S w := h
abbrev CE (e : TypeId) (cs : List Value) : Obj := .cells ⟨cs⟩ e (0, 0)
abbrev BK (b : Nat) (e : TypeId) (cs : List Value) : Seg := [(b, .cells ⟨cs⟩ e (0, 0))]
theorem GD {p : Prop} {β γ : Type} {x : Option β} {f : β → Option γ} {r : γ} (h : Option.bind x f = some r) (k : ∀ a, x = some a → f a = some r → p) : p := by
  obtain ⟨a, h1, h2⟩ := gx_bind h
  exact k a h1 h2
theorem GT {cd : Operand} {b : Bool} {y z : Code} {β : Type} {X Y : Option β} {r : β} (hm : (bif b then X else Y) = some r) (ht : b = true → X = some r → G P n y Q S w) (hf : b = false → Y = some r → G P n z Q S w) (hc : evalO S cd = some (.bool b) := by kernel_rfl) : G P n (.cond cd y z) Q S w :=
  G_cond b hc (fun h => ht h (by rw [h] at hm; exact hm)) (fun h => hf h (by rw [h] at hm; exact hm))
theorem ownD.r2 {D : Deep α} {s0 s1 : Seg} (h : ownD D xs p c s0 s1) (hM : Mem F w0 w Ls) (i j : Nat) (hi : Ls.getD i [] = s0 := by kernel_rfl) (hj : Ls.getD j [] = s1 := by kernel_rfl) : rdD D w xs p c := h.rd hM i hi j hj
theorem rdI.a_ {zs : List (α × Pl)} {f : α × Pl → List Inn} (h : rdI w (zs.flatMap f)) {i : Int} {z : α × Pl} (hz : gxIdx zs i = some z) (k : Nat) {β : Type} {E : Enc β} {xs : List β} {p : Option Addr} {c : Nat} (hk : (f z)[k]? = some ⟨β, E, xs, p, c⟩ := by kernel_rfl) : rdS E w xs p c := h.at_ hz k ⟨β, E, xs, p, c⟩ hk
abbrev QV (x : Value) : (Nat → Value) → Value → Seg → Prop := fun f v s => v = x ∧ s = []
abbrev BL (L : List ((Nat → Value) → Value → Seg → Prop)) : Nat → (Nat → Value) → Value → Seg → Prop := fun i => L.getD i (fun _ _ _ => False)
def EM : Nat → List (List Nat)
  | 0 => []
  | n + 1 => [] :: EM n
theorem GU (S' : Store) {y : Code} (k : G P n y Q S' w) (hs : sub S' S = some S' := by kernel_rfl) : G P n y Q S w := G_sub S' hs k
theorem AC {pr : Nat → Oper → Prop} {i : Nat} {r : List Oper} (h : pr i o) (hs : allOb pr (i + 1) r) : allOb pr i (o :: r) := ⟨h, hs⟩
theorem AN {pr : Nat → Oper → Prop} {i : Nat} : allOb pr i [] := trivial
theorem DL {id : Nat} (m : Nat) (E J N X Y Z : List (List Nat)) (pre : Nat → Seg) (L : List ((Nat → Value) → Value → Seg → Prop)) (OX O O' : List Nat) (hM : Mem F w0 w (Ls ++ (List.range m).map pre))
    (ob : allOb (ObOf P n l S F w0 Ls E J N X Y Z pre (BL L) (fun j f v => ∃ s, BL L j f v s)) 0 (l.take m))
    (fin : ∀ (g : Nat → Seg) (f : Nat → Value), obX l (fun j f v => ∃ s, BL L j f v s) Y OX f S fun f1 S1 => obE l (BL L) Y g O f1 S1 fun f2 S' => ∀ w, Mem F w0 w (Ls ++ O'.map g) → W P l.toArray n Q S' w (l.drop m))
    (hmix : P.follows .mixedOrders = true := by kernel_rfl) (hok : dagOk l m S E J N X Y Z = true := by kernel_rfl)
    (hOX : OX.all (fun j => Nat.blt j m) = true := by kernel_rfl) (hO : O.all (fun j => Nat.blt j m && freeOf J m j) = true := by kernel_rfl) (hO' : O'.all (fun j => Nat.blt j m && freeOf J m j) = true := by kernel_rfl) (hOd : distinct O' = true := by kernel_rfl) : G P n (.region id l.toArray true) Q S w :=
  G_dagL m E J N X Y Z pre (BL L) (fun j f v => ∃ s, BL L j f v s) OX O O' (fun _ _ _ s h => ⟨s, h⟩) hmix hok hM hOX hO hO' hOd ob fin
theorem OV {B1 : Value → Seg → Prop} {R : List Seg} {v : Value} {d : Nat} (hb : B1 v []) (hr : (execOp (rho S) o).run P w = .ok (.value v) w) (hM : Mem F w0 w (Ls ++ ([[]] ++ R))) (hd : o.dst = some d := by rfl) (hok : okAll ops n S o = true := by kernel_rfl) :
    W P ops n (Q1 fun a' w' => a'.defers = [] ∧ ∃ v s, (∀ d, o.dst = some d → a'.tmps[d]? = some v) ∧ B1 v s ∧ Mem F w0 w' (Ls ++ ([s] ++ R))) S w [o] := by
  refine W_val v w hok hr (W_nil (ob_end v [] hd ?_ hb hM))
  rw [hd]
  simp [putS, look]
theorem OM {B1 : Value → Seg → Prop} {R : List Seg} {v : Value} (hb : B1 v []) (hM : Mem F w0 w (Ls ++ ([[]] ++ R))) (hok : okAll ops n S o = true := by kernel_rfl) (hd : (o.dst).isSome = true := by kernel_rfl) (hr : (execOp (rho S) o).run P w = .ok (.value v) w := by kernel_rfl) :
    W P ops n (Q1 fun a' w' => a'.defers = [] ∧ ∃ v s, (∀ d, o.dst = some d → a'.tmps[d]? = some v) ∧ B1 v s ∧ Mem F w0 w' (Ls ++ ([s] ++ R))) S w [o] := by
  obtain ⟨d, hd⟩ := Option.isSome_iff_exists.1 hd
  refine W_val v w hok hr (W_nil (ob_end v [] hd ?_ hb hM))
  rw [hd]
  simp [putS, look]
end
end Go.Gx
set_option linter.unusedVariables false
set_option linter.unusedSimpArgs false
set_option maxRecDepth 100000
set_option maxHeartbeats 4000000
namespace Go.Proofs.YtllhajkgkghhdaaGreat
open Go.Gx
theorem c_l_szRouteS (w : World) (a : List Route) (f c) (g : rdS encRoute w a f c) (b : Int) {r : Int} (hm : M.l_szRouteS a b = some r) :
  Calls Tryz.prog 51 #[SL f a c, iv b] w fun e w' => e = .returned (iv r) ∧ Mem [] w w' [] := by
 unfold M.l_szRouteS at hm
 refine cE Tryz.func51 ?_
 have M0 := Mem.refl [] w
 refine QA (MW 1 (NA (MW 5 (NB (MW 2 (NO (GT hm (fun d hm => ?_) fun d hm => ?_)))))))
 ·refine QA (MW 1 (ND ?_))
  cases hm
  exact RA [iv (-1)] (⟨rfl, M0.pk []⟩)
 refine KA (MW 2 (NC ?_))
 cases hm
 exact RA [iv (w64 (b - (a.length : Int)))] (⟨rfl, M0.pk []⟩)
theorem c_l_szBoolS (w : World) (a : List Bool) (f c) (g : rdS Gx.encB w a f c) (b : Int) {r : Int} (hm : M.l_szBoolS a b = some r) :
  Calls Tryz.prog 52 #[SL f a c, iv b] w fun e w' => e = .returned (iv r) ∧ Mem [] w w' [] := by
 unfold M.l_szBoolS at hm
 refine cE Tryz.func52 ?_
 have M0 := Mem.refl [] w
 refine QA (MW 1 (NA (MW 5 (NB (MW 2 (NO (GT hm (fun d hm => ?_) fun d hm => ?_)))))))
 ·refine QA (MW 1 (ND ?_))
  cases hm
  exact RA [iv (-1)] (⟨rfl, M0.pk []⟩)
 refine KA (MW 2 (NC ?_))
 cases hm
 exact RA [iv (w64 (b - (a.length : Int)))] (⟨rfl, M0.pk []⟩)
theorem c_l_szIntS (w : World) (a : List Int) (f c) (g : rdS Gx.encI w a f c) (b : Int) {r : Int} (hm : M.l_szIntS a b = some r) :
  Calls Tryz.prog 152 #[SL f a c, iv b] w fun e w' => e = .returned (iv r) ∧ Mem [] w w' [] := by
 unfold M.l_szIntS at hm
 refine cE Tryz.func152 ?_
 have M0 := Mem.refl [] w
 refine QA (MW 1 (NA (MW 5 (NB (MW 2 (NO (GT hm (fun d hm => ?_) fun d hm => ?_)))))))
 ·refine QA (MW 1 (ND ?_))
  cases hm
  exact RA [iv (-1)] (⟨rfl, M0.pk []⟩)
 refine KA (MW 2 (NC ?_))
 cases hm
 exact RA [iv (w64 (b - (a.length : Int)))] (⟨rfl, M0.pk []⟩)
theorem c_l_szSlotS (w : World) (a : List Slot) (f c) (g : rdS encSlot w a f c) (b : Int) {r : Int} (hm : M.l_szSlotS a b = some r) :
  Calls Tryz.prog 187 #[SL f a c, iv b] w fun e w' => e = .returned (iv r) ∧ Mem [] w w' [] := by
 unfold M.l_szSlotS at hm
 refine cE Tryz.func187 ?_
 have M0 := Mem.refl [] w
 refine QA (MW 1 (NA (MW 5 (NB (MW 2 (NO (GT hm (fun d hm => ?_) fun d hm => ?_)))))))
 ·refine QA (MW 1 (ND ?_))
  cases hm
  exact RA [iv (-1)] (⟨rfl, M0.pk []⟩)
 refine KA (MW 2 (NC ?_))
 cases hm
 exact RA [iv (w64 (b - (a.length : Int)))] (⟨rfl, M0.pk []⟩)
theorem c_l_szWaiterS (w : World) (a : List Waiter) (f c) (g : rdS encWaiter w a f c) (b : Int) {r : Int} (hm : M.l_szWaiterS a b = some r) :
  Calls Tryz.prog 188 #[SL f a c, iv b] w fun e w' => e = .returned (iv r) ∧ Mem [] w w' [] := by
 unfold M.l_szWaiterS at hm
 refine cE Tryz.func188 ?_
 have M0 := Mem.refl [] w
 refine QA (MW 1 (NA (MW 5 (NB (MW 2 (NO (GT hm (fun d hm => ?_) fun d hm => ?_)))))))
 ·refine QA (MW 1 (ND ?_))
  cases hm
  exact RA [iv (-1)] (⟨rfl, M0.pk []⟩)
 refine KA (MW 2 (NC ?_))
 cases hm
 exact RA [iv (w64 (b - (a.length : Int)))] (⟨rfl, M0.pk []⟩)
theorem c_l_szQueue (w : World) (a : Queue) (h f) (y : rdS encSlot w a.Slots h f) (i g) (z : rdS encWaiter w a.Waiting i g) (c : Int) {r : Int} (hm : M.l_szQueue a c = some r) :
  Calls Tryz.prog 153 #[.agg #[SL h a.Slots f, SL i a.Waiting g], iv c] w fun e w' => e = .returned (iv r) ∧ Mem [] w w' [] := by
 unfold M.l_szQueue at hm
 refine cE Tryz.func153 ?_
 have M0 := Mem.refl [] w
 refine QA (wN (CE 124 [SL h a.Slots f, SL i a.Waiting g]) M0 fun d l o => MW 1 (NA (MW 1 (wV (SL h a.Slots f) l (eL false 1 0 (o.blk 0 rfl)) (MW 1 (GD hm fun b A hm => WD (c_l_szSlotS l a.Slots h f (y.mem0 o) c A) o fun j m => MW 1 (NB (MW 2 (NO (GT hm (fun q hm => ?_) fun q hm => ?_))))))))))
 ·refine QA (MW 1 (ND ?_))
  cases hm
  exact RA [iv (-1)] (⟨rfl, m.pk []⟩)
 refine KA (MW 1 (wV (SL i a.Waiting g) j (eL false 1 1 (m.blk 0 rfl)) (MW 1 (GD hm fun k B hm => WD (c_l_szWaiterS j a.Waiting i g (z.mem0 m) b B) m fun n u => MW 1 (NB (MW 2 (NO (GT hm (fun t hm => ?_) fun t hm => ?_))))))))
 ·refine QA (MW 1 (ND ?_))
  cases hm
  exact RA [iv (-1)] (⟨rfl, u.pk []⟩)
 refine KA (MW 2 (NC ?_))
 obtain rfl := HS hm
 exact RA [iv k] (⟨rfl, u.pk []⟩)
theorem c_l_szInterface (w : World) (a : Interface) (j g) (B : rdS Gx.encI w a.Stack j g) (k h) (C : rdS encSlot w a.Queue.Slots k h) (i f) (A : rdS encWaiter w a.Queue.Waiting i f) (c : Int) {r : Int} (hm : M.l_szInterface a c = some r) :
  Calls Tryz.prog 103 #[.agg #[iv a.Mask, SL j a.Stack g, SL k a.Queue.Slots h, SL i a.Queue.Waiting f], iv c] w fun e w' => e = .returned (iv r) ∧ Mem [] w w' [] := by
 unfold M.l_szInterface at hm
 refine cE Tryz.func103 ?_
 have M0 := Mem.refl [] w
 refine QA (wN (CE 126 [iv a.Mask, SL j a.Stack g, SL k a.Queue.Slots h, SL i a.Queue.Waiting f]) M0 fun d o t => MW 1 (NA (MW 1 (wV (SL j a.Stack g) o (eL false 1 1 (t.blk 0 rfl)) (MW 1 (GD hm fun b D hm => WD (c_l_szIntS o a.Stack j g (B.mem0 t) c D) t fun l m => MW 1 (NB (MW 2 (NO (GT hm (fun u hm => ?_) fun u hm => ?_))))))))))
 ·refine QA (MW 1 (ND ?_))
  cases hm
  exact RA [iv (-1)] (⟨rfl, m.pk []⟩)
 refine KA (MW 1 (wV (.agg #[SL k a.Queue.Slots h, SL i a.Queue.Waiting f]) l (eL true 2 2 (m.blk 0 rfl)) (MW 1 (GD hm fun n E hm => WD (c_l_szQueue l a.Queue k h (C.mem0 m) i f (A.mem0 m) b E) m fun q x => MW 1 (NB (MW 2 (NO (GT hm (fun v hm => ?_) fun v hm => ?_))))))))
 ·refine QA (MW 1 (ND ?_))
  cases hm
  exact RA [iv (-1)] (⟨rfl, x.pk []⟩)
 refine KA (MW 2 (NC ?_))
 obtain rfl := HS hm
 exact RA [iv n] (⟨rfl, x.pk []⟩)
theorem c_l_szInterfaceS (w : World) (c : List Interface) (g h) (E : rdD deepInterface w c g h) (j : Int) {r : Int} (hm : M.l_szInterfaceS c j = some r) :
  Calls Tryz.prog 53 #[SL g c h, iv j] w fun e w' => e = .returned (iv r) ∧ Mem [] w w' [] := by
 unfold M.l_szInterfaceS at hm
 refine cE Tryz.func53 ?_
 have M0 := Mem.refl [] w
 refine QA (MW 1 (NA (MW 5 (NB (MW 2 (NO (GT hm (fun u hm => ?_) fun u hm => ?_)))))))
 ·refine QA (MW 1 (ND ?_))
  cases hm
  exact RA [iv (-1)] (⟨rfl, M0.pk []⟩)
 refine KB (MW 1 (NO (GD hm fun K I y => G_meet (fun a w' => ∃ (m : Int), K = .inl m ∧ Mem [] w w' [] ∧ Sat Tryz.f53.ntmps [(1, iv m)] a) ?_ ?_)))
 ·refine GB (G_while (σ := Int × Int) (ρ := (Int) ⊕ (Int)) (fun d a w' => Mem [] w w' [] ∧ Sat Tryz.f53.ntmps [(0, SL g c h), (1, iv d.1), (5, iv d.2)] a) I (fun a ha => ⟨M0.pk [], ha.s⟩) ?_)
  clear hm
  intro d P hm z N k ⟨i, F⟩
  refine G_use F (QB (MW 4 (NO (GT hm (fun q hm => ?_) fun q hm => ?_))))
  ·refine KD (wR 2 [(0, SL g c h), (1, iv d.1), (5, iv d.2), (18, SL g c h), (19, iv d.2)] k (GD hm fun f J hm => ?_))
   obtain ⟨Q, B, A, v⟩ := id E
   obtain ⟨b, l⟩ := gxIdx_fst B J
   refine wV (elemP g (d.2.toNat * 4)) k (eI (A.mem0 i) (len_fst B) l) (wV (.agg #[iv f.Mask, SL ((b 0).1) f.Stack ((b 0).2), SL ((b 1).1) f.Queue.Slots ((b 1).2), SL ((b 2).1) f.Queue.Waiting ((b 2).2)]) k (eE true 4 0 (d.2.toNat * 4) (A.mem0 i) l) (MW 1 (GD hm fun n H hm => WD (c_l_szInterface k f ((b 0).1) ((b 0).2) ((v.mem0 i).a_ l 0) ((b 1).1) ((b 1).2) ((v.mem0 i).a_ l 1) ((b 2).1) ((b 2).2) ((v.mem0 i).a_ l 2) d.1 H) i fun o x => MW 1 (NA (MW 2 (NO (GT hm (fun t hm => ?_) fun t hm => ?_)))))))
   ·refine QA (MW 1 (NX ?_))
    obtain rfl := HS hm
    obtain rfl := z _ rfl
    have hm := y; simp only [Sum.elim_inr] at hm
    refine BR (N_meet_ret (TR ?_))
    cases hm
    exact RA [iv (-1)] (⟨rfl, x.pk []⟩)
   refine KC (MW 3 (WN ?_))
   cases hm
   exact N_loop fun a ha => ⟨_, rfl, x.pk [], ha.s⟩
  refine XA ?_
  obtain rfl := HS hm
  obtain rfl := z _ rfl
  exact NM fun a ha => ⟨_, rfl, i.pk [], ha.s⟩
 intro O L ⟨m, hout_, D, G⟩
 refine N_use G ?_
 subst hout_
 have hm := y; simp only [Sum.elim_inl] at hm
 refine NF (MW 2 (NC ?_))
 obtain rfl := HS hm
 exact RA [iv m] (⟨rfl, D.pk []⟩)
theorem c_l_szMachine (w : World) (a : Machine) (l h) (L : rdS encRoute w a.Routes l h) (m i) (N : rdS Gx.encB w a.Enabled m i) (n j) (O : rdS Gx.encB w a.Raised n j) (o k) (P : rdD deepInterface w a.Cpus o k) (g : Int) {r : Int} (hm : M.l_szMachine a g = some r) :
  Calls Tryz.prog 12 #[.agg #[SL l a.Routes h, SL m a.Enabled i, SL n a.Raised j, SL o a.Cpus k], iv g] w fun e w' => e = .returned (iv r) ∧ Mem [] w w' [] := by
 unfold M.l_szMachine at hm
 refine cE Tryz.func12 ?_
 have M0 := Mem.refl [] w
 refine QA (wN (CE 26 [SL l a.Routes h, SL m a.Enabled i, SL n a.Raised j, SL o a.Cpus k]) M0 fun b v B => MW 1 (NA (MW 1 (wV (SL l a.Routes h) v (eL false 1 0 (B.blk 0 rfl)) (MW 1 (GD hm fun c R hm => WD (c_l_szRouteS v a.Routes l h (L.mem0 B) g R) B fun q x => MW 1 (NB (MW 2 (NO (GT hm (fun D hm => ?_) fun D hm => ?_))))))))))
 ·refine QA (MW 1 (ND ?_))
  cases hm
  exact RA [iv (-1)] (⟨rfl, x.pk []⟩)
 refine KA (MW 1 (wV (SL m a.Enabled i) q (eL false 1 1 (x.blk 0 rfl)) (MW 1 (GD hm fun d S hm => WD (c_l_szBoolS q a.Enabled m i (N.mem0 x) c S) x fun w64 y => MW 1 (NB (MW 2 (NO (GT hm (fun E hm => ?_) fun E hm => ?_))))))))
 ·refine QA (MW 1 (ND ?_))
  cases hm
  exact RA [iv (-1)] (⟨rfl, y.pk []⟩)
 refine KA (MW 1 (wV (SL n a.Raised j) w64 (eL false 1 2 (y.blk 0 rfl)) (MW 1 (GD hm fun f T hm => WD (c_l_szBoolS w64 a.Raised n j (O.mem0 y) d T) y fun t z => MW 1 (NB (wR 2 [(1, iv f), (2, pB b 0), (22, .bool (decide (f < 0)))] t (NO (GT hm (fun F hm => ?_) fun F hm => ?_))))))))
 ·refine QA (MW 1 (ND ?_))
  cases hm
  exact RA [iv (-1)] (⟨rfl, z.pk []⟩)
 refine KA (MW 1 (wV (SL o a.Cpus k) t (eL false 1 3 (z.blk 0 rfl)) (MW 1 (GD hm fun u Q hm => WD (c_l_szInterfaceS t a.Cpus o k (P.mem0 z) f Q) z fun A G => MW 1 (NB (MW 2 (NO (GT hm (fun C hm => ?_) fun C hm => ?_))))))))
 ·refine QA (MW 1 (ND ?_))
  cases hm
  exact RA [iv (-1)] (⟨rfl, G.pk []⟩)
 refine KA (MW 2 (NC ?_))
 obtain rfl := HS hm
 exact RA [iv u] (⟨rfl, G.pk []⟩)
theorem c_l_toRoute (w : World) (a : Route) {r : Route} (hm : M.l_toRoute a = some r) :
  Calls Tryz.prog 106 #[.agg #[iv a.Priority, iv a.Target]] w fun e w' => e = .returned (.agg #[iv r.Priority, iv r.Target]) ∧ Mem [] w w' [] := by
 unfold M.l_toRoute at hm
 refine cE Tryz.func106 ?_
 have M0 := Mem.refl [] w
 refine QA (wN (CE 131 [iv a.Priority, iv a.Target]) M0 fun f x q => wN (CE 129 [iv 0, iv 0]) q fun c y t => NA (wN (CE 129 [iv 0, iv 0]) t fun d h j => NA (MW 1 (wV (iv a.Priority) h (eL false 1 0 (j.blk 0 rfl)) (MW 1 (wS false 1 0 (iv a.Priority) 2 [iv a.Priority, iv 0] j rfl fun i l => NA (MW 1 (wV (iv a.Target) i (eL false 1 1 (l.blk 0 rfl)) (MW 1 (wS false 1 1 (iv a.Target) 2 [iv a.Priority, iv a.Target] l rfl fun u m => NA (wV (.agg #[iv a.Priority, iv a.Target]) u (eL true 2 0 (m.blk 2 rfl)) (wS true 2 0 (.agg #[iv a.Priority, iv a.Target]) 1 [iv a.Priority, iv a.Target] m rfl fun z n => NC ?_))))))))))))
 obtain rfl := HS hm
 exact N_ret [.agg #[iv a.Priority, iv a.Target]] (RX true 2 0 (n.blk 1 rfl) RVs_nil) (⟨rfl, n.pk []⟩)
theorem c_l_toRouteS (w : World) (f : List Route) (g h) (x : rdS encRoute w f g h) {r : (List Route)} (hm : M.l_toRouteS f = some r) :
  Calls Tryz.prog 55 #[SL g f h] w fun e w' => ∃ B v C, e = .returned (SL B r v) ∧ ownS encRoute r B v C ∧ Mem [] w w' [C] := by
 unfold M.l_toRouteS at hm
 refine cE Tryz.func55 ?_
 have M0 := Mem.refl [] w
 refine QA (MW 1 (NA (MW 2 (GD hm fun A L hm => W_make (E := encRoute) _ _ _ (f.length : Int) 16 [iv 0, iv 0] ((⟨0, 0⟩ : Route) : Route) M0 (by kernel_rfl) rfl (by kernel_rfl) (by kernel_rfl) (by kernel_rfl) (by kernel_rfl) (by kernel_rfl) L fun c d U D O G => MW 1 (NB (MW 1 (NO (GD hm fun m T N => G_meet (fun a w' => ∃ o, ownS encRoute m c d o ∧ Mem [] w w' [o] ∧ Sat Tryz.f55.ntmps [(3, SL c m d)] a) ?_ ?_))))))))
 ·refine GB (G_while (σ := Int × List Route) (ρ := List Route) (fun b a w' => ∃ n, ownS encRoute b.2 c d n ∧ Mem [] w w' [n] ∧ Sat Tryz.f55.ntmps [(0, SL g f h), (3, SL c b.2 d), (4, iv b.1)] a) T (fun a ha => ⟨U, O, G.pk [0], ha.s⟩) ?_)
  clear hm
  intro b ac hm R aa j ⟨n, t, l, J⟩
  refine G_use J (QB (MW 4 (NO (GT hm (fun q hm => ?_) fun q hm => ?_))))
  ·refine GK (TN (GS (GB (GR (MW 4 (GD hm fun k y hm => wV (elemP g (b.1.toNat * 2)) j (eI (x.mem0 l) rfl y) (wV (.agg #[iv k.Priority, iv k.Target]) j (eE true 2 0 (b.1.toNat * 2) (x.mem0 l) y) (GD hm fun i S hm => WD (c_l_toRoute j k S) l fun W u => GD hm fun Z z hm => wV (elemP c (b.1.toNat * 2)) W (eI (t.r u 0) rfl z) (wE true 2 b.1.toNat 0 (b.1.toNat * 2) Z i (.agg #[iv i.Priority, iv i.Target]) 0 u t (gxIdx_spec z).2 fun X V Q H => LX 3 c d b.2 b.1.toNat i (LX 14 c d b.2 b.1.toNat i (NG (wR 3 [(0, SL g f h), (3, SL c (b.2.set b.1.toNat i) d), (4, iv (w64 (b.1 + 1)))] X (WN ?_)))))))))))))
   cases hm
   exact N_loop fun a ha => ⟨_, rfl, V, Q, H.pk [0], ha.s⟩
  refine XA ?_
  obtain rfl := HS hm
  obtain rfl := R _ rfl
  exact NM fun a ha => ⟨n, t, l.pk [0], ha.s⟩
 intro ab Y ⟨o, P, I, K⟩
 refine N_use K ?_
 have hm := N
 refine NF (MW 2 (NC ?_))
 obtain rfl := HS hm
 exact RA [SL c m d] (⟨c, d, o, rfl, P, I.pk [0]⟩)
theorem c_l_toBoolS (w : World) (f : List Bool) (g h) (u : rdS Gx.encB w f g h) {r : (List Bool)} (hm : M.l_toBoolS f = some r) :
  Calls Tryz.prog 56 #[SL g f h] w fun e w' => ∃ z t A, e = .returned (SL z r t) ∧ ownS Gx.encB r z t A ∧ Mem [] w w' [A] := by
 unfold M.l_toBoolS at hm
 refine cE Tryz.func56 ?_
 have M0 := Mem.refl [] w
 refine QA (MW 1 (NA (MW 2 (GD hm fun y I hm => W_make (E := Gx.encB) _ _ _ (f.length : Int) 1 [.bool false] (false : Bool) M0 (by kernel_rfl) rfl (by kernel_rfl) (by kernel_rfl) (by kernel_rfl) (by kernel_rfl) (by kernel_rfl) I fun c d Q B K C => MW 1 (NB (MW 1 (NO (GD hm fun l P J => G_meet (fun a w' => ∃ n, ownS Gx.encB l c d n ∧ Mem [] w w' [n] ∧ Sat Tryz.f56.ntmps [(3, SL c l d)] a) ?_ ?_))))))))
 ·refine GB (G_while (σ := Int × List Bool) (ρ := List Bool) (fun b a w' => ∃ m, ownS Gx.encB b.2 c d m ∧ Mem [] w w' [m] ∧ Sat Tryz.f56.ntmps [(0, SL g f h), (3, SL c b.2 d), (4, iv b.1)] a) P (fun a ha => ⟨Q, K, C.pk [0], ha.s⟩) ?_)
  clear hm
  intro b X hm O V k ⟨m, q, j, G⟩
  refine G_use G (QB (MW 4 (NO (GT hm (fun o hm => ?_) fun o hm => ?_))))
  ·refine GK (TN (GS (GB (GR (MW 4 (GD hm fun i v hm => wV (elemP g (b.1.toNat * 1)) k (eI (u.mem0 j) rfl v) (wV (.bool i) k (eE false 1 0 (b.1.toNat * 1) (u.mem0 j) v) (GD hm fun U x hm => wV (elemP c (b.1.toNat * 1)) k (eI (q.r j 0) rfl x) (wE false 1 b.1.toNat 0 (b.1.toNat * 1) U i (.bool i) 0 j q (gxIdx_spec x).2 fun S R N D => LX 3 c d b.2 b.1.toNat i (LX 14 c d b.2 b.1.toNat i (NG (wR 3 [(0, SL g f h), (3, SL c (b.2.set b.1.toNat i) d), (4, iv (w64 (b.1 + 1)))] S (WN ?_)))))))))))))
   cases hm
   exact N_loop fun a ha => ⟨_, rfl, R, N, D.pk [0], ha.s⟩
  refine XA ?_
  obtain rfl := HS hm
  obtain rfl := O _ rfl
  exact NM fun a ha => ⟨m, q, j.pk [0], ha.s⟩
 intro W T ⟨n, L, F, H⟩
 refine N_use H ?_
 have hm := J
 refine NF (MW 2 (NC ?_))
 obtain rfl := HS hm
 exact RA [SL c l d] (⟨c, d, n, rfl, L, F.pk [0]⟩)
theorem c_l_toIntS (w : World) (f : List Int) (g h) (u : rdS Gx.encI w f g h) {r : (List Int)} (hm : M.l_toIntS f = some r) :
  Calls Tryz.prog 157 #[SL g f h] w fun e w' => ∃ z t A, e = .returned (SL z r t) ∧ ownS Gx.encI r z t A ∧ Mem [] w w' [A] := by
 unfold M.l_toIntS at hm
 refine cE Tryz.func157 ?_
 have M0 := Mem.refl [] w
 refine QA (MW 1 (NA (MW 2 (GD hm fun y I hm => W_make (E := Gx.encI) _ _ _ (f.length : Int) 8 [iv 0] (0 : Int) M0 (by kernel_rfl) rfl (by kernel_rfl) (by kernel_rfl) (by kernel_rfl) (by kernel_rfl) (by kernel_rfl) I fun c d Q B K C => MW 1 (NB (MW 1 (NO (GD hm fun l P J => G_meet (fun a w' => ∃ n, ownS Gx.encI l c d n ∧ Mem [] w w' [n] ∧ Sat Tryz.f157.ntmps [(3, SL c l d)] a) ?_ ?_))))))))
 ·refine GB (G_while (σ := Int × List Int) (ρ := List Int) (fun b a w' => ∃ m, ownS Gx.encI b.2 c d m ∧ Mem [] w w' [m] ∧ Sat Tryz.f157.ntmps [(0, SL g f h), (3, SL c b.2 d), (4, iv b.1)] a) P (fun a ha => ⟨Q, K, C.pk [0], ha.s⟩) ?_)
  clear hm
  intro b X hm O V k ⟨m, q, j, G⟩
  refine G_use G (QB (MW 4 (NO (GT hm (fun o hm => ?_) fun o hm => ?_))))
  ·refine GK (TN (GS (GB (GR (MW 4 (GD hm fun i v hm => wV (elemP g (b.1.toNat * 1)) k (eI (u.mem0 j) rfl v) (wV (iv i) k (eE false 1 0 (b.1.toNat * 1) (u.mem0 j) v) (GD hm fun U x hm => wV (elemP c (b.1.toNat * 1)) k (eI (q.r j 0) rfl x) (wE false 1 b.1.toNat 0 (b.1.toNat * 1) U i (iv i) 0 j q (gxIdx_spec x).2 fun S R N D => LX 3 c d b.2 b.1.toNat i (LX 14 c d b.2 b.1.toNat i (NG (wR 3 [(0, SL g f h), (3, SL c (b.2.set b.1.toNat i) d), (4, iv (w64 (b.1 + 1)))] S (WN ?_)))))))))))))
   cases hm
   exact N_loop fun a ha => ⟨_, rfl, R, N, D.pk [0], ha.s⟩
  refine XA ?_
  obtain rfl := HS hm
  obtain rfl := O _ rfl
  exact NM fun a ha => ⟨m, q, j.pk [0], ha.s⟩
 intro W T ⟨n, L, F, H⟩
 refine N_use H ?_
 have hm := J
 refine NF (MW 2 (NC ?_))
 obtain rfl := HS hm
 exact RA [SL c l d] (⟨c, d, n, rfl, L, F.pk [0]⟩)
theorem c_l_toSlot (w : World) (a : Slot) {r : Slot} (hm : M.l_toSlot a = some r) :
  Calls Tryz.prog 237 #[.agg #[iv a.State, iv a.Irq, iv a.Priority]] w fun e w' => e = .returned (.agg #[iv r.State, iv r.Irq, iv r.Priority]) ∧ Mem [] w w' [] := by
 unfold M.l_toSlot at hm
 refine cE Tryz.func237 ?_
 have M0 := Mem.refl [] w
 refine QA (wN (CE 225 [iv a.State, iv a.Irq, iv a.Priority]) M0 fun f z u => wN (CE 117 [iv 0, iv 0, iv 0]) u fun d A x => NA (wN (CE 117 [iv 0, iv 0, iv 0]) x fun c h l => NA (MW 1 (wV (iv a.State) h (eL false 1 0 (l.blk 0 rfl)) (MW 1 (wS false 1 0 (iv a.State) 2 [iv a.State, iv 0, iv 0] l rfl fun i m => NA (MW 1 (wV (iv a.Irq) i (eL false 1 1 (m.blk 0 rfl)) (MW 1 (wS false 1 1 (iv a.Irq) 2 [iv a.State, iv a.Irq, iv 0] m rfl fun j n => NA (MW 1 (wV (iv a.Priority) j (eL false 1 2 (n.blk 0 rfl)) (MW 1 (wS false 1 2 (iv a.Priority) 2 [iv a.State, iv a.Irq, iv a.Priority] n rfl fun y q => NA (wV (.agg #[iv a.State, iv a.Irq, iv a.Priority]) y (eL true 3 0 (q.blk 2 rfl)) (wS true 3 0 (.agg #[iv a.State, iv a.Irq, iv a.Priority]) 1 [iv a.State, iv a.Irq, iv a.Priority] q rfl fun B t => NC ?_))))))))))))))))
 obtain rfl := HS hm
 exact N_ret [.agg #[iv a.State, iv a.Irq, iv a.Priority]] (RX true 3 0 (t.blk 1 rfl) RVs_nil) (⟨rfl, t.pk []⟩)
theorem c_l_toSlotS (w : World) (f : List Slot) (g h) (x : rdS encSlot w f g h) {r : (List Slot)} (hm : M.l_toSlotS f = some r) :
  Calls Tryz.prog 193 #[SL g f h] w fun e w' => ∃ B v C, e = .returned (SL B r v) ∧ ownS encSlot r B v C ∧ Mem [] w w' [C] := by
 unfold M.l_toSlotS at hm
 refine cE Tryz.func193 ?_
 have M0 := Mem.refl [] w
 refine QA (MW 1 (NA (MW 2 (GD hm fun A L hm => W_make (E := encSlot) _ _ _ (f.length : Int) 24 [iv 0, iv 0, iv 0] ((⟨0, 0, 0⟩ : Slot) : Slot) M0 (by kernel_rfl) rfl (by kernel_rfl) (by kernel_rfl) (by kernel_rfl) (by kernel_rfl) (by kernel_rfl) L fun c d U D O G => MW 1 (NB (MW 1 (NO (GD hm fun m T N => G_meet (fun a w' => ∃ o, ownS encSlot m c d o ∧ Mem [] w w' [o] ∧ Sat Tryz.f193.ntmps [(3, SL c m d)] a) ?_ ?_))))))))
 ·refine GB (G_while (σ := Int × List Slot) (ρ := List Slot) (fun b a w' => ∃ n, ownS encSlot b.2 c d n ∧ Mem [] w w' [n] ∧ Sat Tryz.f193.ntmps [(0, SL g f h), (3, SL c b.2 d), (4, iv b.1)] a) T (fun a ha => ⟨U, O, G.pk [0], ha.s⟩) ?_)
  clear hm
  intro b ac hm R aa k ⟨n, t, l, J⟩
  refine G_use J (QB (MW 4 (NO (GT hm (fun q hm => ?_) fun q hm => ?_))))
  ·refine GK (TN (GS (GB (GR (MW 4 (GD hm fun j y hm => wV (elemP g (b.1.toNat * 3)) k (eI (x.mem0 l) rfl y) (wV (.agg #[iv j.State, iv j.Irq, iv j.Priority]) k (eE true 3 0 (b.1.toNat * 3) (x.mem0 l) y) (GD hm fun i S hm => WD (c_l_toSlot k j S) l fun W u => GD hm fun Z z hm => wV (elemP c (b.1.toNat * 3)) W (eI (t.r u 0) rfl z) (wE true 3 b.1.toNat 0 (b.1.toNat * 3) Z i (.agg #[iv i.State, iv i.Irq, iv i.Priority]) 0 u t (gxIdx_spec z).2 fun X V Q H => LX 3 c d b.2 b.1.toNat i (LX 14 c d b.2 b.1.toNat i (NG (wR 3 [(0, SL g f h), (3, SL c (b.2.set b.1.toNat i) d), (4, iv (w64 (b.1 + 1)))] X (WN ?_)))))))))))))
   cases hm
   exact N_loop fun a ha => ⟨_, rfl, V, Q, H.pk [0], ha.s⟩
  refine XA ?_
  obtain rfl := HS hm
  obtain rfl := R _ rfl
  exact NM fun a ha => ⟨n, t, l.pk [0], ha.s⟩
 intro ab Y ⟨o, P, I, K⟩
 refine N_use K ?_
 have hm := N
 refine NF (MW 2 (NC ?_))
 obtain rfl := HS hm
 exact RA [SL c m d] (⟨c, d, o, rfl, P, I.pk [0]⟩)
theorem c_l_toWaiter (w : World) (a : Waiter) {r : Waiter} (hm : M.l_toWaiter a = some r) :
  Calls Tryz.prog 238 #[.agg #[iv a.Irq, iv a.Priority]] w fun e w' => e = .returned (.agg #[iv r.Irq, iv r.Priority]) ∧ Mem [] w w' [] := by
 unfold M.l_toWaiter at hm
 refine cE Tryz.func238 ?_
 have M0 := Mem.refl [] w
 refine QA (wN (CE 227 [iv a.Irq, iv a.Priority]) M0 fun f x q => wN (CE 142 [iv 0, iv 0]) q fun c y t => NA (wN (CE 142 [iv 0, iv 0]) t fun d h j => NA (MW 1 (wV (iv a.Irq) h (eL false 1 0 (j.blk 0 rfl)) (MW 1 (wS false 1 0 (iv a.Irq) 2 [iv a.Irq, iv 0] j rfl fun i l => NA (MW 1 (wV (iv a.Priority) i (eL false 1 1 (l.blk 0 rfl)) (MW 1 (wS false 1 1 (iv a.Priority) 2 [iv a.Irq, iv a.Priority] l rfl fun u m => NA (wV (.agg #[iv a.Irq, iv a.Priority]) u (eL true 2 0 (m.blk 2 rfl)) (wS true 2 0 (.agg #[iv a.Irq, iv a.Priority]) 1 [iv a.Irq, iv a.Priority] m rfl fun z n => NC ?_))))))))))))
 obtain rfl := HS hm
 exact N_ret [.agg #[iv a.Irq, iv a.Priority]] (RX true 2 0 (n.blk 1 rfl) RVs_nil) (⟨rfl, n.pk []⟩)
theorem c_l_toWaiterS (w : World) (f : List Waiter) (g h) (x : rdS encWaiter w f g h) {r : (List Waiter)} (hm : M.l_toWaiterS f = some r) :
  Calls Tryz.prog 194 #[SL g f h] w fun e w' => ∃ B v C, e = .returned (SL B r v) ∧ ownS encWaiter r B v C ∧ Mem [] w w' [C] := by
 unfold M.l_toWaiterS at hm
 refine cE Tryz.func194 ?_
 have M0 := Mem.refl [] w
 refine QA (MW 1 (NA (MW 2 (GD hm fun A L hm => W_make (E := encWaiter) _ _ _ (f.length : Int) 16 [iv 0, iv 0] ((⟨0, 0⟩ : Waiter) : Waiter) M0 (by kernel_rfl) rfl (by kernel_rfl) (by kernel_rfl) (by kernel_rfl) (by kernel_rfl) (by kernel_rfl) L fun c d U D O G => MW 1 (NB (MW 1 (NO (GD hm fun m T N => G_meet (fun a w' => ∃ o, ownS encWaiter m c d o ∧ Mem [] w w' [o] ∧ Sat Tryz.f194.ntmps [(3, SL c m d)] a) ?_ ?_))))))))
 ·refine GB (G_while (σ := Int × List Waiter) (ρ := List Waiter) (fun b a w' => ∃ n, ownS encWaiter b.2 c d n ∧ Mem [] w w' [n] ∧ Sat Tryz.f194.ntmps [(0, SL g f h), (3, SL c b.2 d), (4, iv b.1)] a) T (fun a ha => ⟨U, O, G.pk [0], ha.s⟩) ?_)
  clear hm
  intro b ac hm R aa j ⟨n, t, l, J⟩
  refine G_use J (QB (MW 4 (NO (GT hm (fun q hm => ?_) fun q hm => ?_))))
  ·refine GK (TN (GS (GB (GR (MW 4 (GD hm fun k y hm => wV (elemP g (b.1.toNat * 2)) j (eI (x.mem0 l) rfl y) (wV (.agg #[iv k.Irq, iv k.Priority]) j (eE true 2 0 (b.1.toNat * 2) (x.mem0 l) y) (GD hm fun i S hm => WD (c_l_toWaiter j k S) l fun W u => GD hm fun Z z hm => wV (elemP c (b.1.toNat * 2)) W (eI (t.r u 0) rfl z) (wE true 2 b.1.toNat 0 (b.1.toNat * 2) Z i (.agg #[iv i.Irq, iv i.Priority]) 0 u t (gxIdx_spec z).2 fun X V Q H => LX 3 c d b.2 b.1.toNat i (LX 14 c d b.2 b.1.toNat i (NG (wR 3 [(0, SL g f h), (3, SL c (b.2.set b.1.toNat i) d), (4, iv (w64 (b.1 + 1)))] X (WN ?_)))))))))))))
   cases hm
   exact N_loop fun a ha => ⟨_, rfl, V, Q, H.pk [0], ha.s⟩
  refine XA ?_
  obtain rfl := HS hm
  obtain rfl := R _ rfl
  exact NM fun a ha => ⟨n, t, l.pk [0], ha.s⟩
 intro ab Y ⟨o, P, I, K⟩
 refine N_use K ?_
 have hm := N
 refine NF (MW 2 (NC ?_))
 obtain rfl := HS hm
 exact RA [SL c m d] (⟨c, d, o, rfl, P, I.pk [0]⟩)
theorem c_l_toQueue (w : World) (a : Queue) (t n) (Q : rdS encSlot w a.Slots t n) (u q) (R : rdS encWaiter w a.Waiting u q) {r : Queue} (hm : M.l_toQueue a = some r) :
  Calls Tryz.prog 158 #[.agg #[SL t a.Slots n, SL u a.Waiting q]] w fun e w' => ∃ F D H G E I, e = .returned (.agg #[SL F r.Slots D, SL G r.Waiting E]) ∧ ownS encSlot r.Slots F D H ∧ ownS encWaiter r.Waiting G E I ∧ Mem [] w w' [H, I] := by
 unfold M.l_toQueue at hm
 refine cE Tryz.func158 ?_
 have M0 := Mem.refl [] w
 refine QA (wN (CE 124 [SL t a.Slots n, SL u a.Waiting q]) M0 fun x ab L => wN (CE 85 [SN, SN]) L fun l w640 N => NA (wN (CE 85 [SN, SN]) N fun m w646 y => NA (MW 1 (wV (SL t a.Slots n) w646 (eL false 1 0 (y.blk 0 rfl)) (GD hm fun i U hm => WC ((c_l_toSlotS w646 a.Slots t n (Q.mem0 y) U).mono ?_))))))
 rintro e_ Y ⟨d, c, W, rfl, S, J⟩
 have O := y.call J
 refine ⟨_, rfl, ?_⟩
 refine MW 1 (wS false 1 0 (SL d i c) 2 [SL d i c, SN] O rfl fun A z => NA (MW 1 (wV (SL u a.Waiting q) A (eL false 1 1 (z.blk 0 rfl)) (GD hm fun j V hm => WC ((c_l_toWaiterS A a.Waiting u q (R.mem0 z) V).mono ?_)))))
 rintro e_ Z ⟨h, f, X, rfl, T, K⟩
 have P := z.call K
 refine ⟨_, rfl, ?_⟩
 refine MW 1 (wS false 1 1 (SL h j f) 2 [SL d i c, SL h j f] P rfl fun aa B => NA (wV (.agg #[SL d i c, SL h j f]) aa (eL true 2 0 (B.blk 2 rfl)) (wS true 2 0 (.agg #[SL d i c, SL h j f]) 1 [SL d i c, SL h j f] B rfl fun ac C => NC ?_)))
 obtain rfl := HS hm
 exact N_ret [.agg #[SL d i c, SL h j f]] (RX true 2 0 (C.blk 1 rfl) RVs_nil) (⟨d, c, W, h, f, X, rfl, S, T, C.pk [3, 4]⟩)
theorem c_l_toInterface (w : World) (a : Interface) (z u) (aa : rdS Gx.encI w a.Stack z u) (A x) (ab : rdS encSlot w a.Queue.Slots A x) (B y) (ac : rdS encWaiter w a.Queue.Waiting B y) {r : Interface} (hm : M.l_toInterface a = some r) :
  Calls Tryz.prog 107 #[.agg #[iv a.Mask, SL z a.Stack u, SL A a.Queue.Slots x, SL B a.Queue.Waiting y]] w fun e w' => ∃ O K R P L S Q N T, e = .returned (.agg #[iv r.Mask, SL O r.Stack K, SL P r.Queue.Slots L, SL Q r.Queue.Waiting N]) ∧ ownS Gx.encI r.Stack O K R ∧ ownS encSlot r.Queue.Slots P L S ∧ ownS encWaiter r.Queue.Waiting Q N T ∧ Mem [] w w' [R, S, T] := by
 unfold M.l_toInterface at hm
 refine cE Tryz.func107 ?_
 have M0 := Mem.refl [] w
 refine QA (wN (CE 126 [iv a.Mask, SL z a.Stack u, SL A a.Queue.Slots x, SL B a.Queue.Waiting y]) M0 fun t ao W => wN (CE 87 [iv 0, SN, SN, SN]) W fun q ap X => NA (wN (CE 87 [iv 0, SN, SN, SN]) X fun n E H => NA (MW 1 (wV (iv a.Mask) E (eL false 1 0 (H.blk 0 rfl)) (MW 1 (wS false 1 0 (iv a.Mask) 2 [iv a.Mask, SN, SN, SN] H rfl fun F D => NA (MW 1 (wV (SL z a.Stack u) F (eL false 1 1 (D.blk 0 rfl)) (GD hm fun m ag hm => WC ((c_l_toIntS F a.Stack z u (aa.mem0 D) ag).mono ?_))))))))))
 rintro e_ al ⟨f, d, ai, rfl, ad, U⟩
 have Y := D.call U
 refine ⟨_, rfl, ?_⟩
 refine MW 1 (wS false 1 1 (SL f m d) 2 [iv a.Mask, SL f m d, SN, SN] Y rfl fun G C => NA (MW 1 (wV (.agg #[SL A a.Queue.Slots x, SL B a.Queue.Waiting y]) G (eL true 2 2 (C.blk 0 rfl)) (GD hm fun c ah hm => WC ((c_l_toQueue G a.Queue A x (ab.mem0 C) B y (ac.mem0 C) ah).mono ?_)))))
 rintro e_ am ⟨j, h, aj, l, i, ak, rfl, ae, af, V⟩
 have Z := C.call V
 refine ⟨_, rfl, ?_⟩
 refine MW 1 (wS true 2 2 (.agg #[SL j c.Slots h, SL l c.Waiting i]) 2 [iv a.Mask, SL f m d, SL j c.Slots h, SL l c.Waiting i] Z rfl fun an I => NA (wV (.agg #[iv a.Mask, SL f m d, SL j c.Slots h, SL l c.Waiting i]) an (eL true 4 0 (I.blk 2 rfl)) (wS true 4 0 (.agg #[iv a.Mask, SL f m d, SL j c.Slots h, SL l c.Waiting i]) 1 [iv a.Mask, SL f m d, SL j c.Slots h, SL l c.Waiting i] I rfl fun aq J => NC ?_)))
 obtain rfl := HS hm
 exact N_ret [.agg #[iv a.Mask, SL f m d, SL j c.Slots h, SL l c.Waiting i]] (RX true 4 0 (J.blk 1 rfl) RVs_nil) (⟨f, d, ai, j, h, aj, l, i, ak, rfl, ad, ae, af, J.pk [3, 4, 5]⟩)
theorem c_l_toInterfaceS (w : World) (h : List Interface) (k l) (am : rdD deepInterface w h k l) {r : (List Interface)} (hm : M.l_toInterfaceS h = some r) :
  Calls Tryz.prog 57 #[SL k h l] w fun e w' => ∃ aa T ab ac, e = .returned (SL aa r T) ∧ ownD deepInterface r aa T ab ac ∧ Mem [] w w' [ab, ac] := by
 unfold M.l_toInterfaceS at hm
 refine cE Tryz.func57 ?_
 have M0 := Mem.refl [] w
 refine QA (MW 1 (NA (MW 2 (GD hm fun Z aq hm => W_makeD (D := deepInterface) _ _ _ (h.length : Int) 80 [iv 0, SN, SN, SN] ((⟨0, [], (⟨[], []⟩ : Queue)⟩ : Interface) : Interface) (plOf []) M0 (by kernel_rfl) rfl (by kernel_rfl) (by kernel_rfl) (by kernel_rfl) (by kernel_rfl) (by kernel_rfl) (by intro i hi; simp [deepInterface] at hi; first | (subst hi; exact ⟨rfl, rfl, rfl⟩) | (rcases hi with rfl | rfl | rfl <;> exact ⟨rfl, rfl, rfl⟩) | (rcases hi with rfl | rfl <;> exact ⟨rfl, rfl, rfl⟩)) aq ?_))))
 intro f g bb ad U ak
 have S := ak.addNil
 obtain ⟨a9, n485e⟩ : ∃ s : Seg, s = [] := ⟨_, rfl⟩
 rw [← n485e] at U S
 refine MW 1 (NB (MW 1 (NO (GD hm fun A a6 ar => G_meet (fun a w' => ∃ L N, ownD deepInterface A f g L N ∧ Mem [] w w' [L, N] ∧ Sat Tryz.f57.ntmps [(3, SL f A g)] a) ?_ ?_))))
 ·refine GB (G_while (σ := Int × List Interface) (ρ := List Interface) (fun c a w' => ∃ J K, ownD deepInterface c.2 f g J K ∧ Mem [] w w' [J, K] ∧ Sat Tryz.f57.ntmps [(0, SL k h l), (3, SL f c.2 g), (4, iv c.1)] a) a6 (fun a ha => ⟨bb, a9, U, S.pk [0, 1], ha.s⟩) ?_)
  clear hm
  intro c bj hm a0 bg t ⟨J, K, V, m, ao⟩
  refine G_use ao (QB (MW 4 (NO (GT hm (fun O hm => ?_) fun O hm => ?_))))
  ·refine GK (TN (GS (GB (GR (MW 4 (GD hm fun j a8 hm => ?_))))))
   obtain ⟨bl, Y, X, P⟩ := id am
   obtain ⟨d, n⟩ := gxIdx_fst Y a8
   refine wV (elemP k (c.1.toNat * 4)) t (eI (X.mem0 m) (len_fst Y) n) (wV (.agg #[iv j.Mask, SL ((d 0).1) j.Stack ((d 0).2), SL ((d 1).1) j.Queue.Slots ((d 1).2), SL ((d 2).1) j.Queue.Waiting ((d 2).2)]) t (eE true 4 0 (c.1.toNat * 4) (X.mem0 m) n) (GD hm fun b a4 hm => WC ((c_l_toInterface t j ((d 0).1) ((d 0).2) ((P.mem0 m).a_ n 0) ((d 1).1) ((d 1).2) ((P.mem0 m).a_ n 1) ((d 2).1) ((d 2).2) ((P.mem0 m).a_ n 2) a4).mono ?_)))
   rintro e_ bc ⟨B, u, F, C, v, G, E, x, H, rfl, au, av, aw, ae⟩
   have R := m.call ae
   refine ⟨_, rfl, ?_⟩
   refine GD hm fun be a7 hm => ?_
   obtain ⟨bk, z, W, ap⟩ := id V
   obtain ⟨al, y⟩ := gxIdx_fst z a7
   refine wV (elemP f (c.1.toNat * 4)) bc (eI (W.r R 0) (len_fst z) y) ?_
   obtain ⟨o, ba, q, a5, bh, a3⟩ := ap.lens (gxIdx_spec y).2
   have af := R.cut 1 (sa := o) (sb := ba) (sc := q) a5 (by kernel_rfl)
   refine wE true 4 c.1.toNat 0 (c.1.toNat * 4) (be, al) (b, (plOf [(B, u), (C, v), (E, x)])) (.agg #[iv b.Mask, SL B b.Stack u, SL C b.Queue.Slots v, SL E b.Queue.Waiting x]) 0 af W (gxIdx_spec y).2 ?_
   intro Q I ax ag
   have ah : Mem [] w Q [I, o, F, G, H, q] := ag.pk [0, 1, 2, 3, 4, 6]
   have ai : Mem [] w Q [I, (o ++ ((F ++ (G ++ (H ++ []))) ++ q))] := ah.regroup (by simp)
   have ay : ownD deepInterface (c.2.set c.1.toNat b) f g I (o ++ ((F ++ (G ++ (H ++ []))) ++ q)) := ⟨_, set_fst z c.1.toNat (b, (plOf [(B, u), (C, v), (E, x)])), ax, (a3 (b, (plOf [(B, u), (C, v), (E, x)])) _ (ownI_cons (i := ⟨Int, Gx.encI, _, _, _⟩) au (ownI_cons (i := ⟨Slot, encSlot, _, _, _⟩) av (ownI_cons (i := ⟨Waiter, encWaiter, _, _, _⟩) aw ownI_nil))))⟩
   have bi := gxIdx_put b (gxIdx_down z y)
   refine LX 3 f g c.2 c.1.toNat b (LX 14 f g c.2 c.1.toNat b (NG (wR 3 [(0, SL k h l), (3, SL f (c.2.set c.1.toNat b) g), (4, iv (w64 (c.1 + 1)))] Q (WN ?_))))
   cases hm
   exact N_loop fun a ha => ⟨_, rfl, I, (o ++ ((F ++ (G ++ (H ++ []))) ++ q)), ay, ai.pk [0, 1], ha.s⟩
  refine XA ?_
  obtain rfl := HS hm
  obtain rfl := a0 _ rfl
  exact NM fun a ha => ⟨J, K, V, m.pk [0, 1], ha.s⟩
 intro bf bd ⟨L, N, az, aj, an⟩
 refine N_use an ?_
 have hm := ar
 refine NF (MW 2 (NC ?_))
 obtain rfl := HS hm
 exact RA [SL f A g] (⟨f, g, L, N, rfl, az, aj.pk [0, 1]⟩)
theorem c_l_toMachine (w : World) (a : Machine) (E A) (aq : rdS encRoute w a.Routes E A) (F B) (ar : rdS Gx.encB w a.Enabled F B) (G C) (au : rdS Gx.encB w a.Raised G C) (H D) (av : rdD deepInterface w a.Cpus H D) {r : Machine} (hm : M.l_toMachine a = some r) :
  Calls Tryz.prog 14 #[.agg #[SL E a.Routes A, SL F a.Enabled B, SL G a.Raised C, SL H a.Cpus D]] w fun e w' => ∃ X T ab Y U ac Z V ad aa W ae af, e = .returned (.agg #[SL X r.Routes T, SL Y r.Enabled U, SL Z r.Raised V, SL aa r.Cpus W]) ∧ ownS encRoute r.Routes X T ab ∧ ownS Gx.encB r.Enabled Y U ac ∧ ownS Gx.encB r.Raised Z V ad ∧ ownD deepInterface r.Cpus aa W ae af ∧ Mem [] w w' [ab, ac, ad, ae, af] := by
 unfold M.l_toMachine at hm
 refine cE Tryz.func14 ?_
 have M0 := Mem.refl [] w
 refine QA (wN (CE 26 [SL E a.Routes A, SL F a.Enabled B, SL G a.Raised C, SL H a.Cpus D]) M0 fun x bh al => wN (CE 32 [SN, SN, SN, SN]) al fun y bi am => NA (wN (CE 32 [SN, SN, SN, SN]) am fun j N I => NA (MW 1 (wV (SL E a.Routes A) N (eL false 1 0 (I.blk 0 rfl)) (GD hm fun i a3 hm => WC ((c_l_toRouteS N a.Routes E A (aq.mem0 I) a3).mono ?_))))))
 rintro e_ bd ⟨d, c, a8, rfl, ax, ah⟩
 have an := I.call ah
 refine ⟨_, rfl, ?_⟩
 refine MW 1 (wS false 1 0 (SL d i c) 2 [SL d i c, SN, SN, SN] an rfl fun O J => NA (MW 1 (wV (SL F a.Enabled B) O (eL false 1 1 (J.blk 0 rfl)) (GD hm fun n a4 hm => WC ((c_l_toBoolS O a.Enabled F B (ar.mem0 J) a4).mono ?_)))))
 rintro e_ be ⟨h, f, a9, rfl, ay, ai⟩
 have ao := J.call ai
 refine ⟨_, rfl, ?_⟩
 refine MW 1 (wS false 1 1 (SL h n f) 2 [SL d i c, SL h n f, SN, SN] ao rfl fun P K => NA (MW 1 (wV (SL G a.Raised C) P (eL false 1 2 (K.blk 0 rfl)) (GD hm fun u a5 hm => WC ((c_l_toBoolS P a.Raised G C (au.mem0 K) a5).mono ?_)))))
 rintro e_ bf ⟨m, l, ba, rfl, az, aj⟩
 have ap := K.call aj
 refine ⟨_, rfl, ?_⟩
 refine MW 1 (wS false 1 2 (SL m u l) 2 [SL d i c, SL h n f, SL m u l, SN] ap rfl fun Q L => NA (MW 1 (wV (SL H a.Cpus D) Q (eL false 1 3 (L.blk 0 rfl)) (GD hm fun z a0 hm => WC ((c_l_toInterfaceS Q a.Cpus H D (av.mem0 L) a0).mono ?_)))))
 rintro e_ bb ⟨t, q, a6, a7, rfl, aw, ag⟩
 have ak := L.call ag
 refine ⟨_, rfl, ?_⟩
 refine MW 1 (wS false 1 3 (SL t z q) 2 [SL d i c, SL h n f, SL m u l, SL t z q] ak rfl fun bc R => NA (wV (.agg #[SL d i c, SL h n f, SL m u l, SL t z q]) bc (eL true 4 0 (R.blk 2 rfl)) (wS true 4 0 (.agg #[SL d i c, SL h n f, SL m u l, SL t z q]) 1 [SL d i c, SL h n f, SL m u l, SL t z q] R rfl fun bg S => NC ?_)))
 obtain rfl := HS hm
 exact N_ret [.agg #[SL d i c, SL h n f, SL m u l, SL t z q]] (RX true 4 0 (S.blk 1 rfl) RVs_nil) (⟨d, c, a8, h, f, a9, m, l, ba, t, q, a6, a7, rfl, ax, ay, az, aw, S.pk [3, 4, 5, 6, 7]⟩)
theorem c_s_l1In (w : World) (b : Int) (d : Int) (c : Int) {r : Bool} (hm : M.s_l1In b d c = some r) :
  Calls Tryz.prog 124 #[iv b, iv d, iv c] w fun e w' => e = .returned (.bool r) ∧ Mem [] w w' [] := by
 unfold M.s_l1In at hm
 refine cE Tryz.func124 ?_
 have M0 := Mem.refl [] w
 refine QA (MW 1 (NE (GD hm fun g k j => G_meet (fun a w' => Mem [] w w' [] ∧ Sat Tryz.f124.ntmps [(6, .bool g)] a) ?_ ?_)))
 ·have hm := k
  refine GR (wR 4 [(0, iv b), (2, iv c), (10, .bool (decide (b ≥ d)))] w ?_)
  rcases gx_bif hm with ⟨f, hm⟩ | ⟨f, hm⟩
  ·refine wK 10 true f (MW 5 (WN ?_))
   obtain rfl := HS hm
   exact NM fun a ha => ⟨M0.pk [], ha.s⟩
  refine wK 10 false f (MW 5 (WN ?_))
  obtain rfl := HS hm
  exact NM fun a ha => ⟨M0.pk [], ha.s⟩
 intro l m ⟨h, i⟩
 refine N_use i ?_
 have hm := j
 refine TN (G_ret ?_)
 obtain rfl := HS hm
 exact RA [.bool g] (⟨rfl, h.pk []⟩)
theorem c_s_l6Prio (w : World) (a : Int) {r : Bool} (hm : M.s_l6Prio a = some r) :
  Calls Tryz.prog 150 #[iv a] w fun e w' => e = .returned (.bool r) ∧ Mem [] w w' [] := by
 unfold M.s_l6Prio at hm
 refine cE Tryz.func150 ?_
 have M0 := Mem.refl [] w
 refine QA (MW 1 (NA (MW 1 (GD hm fun b f hm => WD (c_s_l1In w a 0 15 f) M0 fun g d => MW 1 (NC ?_)))))
 obtain rfl := HS hm
 exact RA [.bool b] (⟨rfl, d.pk []⟩)
theorem c_s_l21Routes (w : World) (d : List Route) (b g) (i : rdS encRoute w d b g) (f : Int) {r : Bool} (hm : M.s_l21Routes d f = some r) :
  Calls Tryz.prog 99 #[SL b d g, iv f] w fun e w' => e = .returned (.bool r) ∧ Mem [] w w' [] := by
 unfold M.s_l21Routes at hm
 refine cE Tryz.func99 ?_
 have M0 := Mem.refl [] w
 refine QA (MW 1 (NB (MW 1 (NO (GD hm fun ab Z B => G_meet (fun a w' => ∃ (D : Unit), ab = .inl D ∧ Mem [] w w' [] ∧ Sat Tryz.f99.ntmps [(0, SL b d g), (1, iv f)] a) ?_ ?_)))))
 ·refine GB (G_while (σ := Int) (ρ := (Unit) ⊕ (Bool)) (fun c a w' => Mem [] w w' [] ∧ Sat Tryz.f99.ntmps [(0, SL b d g), (1, iv f), (5, iv c)] a) Z (fun a ha => ⟨M0.pk [], ha.s⟩) ?_)
  clear hm
  intro c al hm C ag j ⟨k, O⟩
  refine G_use O (QB (MW 4 (NO (GT hm (fun n hm => ?_) fun n hm => ?_))))
  ·refine GK (TN (GS (GB (GS (GD hm fun aa U S => G_meet (fun a w' => Mem [] w w' [] ∧ Sat Tryz.f99.ntmps [(0, SL b d g), (1, iv f), (5, iv c), (29, .bool aa)] a) ?_ ?_)))))
   ·have hm := U
    refine GR (MW 2 (GD hm fun y u hm => wV (elemP b (c.toNat * 2)) j (eI (i.mem0 k) rfl u) (wV (elemP b (c.toNat * 2 + 0)) j (eF 0 (c.toNat * 2) 0 (i.mem0 k) u) (wV (iv y.Priority) j (eE false 1 0 (c.toNat * 2 + 0) (i.mem0 k) u) (GD hm fun ac W hm => WD (c_s_l6Prio j y.Priority W) k fun h l => wR 2 [(0, SL b d g), (1, iv f), (5, iv c), (19, .bool (!ac))] h ?_)))))
    rcases gx_bif hm with ⟨o, hm⟩ | ⟨o, hm⟩
    ·refine wK 19 true o (MW 10 (WN ?_))
     obtain rfl := HS hm
     exact NM fun a ha => ⟨l.pk [], ha.s⟩
    refine wK 19 false o (MW 2 (GD hm fun m v hm => wV (elemP b (c.toNat * 2)) h (eI (i.mem0 l) rfl v) (wV (elemP b (c.toNat * 2 + 1)) h (eF 1 (c.toNat * 2) 1 (i.mem0 l) v) (wV (iv m.Target) h (eE false 1 1 (c.toNat * 2 + 1) (i.mem0 l) v) (MW 2 (GD hm fun ad X hm => WD (c_s_l1In h m.Target 0 (w64 (f - 1)) X) l fun af K => wR 2 [(0, SL b d g), (1, iv f), (5, iv c), (29, .bool (!ad))] af (WN ?_)))))))
    obtain rfl := HS hm
    exact NM fun a ha => ⟨K.pk [], ha.s⟩
   intro ah F ⟨z, P⟩
   refine N_use P ?_
   have hm := S
   refine TN (GT hm (fun q hm => ?_) fun q hm => ?_)
   ·refine QA (MW 1 (NX ?_))
    obtain rfl := HS hm
    obtain rfl := C _ rfl
    have hm := B; simp only [Sum.elim_inr] at hm
    refine BR (N_meet_ret (TR ?_))
    obtain rfl := HS hm
    exact RA [.bool false] (⟨rfl, z.pk []⟩)
   refine KC (MW 3 (WN ?_))
   cases hm
   exact N_loop fun a ha => ⟨_, rfl, z.pk [], ha.s⟩
  refine XA ?_
  obtain rfl := HS hm
  obtain rfl := C _ rfl
  exact NM fun a ha => ⟨_, rfl, k.pk [], ha.s⟩
 intro ai G ⟨D, hout_, L, Q⟩
 refine N_use Q ?_
 subst hout_
 have hm := B; simp only [Sum.elim_inl] at hm
 refine TN (GS (GD hm fun E V T => G_meet (fun a w' => Mem [] w w' [] ∧ Sat Tryz.f99.ntmps [(4, .bool E)] a) ?_ ?_))
 ·have hm := V
  refine GR (MW 1 (GD hm fun ae Y hm => WD (c_s_l1In G f 1 2 Y) L fun x A => wR 1 [(0, SL b d g), (32, .bool ae)] x ?_))
  rcases gx_bif hm with ⟨t, hm⟩ | ⟨t, hm⟩
  ·refine wK 32 true t (MW 5 (WN ?_))
   obtain rfl := HS hm
   exact NM fun a ha => ⟨A.pk [], ha.s⟩
  refine wK 32 false t (MW 5 (WN ?_))
  obtain rfl := HS hm
  exact NM fun a ha => ⟨A.pk [], ha.s⟩
 intro aj ak ⟨N, R⟩
 refine N_use R ?_
 have hm := T
 refine TN (G_ret ?_)
 obtain rfl := HS hm
 exact RA [.bool E] (⟨rfl, N.pk []⟩)
theorem c_s_l6Irq (w : World) (a : Int) {r : Bool} (hm : M.s_l6Irq a = some r) :
  Calls Tryz.prog 143 #[iv a] w fun e w' => e = .returned (.bool r) ∧ Mem [] w w' [] := by
 unfold M.s_l6Irq at hm
 refine cE Tryz.func143 ?_
 have M0 := Mem.refl [] w
 refine QA (MW 1 (NA (MW 1 (GD hm fun b f hm => WD (c_s_l1In w a 0 7 f) M0 fun g d => MW 1 (NC ?_)))))
 obtain rfl := HS hm
 exact RA [.bool b] (⟨rfl, d.pk []⟩)
theorem c_s_l8Find (w : World) (d : List Slot) (c f) (j : rdS encSlot w d c f) (g : Int) {r : Int} (hm : M.s_l8Find d g = some r) :
  Calls Tryz.prog 192 #[SL c d f, iv g] w fun e w' => e = .returned (iv r) ∧ Mem [] w w' [] := by
 unfold M.s_l8Find at hm
 refine cE Tryz.func192 ?_
 have M0 := Mem.refl [] w
 refine QA (MW 1 (NB (MW 1 (NO (GD hm fun I G t => G_meet (fun a w' => ∃ (v : Unit), I = .inl v ∧ Mem [] w w' [] ∧ Sat Tryz.f192.ntmps [] a) ?_ ?_)))))
 ·refine GB (G_while (σ := Int) (ρ := (Unit) ⊕ (Int)) (fun b a w' => Mem [] w w' [] ∧ Sat Tryz.f192.ntmps [(0, SL c d f), (1, iv g), (5, iv b)] a) G (fun a ha => ⟨M0.pk [], ha.s⟩) ?_)
  clear hm
  intro b O hm u K h ⟨i, B⟩
  refine G_use B (QB (MW 4 (NO (GT hm (fun k hm => ?_) fun k hm => ?_))))
  ·refine GK (TN (GS (GB (GS (GD hm fun H F E => G_meet (fun a w' => Mem [] w w' [] ∧ Sat Tryz.f192.ntmps [(0, SL c d f), (1, iv g), (5, iv b), (26, .bool H)] a) ?_ ?_)))))
   ·have hm := F
    refine GR (MW 2 (GD hm fun y n hm => wV (elemP c (b.toNat * 3)) h (eI (j.mem0 i) rfl n) (wV (elemP c (b.toNat * 3 + 0)) h (eF 0 (b.toNat * 3) 0 (j.mem0 i) n) (wV (iv y.State) h (eE false 1 0 (b.toNat * 3 + 0) (j.mem0 i) n) (wR 2 [(0, SL c d f), (1, iv g), (5, iv b), (18, .bool (y.State != 0))] h ?_)))))
    rcases gx_bif hm with ⟨l, hm⟩ | ⟨l, hm⟩
    ·refine wK 18 true l (MW 2 (GD hm fun z o hm => wV (elemP c (b.toNat * 3)) h (eI (j.mem0 i) rfl o) (wV (elemP c (b.toNat * 3 + 1)) h (eF 1 (b.toNat * 3) 1 (j.mem0 i) o) (wV (iv z.Irq) h (eE false 1 1 (b.toNat * 3 + 1) (j.mem0 i) o) (MW 3 (WN ?_))))))
     obtain rfl := HS hm
     exact NM fun a ha => ⟨i.pk [], ha.s⟩
    refine wK 18 false l (MW 8 (WN ?_))
    obtain rfl := HS hm
    exact NM fun a ha => ⟨i.pk [], ha.s⟩
   intro L x ⟨q, C⟩
   refine N_use C ?_
   have hm := E
   refine TN (GT hm (fun m hm => ?_) fun m hm => ?_)
   ·refine QA (MW 2 (NX ?_))
    obtain rfl := HS hm
    obtain rfl := u _ rfl
    have hm := t; simp only [Sum.elim_inr] at hm
    refine BR (N_meet_ret (TR ?_))
    obtain rfl := HS hm
    exact RA [iv b] (⟨rfl, q.pk []⟩)
   refine KC (wR 3 [(0, SL c d f), (1, iv g), (5, iv (w64 (b + 1)))] x (WN ?_))
   cases hm
   exact N_loop fun a ha => ⟨_, rfl, q.pk [], ha.s⟩
  refine XA ?_
  obtain rfl := HS hm
  obtain rfl := u _ rfl
  exact NM fun a ha => ⟨_, rfl, i.pk [], ha.s⟩
 intro N J ⟨v, hout_, A, D⟩
 refine N_use D ?_
 subst hout_
 have hm := t; simp only [Sum.elim_inl] at hm
 refine NF (MW 1 (NC ?_))
 cases hm
 exact RA [iv (-1)] (⟨rfl, A.pk []⟩)
theorem c_s_l8Less (w : World) (b : Int) (c : Int) (d : Int) (f : Int) {r : Bool} (hm : M.s_l8Less b c d f = some r) :
  Calls Tryz.prog 171 #[iv b, iv c, iv d, iv f] w fun e w' => e = .returned (.bool r) ∧ Mem [] w w' [] := by
 unfold M.s_l8Less at hm
 refine cE Tryz.func171 ?_
 have M0 := Mem.refl [] w
 refine QA (MW 1 (NE (GD hm fun i m l => G_meet (fun a w' => Mem [] w w' [] ∧ Sat Tryz.f171.ntmps [(8, .bool i)] a) ?_ ?_)))
 ·have hm := m
  refine GR (wR 4 [(0, iv b), (1, iv c), (2, iv d), (3, iv f), (12, .bool (decide (b < d)))] w ?_)
  rcases gx_bif hm with ⟨g, hm⟩ | ⟨g, hm⟩
  ·refine wK 12 true g (MW 10 (WN ?_))
   obtain rfl := HS hm
   exact NM fun a ha => ⟨M0.pk [], ha.s⟩
  refine wK 12 false g (wR 4 [(1, iv c), (3, iv f), (12, .bool false), (16, .bool (b == d))] w ?_)
  rcases gx_bif hm with ⟨h, hm⟩ | ⟨h, hm⟩
  ·refine wK 16 true h (MW 6 (WN ?_))
   obtain rfl := HS hm
   exact NM fun a ha => ⟨M0.pk [], ha.s⟩
  refine wK 16 false h (MW 6 (WN ?_))
  obtain rfl := HS hm
  exact NM fun a ha => ⟨M0.pk [], ha.s⟩
 intro n o ⟨j, k⟩
 refine N_use k ?_
 have hm := l
 refine TN (G_ret ?_)
 obtain rfl := HS hm
 exact RA [.bool i] (⟨rfl, j.pk []⟩)
theorem c_s_l8Good (w : World) (b : List Slot) (c d) (n : rdS encSlot w b c d) {r : Bool} (hm : M.s_l8Good b = some r) :
  Calls Tryz.prog 234 #[SL c b d] w fun e w' => e = .returned (.bool r) ∧ Mem [] w w' [] := by
 unfold M.s_l8Good at hm
 refine cE Tryz.func234 ?_
 have M0 := Mem.refl [] w
 refine QA (MW 1 (NB (MW 1 (NO (GD hm fun ao al F => G_meet (fun a w' => ∃ (L : Unit), ao = .inl L ∧ Mem [] w w' [] ∧ Sat Tryz.f234.ntmps [(0, SL c b d)] a) ?_ ?_)))))
 ·refine GB (G_while (σ := Int) (ρ := (Unit) ⊕ (Bool)) (fun f a w' => Mem [] w w' [] ∧ Sat Tryz.f234.ntmps [(0, SL c b d), (3, iv f)] a) al (fun a ha => ⟨M0.pk [], ha.s⟩) ?_)
  clear hm
  intro f a7 hm G a0 o ⟨m, Y⟩
  refine G_use Y (QB (MW 4 (NO (GT hm (fun u hm => ?_) fun u hm => ?_))))
  ·refine KD (MW 2 (GD hm fun g K hm => wV (elemP c (f.toNat * 3)) o (eI (n.mem0 m) rfl K) (wV (.agg #[iv g.State, iv g.Irq, iv g.Priority]) o (eE true 3 0 (f.toNat * 3) (n.mem0 m) K) (wN (CE 117 [iv 0, iv 0, iv 0]) m fun h a6 T => wS true 3 0 (.agg #[iv g.State, iv g.Irq, iv g.Priority]) 0 [iv g.State, iv g.Irq, iv g.Priority] T rfl fun H I => NE (GS (GD hm fun am ae ac => G_meet (fun a w' => Mem [] w w' [(BK h 117 [iv g.State, iv g.Irq, iv g.Priority])] ∧ Sat Tryz.f234.ntmps [(0, SL c b d), (3, iv f), (4, pB h 0), (30, .bool am)] a) ?_ ?_))))))
   ·have hm := ae
    refine GR (MW 1 (wV (iv g.State) H (eL false 1 0 (I.blk 0 rfl)) (GD hm fun ap ag hm => WD (c_s_l1In H g.State 0 3 ag) I fun k q => wR 2 [(0, SL c b d), (3, iv f), (4, pB h 0), (19, .bool (!ap))] k ?_)))
    rcases gx_bif hm with ⟨v, hm⟩ | ⟨v, hm⟩
    ·refine wK 19 true v (MW 11 (WN ?_))
     obtain rfl := HS hm
     exact NM fun a ha => ⟨q.pk [0], ha.s⟩
    refine wK 19 false v (MW 1 (wV (iv g.Irq) k (eL false 1 1 (q.blk 0 rfl)) (GD hm fun aq ah hm => WD (c_s_l6Irq k g.Irq ah) q fun l t => wR 3 [(0, SL c b d), (3, iv f), (4, pB h 0), (25, .bool (!aq))] l ?_)))
    rcases gx_bif hm with ⟨x, hm⟩ | ⟨x, hm⟩
    ·refine wK 25 true x (MW 5 (WN ?_))
     obtain rfl := HS hm
     exact NM fun a ha => ⟨t.pk [0], ha.s⟩
    refine wK 25 false x (MW 1 (wV (iv g.Priority) l (eL false 1 2 (t.blk 0 rfl)) (GD hm fun ar ai hm => WD (c_s_l6Prio l g.Priority ai) t fun aw U => MW 2 (WN ?_))))
    obtain rfl := HS hm
    exact NM fun a ha => ⟨U.pk [0], ha.s⟩
   intro a3 i ⟨j, Z⟩
   refine N_use Z ?_
   have hm := ac
   refine TN (GT hm (fun y hm => ?_) fun y hm => ?_)
   ·refine QA (MW 1 (ND (BR (TR (TR ?_)))))
    obtain rfl := HS hm
    obtain rfl := G _ rfl
    have hm := F; simp only [Sum.elim_inr] at hm
    refine BR (N_meet_ret (TR ?_))
    obtain rfl := HS hm
    exact RA [.bool false] (⟨rfl, j.pk []⟩)
   refine GK (TN (GS (GD hm fun an af ad => G_meet (fun a w' => Mem [] w w' [] ∧ Sat Tryz.f234.ntmps [(0, SL c b d), (3, iv f), (56, .bool an)] a) ?_ ?_)))
   ·have hm := af
    refine GR (MW 1 (wV (iv g.State) i (eL false 1 0 (j.blk 0 rfl)) (wR 2 [(0, SL c b d), (3, iv f), (4, pB h 0), (34, .bool (g.State == 0))] i ?_)))
    rcases gx_bif hm with ⟨z, hm⟩ | ⟨z, hm⟩
    ·refine wK 34 true z (MW 1 (wV (iv g.Irq) i (eL false 1 1 (j.blk 0 rfl)) (wR 2 [(0, SL c b d), (3, iv f), (4, pB h 0), (34, .bool true), (38, .bool (g.Irq != 0))] i ?_)))
     rcases gx_bif hm with ⟨A, hm⟩ | ⟨A, hm⟩
     ·refine wK 38 true A (wR 18 [(0, SL c b d), (3, iv f), (56, .bool true)] i (WN ?_))
      obtain rfl := HS hm
      exact NM fun a ha => ⟨j.pk [], ha.s⟩
     refine wK 38 false A (MW 1 (wV (iv g.Priority) i (eL false 1 2 (j.blk 0 rfl)) (wR 4 [(0, SL c b d), (3, iv f), (4, pB h 0), (44, .bool (g.Priority != 0))] i ?_)))
     rcases gx_bif hm with ⟨B, hm⟩ | ⟨B, hm⟩
     ·refine wK 44 true B (MW 12 (WN ?_))
      obtain rfl := HS hm
      exact NM fun a ha => ⟨j.pk [], ha.s⟩
     refine wK 44 false B (MW 1 (wV (iv g.State) i (eL false 1 0 (j.blk 0 rfl)) (wR 2 [(0, SL c b d), (3, iv f), (4, pB h 0), (44, .bool false), (48, .bool (g.State != 0))] i ?_)))
     rcases gx_bif hm with ⟨C, hm⟩ | ⟨C, hm⟩
     ·refine wK 48 true C (MW 2 (wV (iv g.Irq) i (eL false 1 1 (j.blk 0 rfl)) (GD hm fun au aj hm => WD (c_s_l8Find i b c d (n.mem0 j) g.Irq aj) j fun ax V => MW 4 (WN ?_))))
      obtain rfl := HS hm
      exact NM fun a ha => ⟨V.pk [], ha.s⟩
     refine wK 48 false C (MW 8 (WN ?_))
     obtain rfl := HS hm
     exact NM fun a ha => ⟨j.pk [], ha.s⟩
    refine wK 34 false z (MW 11 (wV (iv g.State) i (eL false 1 0 (j.blk 0 rfl)) (wR 2 [(0, SL c b d), (3, iv f), (4, pB h 0), (44, .bool false), (48, .bool (g.State != 0))] i ?_)))
    rcases gx_bif hm with ⟨D, hm⟩ | ⟨D, hm⟩
    ·refine wK 48 true D (MW 2 (wV (iv g.Irq) i (eL false 1 1 (j.blk 0 rfl)) (GD hm fun av ak hm => WD (c_s_l8Find i b c d (n.mem0 j) g.Irq ak) j fun ay W => MW 4 (WN ?_))))
     obtain rfl := HS hm
     exact NM fun a ha => ⟨W.pk [], ha.s⟩
    refine wK 48 false D (MW 8 (WN ?_))
    obtain rfl := HS hm
    exact NM fun a ha => ⟨j.pk [], ha.s⟩
   intro a4 N ⟨J, aa⟩
   refine N_use aa ?_
   have hm := ad
   refine TN (GT hm (fun E hm => ?_) fun E hm => ?_)
   ·refine QA (MW 1 (NX ?_))
    obtain rfl := HS hm
    obtain rfl := G _ rfl
    have hm := F; simp only [Sum.elim_inr] at hm
    refine BR (N_meet_ret (TR ?_))
    obtain rfl := HS hm
    exact RA [.bool false] (⟨rfl, J.pk []⟩)
   refine KC (wR 3 [(0, SL c b d), (3, iv (w64 (f + 1)))] N (WN ?_))
   cases hm
   exact N_loop fun a ha => ⟨_, rfl, J.pk [], ha.s⟩
  refine XA ?_
  obtain rfl := HS hm
  obtain rfl := G _ rfl
  exact NM fun a ha => ⟨_, rfl, m.pk [], ha.s⟩
 intro a5 az ⟨L, hout_, X, ab⟩
 refine N_use ab ?_
 subst hout_
 have hm := F; simp only [Sum.elim_inl] at hm
 refine NF (MW 4 (NC ?_))
 cases hm
 exact RA [.bool ((b.length : Int) == 4)] (⟨rfl, X.pk []⟩)
theorem c_s_l9Waiting (w : World) (g : List Slot) (i h) (ac : rdS encSlot w g i h) (d : List Waiter) (c f) (m : rdS encWaiter w d c f) {r : Bool} (hm : M.s_l9Waiting g d = some r) :
  Calls Tryz.prog 189 #[SL i g h, SL c d f] w fun e w' => e = .returned (.bool r) ∧ Mem [] w w' [] := by
 unfold M.s_l9Waiting at hm
 refine cE Tryz.func189 ?_
 have M0 := Mem.refl [] w
 refine QA (MW 1 (NB (MW 1 (NO (GD hm fun bq bl x => G_meet (fun a w' => ∃ (ag : Unit), bq = .inl ag ∧ Mem [] w w' [] ∧ Sat Tryz.f189.ntmps [(0, SL i g h), (1, SL c d f)] a) ?_ ?_)))))
 ·refine GB (G_while (σ := Int) (ρ := (Unit) ⊕ (Bool)) (fun b a w' => Mem [] w w' [] ∧ Sat Tryz.f189.ntmps [(0, SL i g h), (1, SL c d f), (5, iv b)] a) bl (fun a ha => ⟨M0.pk [], ha.s⟩) ?_)
  clear hm
  intro b cd hm y b1 Q ⟨U, ay⟩
  refine G_use ay (GS (GS (GD hm fun bn bc a8 => G_meet (fun a w' => Mem [] w w' [] ∧ Sat Tryz.f189.ntmps [(0, SL i g h), (1, SL c d f), (5, iv b), (15, .bool bn)] a) ?_ ?_)))
  ·have hm := bc
   refine GR (wR 5 [(0, SL i g h), (1, SL c d f), (5, iv b), (12, .bool (decide (b < (d.length : Int))))] Q ?_)
   rcases gx_bif hm with ⟨C, hm⟩ | ⟨C, hm⟩
   ·refine wK 12 true C (MW 3 (WN ?_))
    obtain rfl := HS hm
    exact NM fun a ha => ⟨U.pk [], ha.s⟩
   refine wK 12 false C (MW 3 (WN ?_))
   obtain rfl := HS hm
   exact NM fun a ha => ⟨U.pk [], ha.s⟩
  intro b2 R ⟨u, az⟩
  refine N_use az ?_
  have hm := a8
  refine TN (GT hm (fun D hm => ?_) fun D hm => ?_)
  ·refine KD (MW 2 (GD hm fun k af hm => wV (elemP c (b.toNat * 2)) R (eI (m.mem0 u) rfl af) (wV (.agg #[iv k.Irq, iv k.Priority]) R (eE true 2 0 (b.toNat * 2) (m.mem0 u) af) (wN (CE 142 [iv 0, iv 0]) u fun j b9 aq => wS true 2 0 (.agg #[iv k.Irq, iv k.Priority]) 0 [iv k.Irq, iv k.Priority] aq rfl fun S V => NE (GS (GD hm fun bo bd a9 => G_meet (fun a w' => Mem [] w w' [(BK j 142 [iv k.Irq, iv k.Priority])] ∧ Sat Tryz.f189.ntmps [(0, SL i g h), (1, SL c d f), (5, iv b), (6, pB j 0), (38, .bool bo)] a) ?_ ?_))))))
   ·have hm := bd
    refine GR (MW 1 (wV (iv k.Irq) S (eL false 1 0 (V.blk 0 rfl)) (GD hm fun bs bg hm => WD (c_s_l6Irq S k.Irq bg) V fun o B => wR 2 [(0, SL i g h), (1, SL c d f), (5, iv b), (6, pB j 0), (26, .bool (!bs))] o ?_)))
    rcases gx_bif hm with ⟨E, hm⟩ | ⟨E, hm⟩
    ·refine wK 26 true E (MW 12 (WN ?_))
     obtain rfl := HS hm
     exact NM fun a ha => ⟨B.pk [0], ha.s⟩
    refine wK 26 false E (MW 1 (wV (iv k.Priority) o (eL false 1 1 (B.blk 0 rfl)) (GD hm fun bt bh hm => WD (c_s_l6Prio o k.Priority bh) B fun q v => wR 3 [(0, SL i g h), (1, SL c d f), (5, iv b), (6, pB j 0), (32, .bool (!bt))] q ?_)))
    rcases gx_bif hm with ⟨F, hm⟩ | ⟨F, hm⟩
    ·refine wK 32 true F (MW 6 (WN ?_))
     obtain rfl := HS hm
     exact NM fun a ha => ⟨v.pk [0], ha.s⟩
    refine wK 32 false F (MW 2 (wV (iv k.Irq) q (eL false 1 0 (v.blk 0 rfl)) (GD hm fun bu bi hm => WD (c_s_l8Find q g i h (ac.mem0 v) k.Irq bi) v fun bw ar => MW 2 (WN ?_))))
    obtain rfl := HS hm
    exact NM fun a ha => ⟨ar.pk [0], ha.s⟩
   intro b3 bx ⟨W, a0⟩
   refine N_use a0 ?_
   have hm := a9
   refine TN (GT hm (fun G hm => ?_) fun G hm => ?_)
   ·refine QA (MW 1 (ND (BR (TR (TR ?_)))))
    obtain rfl := HS hm
    obtain rfl := y _ rfl
    have hm := x; simp only [Sum.elim_inr] at hm
    refine BR (N_meet_ret (TR ?_))
    obtain rfl := HS hm
    exact RA [.bool false] (⟨rfl, W.pk []⟩)
   refine GK (TN (GS (GS (GD hm fun bp be ba => G_meet (fun a w' => Mem [] w w' [(BK j 142 [iv k.Irq, iv k.Priority])] ∧ Sat Tryz.f189.ntmps [(0, SL i g h), (1, SL c d f), (5, iv b), (6, pB j 0), (60, .bool bp)] a) ?_ ?_))))
   ·have hm := be
    refine G_quiet (by kernel_rfl) (by kernel_rfl) W (MS 3 [(0, SL i g h), (1, SL c d f), (5, iv b), (6, pB j 0), (41, .bool (decide (b > 0)))] ?_)
    rcases gx_bif hm with ⟨H, hm⟩ | ⟨H, hm⟩
    ·refine zK 41 true H (MZ 3 (GD hm fun n N hm => zV (elemP c ((w64 (b - 1)).toNat * 2)) (fun w_ M_ => (eI (m.mem0 M_) rfl N)) (zV (elemP c ((w64 (b - 1)).toNat * 2 + 1)) (fun w_ M_ => (eF 1 ((w64 (b - 1)).toNat * 2) 1 (m.mem0 M_) N)) (zV (iv n.Priority) (fun w_ M_ => (eE false 1 1 ((w64 (b - 1)).toNat * 2 + 1) (m.mem0 M_) N)) (MZ 3 (GD hm fun t O hm => zV (elemP c ((w64 (b - 1)).toNat * 2)) (fun w_ M_ => (eI (m.mem0 M_) rfl O)) (zV (elemP c ((w64 (b - 1)).toNat * 2 + 0)) (fun w_ M_ => (eF 0 ((w64 (b - 1)).toNat * 2) 0 (m.mem0 M_) O)) (zV (iv t.Irq) (fun w_ M_ => (eE false 1 0 ((w64 (b - 1)).toNat * 2 + 0) (m.mem0 M_) O)) (MZ 1 (zV (iv k.Priority) (fun w_ M_ => (eL false 1 1 (M_.blk 0 rfl))) (MZ 1 (zV (iv k.Irq) (fun w_ M_ => (eL false 1 0 (M_.blk 0 rfl))) (GD hm fun z bj hm => ZC (.bool z) (fun w_ M_ => c_s_l8Less w_ n.Priority t.Irq k.Priority k.Irq bj) (MZ 2 (Z_end fun ca au => ?_)))))))))))))))
     obtain rfl := HS hm
     exact NM fun a ha => ⟨au.pk [0], ha.s⟩
    refine zK 41 false H (MS 19 [(0, SL i g h), (1, SL c d f), (5, iv b), (6, pB j 0), (60, .bool false)] (Z_end fun cb av => ?_))
    obtain rfl := HS hm
    exact NM fun a ha => ⟨av.pk [0], ha.s⟩
   intro b4 aj ⟨X, a3⟩
   refine N_use a3 ?_
   have hm := ba
   refine TN (GT hm (fun I hm => ?_) fun I hm => ?_)
   ·refine QA (MW 1 (ND (BR (TR (TR ?_)))))
    obtain rfl := HS hm
    obtain rfl := y _ rfl
    have hm := x; simp only [Sum.elim_inr] at hm
    refine BR (N_meet_ret (TR ?_))
    obtain rfl := HS hm
    exact RA [.bool false] (⟨rfl, X.pk []⟩)
   refine KA (MW 1 (NO (GD hm fun br bm ad => G_meet (fun a w' => ∃ (ah : Unit), br = .inl ah ∧ Mem [] w w' [] ∧ Sat Tryz.f189.ntmps [(0, SL i g h), (1, SL c d f), (5, iv b)] a) ?_ ?_)))
   ·refine GB (G_while (σ := Int) (ρ := (Unit) ⊕ (Bool)) (fun l a w' => Mem [] w w' [(BK j 142 [iv k.Irq, iv k.Priority])] ∧ Sat Tryz.f189.ntmps [(0, SL i g h), (1, SL c d f), (5, iv b), (6, pB j 0), (7, iv l)] a) bm (fun a ha => ⟨X.pk [0], ha.s⟩) ?_)
    clear hm
    intro l ce hm ae b5 bz ⟨Y, a4⟩
    refine G_use a4 (QB (MW 3 (NO (GT hm (fun J hm => ?_) fun J hm => ?_))))
    ·refine GK (TN (GS (GB (GS (G_quiet (by kernel_rfl) (by kernel_rfl) Y (MZ 2 (GD hm fun A P hm => zV (elemP c (l.toNat * 2)) (fun w_ M_ => (eI (m.mem0 M_) rfl P)) (zV (elemP c (l.toNat * 2 + 0)) (fun w_ M_ => (eF 0 (l.toNat * 2) 0 (m.mem0 M_) P)) (zV (iv A.Irq) (fun w_ M_ => (eE false 1 0 (l.toNat * 2 + 0) (m.mem0 M_) P)) (MZ 1 (zV (iv k.Irq) (fun w_ M_ => (eL false 1 0 (M_.blk 0 rfl))) (MZ 1 (Z_end fun ak Z => (TN (GT hm (fun K hm => ?_) fun K hm => ?_)))))))))))))))
     ·refine QA (MW 1 (NX ?_))
      obtain rfl := HS hm
      obtain rfl := ae _ rfl
      have hm := ad; simp only [Sum.elim_inr] at hm
      refine BR (N_meet_ret (BR (TR (TR ?_))))
      obtain rfl := HS hm
      obtain rfl := y _ rfl
      have hm := x; simp only [Sum.elim_inr] at hm
      refine BR (N_meet_ret (TR ?_))
      obtain rfl := HS hm
      exact RA [.bool false] (⟨rfl, Z.pk []⟩)
     refine KC (MW 3 (WN ?_))
     cases hm
     exact N_loop fun a ha => ⟨_, rfl, Z.pk [0], ha.s⟩
    refine XA ?_
    obtain rfl := HS hm
    obtain rfl := ae _ rfl
    exact NM fun a ha => ⟨_, rfl, Y.pk [], ha.s⟩
   intro b6 b0 ⟨ah, hout_, aw, a5⟩
   refine N_use a5 ?_
   subst hout_
   have hm := ad; simp only [Sum.elim_inl] at hm
   refine BN (TN (GR (wR 3 [(0, SL i g h), (1, SL c d f), (5, iv (w64 (b + 1)))] b0 (WN ?_))))
   cases hm
   exact N_loop fun a ha => ⟨_, rfl, aw.pk [], ha.s⟩
  refine XA ?_
  obtain rfl := HS hm
  obtain rfl := y _ rfl
  exact NM fun a ha => ⟨_, rfl, u.pk [], ha.s⟩
 intro b7 al ⟨ag, hout_, aa, a6⟩
 refine N_use a6 ?_
 subst hout_
 have hm := x; simp only [Sum.elim_inl] at hm
 refine TN (GS (GD hm fun ai bf bb => G_meet (fun a w' => Mem [] w w' [] ∧ Sat Tryz.f189.ntmps [(4, .bool ai)] a) ?_ ?_))
 ·have hm := bf
  refine GR (MW 1 (GD hm fun bv bk hm => WD (c_s_l8Good al g i h (ac.mem0 aa) bk) aa fun T ab => wR 1 [(1, SL c d f), (76, .bool bv)] T ?_))
  rcases gx_bif hm with ⟨L, hm⟩ | ⟨L, hm⟩
  ·refine wK 76 true L (MW 5 (WN ?_))
   obtain rfl := HS hm
   exact NM fun a ha => ⟨ab.pk [], ha.s⟩
  refine wK 76 false L (MW 5 (WN ?_))
  obtain rfl := HS hm
  exact NM fun a ha => ⟨ab.pk [], ha.s⟩
 intro b8 cc ⟨ax, a7⟩
 refine N_use a7 ?_
 have hm := bb
 refine TN (G_ret ?_)
 obtain rfl := HS hm
 exact RA [.bool ai] (⟨rfl, ax.pk []⟩)
theorem c_s_l8Free (w : World) (d : List Slot) (c f) (i : rdS encSlot w d c f) {r : Int} (hm : M.s_l8Free d = some r) :
  Calls Tryz.prog 235 #[SL c d f] w fun e w' => e = .returned (iv r) ∧ Mem [] w w' [] := by
 unfold M.s_l8Free at hm
 refine cE Tryz.func235 ?_
 have M0 := Mem.refl [] w
 refine QA (MW 1 (NB (MW 1 (NO (GD hm fun y x m => G_meet (fun a w' => ∃ (o : Unit), y = .inl o ∧ Mem [] w w' [] ∧ Sat Tryz.f235.ntmps [] a) ?_ ?_)))))
 ·refine GB (G_while (σ := Int) (ρ := (Unit) ⊕ (Int)) (fun b a w' => Mem [] w w' [] ∧ Sat Tryz.f235.ntmps [(0, SL c d f), (3, iv b)] a) x (fun a ha => ⟨M0.pk [], ha.s⟩) ?_)
  clear hm
  intro b C hm n A g ⟨h, u⟩
  refine G_use u (QB (MW 4 (NO (GT hm (fun j hm => ?_) fun j hm => ?_))))
  ·refine KD (MW 2 (GD hm fun q l hm => wV (elemP c (b.toNat * 3)) g (eI (i.mem0 h) rfl l) (wV (elemP c (b.toNat * 3 + 0)) g (eF 0 (b.toNat * 3) 0 (i.mem0 h) l) (wV (iv q.State) g (eE false 1 0 (b.toNat * 3 + 0) (i.mem0 h) l) (MW 1 (NO (GT hm (fun k hm => ?_) fun k hm => ?_)))))))
   ·refine QA (MW 2 (NX ?_))
    obtain rfl := HS hm
    obtain rfl := n _ rfl
    have hm := m; simp only [Sum.elim_inr] at hm
    refine BR (N_meet_ret (TR ?_))
    obtain rfl := HS hm
    exact RA [iv b] (⟨rfl, h.pk []⟩)
   refine KC (MW 3 (WN ?_))
   cases hm
   exact N_loop fun a ha => ⟨_, rfl, h.pk [], ha.s⟩
  refine XA ?_
  obtain rfl := HS hm
  obtain rfl := n _ rfl
  exact NM fun a ha => ⟨_, rfl, h.pk [], ha.s⟩
 intro B z ⟨o, hout_, t, v⟩
 refine N_use v ?_
 subst hout_
 have hm := m; simp only [Sum.elim_inl] at hm
 refine NF (MW 1 (NC ?_))
 cases hm
 exact RA [iv (-1)] (⟨rfl, t.pk []⟩)
end Go.Proofs.YtllhajkgkghhdaaGreat
set_option linter.unusedVariables false
set_option linter.unusedSimpArgs false
set_option maxRecDepth 100000
set_option maxHeartbeats 4000000
namespace Go.Proofs.YtllhajkgkghhdaaGreat
open Go.Gx
theorem c_s_l8Best (w : World) (d : List Slot) (c f) (j : rdS encSlot w d c f) (g : Bool) {r : Int} (hm : M.s_l8Best d g = some r) :
  Calls Tryz.prog 236 #[SL c d f, .bool g] w fun e w' => e = .returned (iv r) ∧ Mem [] w w' [] := by
 unfold M.s_l8Best at hm
 refine cE Tryz.func236 ?_
 have M0 := Mem.refl [] w
 refine QA (MW 1 (NA (MW 1 (NB (MW 1 (NO (GD hm fun O aw am => G_meet (fun a w' => Mem [] w w' [] ∧ Sat Tryz.f236.ntmps [(5, iv O)] a) ?_ ?_)))))))
 ·refine GB (G_while (σ := Int × Int) (ρ := Int) (fun b a w' => Mem [] w w' [] ∧ Sat Tryz.f236.ntmps [(0, SL c d f), (1, .bool g), (5, iv b.1), (6, iv b.2)] a) aw (fun a ha => ⟨M0.pk [], ha.s⟩) ?_)
  clear hm
  intro b bh hm aq a4 v ⟨q, ae⟩
  refine G_use ae (QB (MW 4 (NO (GT hm (fun z hm => ?_) fun z hm => ?_))))
  ·refine GK (TN (GS (GD hm fun T an aj => G_meet (fun a w' => Mem [] w w' [] ∧ Sat Tryz.f236.ntmps [(0, SL c d f), (1, .bool g), (5, iv T), (6, iv b.2)] a) ?_ ?_)))
   ·have hm := an
    refine GB (QA (MW 2 (GD hm fun h S hm => wV (elemP c (b.2.toNat * 3)) v (eI (j.mem0 q) rfl S) (wV (.agg #[iv h.State, iv h.Irq, iv h.Priority]) v (eE true 3 0 (b.2.toNat * 3) (j.mem0 q) S) (wN (CE 117 [iv 0, iv 0, iv 0]) q fun i a9 U => wS true 3 0 (.agg #[iv h.State, iv h.Irq, iv h.Priority]) 0 [iv h.State, iv h.Irq, iv h.Priority] U rfl fun P y => NB (MW 1 (wV (iv h.State) P (eL false 1 0 (y.blk 0 rfl)) (MW 1 (NO (GT hm (fun A hm => ?_) fun A hm => ?_))))))))))
    ·refine G_exit (TE (N_block_eq ?_))
     obtain rfl := HS hm
     exact NM fun a ha => ⟨y.pk [], ha.s⟩
    refine GK (TN (GS (GD hm fun ax ao ak => G_meet (fun a w' => Mem [] w w' [] ∧ Sat Tryz.f236.ntmps [(0, SL c d f), (1, .bool g), (5, iv b.1), (6, iv b.2), (63, .bool ax)] a) ?_ ?_)))
    ·have hm := ao
     refine G_quiet (by kernel_rfl) (by kernel_rfl) y (MS 3 [(0, SL c d f), (1, .bool g), (5, iv b.1), (6, iv b.2), (7, pB i 0), (23, .bool (decide (b.1 < 0)))] ?_)
     rcases gx_bif hm with ⟨B, hm⟩ | ⟨B, hm⟩
     ·refine zK 23 true B (MS 40 [(0, SL c d f), (1, .bool g), (5, iv b.1), (6, iv b.2), (63, .bool true)] (Z_end fun ba V => ?_))
      obtain rfl := HS hm
      exact NM fun a ha => ⟨V.pk [], ha.s⟩
     refine zK 23 false B (MS 2 [(0, SL c d f), (1, .bool g), (5, iv b.1), (6, iv b.2), (7, pB i 0), (23, .bool false), (25, .bool g)] ?_)
     rcases gx_bif hm with ⟨C, hm⟩ | ⟨C, hm⟩
     ·refine zK 25 true C (MZ 1 (zV (iv h.Priority) (fun w_ M_ => (eL false 1 2 (M_.blk 0 rfl))) (MZ 1 (zV (iv h.Irq) (fun w_ M_ => (eL false 1 1 (M_.blk 0 rfl))) (MZ 2 (GD hm fun x H hm => zV (elemP c (b.1.toNat * 3)) (fun w_ M_ => (eI (j.mem0 M_) rfl H)) (zV (elemP c (b.1.toNat * 3 + 2)) (fun w_ M_ => (eF 2 (b.1.toNat * 3) 2 (j.mem0 M_) H)) (zV (iv x.Priority) (fun w_ M_ => (eE false 1 2 (b.1.toNat * 3 + 2) (j.mem0 M_) H)) (MZ 2 (GD hm fun Q I hm => zV (elemP c (b.1.toNat * 3)) (fun w_ M_ => (eI (j.mem0 M_) rfl I)) (zV (elemP c (b.1.toNat * 3 + 1)) (fun w_ M_ => (eF 1 (b.1.toNat * 3) 1 (j.mem0 M_) I)) (zV (iv Q.Irq) (fun w_ M_ => (eE false 1 1 (b.1.toNat * 3 + 1) (j.mem0 M_) I)) (GD hm fun m ar hm => ZC (.bool m) (fun w_ M_ => c_s_l8Less w_ h.Priority h.Irq x.Priority Q.Irq ar) (MS 3 [(0, SL c d f), (1, .bool g), (5, iv b.1), (6, iv b.2), (7, pB i 0), (43, .bool m)] ?_))))))))))))))
      rcases gx_bif hm with ⟨D, hm⟩ | ⟨D, hm⟩
      ·refine zK 43 true D (MS 20 [(0, SL c d f), (1, .bool g), (5, iv b.1), (6, iv b.2), (63, .bool true)] (Z_end fun bb W => ?_))
       obtain rfl := HS hm
       exact NM fun a ha => ⟨W.pk [], ha.s⟩
      refine zK 43 false D (MS 3 [(0, SL c d f), (1, .bool g), (5, iv b.1), (6, iv b.2), (7, pB i 0), (43, .bool false), (46, .bool (!g))] ?_)
      rcases gx_bif hm with ⟨E, hm⟩ | ⟨E, hm⟩
      ·refine zK 46 true E (MZ 2 (GD hm fun k J hm => zV (elemP c (b.1.toNat * 3)) (fun w_ M_ => (eI (j.mem0 M_) rfl J)) (zV (elemP c (b.1.toNat * 3 + 2)) (fun w_ M_ => (eF 2 (b.1.toNat * 3) 2 (j.mem0 M_) J)) (zV (iv k.Priority) (fun w_ M_ => (eE false 1 2 (b.1.toNat * 3 + 2) (j.mem0 M_) J)) (MZ 2 (GD hm fun n K hm => zV (elemP c (b.1.toNat * 3)) (fun w_ M_ => (eI (j.mem0 M_) rfl K)) (zV (elemP c (b.1.toNat * 3 + 1)) (fun w_ M_ => (eF 1 (b.1.toNat * 3) 1 (j.mem0 M_) K)) (zV (iv n.Irq) (fun w_ M_ => (eE false 1 1 (b.1.toNat * 3 + 1) (j.mem0 M_) K)) (MZ 1 (zV (iv h.Priority) (fun w_ M_ => (eL false 1 2 (M_.blk 0 rfl))) (MZ 1 (zV (iv h.Irq) (fun w_ M_ => (eL false 1 1 (M_.blk 0 rfl))) (GD hm fun t au hm => ZC (.bool t) (fun w_ M_ => c_s_l8Less w_ k.Priority n.Irq h.Priority h.Irq au) (MZ 2 (Z_end fun bc X => ?_)))))))))))))))
       obtain rfl := HS hm
       exact NM fun a ha => ⟨X.pk [], ha.s⟩
      refine zK 46 false E (MS 17 [(0, SL c d f), (1, .bool g), (5, iv b.1), (6, iv b.2), (63, .bool false)] (Z_end fun bd Y => ?_))
      obtain rfl := HS hm
      exact NM fun a ha => ⟨Y.pk [], ha.s⟩
     refine zK 25 false C (MS 21 [(0, SL c d f), (1, .bool g), (5, iv b.1), (6, iv b.2), (7, pB i 0), (43, .bool false), (46, .bool (!g))] ?_)
     rcases gx_bif hm with ⟨F, hm⟩ | ⟨F, hm⟩
     ·refine zK 46 true F (MZ 2 (GD hm fun l L hm => zV (elemP c (b.1.toNat * 3)) (fun w_ M_ => (eI (j.mem0 M_) rfl L)) (zV (elemP c (b.1.toNat * 3 + 2)) (fun w_ M_ => (eF 2 (b.1.toNat * 3) 2 (j.mem0 M_) L)) (zV (iv l.Priority) (fun w_ M_ => (eE false 1 2 (b.1.toNat * 3 + 2) (j.mem0 M_) L)) (MZ 2 (GD hm fun o N hm => zV (elemP c (b.1.toNat * 3)) (fun w_ M_ => (eI (j.mem0 M_) rfl N)) (zV (elemP c (b.1.toNat * 3 + 1)) (fun w_ M_ => (eF 1 (b.1.toNat * 3) 1 (j.mem0 M_) N)) (zV (iv o.Irq) (fun w_ M_ => (eE false 1 1 (b.1.toNat * 3 + 1) (j.mem0 M_) N)) (MZ 1 (zV (iv h.Priority) (fun w_ M_ => (eL false 1 2 (M_.blk 0 rfl))) (MZ 1 (zV (iv h.Irq) (fun w_ M_ => (eL false 1 1 (M_.blk 0 rfl))) (GD hm fun u av hm => ZC (.bool u) (fun w_ M_ => c_s_l8Less w_ l.Priority o.Irq h.Priority h.Irq av) (MZ 2 (Z_end fun be Z => ?_)))))))))))))))
      obtain rfl := HS hm
      exact NM fun a ha => ⟨Z.pk [], ha.s⟩
     refine zK 46 false F (MS 17 [(0, SL c d f), (1, .bool g), (5, iv b.1), (6, iv b.2), (63, .bool false)] (Z_end fun bf aa => ?_))
     obtain rfl := HS hm
     exact NM fun a ha => ⟨aa.pk [], ha.s⟩
    intro a5 az ⟨R, af⟩
    refine N_use af ?_
    have hm := ak
    refine TN (GD hm fun ay ap al => G_meet (fun a w' => Mem [] w w' [] ∧ Sat Tryz.f236.ntmps [(0, SL c d f), (1, .bool g), (5, iv ay), (6, iv b.2)] a) ?_ ?_)
    ·have hm := ap
     refine GT hm (fun G hm => ?_) fun G hm => ?_
     ·refine GR (MW 2 (WN ?_))
      obtain rfl := HS hm
      exact NM fun a ha => ⟨R.pk [], ha.s⟩
     refine GK ?_
     obtain rfl := HS hm
     exact NM fun a ha => ⟨R.pk [], ha.s⟩
    intro a6 bg ⟨ab, ag⟩
    refine N_use ag ?_
    have hm := al
    refine BN ?_
    obtain rfl := HS hm
    exact NM fun a ha => ⟨ab.pk [], ha.s⟩
   intro a7 a0 ⟨ac, ah⟩
   refine N_use ah ?_
   have hm := aj
   refine TN (GR (MW 3 (WN ?_)))
   cases hm
   exact N_loop fun a ha => ⟨_, rfl, ac.pk [], ha.s⟩
  refine XA ?_
  obtain rfl := HS hm
  obtain rfl := aq _ rfl
  exact NM fun a ha => ⟨q.pk [], ha.s⟩
 intro a8 a3 ⟨ad, ai⟩
 refine N_use ai ?_
 have hm := am
 refine NF (MW 2 (NC ?_))
 obtain rfl := HS hm
 exact RA [iv O] (⟨rfl, ad.pk []⟩)
theorem c_s_l9Settled (w : World) (d : Queue) (f g) (i : rdS encSlot w d.Slots f g) (h l) (m : rdS encWaiter w d.Waiting h l) {r : Bool} (hm : M.s_l9Settled d = some r) :
  Calls Tryz.prog 190 #[.agg #[SL f d.Slots g, SL h d.Waiting l]] w fun e w' => e = .returned (.bool r) ∧ Mem [] w w' [] := by
 unfold M.s_l9Settled at hm
 refine cE Tryz.func190 ?_
 have M0 := Mem.refl [] w
 refine QA (wN (CE 85 [SL f d.Slots g, SL h d.Waiting l]) M0 fun b j n => MW 1 (NB (MW 1 (wV (SL h d.Waiting l) j (eL false 1 1 (n.blk 0 rfl)) (MW 2 (NO (GT hm (fun x hm => ?_) fun x hm => ?_)))))))
 ·refine QA (MW 1 (ND ?_))
  obtain rfl := HS hm
  exact RA [.bool true] (⟨rfl, n.pk []⟩)
 refine KB (MW 1 (wV (SL f d.Slots g) j (eL false 1 0 (n.blk 0 rfl)) (GD hm fun T Q hm => WD (c_s_l8Free j d.Slots f g (i.mem0 n) Q) n fun o t => MW 1 (NO (GT hm (fun y hm => ?_) fun y hm => ?_)))))
 ·refine QA (MW 1 (ND ?_))
  obtain rfl := HS hm
  exact RA [.bool false] (⟨rfl, t.pk []⟩)
 refine KA (MW 1 (wV (SL f d.Slots g) o (eL false 1 0 (t.blk 0 rfl)) (GD hm fun c R hm => WD (c_s_l8Best o d.Slots f g (i.mem0 t) false R) t fun U I => MW 1 (NE (GD hm fun F P O => G_meet (fun a w' => Mem [] w w' [] ∧ Sat Tryz.f190.ntmps [(2, .bool F)] a) ?_ ?_)))))
 ·have hm := P
  refine G_quiet (by kernel_rfl) (by kernel_rfl) I (MS 3 [(1, pB b 0), (3, iv c), (17, .bool (decide (c < 0)))] ?_)
  rcases gx_bif hm with ⟨z, hm⟩ | ⟨z, hm⟩
  ·refine zK 17 true z (MS 25 [(2, .bool true)] (Z_end fun W J => ?_))
   obtain rfl := HS hm
   exact NM fun a ha => ⟨J.pk [], ha.s⟩
  refine zK 17 false z (MZ 1 (zV (SL f d.Slots g) (fun w_ M_ => (eL false 1 0 (M_.blk 0 rfl))) (MZ 1 (GD hm fun k A hm => zV (elemP f (c.toNat * 3)) (fun w_ M_ => (eI (i.mem0 M_) rfl A)) (zV (elemP f (c.toNat * 3 + 2)) (fun w_ M_ => (eF 2 (c.toNat * 3) 2 (i.mem0 M_) A)) (zV (iv k.Priority) (fun w_ M_ => (eE false 1 2 (c.toNat * 3 + 2) (i.mem0 M_) A)) (MZ 1 (zV (SL f d.Slots g) (fun w_ M_ => (eL false 1 0 (M_.blk 0 rfl))) (MZ 1 (GD hm fun q B hm => zV (elemP f (c.toNat * 3)) (fun w_ M_ => (eI (i.mem0 M_) rfl B)) (zV (elemP f (c.toNat * 3 + 1)) (fun w_ M_ => (eF 1 (c.toNat * 3) 1 (i.mem0 M_) B)) (zV (iv q.Irq) (fun w_ M_ => (eE false 1 1 (c.toNat * 3 + 1) (i.mem0 M_) B)) (MZ 1 (zV (SL h d.Waiting l) (fun w_ M_ => (eL false 1 1 (M_.blk 0 rfl))) (GD hm fun v C hm => zV (elemP h ((0 : Int).toNat * 2)) (fun w_ M_ => (eI (m.mem0 M_) rfl C)) (zV (elemP h ((0 : Int).toNat * 2 + 1)) (fun w_ M_ => (eF 1 ((0 : Int).toNat * 2) 1 (m.mem0 M_) C)) (zV (iv v.Priority) (fun w_ M_ => (eE false 1 1 ((0 : Int).toNat * 2 + 1) (m.mem0 M_) C)) (MZ 1 (zV (SL h d.Waiting l) (fun w_ M_ => (eL false 1 1 (M_.blk 0 rfl))) (GD hm fun E D hm => zV (elemP h ((0 : Int).toNat * 2)) (fun w_ M_ => (eI (m.mem0 M_) rfl D)) (zV (elemP h ((0 : Int).toNat * 2 + 0)) (fun w_ M_ => (eF 0 ((0 : Int).toNat * 2) 0 (m.mem0 M_) D)) (zV (iv E.Irq) (fun w_ M_ => (eE false 1 0 ((0 : Int).toNat * 2 + 0) (m.mem0 M_) D)) (GD hm fun u S hm => ?_)))))))))))))))))))))))
  refine ZC (.bool u) (fun w_ M_ => c_s_l8Less w_ k.Priority q.Irq v.Priority E.Irq S) (MZ 2 (Z_end fun X K => ?_))
  obtain rfl := HS hm
  exact NM fun a ha => ⟨K.pk [], ha.s⟩
 intro V Y ⟨L, N⟩
 refine N_use N ?_
 have hm := O
 refine TN (G_ret ?_)
 obtain rfl := HS hm
 exact RA [.bool F] (⟨rfl, L.pk []⟩)
theorem c_s_l9Good (w : World) (b : Queue) (d c) (n : rdS encSlot w b.Slots d c) (g f) (o : rdS encWaiter w b.Waiting g f) {r : Bool} (hm : M.s_l9Good b = some r) :
  Calls Tryz.prog 154 #[.agg #[SL d b.Slots c, SL g b.Waiting f]] w fun e w' => e = .returned (.bool r) ∧ Mem [] w w' [] := by
 unfold M.s_l9Good at hm
 refine cE Tryz.func154 ?_
 have M0 := Mem.refl [] w
 refine QA (wN (CE 85 [SL d b.Slots c, SL g b.Waiting f]) M0 fun h i j => MW 1 (NE (GD hm fun q A z => G_meet (fun a w' => Mem [] w w' [] ∧ Sat Tryz.f154.ntmps [(2, .bool q)] a) ?_ ?_)))
 ·have hm := A
  refine GR (MW 1 (wV (SL d b.Slots c) i (eL false 1 0 (j.blk 0 rfl)) (MW 1 (wV (SL g b.Waiting f) i (eL false 1 1 (j.blk 0 rfl)) (GD hm fun D B hm => WD (c_s_l9Waiting i b.Slots d c (n.mem0 j) b.Waiting g f (o.mem0 j) B) j fun l k => wR 1 [(1, pB h 0), (8, .bool D)] l ?_)))))
  rcases gx_bif hm with ⟨m, hm⟩ | ⟨m, hm⟩
  ·refine wK 8 true m (wV (.agg #[SL d b.Slots c, SL g b.Waiting f]) l (eL true 2 0 (k.blk 0 rfl)) (GD hm fun E C hm => WD (c_s_l9Settled l b d c (n.mem0 k) g f (o.mem0 k) C) k fun F v => MW 2 (WN ?_)))
   obtain rfl := HS hm
   exact NM fun a ha => ⟨v.pk [], ha.s⟩
  refine wK 8 false m (MW 4 (WN ?_))
  obtain rfl := HS hm
  exact NM fun a ha => ⟨k.pk [], ha.s⟩
 intro G H ⟨x, y⟩
 refine N_use y ?_
 have hm := z
 refine TN (G_ret ?_)
 obtain rfl := HS hm
 exact RA [.bool q] (⟨rfl, x.pk []⟩)
theorem c_s_l1Put (w : World) (d : List Int) (c b l) (A : ownS Gx.encI d c b l) (g : Int) (hA : ∀ q ∈ List.flatten [l], w.heap[q.1]? = some q.2) (hN : (idsOf [l]).Nodup) {r : (List Int)} (hm : M.s_l1Put d g = some r) :
  Calls Tryz.prog 191 #[SL c d b, iv g] w fun e w' => ∃ an ah ao, e = .returned (SL an r ah) ∧ ownS Gx.encI r an ah ao ∧ Mem (idsOf [l]) w w' [ao] := by
 unfold M.s_l1Put at hm
 refine cE Tryz.func191 ?_
 have M0 := Mem.start' w [l] hA hN
 refine QA (MW 1 (NA (MW 1 (NE (GD hm fun k bm bh => G_meet (fun a w' => Mem (idsOf [l]) w w' [l] ∧ Sat Tryz.f191.ntmps [(0, SL c d b), (1, iv g), (5, iv k)] a) ?_ ?_)))))
 ·refine GB (G_while (σ := Int) (ρ := Int) (fun n a w' => Mem (idsOf [l]) w w' [l] ∧ Sat Tryz.f191.ntmps [(0, SL c d b), (1, iv g), (5, iv n)] a) bm (fun a ha => ⟨M0.pk [0], ha.s⟩) ?_)
  clear hm
  intro n ch hm bl b5 F ⟨J, a8⟩
  refine G_use a8 (GS (GS (GD hm fun bn bi bf => G_meet (fun a w' => Mem (idsOf [l]) w w' [l] ∧ Sat Tryz.f191.ntmps [(0, SL c d b), (1, iv g), (5, iv n), (17, .bool bn)] a) ?_ ?_)))
  ·have hm := bi
   refine GR (wR 5 [(0, SL c d b), (1, iv g), (5, iv n), (10, .bool (decide (n < (d.length : Int))))] F ?_)
   rcases gx_bif hm with ⟨Q, hm⟩ | ⟨Q, hm⟩
   ·refine wK 10 true Q (MW 2 (GD hm fun ap ai hm => wV (elemP c (n.toNat * 1)) F (eI (A.r J 0) rfl ai) (wV (iv ap) F (eE false 1 0 (n.toNat * 1) (A.r J 0) ai) (MW 3 (WN ?_)))))
    obtain rfl := HS hm
    exact NM fun a ha => ⟨J.pk [0], ha.s⟩
   refine wK 10 false Q (MW 7 (WN ?_))
   obtain rfl := HS hm
   exact NM fun a ha => ⟨J.pk [0], ha.s⟩
  intro b6 bt ⟨Z, a9⟩
  refine N_use a9 ?_
  have hm := bf
  refine TN (GT hm (fun S hm => ?_) fun S hm => ?_)
  ·refine GK (TN (GB (GR (MW 3 (WN (BN ?_))))))
   cases hm
   exact N_loop fun a ha => ⟨_, rfl, Z.pk [0], ha.s⟩
  refine XA ?_
  obtain rfl := HS hm
  obtain rfl := bl _ rfl
  exact NM fun a ha => ⟨Z.pk [0], ha.s⟩
 intro b7 G ⟨K, ba⟩
 refine N_use ba ?_
 have hm := bh
 refine TN (GS (GS (GD hm fun am bj bg => G_meet (fun a w' => Mem (idsOf [l]) w w' [l] ∧ Sat Tryz.f191.ntmps [(0, SL c d b), (1, iv g), (5, iv k), (31, .bool am)] a) ?_ ?_)))
 ·have hm := bj
  refine GR (wR 5 [(0, SL c d b), (1, iv g), (5, iv k), (24, .bool (decide (k < (d.length : Int))))] G ?_)
  rcases gx_bif hm with ⟨T, hm⟩ | ⟨T, hm⟩
  ·refine wK 24 true T (MW 2 (GD hm fun aq aj hm => wV (elemP c (k.toNat * 1)) G (eI (A.r K 0) rfl aj) (wV (iv aq) G (eE false 1 0 (k.toNat * 1) (A.r K 0) aj) (MW 3 (WN ?_)))))
   obtain rfl := HS hm
   exact NM fun a ha => ⟨K.pk [0], ha.s⟩
  refine wK 24 false T (MW 7 (WN ?_))
  obtain rfl := HS hm
  exact NM fun a ha => ⟨K.pk [0], ha.s⟩
 intro b8 bu ⟨aa, bb⟩
 refine N_use bb ?_
 have hm := bg
 refine TN (GT hm (fun U hm => ?_) fun U hm => ?_)
 ·refine QA (MW 2 (ND ?_))
  obtain rfl := HS hm
  exact RA [SL c d b] (⟨c, b, l, rfl, A, aa.pk [0]⟩)
 refine GK (TN (GS (GD hm fun N ak hm => GD hm fun H bc hm => GD hm fun I bd hm => GD hm fun O al hm => GU [(0, SL c d b), (1, iv g), (5, iv k), (31, .bool am)] (DL 11 [[],[],[],[1,2],[0,3],[],[5],[4,6],[],[],[8,9]] [[],[],[],[],[0],[],[],[4],[],[],[]] [[],[],[],[],[],[],[],[6],[],[],[]] (EM 11) (EM 11) (EM 11) (fun _ => []) [fun f v s => ∃ B x, v = (.slice B ([] : List Int).length x : Value) ∧ ownS Gx.encI ([] : List Int) B x s, QV (.slice c d.length b), QV (iv k), QV (.slice (subP c (0 : Int).toNat b 1) N.length (b - (0 : Int).toNat)), fun f v s => ∃ C y, v = (.slice C H.length y : Value) ∧ ownS Gx.encI H C y s, QV (iv g), fun f v s => ∃ u t, v = (.slice u [g].length t : Value) ∧ ownS Gx.encI [g] u t s, fun f v s => ∃ D z, v = (.slice D I.length z : Value) ∧ ownS Gx.encI I D z s, QV (.slice c d.length b), QV (iv k), QV (.slice (subP c k.toNat b 1) O.length (b - k.toNat))] [] [6, 7, 10] [6, 7] (aa.preNil 11) (AC ?_ (AC ?_ (AC ?_ (AC ?_ (AC ?_ (AC ?_ (AC ?_ (AC ?_ (AC ?_ (AC ?_ (AC ?_ AN))))))))))) ?_))))
 ·intro m o R b9 ar
  exact wL (E := Gx.encI) ([] : List Int) 0 [] 3 ar fun B x bo ca V au => WN (oE (SL B ([] : List Int) x) bo ⟨B, x, rfl, V⟩ (Mem.mid au))
 ·intro m o R bv av
  exact OM ⟨rfl, rfl⟩ av
 ·intro m o R bw aw
  exact OM ⟨rfl, rfl⟩ aw
 ·rintro m o v1_ ⟨rfl, _⟩
  rintro v2_ ⟨rfl, _⟩ R bx ab
  exact OV ⟨rfl, rfl⟩ (E_slice (E := Gx.encI) _ _ _ _ d.length 0 k rfl (by kernel_rfl) (Or.inl ⟨rfl, rfl⟩) (Or.inr ⟨_, rfl, by kernel_rfl⟩) (by kernel_rfl) (A.r ab 0) rfl ak) ab
 ·intro m o v0_ hb0_
  obtain ⟨B, x, rfl, V⟩ := hb0_
  rintro v3_ ⟨rfl, _⟩ R cb ac
  exact wA 8 [iv 0] 2 ac V ((A.r ac 0).sliceM ak) bc fun C y bp cc W ax => WN (oE (SL C H y) bp ⟨C, y, rfl, W⟩ (Mem.takeOver ax))
 ·intro m o R bz ay
  exact OM ⟨rfl, rfl⟩ ay
 ·rintro m o v5_ ⟨rfl, _⟩ R cd az
  exact wL (E := Gx.encI) [g] 1 [iv g] 3 az fun u t bq ce L a0 => WN (oE (SL u [g] t) bq ⟨u, t, rfl, L⟩ (Mem.mid a0))
 ·intro m o v4_ hb4_
  obtain ⟨C, y, rfl, W⟩ := hb4_
  intro v6_ hb6_
  obtain ⟨u, t, rfl, L⟩ := hb6_
  intro R cf ad
  exact wA 8 [iv 0] 2 ad W (L.r ad 3) bd fun D z br cg X a3 => WN (oE (SL D I z) br ⟨D, z, rfl, X⟩ (Mem.takeOver a3))
 ·intro m o R b0 a4
  exact OM ⟨rfl, rfl⟩ a4
 ·intro m o R b1 a5
  exact OM ⟨rfl, rfl⟩ a5
 ·rintro m o v8_ ⟨rfl, _⟩
  rintro v9_ ⟨rfl, _⟩ R b2 ae
  exact OV ⟨rfl, rfl⟩ (E_slice (E := Gx.encI) _ _ _ _ d.length k (d.length : Int) rfl (by kernel_rfl) (Or.inr ⟨_, rfl, by kernel_rfl⟩) (Or.inl ⟨rfl, rfl⟩) (by kernel_rfl) (A.r ae 0) rfl al) ae
 intro m o v6_ hb6_
 obtain ⟨u, t, rfl, L⟩ := hb6_
 intro v7_ hb7_
 obtain ⟨D, z, rfl, X⟩ := hb7_
 rintro v10_ ⟨rfl, _⟩ b3 a6
 have af : Mem (idsOf [l]) w b3 [l, (m 6), (m 7)] := a6
 refine GD hm fun ag be hm => wA 8 [iv 0] 2 af X ((A.r af 0).sliceM al) be fun Y P bs b4 bk a7 => MW 1 (NC ?_)
 obtain rfl := HS hm
 exact RA [SL Y ag P] (⟨Y, P, bs, rfl, bk, a7.pk [2]⟩)
theorem c_s_l8Active (w : World) (d : List Slot) (c f) (k : rdS encSlot w d c f) {r : (List Int)} (hm : M.s_l8Active d = some r) :
  Calls Tryz.prog 155 #[SL c d f] w fun e w' => ∃ O L Q, e = .returned (SL O r L) ∧ ownS Gx.encI r O L Q ∧ Mem [] w w' [Q] := by
 unfold M.s_l8Active at hm
 refine cE Tryz.func155 ?_
 have M0 := Mem.refl [] w
 refine QA (MW 1 (NA (wL (E := Gx.encI) ([] : List Int) 0 [] 3 M0 fun J z ar R ag V => MW 1 (NB (MW 1 (NO (GD hm fun v ao af => G_meet (fun a w' => ∃ o n x, ownS Gx.encI v o n x ∧ Mem [] w w' [x] ∧ Sat Tryz.f155.ntmps [(3, SL o v n)] a) ?_ ?_)))))))
 ·refine GB (G_while (σ := List Int × Int) (ρ := List Int) (fun b a w' => ∃ h g m, ownS Gx.encI b.1 h g m ∧ Mem [] w w' [m] ∧ Sat Tryz.f155.ntmps [(0, SL c d f), (3, SL h b.1 g), (4, iv b.2)] a) ao (fun a ha => ⟨J, z, ar, ag, V.pk [0], ha.s⟩) ?_)
  clear hm
  intro b a4 hm am ay i ⟨h, g, m, D, j, Z⟩
  refine G_use Z (QB (MW 4 (NO (GT hm (fun A hm => ?_) fun A hm => ?_))))
  ·refine GK (TN (GS (GB (GS (GD hm fun ap ai ad => G_meet (fun a w' => Mem [] w w' [m] ∧ Sat Tryz.f155.ntmps [(0, SL c d f), (3, SL h b.1 g), (4, iv b.2), (25, .bool ap)] a) ?_ ?_)))))
   ·have hm := ai
    refine GR (MW 2 (GD hm fun S F hm => wV (elemP c (b.2.toNat * 3)) i (eI (k.mem0 j) rfl F) (wV (elemP c (b.2.toNat * 3 + 0)) i (eF 0 (b.2.toNat * 3) 0 (k.mem0 j) F) (wV (iv S.State) i (eE false 1 0 (b.2.toNat * 3 + 0) (k.mem0 j) F) (wR 2 [(0, SL c d f), (3, SL h b.1 g), (4, iv b.2), (18, .bool (S.State == 2))] i ?_)))))
    rcases gx_bif hm with ⟨B, hm⟩ | ⟨B, hm⟩
    ·refine wK 18 true B (MW 7 (WN ?_))
     obtain rfl := HS hm
     exact NM fun a ha => ⟨j.pk [0], ha.s⟩
    refine wK 18 false B (MW 2 (GD hm fun T G hm => wV (elemP c (b.2.toNat * 3)) i (eI (k.mem0 j) rfl G) (wV (elemP c (b.2.toNat * 3 + 0)) i (eF 0 (b.2.toNat * 3) 0 (k.mem0 j) G) (wV (iv T.State) i (eE false 1 0 (b.2.toNat * 3 + 0) (k.mem0 j) G) (MW 2 (WN ?_))))))
    obtain rfl := HS hm
    exact NM fun a ha => ⟨j.pk [0], ha.s⟩
   intro az u ⟨l, aa⟩
   refine N_use aa ?_
   have hm := ad
   refine TN (GD hm fun I aj ae => G_meet (fun a w' => ∃ t q y, ownS Gx.encI I t q y ∧ Mem [] w w' [y] ∧ Sat Tryz.f155.ntmps [(0, SL c d f), (3, SL t I q), (4, iv b.2)] a) ?_ ?_)
   ·have hm := aj
    refine GT hm (fun C hm => ?_) fun C hm => ?_
    ·refine GR (MW 3 (GD hm fun K H hm => wV (elemP c (b.2.toNat * 3)) u (eI (k.mem0 l) rfl H) (wV (elemP c (b.2.toNat * 3 + 1)) u (eF 1 (b.2.toNat * 3) 1 (k.mem0 l) H) (wV (iv K.Irq) u (eE false 1 1 (b.2.toNat * 3 + 1) (k.mem0 l) H) (GD hm fun aq an hm => WC ((c_s_l1Put u b.1 h g m D K.Irq (l.hasPick [0]) (l.nodupPick [0] (by kernel_rfl)) an).mono ?_))))))
     rintro e_ av ⟨P, N, au, rfl, al, U⟩
     have W := l.callF' [0] [] (by kernel_rfl) U
     refine ⟨_, rfl, ?_⟩
     refine MW 1 (WN ?_)
     obtain rfl := HS hm
     exact NM fun a ha => ⟨P, N, au, al, W.pk [0], ha.s⟩
    refine GK ?_
    obtain rfl := HS hm
    exact NM fun a ha => ⟨h, g, m, D, l.pk [0], ha.s⟩
   intro a0 aw ⟨t, q, y, ak, X, ab⟩
   refine N_use ab ?_
   have hm := ae
   refine BN (TN (GR (wR 3 [(0, SL c d f), (3, SL t I q), (4, iv (w64 (b.2 + 1)))] aw (WN ?_))))
   cases hm
   exact N_loop fun a ha => ⟨_, rfl, t, q, y, ak, X.pk [0], ha.s⟩
  refine XA ?_
  obtain rfl := HS hm
  obtain rfl := am _ rfl
  exact NM fun a ha => ⟨h, g, m, D, j.pk [0], ha.s⟩
 intro a3 ax ⟨o, n, x, ah, Y, ac⟩
 refine N_use ac ?_
 have hm := af
 refine NF (MW 2 (NC ?_))
 obtain rfl := HS hm
 exact RA [SL o v n] (⟨o, n, x, rfl, ah, Y.pk [0]⟩)
theorem c_s_l1Has (w : World) (b : List Int) (c d) (l : rdS Gx.encI w b c d) (g : Int) {r : Bool} (hm : M.s_l1Has b g = some r) :
  Calls Tryz.prog 131 #[SL c b d, iv g] w fun e w' => e = .returned (.bool r) ∧ Mem [] w w' [] := by
 unfold M.s_l1Has at hm
 refine cE Tryz.func131 ?_
 have M0 := Mem.refl [] w
 refine QA (MW 1 (NB (MW 1 (NO (GD hm fun z y m => G_meet (fun a w' => ∃ (q : Unit), z = .inl q ∧ Mem [] w w' [] ∧ Sat Tryz.f131.ntmps [] a) ?_ ?_)))))
 ·refine GB (G_while (σ := Int) (ρ := (Unit) ⊕ (Bool)) (fun f a w' => Mem [] w w' [] ∧ Sat Tryz.f131.ntmps [(0, SL c b d), (1, iv g), (5, iv f)] a) y (fun a ha => ⟨M0.pk [], ha.s⟩) ?_)
  clear hm
  intro f D hm n B h ⟨i, v⟩
  refine G_use v (QB (MW 4 (NO (GT hm (fun j hm => ?_) fun j hm => ?_))))
  ·refine KD (MW 2 (GD hm fun t o hm => wV (elemP c (f.toNat * 1)) h (eI (l.mem0 i) rfl o) (wV (iv t) h (eE false 1 0 (f.toNat * 1) (l.mem0 i) o) (MW 2 (NO (GT hm (fun k hm => ?_) fun k hm => ?_))))))
   ·refine QA (MW 1 (NX ?_))
    obtain rfl := HS hm
    obtain rfl := n _ rfl
    have hm := m; simp only [Sum.elim_inr] at hm
    refine BR (N_meet_ret (TR ?_))
    obtain rfl := HS hm
    exact RA [.bool true] (⟨rfl, i.pk []⟩)
   refine KC (MW 3 (WN ?_))
   cases hm
   exact N_loop fun a ha => ⟨_, rfl, i.pk [], ha.s⟩
  refine XA ?_
  obtain rfl := HS hm
  obtain rfl := n _ rfl
  exact NM fun a ha => ⟨_, rfl, i.pk [], ha.s⟩
 intro C A ⟨q, hout_, u, x⟩
 refine N_use x ?_
 subst hout_
 have hm := m; simp only [Sum.elim_inl] at hm
 refine NF (MW 1 (NC ?_))
 obtain rfl := HS hm
 exact RA [.bool false] (⟨rfl, u.pk []⟩)
theorem c_s_l10Level (w : World) (a : Queue) (b c) (h : rdS encSlot w a.Slots b c) (l j) (t : rdS encWaiter w a.Waiting l j) (d : Int) {r : Int} (hm : M.s_l10Level a d = some r) :
  Calls Tryz.prog 156 #[.agg #[SL b a.Slots c, SL l a.Waiting j], iv d] w fun e w' => e = .returned (iv r) ∧ Mem [] w w' [] := by
 unfold M.s_l10Level at hm
 refine cE Tryz.func156 ?_
 have M0 := Mem.refl [] w
 refine QA (wN (CE 85 [SL b a.Slots c, SL l a.Waiting j]) M0 fun f q m => MW 1 (NE (G_quiet (by kernel_rfl) (by kernel_rfl) m (MZ 1 (zV (SL b a.Slots c) (fun w_ M_ => (eL false 1 0 (M_.blk 0 rfl))) (MZ 1 (zV (SL b a.Slots c) (fun w_ M_ => (eL false 1 0 (M_.blk 0 rfl))) (MZ 1 (GD hm fun g o hm => ZC (iv g) (fun w_ M_ => c_s_l8Find w_ a.Slots b c (h.mem0 M_) d o) (GD hm fun i k hm => zV (elemP b (g.toNat * 3)) (fun w_ M_ => (eI (h.mem0 M_) rfl k)) (zV (elemP b (g.toNat * 3 + 2)) (fun w_ M_ => (eF 2 (g.toNat * 3) 2 (h.mem0 M_) k)) (zV (iv i.Priority) (fun w_ M_ => (eE false 1 2 (g.toNat * 3 + 2) (h.mem0 M_) k)) (MZ 1 (Z_end fun u n => (TN (G_ret ?_))))))))))))))))
 obtain rfl := HS hm
 exact RA [iv i.Priority] (⟨rfl, n.pk []⟩)
theorem c_s_l10Good (w : World) (b : Interface) (j i) (o : rdS Gx.encI w b.Stack j i) (l k) (y : rdS encSlot w b.Queue.Slots l k) (n m) (G : rdS encWaiter w b.Queue.Waiting n m) {r : Bool} (hm : M.s_l10Good b = some r) :
  Calls Tryz.prog 104 #[.agg #[iv b.Mask, SL j b.Stack i, SL l b.Queue.Slots k, SL n b.Queue.Waiting m]] w fun e w' => e = .returned (.bool r) ∧ Mem [] w w' [] := by
 unfold M.s_l10Good at hm
 refine cE Tryz.func104 ?_
 have M0 := Mem.refl [] w
 refine QA (wN (CE 87 [iv b.Mask, SL j b.Stack i, SL l b.Queue.Slots k, SL n b.Queue.Waiting m]) M0 fun c C Y => MW 1 (NE (GS (GD hm fun bh a5 a0 => G_meet (fun a w' => Mem [] w w' [(BK c 87 [iv b.Mask, SL j b.Stack i, SL l b.Queue.Slots k, SL n b.Queue.Waiting m])] ∧ Sat Tryz.f104.ntmps [(1, pB c 0), (14, .bool bh)] a) ?_ ?_))))
 ·have hm := a5
  refine GR (MW 1 (wV (iv b.Mask) C (eL false 1 0 (Y.blk 0 rfl)) (GD hm fun bl a9 hm => WD (c_s_l1In C b.Mask 0 16 a9) Y fun u t => wR 2 [(1, pB c 0), (9, .bool (!bl))] u ?_)))
  rcases gx_bif hm with ⟨H, hm⟩ | ⟨H, hm⟩
  ·refine wK 9 true H (MW 5 (WN ?_))
   obtain rfl := HS hm
   exact NM fun a ha => ⟨t.pk [0], ha.s⟩
  refine wK 9 false H (MW 1 (wV (.agg #[SL l b.Queue.Slots k, SL n b.Queue.Waiting m]) u (eL true 2 2 (t.blk 0 rfl)) (GD hm fun bm ba hm => WD (c_s_l9Good u b.Queue l k (y.mem0 t) n m (G.mem0 t) ba) t fun bn an => MW 2 (WN ?_))))
  obtain rfl := HS hm
  exact NM fun a ha => ⟨an.pk [0], ha.s⟩
 intro bp D ⟨x, av⟩
 refine N_use av ?_
 have hm := a0
 refine TN (GT hm (fun I hm => ?_) fun I hm => ?_)
 ·refine QA (MW 1 (ND ?_))
  obtain rfl := HS hm
  exact RA [.bool false] (⟨rfl, x.pk []⟩)
 refine KA (MW 2 (wV (SL l b.Queue.Slots k) D (eL false 1 2 (x.blk 0 rfl)) (GD hm fun f bb hm => WC ((c_s_l8Active D b.Queue.Slots l k (y.mem0 x) bb).mono ?_))))
 rintro e_ ai ⟨h, g, B, rfl, a6, am⟩
 have ao := x.call am
 refine ⟨_, rfl, ?_⟩
 refine MW 1 (NB (MW 1 (NO (GD hm fun bk bg P => G_meet (fun a w' => ∃ (ah : Unit), bk = .inl ah ∧ Mem [] w w' [(BK c 87 [iv b.Mask, SL j b.Stack i, SL l b.Queue.Slots k, SL n b.Queue.Waiting m]), B] ∧ Sat Tryz.f104.ntmps [(1, pB c 0), (3, SL h f g)] a) ?_ ?_))))
 ·refine GB (G_while (σ := Int) (ρ := (Unit) ⊕ (Bool)) (fun d a w' => Mem [] w w' [(BK c 87 [iv b.Mask, SL j b.Stack i, SL l b.Queue.Slots k, SL n b.Queue.Waiting m]), B] ∧ Sat Tryz.f104.ntmps [(1, pB c 0), (3, SL h f g), (4, iv d)] a) bg (fun a ha => ⟨ao.pk [0, 1], ha.s⟩) ?_)
  clear hm
  intro d bz hm Q bq S ⟨F, aw⟩
  refine G_use aw (QB (MW 2 (wV (SL j b.Stack i) S (eL false 1 1 (F.blk 0 rfl)) (wR 2 [(1, pB c 0), (3, SL h f g), (4, iv d), (23, .bool (decide (d < (b.Stack.length : Int))))] S (NO (GT hm (fun J hm => ?_) fun J hm => ?_))))))
  ·refine GK (TN (GS (GB (GS (GS (GD hm fun bi a7 a3 => G_meet (fun a w' => Mem [] w w' [(BK c 87 [iv b.Mask, SL j b.Stack i, SL l b.Queue.Slots k, SL n b.Queue.Waiting m]), B] ∧ Sat Tryz.f104.ntmps [(1, pB c 0), (3, SL h f g), (4, iv d), (45, .bool bi)] a) ?_ ?_))))))
   ·have hm := a7
    refine G_quiet (by kernel_rfl) (by kernel_rfl) F (MZ 2 (zV (SL j b.Stack i) (fun w_ M_ => (eL false 1 1 (M_.blk 0 rfl))) (MZ 1 (GD hm fun U ac hm => zV (elemP j (d.toNat * 1)) (fun w_ M_ => (eI (o.mem0 M_) rfl ac)) (zV (iv U) (fun w_ M_ => (eE false 1 0 (d.toNat * 1) (o.mem0 M_) ac)) (GD hm fun z bc hm => ZC (.bool z) (fun w_ M_ => c_s_l1Has w_ f h g (a6.r M_ 1) U bc) (MS 2 [(1, pB c 0), (3, SL h f g), (4, iv d), (34, .bool (!z))] ?_)))))))
    rcases gx_bif hm with ⟨K, hm⟩ | ⟨K, hm⟩
    ·refine zK 34 true K (MZ 11 (Z_end fun bu ap => ?_))
     obtain rfl := HS hm
     exact NM fun a ha => ⟨ap.pk [0, 1], ha.s⟩
    refine zK 34 false K (MZ 1 (zV (SL j b.Stack i) (fun w_ M_ => (eL false 1 1 (M_.blk 0 rfl))) (MZ 1 (GD hm fun v ag hm => zV (SL (subP j (0 : Int).toNat i 1) v (i - (0 : Int).toNat)) (fun w_ M_ => (E_slice (E := Gx.encI) _ _ _ _ b.Stack.length 0 d rfl (by kernel_rfl) (Or.inl ⟨rfl, rfl⟩) (Or.inr ⟨_, rfl, by kernel_rfl⟩) (by kernel_rfl) (o.mem0 M_) rfl ag)) (MZ 1 (zV (SL j b.Stack i) (fun w_ M_ => (eL false 1 1 (M_.blk 0 rfl))) (MZ 1 (GD hm fun V ad hm => zV (elemP j (d.toNat * 1)) (fun w_ M_ => (eI (o.mem0 M_) rfl ad)) (zV (iv V) (fun w_ M_ => (eE false 1 0 (d.toNat * 1) (o.mem0 M_) ad)) (GD hm fun R bd hm => ZC (.bool R) (fun w_ M_ => c_s_l1Has w_ v (subP j (0 : Int).toNat i 1) (i - (0 : Int).toNat) ((o.mem0 M_).sliceM ag) V bd) (MS 1 [(1, pB c 0), (3, SL h f g), (4, iv d), (45, .bool R)] (Z_end fun bv aq => ?_))))))))))))
    obtain rfl := HS hm
    exact NM fun a ha => ⟨aq.pk [0, 1], ha.s⟩
   intro br bo ⟨Z, ax⟩
   refine N_use ax ?_
   have hm := a3
   refine TN (GT hm (fun L hm => ?_) fun L hm => ?_)
   ·refine QA (MW 1 (ND (BR (TR (TR ?_)))))
    obtain rfl := HS hm
    obtain rfl := Q _ rfl
    have hm := P; simp only [Sum.elim_inr] at hm
    refine BR (N_meet_ret (TR ?_))
    obtain rfl := HS hm
    exact RA [.bool false] (⟨rfl, Z.pk []⟩)
   refine GK (TN (GS (GD hm fun bj a8 a4 => G_meet (fun a w' => Mem [] w w' [(BK c 87 [iv b.Mask, SL j b.Stack i, SL l b.Queue.Slots k, SL n b.Queue.Waiting m]), B] ∧ Sat Tryz.f104.ntmps [(1, pB c 0), (3, SL h f g), (4, iv d), (67, .bool bj)] a) ?_ ?_)))
   ·have hm := a8
    refine G_quiet (by kernel_rfl) (by kernel_rfl) Z (MS 3 [(1, pB c 0), (3, SL h f g), (4, iv d), (48, .bool (decide (d > 0)))] ?_)
    rcases gx_bif hm with ⟨N, hm⟩ | ⟨N, hm⟩
    ·refine zK 48 true N (MZ 1 (zV (.agg #[SL l b.Queue.Slots k, SL n b.Queue.Waiting m]) (fun w_ M_ => (eL true 2 2 (M_.blk 0 rfl))) (MZ 1 (zV (SL j b.Stack i) (fun w_ M_ => (eL false 1 1 (M_.blk 0 rfl))) (MZ 2 (GD hm fun W ae hm => zV (elemP j ((w64 (d - 1)).toNat * 1)) (fun w_ M_ => (eI (o.mem0 M_) rfl ae)) (zV (iv W) (fun w_ M_ => (eE false 1 0 ((w64 (d - 1)).toNat * 1) (o.mem0 M_) ae)) (GD hm fun q be hm => ZC (iv q) (fun w_ M_ => c_s_l10Level w_ b.Queue l k (y.mem0 M_) n m (G.mem0 M_) W be) (MZ 1 (zV (.agg #[SL l b.Queue.Slots k, SL n b.Queue.Waiting m]) (fun w_ M_ => (eL true 2 2 (M_.blk 0 rfl))) (MZ 1 (zV (SL j b.Stack i) (fun w_ M_ => (eL false 1 1 (M_.blk 0 rfl))) (MZ 1 (GD hm fun X af hm => zV (elemP j (d.toNat * 1)) (fun w_ M_ => (eI (o.mem0 M_) rfl af)) (zV (iv X) (fun w_ M_ => (eE false 1 0 (d.toNat * 1) (o.mem0 M_) af)) (GD hm fun A bf hm => ZC (iv A) (fun w_ M_ => c_s_l10Level w_ b.Queue l k (y.mem0 M_) n m (G.mem0 M_) X bf) (MZ 2 (Z_end fun bw ar => ?_))))))))))))))))))
     obtain rfl := HS hm
     exact NM fun a ha => ⟨ar.pk [0, 1], ha.s⟩
    refine zK 48 false N (MS 19 [(1, pB c 0), (3, SL h f g), (4, iv d), (67, .bool false)] (Z_end fun bx au => ?_))
    obtain rfl := HS hm
    exact NM fun a ha => ⟨au.pk [0, 1], ha.s⟩
   intro bs aj ⟨aa, ay⟩
   refine N_use ay ?_
   have hm := a4
   refine TN (GT hm (fun O hm => ?_) fun O hm => ?_)
   ·refine QA (MW 1 (NX ?_))
    obtain rfl := HS hm
    obtain rfl := Q _ rfl
    have hm := P; simp only [Sum.elim_inr] at hm
    refine BR (N_meet_ret (TR ?_))
    obtain rfl := HS hm
    exact RA [.bool false] (⟨rfl, aa.pk []⟩)
   refine KC (MW 3 (WN ?_))
   cases hm
   exact N_loop fun a ha => ⟨_, rfl, aa.pk [0, 1], ha.s⟩
  refine XA ?_
  obtain rfl := HS hm
  obtain rfl := Q _ rfl
  exact NM fun a ha => ⟨_, rfl, F.pk [0, 1], ha.s⟩
 intro bt T ⟨ah, hout_, ab, az⟩
 refine N_use az ?_
 subst hout_
 have hm := P; simp only [Sum.elim_inl] at hm
 refine NF (MW 1 (wV (SL j b.Stack i) T (eL false 1 1 (ab.blk 0 rfl)) (MW 5 (NC ?_))))
 cases hm
 exact RA [.bool ((b.Stack.length : Int) == (f.length : Int))] (⟨rfl, ab.pk []⟩)
theorem c_s_l21Queue (w : World) (c : List Route) (b d) (n : rdS encRoute w c b d) (j : Queue) (o t) (U : rdS encSlot w j.Slots o t) (q u) (V : rdS encWaiter w j.Waiting q u) (f : Int) {r : Bool} (hm : M.s_l21Queue c j f = some r) :
  Calls Tryz.prog 105 #[SL b c d, .agg #[SL o j.Slots t, SL q j.Waiting u], iv f] w fun e w' => e = .returned (.bool r) ∧ Mem [] w w' [] := by
 unfold M.s_l21Queue at hm
 refine cE Tryz.func105 ?_
 have M0 := Mem.refl [] w
 refine QA (wN (CE 85 [SL o j.Slots t, SL q j.Waiting u]) M0 fun g ae ah => MW 1 (NB (MW 1 (NO (GD hm fun bc a8 W => G_meet (fun a w' => ∃ (ac : Unit), bc = .inl ac ∧ Mem [] w w' [(BK g 85 [SL o j.Slots t, SL q j.Waiting u])] ∧ Sat Tryz.f105.ntmps [(0, SL b c d), (2, iv f), (4, pB g 0)] a) ?_ ?_)))))
 ·refine GB (G_while (σ := Int) (ρ := (Unit) ⊕ (Bool)) (fun i a w' => Mem [] w w' [(BK g 85 [SL o j.Slots t, SL q j.Waiting u])] ∧ Sat Tryz.f105.ntmps [(0, SL b c d), (2, iv f), (4, pB g 0), (7, iv i)] a) a8 (fun a ha => ⟨ah.pk [0], ha.s⟩) ?_)
  clear hm
  intro i bw hm Y bg x ⟨A, aw⟩
  refine G_use aw (QB (MW 2 (wV (SL o j.Slots t) x (eL false 1 0 (A.blk 0 rfl)) (MW 2 (NO (GT hm (fun F hm => ?_) fun F hm => ?_))))))
  ·refine KD (MW 1 (wV (SL o j.Slots t) x (eL false 1 0 (A.blk 0 rfl)) (MW 1 (GD hm fun h aa hm => wV (elemP o (i.toNat * 3)) x (eI (U.mem0 A) rfl aa) (wV (.agg #[iv h.State, iv h.Irq, iv h.Priority]) x (eE true 3 0 (i.toNat * 3) (U.mem0 A) aa) (wN (CE 117 [iv 0, iv 0, iv 0]) A fun m bm ai => wS true 3 0 (.agg #[iv h.State, iv h.Irq, iv h.Priority]) 1 [iv h.State, iv h.Irq, iv h.Priority] ai rfl fun bn aj => NE (GD hm fun ba a6 a4 => G_meet (fun a w' => Mem [] w w' [(BK g 85 [SL o j.Slots t, SL q j.Waiting u])] ∧ Sat Tryz.f105.ntmps [(0, SL b c d), (2, iv f), (4, pB g 0), (7, iv i), (51, .bool ba)] a) ?_ ?_)))))))
   ·have hm := a6
    refine G_quiet (by kernel_rfl) (by kernel_rfl) aj (MZ 1 (zV (iv h.State) (fun w_ M_ => (eL false 1 0 (M_.blk 1 rfl))) (MS 2 [(0, SL b c d), (2, iv f), (4, pB g 0), (7, iv i), (8, pB m 0), (26, .bool (h.State == 3))] ?_)))
    rcases gx_bif hm with ⟨G, hm⟩ | ⟨G, hm⟩
    ·refine zK 26 true G (MS 25 [(0, SL b c d), (2, iv f), (4, pB g 0), (7, iv i), (51, .bool true)] (Z_end fun bo ak => ?_))
     obtain rfl := HS hm
     exact NM fun a ha => ⟨ak.pk [0], ha.s⟩
    refine zK 26 false G (MZ 1 (zV (iv h.State) (fun w_ M_ => (eL false 1 0 (M_.blk 1 rfl))) (MS 2 [(0, SL b c d), (2, iv f), (4, pB g 0), (7, iv i), (8, pB m 0), (26, .bool false), (30, .bool (h.State != 0))] ?_)))
    rcases gx_bif hm with ⟨H, hm⟩ | ⟨H, hm⟩
    ·refine zK 30 true H (MZ 2 (zV (iv h.Irq) (fun w_ M_ => (eL false 1 1 (M_.blk 1 rfl))) (GD hm fun D O hm => zV (elemP b (h.Irq.toNat * 2)) (fun w_ M_ => (eI (n.mem0 M_) rfl O)) (zV (elemP b (h.Irq.toNat * 2 + 1)) (fun w_ M_ => (eF 1 (h.Irq.toNat * 2) 1 (n.mem0 M_) O)) (zV (iv D.Target) (fun w_ M_ => (eE false 1 1 (h.Irq.toNat * 2 + 1) (n.mem0 M_) O)) (MS 3 [(0, SL b c d), (2, iv f), (4, pB g 0), (7, iv i), (8, pB m 0), (26, .bool false), (30, .bool true), (39, .bool (D.Target != f))] ?_))))))
     rcases gx_bif hm with ⟨I, hm⟩ | ⟨I, hm⟩
     ·refine zK 39 true I (MZ 12 (Z_end fun bp al => ?_))
      obtain rfl := HS hm
      exact NM fun a ha => ⟨al.pk [0], ha.s⟩
     refine zK 39 false I (MZ 2 (zV (iv h.Irq) (fun w_ M_ => (eL false 1 1 (M_.blk 1 rfl))) (GD hm fun z P hm => zV (elemP b (h.Irq.toNat * 2)) (fun w_ M_ => (eI (n.mem0 M_) rfl P)) (zV (elemP b (h.Irq.toNat * 2 + 0)) (fun w_ M_ => (eF 0 (h.Irq.toNat * 2) 0 (n.mem0 M_) P)) (zV (iv z.Priority) (fun w_ M_ => (eE false 1 0 (h.Irq.toNat * 2 + 0) (n.mem0 M_) P)) (MZ 1 (zV (iv h.Priority) (fun w_ M_ => (eL false 1 2 (M_.blk 1 rfl))) (MS 4 [(0, SL b c d), (2, iv f), (4, pB g 0), (7, iv i), (51, .bool (z.Priority != h.Priority))] (Z_end fun bq am => ?_)))))))))
     obtain rfl := HS hm
     exact NM fun a ha => ⟨am.pk [0], ha.s⟩
    refine zK 30 false H (MS 21 [(0, SL b c d), (2, iv f), (4, pB g 0), (7, iv i), (51, .bool false)] (Z_end fun br an => ?_))
    obtain rfl := HS hm
    exact NM fun a ha => ⟨an.pk [0], ha.s⟩
   intro bh af ⟨S, ax⟩
   refine N_use ax ?_
   have hm := a4
   refine TN (GT hm (fun J hm => ?_) fun J hm => ?_)
   ·refine QA (MW 1 (NX ?_))
    obtain rfl := HS hm
    obtain rfl := Y _ rfl
    have hm := W; simp only [Sum.elim_inr] at hm
    refine BR (N_meet_ret (TR ?_))
    obtain rfl := HS hm
    exact RA [.bool false] (⟨rfl, S.pk []⟩)
   refine KC (MW 3 (WN ?_))
   cases hm
   exact N_loop fun a ha => ⟨_, rfl, S.pk [0], ha.s⟩
  refine XA ?_
  obtain rfl := HS hm
  obtain rfl := Y _ rfl
  exact NM fun a ha => ⟨_, rfl, A.pk [0], ha.s⟩
 intro bi be ⟨ac, hout_, ao, ay⟩
 refine N_use ay ?_
 subst hout_
 have hm := W; simp only [Sum.elim_inl] at hm
 refine TN (QB (MW 1 (NO (GD hm fun bd a9 X => G_meet (fun a w' => ∃ (ad : Unit), bd = .inl ad ∧ Mem [] w w' [] ∧ Sat Tryz.f105.ntmps [] a) ?_ ?_))))
 ·refine GB (G_while (σ := Int) (ρ := (Unit) ⊕ (Bool)) (fun l a w' => Mem [] w w' [(BK g 85 [SL o j.Slots t, SL q j.Waiting u])] ∧ Sat Tryz.f105.ntmps [(0, SL b c d), (2, iv f), (4, pB g 0), (9, iv l)] a) a9 (fun a ha => ⟨ao.pk [0], ha.s⟩) ?_)
  clear hm
  intro l bx hm Z bj y ⟨B, az⟩
  refine G_use az (QB (MW 2 (wV (SL q j.Waiting u) y (eL false 1 1 (B.blk 0 rfl)) (MW 2 (NO (GT hm (fun K hm => ?_) fun K hm => ?_))))))
  ·refine KD (MW 1 (wV (SL q j.Waiting u) y (eL false 1 1 (B.blk 0 rfl)) (MW 1 (GD hm fun k ab hm => wV (elemP q (l.toNat * 2)) y (eI (V.mem0 B) rfl ab) (wV (.agg #[iv k.Irq, iv k.Priority]) y (eE true 2 0 (l.toNat * 2) (V.mem0 B) ab) (wN (CE 142 [iv 0, iv 0]) B fun v bs ap => wS true 2 0 (.agg #[iv k.Irq, iv k.Priority]) 1 [iv k.Irq, iv k.Priority] ap rfl fun bt aq => NE (GD hm fun bb a7 a5 => G_meet (fun a w' => Mem [] w w' [(BK g 85 [SL o j.Slots t, SL q j.Waiting u])] ∧ Sat Tryz.f105.ntmps [(0, SL b c d), (2, iv f), (4, pB g 0), (9, iv l), (82, .bool bb)] a) ?_ ?_)))))))
   ·have hm := a7
    refine G_quiet (by kernel_rfl) (by kernel_rfl) aq (MZ 2 (zV (iv k.Irq) (fun w_ M_ => (eL false 1 0 (M_.blk 1 rfl))) (GD hm fun E Q hm => zV (elemP b (k.Irq.toNat * 2)) (fun w_ M_ => (eI (n.mem0 M_) rfl Q)) (zV (elemP b (k.Irq.toNat * 2 + 1)) (fun w_ M_ => (eF 1 (k.Irq.toNat * 2) 1 (n.mem0 M_) Q)) (zV (iv E.Target) (fun w_ M_ => (eE false 1 1 (k.Irq.toNat * 2 + 1) (n.mem0 M_) Q)) (MS 3 [(0, SL b c d), (2, iv f), (4, pB g 0), (9, iv l), (10, pB v 0), (72, .bool (E.Target != f))] ?_))))))
    rcases gx_bif hm with ⟨L, hm⟩ | ⟨L, hm⟩
    ·refine zK 72 true L (MZ 10 (Z_end fun bu ar => ?_))
     obtain rfl := HS hm
     exact NM fun a ha => ⟨ar.pk [0], ha.s⟩
    refine zK 72 false L (MZ 2 (zV (iv k.Irq) (fun w_ M_ => (eL false 1 0 (M_.blk 1 rfl))) (GD hm fun C R hm => zV (elemP b (k.Irq.toNat * 2)) (fun w_ M_ => (eI (n.mem0 M_) rfl R)) (zV (elemP b (k.Irq.toNat * 2 + 0)) (fun w_ M_ => (eF 0 (k.Irq.toNat * 2) 0 (n.mem0 M_) R)) (zV (iv C.Priority) (fun w_ M_ => (eE false 1 0 (k.Irq.toNat * 2 + 0) (n.mem0 M_) R)) (MZ 1 (zV (iv k.Priority) (fun w_ M_ => (eL false 1 1 (M_.blk 1 rfl))) (MZ 2 (Z_end fun bv au => ?_)))))))))
    obtain rfl := HS hm
    exact NM fun a ha => ⟨au.pk [0], ha.s⟩
   intro bk ag ⟨T, a0⟩
   refine N_use a0 ?_
   have hm := a5
   refine TN (GT hm (fun N hm => ?_) fun N hm => ?_)
   ·refine QA (wR 1 [(6, .bool false)] ag (NX ?_))
    obtain rfl := HS hm
    obtain rfl := Z _ rfl
    have hm := X; simp only [Sum.elim_inr] at hm
    refine BR (N_meet_ret (TR ?_))
    obtain rfl := HS hm
    exact RA [.bool false] (⟨rfl, T.pk []⟩)
   refine KC (MW 3 (WN ?_))
   cases hm
   exact N_loop fun a ha => ⟨_, rfl, T.pk [0], ha.s⟩
  refine XA ?_
  obtain rfl := HS hm
  obtain rfl := Z _ rfl
  exact NM fun a ha => ⟨_, rfl, B.pk [], ha.s⟩
 intro bl bf ⟨ad, hout_, av, a3⟩
 refine N_use a3 ?_
 subst hout_
 have hm := X; simp only [Sum.elim_inl] at hm
 refine NF (MW 1 (NC ?_))
 obtain rfl := HS hm
 exact RA [.bool true] (⟨rfl, av.pk []⟩)
theorem c_s_l21Good (w : World) (b : Machine) (i h) (R : rdS encRoute w b.Routes i h) (t o) (a3 : rdS Gx.encB w b.Enabled t o) (u q) (a4 : rdS Gx.encB w b.Raised u q) (j l) (ab : rdD deepInterface w b.Cpus j l) {r : Bool} (hm : M.s_l21Good b = some r) :
  Calls Tryz.prog 54 #[.agg #[SL i b.Routes h, SL t b.Enabled o, SL u b.Raised q, SL j b.Cpus l]] w fun e w' => e = .returned (.bool r) ∧ Mem [] w w' [] := by
 unfold M.s_l21Good at hm
 refine cE Tryz.func54 ?_
 have M0 := Mem.refl [] w
 refine QA (wN (CE 32 [SL i b.Routes h, SL t b.Enabled o, SL u b.Raised q, SL j b.Cpus l]) M0 fun c v C => MW 1 (NE (GS (GD hm fun aq ai ag => G_meet (fun a w' => Mem [] w w' [(BK c 32 [SL i b.Routes h, SL t b.Enabled o, SL u b.Raised q, SL j b.Cpus l])] ∧ Sat Tryz.f54.ntmps [(1, pB c 0), (22, .bool aq)] a) ?_ ?_))))
 ·have hm := ai
  refine GR (MW 1 (wV (SL i b.Routes h) v (eL false 1 0 (C.blk 0 rfl)) (MW 1 (wV (SL j b.Cpus l) v (eL false 1 3 (C.blk 0 rfl)) (MW 1 (GD hm fun av ak hm => WD (c_s_l21Routes v b.Routes i h (R.mem0 C) (b.Cpus.length : Int) ak) C fun n x => wR 2 [(1, pB c 0), (11, .bool (!av))] n ?_))))))
  rcases gx_bif hm with ⟨H, hm⟩ | ⟨H, hm⟩
  ·refine wK 11 true H (MW 11 (WN ?_))
   obtain rfl := HS hm
   exact NM fun a ha => ⟨x.pk [0], ha.s⟩
  refine wK 11 false H (MW 1 (wV (SL t b.Enabled o) n (eL false 1 1 (x.blk 0 rfl)) (wR 4 [(1, pB c 0), (17, .bool ((b.Enabled.length : Int) != 8))] n ?_)))
  rcases gx_bif hm with ⟨I, hm⟩ | ⟨I, hm⟩
  ·refine wK 17 true I (MW 5 (WN ?_))
   obtain rfl := HS hm
   exact NM fun a ha => ⟨x.pk [0], ha.s⟩
  refine wK 17 false I (MW 1 (wV (SL u b.Raised q) n (eL false 1 2 (x.blk 0 rfl)) (MW 3 (WN ?_))))
  obtain rfl := HS hm
  exact NM fun a ha => ⟨x.pk [0], ha.s⟩
 intro ax V ⟨P, ac⟩
 refine N_use ac ?_
 have hm := ag
 refine TN (GT hm (fun J hm => ?_) fun J hm => ?_)
 ·refine QA (MW 1 (ND ?_))
  obtain rfl := HS hm
  exact RA [.bool false] (⟨rfl, P.pk []⟩)
 refine KB (MW 1 (NO (GD hm fun au an S => G_meet (fun a w' => ∃ (U : Unit), au = .inl U ∧ Mem [] w w' [] ∧ Sat Tryz.f54.ntmps [] a) ?_ ?_)))
 ·refine GB (G_while (σ := Int) (ρ := (Unit) ⊕ (Bool)) (fun d a w' => Mem [] w w' [(BK c 32 [SL i b.Routes h, SL t b.Enabled o, SL u b.Raised q, SL j b.Cpus l])] ∧ Sat Tryz.f54.ntmps [(1, pB c 0), (3, iv d)] a) an (fun a ha => ⟨P.pk [0], ha.s⟩) ?_)
  clear hm
  intro d a7 hm T ay O ⟨G, ad⟩
  refine G_use ad (QB (MW 2 (wV (SL j b.Cpus l) O (eL false 1 3 (G.blk 0 rfl)) (MW 2 (NO (GT hm (fun K hm => ?_) fun K hm => ?_))))))
  ·refine GK (TN (GS (GB (GS (GD hm fun ar aj ah => G_meet (fun a w' => Mem [] w w' [(BK c 32 [SL i b.Routes h, SL t b.Enabled o, SL u b.Raised q, SL j b.Cpus l])] ∧ Sat Tryz.f54.ntmps [(1, pB c 0), (3, iv d), (49, .bool ar)] a) ?_ ?_)))))
   ·have hm := aj
    refine G_quiet (by kernel_rfl) (by kernel_rfl) G (MZ 1 (zV (SL j b.Cpus l) (fun w_ M_ => (eL false 1 3 (M_.blk 0 rfl))) (MS 1 [(1, pB c 0), (3, iv d), (31, SL j b.Cpus l), (32, iv d)] (GD hm fun k ao hm => ?_))))
    obtain ⟨a8, D, B, A⟩ := id ab
    obtain ⟨f, y⟩ := gxIdx_fst D ao
    refine zV (elemP j (d.toNat * 4)) (fun w_ M_ => (eI (B.mem0 M_) (len_fst D) y)) (zV (.agg #[iv k.Mask, SL ((f 0).1) k.Stack ((f 0).2), SL ((f 1).1) k.Queue.Slots ((f 1).2), SL ((f 2).1) k.Queue.Waiting ((f 2).2)]) (fun w_ M_ => (eE true 4 0 (d.toNat * 4) (B.mem0 M_) y)) (GD hm fun E al hm => ZC (.bool E) (fun w_ M_ => c_s_l10Good w_ k ((f 0).1) ((f 0).2) ((A.mem0 M_).a_ y 0) ((f 1).1) ((f 1).2) ((A.mem0 M_).a_ y 1) ((f 2).1) ((f 2).2) ((A.mem0 M_).a_ y 2) al) (MS 2 [(1, pB c 0), (3, iv d), (37, .bool (!E))] ?_)))
    rcases gx_bif hm with ⟨L, hm⟩ | ⟨L, hm⟩
    ·refine zK 37 true L (MZ 12 (Z_end fun a5 Y => ?_))
     obtain rfl := HS hm
     exact NM fun a ha => ⟨Y.pk [0], ha.s⟩
    refine zK 37 false L (MZ 1 (zV (SL i b.Routes h) (fun w_ M_ => (eL false 1 0 (M_.blk 0 rfl))) (MZ 1 (zV (SL j b.Cpus l) (fun w_ M_ => (eL false 1 3 (M_.blk 0 rfl))) (MZ 1 (GD hm fun m ap hm => ?_))))))
    obtain ⟨g, z⟩ := gxIdx_fst D ap
    refine zV (elemP j (d.toNat * 4)) (fun w_ M_ => (eI (B.mem0 M_) (len_fst D) z)) (zV (elemP j (d.toNat * 4 + 2)) (fun w_ M_ => (eF 2 (d.toNat * 4) 2 (B.mem0 M_) z)) (zV (.agg #[SL ((g 1).1) m.Queue.Slots ((g 1).2), SL ((g 2).1) m.Queue.Waiting ((g 2).2)]) (fun w_ M_ => (eE true 2 2 (d.toNat * 4 + 2) (B.mem0 M_) z)) (MZ 1 (GD hm fun F am hm => ZC (.bool F) (fun w_ M_ => c_s_l21Queue w_ b.Routes i h (R.mem0 M_) m.Queue ((g 1).1) ((g 1).2) ((A.mem0 M_).a_ z 1) ((g 2).1) ((g 2).2) ((A.mem0 M_).a_ z 2) d am) (MS 2 [(1, pB c 0), (3, iv d), (49, .bool (!F))] (Z_end fun a6 Z => ?_))))))
    obtain rfl := HS hm
    exact NM fun a ha => ⟨Z.pk [0], ha.s⟩
   intro az W ⟨Q, ae⟩
   refine N_use ae ?_
   have hm := ah
   refine TN (GT hm (fun N hm => ?_) fun N hm => ?_)
   ·refine QA (MW 1 (NX ?_))
    obtain rfl := HS hm
    obtain rfl := T _ rfl
    have hm := S; simp only [Sum.elim_inr] at hm
    refine BR (N_meet_ret (TR ?_))
    obtain rfl := HS hm
    exact RA [.bool false] (⟨rfl, Q.pk []⟩)
   refine KC (MW 3 (WN ?_))
   cases hm
   exact N_loop fun a ha => ⟨_, rfl, Q.pk [0], ha.s⟩
  refine XA ?_
  obtain rfl := HS hm
  obtain rfl := T _ rfl
  exact NM fun a ha => ⟨_, rfl, G.pk [], ha.s⟩
 intro a0 aw ⟨U, hout_, aa, af⟩
 refine N_use af ?_
 subst hout_
 have hm := S; simp only [Sum.elim_inl] at hm
 refine NF (MW 1 (NC ?_))
 obtain rfl := HS hm
 exact RA [.bool true] (⟨rfl, aa.pk []⟩)
theorem c_i_inside (w : World) (b : Int) (d : Int) (c : Int) {r : Bool} (hm : M.i_inside b d c = some r) :
  Calls Tryz.prog 108 #[iv b, iv d, iv c] w fun e w' => e = .returned (.bool r) ∧ Mem [] w w' [] := by
 unfold M.i_inside at hm
 refine cE Tryz.func108 ?_
 have M0 := Mem.refl [] w
 refine QA (MW 1 (NE (GD hm fun g k j => G_meet (fun a w' => Mem [] w w' [] ∧ Sat Tryz.f108.ntmps [(6, .bool g)] a) ?_ ?_)))
 ·have hm := k
  refine GR (wR 4 [(0, iv b), (2, iv c), (10, .bool (decide (b ≥ d)))] w ?_)
  rcases gx_bif hm with ⟨f, hm⟩ | ⟨f, hm⟩
  ·refine wK 10 true f (MW 5 (WN ?_))
   obtain rfl := HS hm
   exact NM fun a ha => ⟨M0.pk [], ha.s⟩
  refine wK 10 false f (MW 5 (WN ?_))
  obtain rfl := HS hm
  exact NM fun a ha => ⟨M0.pk [], ha.s⟩
 intro l m ⟨h, i⟩
 refine N_use i ?_
 have hm := j
 refine TN (G_ret ?_)
 obtain rfl := HS hm
 exact RA [.bool g] (⟨rfl, h.pk []⟩)
theorem c_i_isPriority (w : World) (a : Int) {r : Bool} (hm : M.i_isPriority a = some r) :
  Calls Tryz.prog 111 #[iv a] w fun e w' => e = .returned (.bool r) ∧ Mem [] w w' [] := by
 unfold M.i_isPriority at hm
 refine cE Tryz.func111 ?_
 have M0 := Mem.refl [] w
 refine QA (MW 1 (NA (MW 1 (GD hm fun b f hm => WD (c_i_inside w a 0 15 f) M0 fun g d => MW 1 (NC ?_)))))
 obtain rfl := HS hm
 exact RA [.bool b] (⟨rfl, d.pk []⟩)
theorem c_i_areRoutes_1 (w : World) (b : Route) (f : Int) (d : Nat) (u : w.heap[d]? = some (CE 3 [iv f])) {r : Bool} (hm : M.i_areRoutes_1 b f = some r) :
  Calls Tryz.prog 110 #[.agg #[iv b.Priority, iv b.Target], pB d 0] w fun e w' => e = .returned (.bool r) ∧ Mem [] w w' [] := by
 unfold M.i_areRoutes_1 at hm
 refine cE Tryz.func110 ?_
 have M0 := Mem.refl [] w
 refine QA (wN (CE 129 [iv b.Priority, iv b.Target]) M0 fun g i k => MW 1 (NE (GD hm fun l x v => G_meet (fun a w' => Mem [] w w' [] ∧ Sat Tryz.f110.ntmps [(3, .bool l)] a) ?_ ?_)))
 ·have hm := x
  refine GR (MW 1 (wV (iv b.Priority) i (eL false 1 0 (k.blk 0 rfl)) (GD hm fun A y hm => WD (c_i_isPriority i b.Priority y) k fun c h => wR 2 [(1, pB d 0), (2, pB g 0), (8, .bool (!A))] c ?_)))
  rcases gx_bif hm with ⟨j, hm⟩ | ⟨j, hm⟩
  ·refine wK 8 true j (MW 8 (WN ?_))
   obtain rfl := HS hm
   exact NM fun a ha => ⟨h.pk [], ha.s⟩
  refine wK 8 false j (MW 1 (wV (iv b.Target) c (eL false 1 1 (h.blk 0 rfl)) (wV (iv f) c (eL false 1 0 (h.ro u)) (MW 1 (GD hm fun B z hm => WD (c_i_inside c b.Target 0 (w64 (f - 1)) z) h fun C o => MW 3 (WN ?_))))))
  obtain rfl := HS hm
  exact NM fun a ha => ⟨o.pk [], ha.s⟩
 intro D E ⟨q, t⟩
 refine N_use t ?_
 have hm := v
 refine TN (G_ret ?_)
 obtain rfl := HS hm
 exact RA [.bool l] (⟨rfl, q.pk []⟩)
theorem c_slices_IndexFunc_159__i_areRoutes_1 (w : World) (b : List Route) (f g) (o : rdS encRoute w b f g) (m : Int) (d : Nat) (C : w.heap[d]? = some (CE 3 [iv m])) {r : Int} (hm : M.slices_IndexFunc_159__i_areRoutes_1 b m = some r) :
  Calls Tryz.prog 159 #[SL f b g, .func (.func 110) #[] #[pB d 0]] w fun e w' => e = .returned (iv r) ∧ Mem [] w w' [] := by
 unfold M.slices_IndexFunc_159__i_areRoutes_1 at hm
 refine cE Tryz.func159 ?_
 have M0 := Mem.refl [] w
 refine QA (MW 1 (NB (MW 3 (NO (GD hm fun F E q => G_meet (fun a w' => ∃ (v : Unit), F = .inl v ∧ Mem [] w w' [] ∧ Sat Tryz.f159.ntmps [] a) ?_ ?_)))))
 ·refine GB (G_while (σ := Int) (ρ := (Unit) ⊕ (Int)) (fun c a w' => Mem [] w w' [] ∧ Sat Tryz.f159.ntmps [(0, SL f b g), (1, .func (.func 110) #[] #[pB d 0]), (7, iv (b.length : Int)), (8, iv c)] a) E (fun a ha => ⟨M0.pk [], ha.s⟩) ?_)
  clear hm
  intro c K hm t H h ⟨i, A⟩
  refine G_use A (QA (MW 1 (NE (GT hm (fun k hm => ?_) fun k hm => ?_))))
  ·refine KD (MW 2 (NA (MW 3 (GD hm fun j u hm => wV (elemP f (c.toNat * 2)) h (eI (o.mem0 i) rfl u) (wV (.agg #[iv j.Priority, iv j.Target]) h (eE true 2 0 (c.toNat * 2) (o.mem0 i) u) (GD hm fun J D hm => WD (c_i_areRoutes_1 h j m d (i.ro C) D) i fun x n => NO (GT hm (fun l hm => ?_) fun l hm => ?_)))))))
   ·refine QA (MW 2 (NX ?_))
    obtain rfl := HS hm
    obtain rfl := t _ rfl
    have hm := q; simp only [Sum.elim_inr] at hm
    refine BR (N_meet_ret (TR ?_))
    obtain rfl := HS hm
    exact RA [iv c] (⟨rfl, n.pk []⟩)
   refine KC (MW 2 (WN ?_))
   cases hm
   exact N_loop fun a ha => ⟨_, rfl, n.pk [], ha.s⟩
  refine XA ?_
  obtain rfl := HS hm
  obtain rfl := t _ rfl
  exact NM fun a ha => ⟨_, rfl, i.pk [], ha.s⟩
 intro I G ⟨v, hout_, z, B⟩
 refine N_use B ?_
 subst hout_
 have hm := q; simp only [Sum.elim_inl] at hm
 refine NF (MW 1 (NC ?_))
 cases hm
 exact RA [iv (-1)] (⟨rfl, z.pk []⟩)
theorem c_slices_ContainsFunc_109__i_areRoutes_1 (w : World) (a : List Route) (d c) (j : rdS encRoute w a d c) (f : Int) (b : Nat) (k : w.heap[b]? = some (CE 3 [iv f])) {r : Bool} (hm : M.slices_ContainsFunc_109__i_areRoutes_1 a f = some r) :
  Calls Tryz.prog 109 #[SL d a c, .func (.func 110) #[] #[pB b 0]] w fun e w' => e = .returned (.bool r) ∧ Mem [] w w' [] := by
 unfold M.slices_ContainsFunc_109__i_areRoutes_1 at hm
 refine cE Tryz.func109 ?_
 have M0 := Mem.refl [] w
 refine QA (MW 1 (NA (MW 2 (GD hm fun g l hm => WD (c_slices_IndexFunc_159__i_areRoutes_1 w a d c (j.mem0 M0) f b (M0.ro k) l) M0 fun m i => MW 2 (NC ?_)))))
 cases hm
 exact RA [.bool (decide (g ≥ 0))] (⟨rfl, i.pk []⟩)
theorem c_i_areRoutes (w : World) (c : List Route) (f d) (y : rdS encRoute w c f d) (g : Int) {r : Bool} (hm : M.i_areRoutes c g = some r) :
  Calls Tryz.prog 58 #[SL f c d, iv g] w fun e w' => e = .returned (.bool r) ∧ Mem [] w w' [] := by
 unfold M.i_areRoutes at hm
 refine cE Tryz.func58 ?_
 have M0 := Mem.refl [] w
 refine QA (wN (CE 3 [iv g]) M0 fun h m n => MW 1 (NE (GD hm fun q B A => G_meet (fun a w' => Mem [] w w' [] ∧ Sat Tryz.f58.ntmps [(4, .bool q)] a) ?_ ?_)))
 ·have hm := B
  refine GR (wV (iv g) m (eL false 1 0 (n.blk 0 rfl)) (GD hm fun E C hm => WD (c_i_inside m g 1 2 C) n fun i j => wR 1 [(0, SL f c d), (3, pB h 0), (7, .bool E)] i ?_))
  rcases gx_bif hm with ⟨k, hm⟩ | ⟨k, hm⟩
  ·refine wK 7 true k (wR 5 [(0, SL f c d), (3, pB h 0), (12, .bool ((c.length : Int) == 8))] i ?_)
   rcases gx_bif hm with ⟨l, hm⟩ | ⟨l, hm⟩
   ·refine wK 12 true l (MW 2 (GD hm fun F D hm => WD (c_slices_ContainsFunc_109__i_areRoutes_1 i c f d (y.mem0 j) g h (j.blk 0 (b := h) (o := .cells ⟨[iv g]⟩ 3 (0, 0)) (by kernel_rfl)) D) j fun G v => MW 3 (WN ?_)))
    obtain rfl := HS hm
    exact NM fun a ha => ⟨v.pk [], ha.s⟩
   refine wK 12 false l (MW 6 (WN ?_))
   obtain rfl := HS hm
   exact NM fun a ha => ⟨j.pk [], ha.s⟩
  refine wK 7 false k (wR 11 [(4, .bool false)] i (WN ?_))
  obtain rfl := HS hm
  exact NM fun a ha => ⟨j.pk [], ha.s⟩
 intro H I ⟨x, z⟩
 refine N_use z ?_
 have hm := A
 refine TN (G_ret ?_)
 obtain rfl := HS hm
 exact RA [.bool q] (⟨rfl, x.pk []⟩)
theorem c_i_isMask (w : World) (a : Int) {r : Bool} (hm : M.i_isMask a = some r) :
  Calls Tryz.prog 112 #[iv a] w fun e w' => e = .returned (.bool r) ∧ Mem [] w w' [] := by
 unfold M.i_isMask at hm
 refine cE Tryz.func112 ?_
 have M0 := Mem.refl [] w
 refine QA (MW 1 (NA (MW 1 (GD hm fun b f hm => WD (c_i_inside w a 0 16 f) M0 fun g d => MW 1 (NC ?_)))))
 obtain rfl := HS hm
 exact RA [.bool b] (⟨rfl, d.pk []⟩)
theorem c_i_isIrq (w : World) (a : Int) {r : Bool} (hm : M.i_isIrq a = some r) :
  Calls Tryz.prog 144 #[iv a] w fun e w' => e = .returned (.bool r) ∧ Mem [] w w' [] := by
 unfold M.i_isIrq at hm
 refine cE Tryz.func144 ?_
 have M0 := Mem.refl [] w
 refine QA (MW 1 (NA (MW 1 (GD hm fun b f hm => WD (c_i_inside w a 0 7 f) M0 fun g d => MW 1 (NC ?_)))))
 obtain rfl := HS hm
 exact RA [.bool b] (⟨rfl, d.pk []⟩)
theorem c_i_findSlot_1 (w : World) (b : Slot) (h : Int) (d : Nat) (m : w.heap[d]? = some (CE 3 [iv h])) {r : Bool} (hm : M.i_findSlot_1 b h = some r) :
  Calls Tryz.prog 211 #[.agg #[iv b.State, iv b.Irq, iv b.Priority], pB d 0] w fun e w' => e = .returned (.bool r) ∧ Mem [] w w' [] := by
 unfold M.i_findSlot_1 at hm
 refine cE Tryz.func211 ?_
 have M0 := Mem.refl [] w
 refine QA (wN (CE 117 [iv b.State, iv b.Irq, iv b.Priority]) M0 fun g c f => MW 1 (NE (GD hm fun j o n => G_meet (fun a w' => Mem [] w w' [] ∧ Sat Tryz.f211.ntmps [(3, .bool j)] a) ?_ ?_)))
 ·have hm := o
  refine GR (MW 1 (wV (iv b.State) c (eL false 1 0 (f.blk 0 rfl)) (wR 2 [(1, pB d 0), (2, pB g 0), (7, .bool (b.State != 0))] c ?_)))
  rcases gx_bif hm with ⟨i, hm⟩ | ⟨i, hm⟩
  ·refine wK 7 true i (MW 1 (wV (iv b.Irq) c (eL false 1 1 (f.blk 0 rfl)) (wV (iv h) c (eL false 1 0 (f.ro m)) (MW 3 (WN ?_)))))
   obtain rfl := HS hm
   exact NM fun a ha => ⟨f.pk [], ha.s⟩
  refine wK 7 false i (MW 6 (WN ?_))
  obtain rfl := HS hm
  exact NM fun a ha => ⟨f.pk [], ha.s⟩
 intro q t ⟨k, l⟩
 refine N_use l ?_
 have hm := n
 refine TN (G_ret ?_)
 obtain rfl := HS hm
 exact RA [.bool j] (⟨rfl, k.pk []⟩)
theorem c_slices_IndexFunc_210__i_findSlot_1 (w : World) (b : List Slot) (f g) (o : rdS encSlot w b f g) (m : Int) (d : Nat) (C : w.heap[d]? = some (CE 3 [iv m])) {r : Int} (hm : M.slices_IndexFunc_210__i_findSlot_1 b m = some r) :
  Calls Tryz.prog 210 #[SL f b g, .func (.func 211) #[] #[pB d 0]] w fun e w' => e = .returned (iv r) ∧ Mem [] w w' [] := by
 unfold M.slices_IndexFunc_210__i_findSlot_1 at hm
 refine cE Tryz.func210 ?_
 have M0 := Mem.refl [] w
 refine QA (MW 1 (NB (MW 3 (NO (GD hm fun F E q => G_meet (fun a w' => ∃ (v : Unit), F = .inl v ∧ Mem [] w w' [] ∧ Sat Tryz.f210.ntmps [] a) ?_ ?_)))))
 ·refine GB (G_while (σ := Int) (ρ := (Unit) ⊕ (Int)) (fun c a w' => Mem [] w w' [] ∧ Sat Tryz.f210.ntmps [(0, SL f b g), (1, .func (.func 211) #[] #[pB d 0]), (7, iv (b.length : Int)), (8, iv c)] a) E (fun a ha => ⟨M0.pk [], ha.s⟩) ?_)
  clear hm
  intro c K hm t H i ⟨j, A⟩
  refine G_use A (QA (MW 1 (NE (GT hm (fun k hm => ?_) fun k hm => ?_))))
  ·refine KD (MW 2 (NA (MW 3 (GD hm fun h u hm => wV (elemP f (c.toNat * 3)) i (eI (o.mem0 j) rfl u) (wV (.agg #[iv h.State, iv h.Irq, iv h.Priority]) i (eE true 3 0 (c.toNat * 3) (o.mem0 j) u) (GD hm fun J D hm => WD (c_i_findSlot_1 i h m d (j.ro C) D) j fun x n => NO (GT hm (fun l hm => ?_) fun l hm => ?_)))))))
   ·refine QA (MW 2 (NX ?_))
    obtain rfl := HS hm
    obtain rfl := t _ rfl
    have hm := q; simp only [Sum.elim_inr] at hm
    refine BR (N_meet_ret (TR ?_))
    obtain rfl := HS hm
    exact RA [iv c] (⟨rfl, n.pk []⟩)
   refine KC (MW 2 (WN ?_))
   cases hm
   exact N_loop fun a ha => ⟨_, rfl, n.pk [], ha.s⟩
  refine XA ?_
  obtain rfl := HS hm
  obtain rfl := t _ rfl
  exact NM fun a ha => ⟨_, rfl, j.pk [], ha.s⟩
 intro I G ⟨v, hout_, z, B⟩
 refine N_use B ?_
 subst hout_
 have hm := q; simp only [Sum.elim_inl] at hm
 refine NF (MW 1 (NC ?_))
 cases hm
 exact RA [iv (-1)] (⟨rfl, z.pk []⟩)
theorem c_i_findSlot (w : World) (a : List Slot) (d c) (m : rdS encSlot w a d c) (g : Int) {r : Int} (hm : M.i_findSlot a g = some r) :
  Calls Tryz.prog 165 #[SL d a c, iv g] w fun e w' => e = .returned (iv r) ∧ Mem [] w w' [] := by
 unfold M.i_findSlot at hm
 refine cE Tryz.func165 ?_
 have M0 := Mem.refl [] w
 refine QA (wN (CE 3 [iv g]) M0 fun f i h => MW 1 (NA (MW 2 (GD hm fun j n hm => WD (c_slices_IndexFunc_210__i_findSlot_1 i a d c (m.mem0 h) g f (h.blk 0 (b := f) (o := .cells ⟨[iv g]⟩ 3 (0, 0)) (by kernel_rfl)) n) h fun q l => MW 1 (NC ?_)))))
 obtain rfl := HS hm
 exact RA [iv j] (⟨rfl, l.pk []⟩)
theorem c_i_AreSlots (w : World) (b : List Slot) (d c) (n : rdS encSlot w b d c) {r : Bool} (hm : M.i_AreSlots b = some r) :
  Calls Tryz.prog 195 #[SL d b c] w fun e w' => e = .returned (.bool r) ∧ Mem [] w w' [] := by
 unfold M.i_AreSlots at hm
 refine cE Tryz.func195 ?_
 have M0 := Mem.refl [] w
 refine QA (MW 1 (NB (MW 3 (NO (GT hm (fun v hm => ?_) fun v hm => ?_)))))
 ·refine QA (MW 1 (ND ?_))
  obtain rfl := HS hm
  exact RA [.bool false] (⟨rfl, M0.pk []⟩)
 refine KB (MW 3 (NO (GD hm fun ae ac F => G_meet (fun a w' => ∃ (K : Unit), ae = .inl K ∧ Mem [] w w' [] ∧ Sat Tryz.f195.ntmps [] a) ?_ ?_)))
 ·refine GB (G_while (σ := Int) (ρ := (Unit) ⊕ (Bool)) (fun g a w' => Mem [] w w' [] ∧ Sat Tryz.f195.ntmps [(0, SL d b c), (8, SL d b c), (9, iv (b.length : Int)), (10, iv g)] a) ac (fun a ha => ⟨M0.pk [], ha.s⟩) ?_)
  clear hm
  intro g ao hm G ah t ⟨m, T⟩
  refine G_use T (QA (MW 1 (NE (GT hm (fun x hm => ?_) fun x hm => ?_))))
  ·refine KD (MW 1 (GD hm fun f I hm => wV (elemP d (g.toNat * 3)) t (eI (n.mem0 m) rfl I) (wV (.agg #[iv f.State, iv f.Irq, iv f.Priority]) t (eE true 3 0 (g.toNat * 3) (n.mem0 m) I) (wN (CE 117 [iv 0, iv 0, iv 0]) m fun h af N => MW 1 (wS true 3 0 (.agg #[iv f.State, iv f.Irq, iv f.Priority]) 0 [iv f.State, iv f.Irq, iv f.Priority] N rfl fun i j => NB (MW 1 (wV (iv f.State) i (eL false 1 0 (j.blk 0 rfl)) (MW 1 (NO (GT hm (fun y hm => ?_) fun y hm => ?_))))))))))
   ·refine QB (wV (.agg #[iv f.State, iv f.Irq, iv f.Priority]) i (eL true 3 0 (j.blk 0 rfl)) (MW 1 (wV (.bool (!((f.State == 0) && ((f.Irq == 0) && ((f.Priority == 0) && true))))) i (E_neqAgg _ _ _ _ [iv f.State, iv f.Irq, iv f.Priority] [iv 0, iv 0, iv 0] ((f.State == 0) && ((f.Irq == 0) && ((f.Priority == 0) && true))) rfl (by kernel_rfl) (by kernel_rfl) (by kernel_rfl) (by kernel_rfl) (by kernel_rfl) (by kernel_rfl)) (NO (GT hm (fun z hm => ?_) fun z hm => ?_)))))
    ·refine QA (MW 1 (ND (TR (BR (TR (TR ?_))))))
     obtain rfl := HS hm
     obtain rfl := G _ rfl
     have hm := F; simp only [Sum.elim_inr] at hm
     refine BR (N_meet_ret (TR ?_))
     obtain rfl := HS hm
     exact RA [.bool false] (⟨rfl, j.pk []⟩)
    refine GK (TN (G_exit (TE (N_block_eq (TN (GR (wR 2 [(0, SL d b c), (8, SL d b c), (9, iv (b.length : Int)), (10, iv (w64 (g + 1)))] i (WN ?_))))))))
    cases hm
    exact N_loop fun a ha => ⟨_, rfl, j.pk [], ha.s⟩
   refine GK (TN (GS (GD hm fun ad X W => G_meet (fun a w' => Mem [] w w' [] ∧ Sat Tryz.f195.ntmps [(0, SL d b c), (8, SL d b c), (9, iv (b.length : Int)), (10, iv g), (45, .bool ad)] a) ?_ ?_)))
   ·have hm := X
    refine G_quiet (by kernel_rfl) (by kernel_rfl) j (MZ 1 (zV (iv f.State) (fun w_ M_ => (eL false 1 0 (M_.blk 0 rfl))) (GD hm fun o Y hm => ZC (.bool o) (fun w_ M_ => c_i_inside w_ f.State 1 3 Y) (MS 2 [(0, SL d b c), (3, iv g), (4, pB h 0), (8, SL d b c), (9, iv (b.length : Int)), (10, iv g), (25, .bool (!o))] ?_))))
    rcases gx_bif hm with ⟨A, hm⟩ | ⟨A, hm⟩
    ·refine zK 25 true A (MS 20 [(0, SL d b c), (8, SL d b c), (9, iv (b.length : Int)), (10, iv g), (45, .bool true)] (Z_end fun ak O => ?_))
     obtain rfl := HS hm
     exact NM fun a ha => ⟨O.pk [], ha.s⟩
    refine zK 25 false A (MZ 1 (zV (iv f.Irq) (fun w_ M_ => (eL false 1 1 (M_.blk 0 rfl))) (GD hm fun k Z hm => ZC (.bool k) (fun w_ M_ => c_i_isIrq w_ f.Irq Z) (MS 3 [(0, SL d b c), (3, iv g), (4, pB h 0), (8, SL d b c), (9, iv (b.length : Int)), (10, iv g), (31, .bool (!k))] ?_))))
    rcases gx_bif hm with ⟨B, hm⟩ | ⟨B, hm⟩
    ·refine zK 31 true B (MZ 14 (Z_end fun al P => ?_))
     obtain rfl := HS hm
     exact NM fun a ha => ⟨P.pk [], ha.s⟩
    refine zK 31 false B (MZ 1 (zV (iv f.Priority) (fun w_ M_ => (eL false 1 2 (M_.blk 0 rfl))) (GD hm fun l aa hm => ZC (.bool l) (fun w_ M_ => c_i_isPriority w_ f.Priority aa) (MS 3 [(0, SL d b c), (3, iv g), (4, pB h 0), (8, SL d b c), (9, iv (b.length : Int)), (10, iv g), (37, .bool (!l))] ?_))))
    rcases gx_bif hm with ⟨C, hm⟩ | ⟨C, hm⟩
    ·refine zK 37 true C (MZ 8 (Z_end fun am Q => ?_))
     obtain rfl := HS hm
     exact NM fun a ha => ⟨Q.pk [], ha.s⟩
    refine zK 37 false C (MZ 2 (GD hm fun u J hm => zV (SL (subP d (0 : Int).toNat c 3) u (c - (0 : Int).toNat)) (fun w_ M_ => (E_slice (E := encSlot) _ _ _ _ b.length 0 g rfl (by kernel_rfl) (Or.inl ⟨rfl, rfl⟩) (Or.inr ⟨_, rfl, by kernel_rfl⟩) (by kernel_rfl) (n.mem0 M_) rfl J)) (MZ 1 (zV (iv f.Irq) (fun w_ M_ => (eL false 1 1 (M_.blk 0 rfl))) (GD hm fun q ab hm => ZC (iv q) (fun w_ M_ => c_i_findSlot w_ u (subP d (0 : Int).toNat c 3) (c - (0 : Int).toNat) ((n.mem0 M_).sliceM J) f.Irq ab) (MZ 2 (Z_end fun an R => ?_)))))))
    obtain rfl := HS hm
    exact NM fun a ha => ⟨R.pk [], ha.s⟩
   intro ai L ⟨H, U⟩
   refine N_use U ?_
   have hm := W
   refine TN (GT hm (fun D hm => ?_) fun D hm => ?_)
   ·refine QA (MW 1 (NX ?_))
    obtain rfl := HS hm
    obtain rfl := G _ rfl
    have hm := F; simp only [Sum.elim_inr] at hm
    refine BR (N_meet_ret (TR ?_))
    obtain rfl := HS hm
    exact RA [.bool false] (⟨rfl, H.pk []⟩)
   refine KC (wR 2 [(0, SL d b c), (8, SL d b c), (9, iv (b.length : Int)), (10, iv (w64 (g + 1)))] L (WN ?_))
   cases hm
   exact N_loop fun a ha => ⟨_, rfl, H.pk [], ha.s⟩
  refine XA ?_
  obtain rfl := HS hm
  obtain rfl := G _ rfl
  exact NM fun a ha => ⟨_, rfl, m.pk [], ha.s⟩
 intro aj ag ⟨K, hout_, S, V⟩
 refine N_use V ?_
 subst hout_
 have hm := F; simp only [Sum.elim_inl] at hm
 refine NF (MW 1 (NC ?_))
 obtain rfl := HS hm
 exact RA [.bool true] (⟨rfl, S.pk []⟩)
theorem c_i_waiterIndex_1 (w : World) (a : Waiter) (c : Int) (d : Nat) (h : w.heap[d]? = some (CE 3 [iv c])) {r : Bool} (hm : M.i_waiterIndex_1 a c = some r) :
  Calls Tryz.prog 239 #[.agg #[iv a.Irq, iv a.Priority], pB d 0] w fun e w' => e = .returned (.bool r) ∧ Mem [] w w' [] := by
 unfold M.i_waiterIndex_1 at hm
 refine cE Tryz.func239 ?_
 have M0 := Mem.refl [] w
 refine QA (wN (CE 142 [iv a.Irq, iv a.Priority]) M0 fun g b f => MW 1 (NA (MW 1 (wV (iv a.Irq) b (eL false 1 0 (f.blk 0 rfl)) (wV (iv c) b (eL false 1 0 (f.ro h)) (MW 2 (NC ?_)))))))
 cases hm
 exact RA [.bool (a.Irq == c)] (⟨rfl, f.pk []⟩)
theorem c_slices_IndexFunc_166__i_waiterIndex_1 (w : World) (b : List Waiter) (f g) (o : rdS encWaiter w b f g) (m : Int) (d : Nat) (C : w.heap[d]? = some (CE 3 [iv m])) {r : Int} (hm : M.slices_IndexFunc_166__i_waiterIndex_1 b m = some r) :
  Calls Tryz.prog 166 #[SL f b g, .func (.func 239) #[] #[pB d 0]] w fun e w' => e = .returned (iv r) ∧ Mem [] w w' [] := by
 unfold M.slices_IndexFunc_166__i_waiterIndex_1 at hm
 refine cE Tryz.func166 ?_
 have M0 := Mem.refl [] w
 refine QA (MW 1 (NB (MW 3 (NO (GD hm fun F E q => G_meet (fun a w' => ∃ (v : Unit), F = .inl v ∧ Mem [] w w' [] ∧ Sat Tryz.f166.ntmps [] a) ?_ ?_)))))
 ·refine GB (G_while (σ := Int) (ρ := (Unit) ⊕ (Int)) (fun c a w' => Mem [] w w' [] ∧ Sat Tryz.f166.ntmps [(0, SL f b g), (1, .func (.func 239) #[] #[pB d 0]), (7, iv (b.length : Int)), (8, iv c)] a) E (fun a ha => ⟨M0.pk [], ha.s⟩) ?_)
  clear hm
  intro c K hm t H h ⟨i, A⟩
  refine G_use A (QA (MW 1 (NE (GT hm (fun k hm => ?_) fun k hm => ?_))))
  ·refine KD (MW 2 (NA (MW 3 (GD hm fun j u hm => wV (elemP f (c.toNat * 2)) h (eI (o.mem0 i) rfl u) (wV (.agg #[iv j.Irq, iv j.Priority]) h (eE true 2 0 (c.toNat * 2) (o.mem0 i) u) (GD hm fun J D hm => WD (c_i_waiterIndex_1 h j m d (i.ro C) D) i fun x n => NO (GT hm (fun l hm => ?_) fun l hm => ?_)))))))
   ·refine QA (MW 2 (NX ?_))
    obtain rfl := HS hm
    obtain rfl := t _ rfl
    have hm := q; simp only [Sum.elim_inr] at hm
    refine BR (N_meet_ret (TR ?_))
    obtain rfl := HS hm
    exact RA [iv c] (⟨rfl, n.pk []⟩)
   refine KC (MW 2 (WN ?_))
   cases hm
   exact N_loop fun a ha => ⟨_, rfl, n.pk [], ha.s⟩
  refine XA ?_
  obtain rfl := HS hm
  obtain rfl := t _ rfl
  exact NM fun a ha => ⟨_, rfl, i.pk [], ha.s⟩
 intro I G ⟨v, hout_, z, B⟩
 refine N_use B ?_
 subst hout_
 have hm := q; simp only [Sum.elim_inl] at hm
 refine NF (MW 1 (NC ?_))
 cases hm
 exact RA [iv (-1)] (⟨rfl, z.pk []⟩)
end Go.Proofs.YtllhajkgkghhdaaGreat
set_option linter.unusedVariables false
set_option linter.unusedSimpArgs false
set_option maxRecDepth 100000
set_option maxHeartbeats 4000000
namespace Go.Proofs.YtllhajkgkghhdaaGreat
open Go.Gx
theorem c_i_waiterIndex (w : World) (a : List Waiter) (d c) (m : rdS encWaiter w a d c) (g : Int) {r : Int} (hm : M.i_waiterIndex a g = some r) :
  Calls Tryz.prog 196 #[SL d a c, iv g] w fun e w' => e = .returned (iv r) ∧ Mem [] w w' [] := by
 unfold M.i_waiterIndex at hm
 refine cE Tryz.func196 ?_
 have M0 := Mem.refl [] w
 refine QA (wN (CE 3 [iv g]) M0 fun f i h => MW 1 (NA (MW 2 (GD hm fun j n hm => WD (c_slices_IndexFunc_166__i_waiterIndex_1 i a d c (m.mem0 h) g f (h.blk 0 (b := f) (o := .cells ⟨[iv g]⟩ 3 (0, 0)) (by kernel_rfl)) n) h fun q l => MW 1 (NC ?_)))))
 obtain rfl := HS hm
 exact RA [iv j] (⟨rfl, l.pk []⟩)
theorem c_cmp_isNaN_222 (w : World) (a : Int) {r : Bool} (hm : M.cmp_isNaN_222 a = some r) :
  Calls Tryz.prog 222 #[iv a] w fun e w' => e = .returned (.bool r) ∧ Mem [] w w' [] := by
 unfold M.cmp_isNaN_222 at hm
 refine cE Tryz.func222 ?_
 have M0 := Mem.refl [] w
 refine QA (MW 1 (NA (MW 4 (NC ?_))))
 cases hm
 exact RA [.bool (a != a)] (⟨rfl, M0.pk []⟩)
theorem c_cmp_Compare_170 (w : World) (a : Int) (b : Int) {r : Int} (hm : M.cmp_Compare_170 a b = some r) :
  Calls Tryz.prog 170 #[iv a, iv b] w fun e w' => e = .returned (iv r) ∧ Mem [] w w' [] := by
 unfold M.cmp_Compare_170 at hm
 refine cE Tryz.func170 ?_
 have M0 := Mem.refl [] w
 refine QA (MW 1 (NA (MW 1 (GD hm fun f t hm => WD (c_cmp_isNaN_222 w a t) M0 fun m q => MW 1 (NA (MW 1 (GD hm fun g u hm => WD (c_cmp_isNaN_222 m b u) q fun c d => MW 1 (NB (MW 1 (NO (GT hm (fun h hm => ?_) fun h hm => ?_)))))))))))
 ·refine QB (MW 1 (NO (GT hm (fun i hm => ?_) fun i hm => ?_)))
  ·refine QA (MW 1 (ND (TR ?_)))
   obtain rfl := HS hm
   exact RA [iv 0] (⟨rfl, d.pk []⟩)
  refine KA (MW 1 (ND ?_))
  cases hm
  exact RA [iv (-1)] (⟨rfl, d.pk []⟩)
 refine KB (MW 1 (NO (GT hm (fun j hm => ?_) fun j hm => ?_)))
 ·refine QA (MW 1 (ND ?_))
  obtain rfl := HS hm
  exact RA [iv 1] (⟨rfl, d.pk []⟩)
 refine KB (MW 3 (NO (GT hm (fun k hm => ?_) fun k hm => ?_)))
 ·refine QA (MW 1 (ND ?_))
  cases hm
  exact RA [iv (-1)] (⟨rfl, d.pk []⟩)
 refine KB (wR 3 [(19, .bool (decide (a > b)))] c (NO (GT hm (fun l hm => ?_) fun l hm => ?_)))
 ·refine QA (MW 1 (ND ?_))
  obtain rfl := HS hm
  exact RA [iv 1] (⟨rfl, d.pk []⟩)
 refine KA (MW 1 (NC ?_))
 obtain rfl := HS hm
 exact RA [iv 0] (⟨rfl, d.pk []⟩)
theorem c_cmp_Or_169 (w : World) (b : List Int) (c d) (l : rdS Gx.encI w b c d) {r : Int} (hm : M.cmp_Or_169 b = some r) :
  Calls Tryz.prog 169 #[SL c b d] w fun e w' => e = .returned (iv r) ∧ Mem [] w w' [] := by
 unfold M.cmp_Or_169 at hm
 refine cE Tryz.func169 ?_
 have M0 := Mem.refl [] w
 refine QA (MW 1 (NA (MW 1 (NB (MW 3 (NO (GD hm fun y x m => G_meet (fun a w' => ∃ (q : Unit), y = .inl q ∧ Mem [] w w' [] ∧ Sat Tryz.f169.ntmps [(3, iv 0)] a) ?_ ?_)))))))
 ·refine GB (G_while (σ := Int) (ρ := (Unit) ⊕ (Int)) (fun f a w' => Mem [] w w' [] ∧ Sat Tryz.f169.ntmps [(3, iv 0), (6, SL c b d), (7, iv (b.length : Int)), (8, iv f)] a) x (fun a ha => ⟨M0.pk [], ha.s⟩) ?_)
  clear hm
  intro f C hm n A g ⟨i, u⟩
  refine G_use u (QA (MW 1 (NE (GT hm (fun j hm => ?_) fun j hm => ?_))))
  ·refine KD (GD hm fun h o hm => wV (elemP c (f.toNat * 1)) g (eI (l.mem0 i) rfl o) (wV (iv h) g (eE false 1 0 (f.toNat * 1) (l.mem0 i) o) (MW 1 (NA (MW 3 (NO (GT hm (fun k hm => ?_) fun k hm => ?_)))))))
   ·refine QA (MW 2 (NX ?_))
    obtain rfl := HS hm
    obtain rfl := n _ rfl
    have hm := m; simp only [Sum.elim_inr] at hm
    refine BR (N_meet_ret (TR ?_))
    obtain rfl := HS hm
    exact RA [iv h] (⟨rfl, i.pk []⟩)
   refine KC (MW 2 (WN ?_))
   cases hm
   exact N_loop fun a ha => ⟨_, rfl, i.pk [], ha.s⟩
  refine XA ?_
  obtain rfl := HS hm
  obtain rfl := n _ rfl
  exact NM fun a ha => ⟨_, rfl, i.pk [], ha.s⟩
 intro B z ⟨q, hout_, t, v⟩
 refine N_use v ?_
 subst hout_
 have hm := m; simp only [Sum.elim_inl] at hm
 refine NF (wR 2 [(2, iv 0)] z (NC ?_))
 obtain rfl := HS hm
 exact RA [iv 0] (⟨rfl, t.pk []⟩)
theorem c_i_compareUrgency (w : World) (a : Waiter) (b : Waiter) {r : Int} (hm : M.i_compareUrgency a b = some r) :
  Calls Tryz.prog 129 #[.agg #[iv a.Irq, iv a.Priority], .agg #[iv b.Irq, iv b.Priority]] w fun e w' => e = .returned (iv r) ∧ Mem [] w w' [] := by
 unfold M.i_compareUrgency at hm
 refine cE Tryz.func129 ?_
 have M0 := Mem.refl [] w
 refine QA (wN (CE 142 [iv a.Irq, iv a.Priority]) M0 fun c aj F => wN (CE 142 [iv b.Irq, iv b.Priority]) F fun d W G => MW 1 (NE (GD hm fun l T hm => GU [(2, pB c 0), (3, pB d 0)] (DL 9 [[],[0],[],[2],[1,3],[],[5],[],[7]] (EM 9) (EM 9) (EM 9) (EM 9) (EM 9) (fun _ => []) [QV (pB c 1), QV (iv a.Priority), QV (pB d 1), QV (iv b.Priority), QV (iv l), QV (pB c 0), QV (iv a.Irq), QV (pB d 0), QV (iv b.Irq)] [] [4, 6, 8] [] (G.preNil 9) (AC ?_ (AC ?_ (AC ?_ (AC ?_ (AC ?_ (AC ?_ (AC ?_ (AC ?_ (AC ?_ AN))))))))) ?_))))
 ·intro k g R X H
  exact OM ⟨rfl, rfl⟩ H
 ·rintro k g v0_ ⟨rfl, _⟩ R Y n
  exact OV ⟨rfl, rfl⟩ (eL false 1 1 (n.blk 0 rfl)) n
 ·intro k g R Z I
  exact OM ⟨rfl, rfl⟩ I
 ·rintro k g v2_ ⟨rfl, _⟩ R aa o
  exact OV ⟨rfl, rfl⟩ (eL false 1 1 (o.blk 1 rfl)) o
 ·rintro k g v1_ ⟨rfl, _⟩
  rintro v3_ ⟨rfl, _⟩ R ab J
  refine WC ((c_cmp_Compare_170 ab a.Priority b.Priority T).mono ?_)
  rintro e_ ak ⟨rfl, B⟩
  refine ⟨_, rfl, ?_⟩
  exact WN (oE (iv l) [] ⟨rfl, rfl⟩ (J.call0 B))
 ·intro k g R ac K
  exact OM ⟨rfl, rfl⟩ K
 ·rintro k g v5_ ⟨rfl, _⟩ R ad q
  exact OV ⟨rfl, rfl⟩ (eL false 1 0 (q.blk 0 rfl)) q
 ·intro k g R ae L
  exact OM ⟨rfl, rfl⟩ L
 ·rintro k g v7_ ⟨rfl, _⟩ R af t
  exact OV ⟨rfl, rfl⟩ (eL false 1 0 (t.blk 1 rfl)) t
 rintro k g v4_ ⟨rfl, _⟩
 rintro v6_ ⟨rfl, _⟩
 rintro v8_ ⟨rfl, _⟩ A N
 have O : Mem [] w A [(BK c 142 [iv a.Irq, iv a.Priority]), (BK d 142 [iv b.Irq, iv b.Priority])] := N
 refine GD hm fun m U hm => WD (c_cmp_Compare_170 A a.Irq b.Irq U) O fun al P => wL (E := Gx.encI) [l, m] 2 [iv l, iv m] 3 P fun y x ai ag S u => GD hm fun z V hm => WD (c_cmp_Or_169 ag [l, m] y x (S.r u 2) V) u fun ah Q => MW 1 (NC ?_)
 obtain rfl := HS hm
 exact RA [iv z] (⟨rfl, Q.pk []⟩)
theorem c_i_areParts (w : World) (g : List Slot) (i h) (L : rdS encSlot w g i h) (b : List Waiter) (d c) (l : rdS encWaiter w b d c) {r : Bool} (hm : M.i_areParts g b = some r) :
  Calls Tryz.prog 160 #[SL i g h, SL d b c] w fun e w' => e = .returned (.bool r) ∧ Mem [] w w' [] := by
 unfold M.i_areParts at hm
 refine cE Tryz.func160 ?_
 have M0 := Mem.refl [] w
 refine QA (MW 1 (NB (MW 1 (GD hm fun au aj hm => WD (c_i_AreSlots w g i h (L.mem0 M0) aj) M0 fun I J => MW 1 (NO (GT hm (fun z hm => ?_) fun z hm => ?_))))))
 ·refine QA (MW 1 (ND ?_))
  obtain rfl := HS hm
  exact RA [.bool false] (⟨rfl, J.pk []⟩)
 refine KB (MW 3 (NO (GD hm fun ar ap N => G_meet (fun a w' => ∃ (S : Unit), ar = .inl S ∧ Mem [] w w' [] ∧ Sat Tryz.f160.ntmps [] a) ?_ ?_)))
 ·refine GB (G_while (σ := Int) (ρ := (Unit) ⊕ (Bool)) (fun f a w' => Mem [] w w' [] ∧ Sat Tryz.f160.ntmps [(0, SL i g h), (1, SL d b c), (10, SL d b c), (11, iv (b.length : Int)), (12, iv f)] a) ap (fun a ha => ⟨J.pk [], ha.s⟩) ?_)
  clear hm
  intro f a9 hm O ax x ⟨u, ae⟩
  refine G_use ae (QA (MW 1 (NE (GT hm (fun A hm => ?_) fun A hm => ?_))))
  ·refine KD (MW 1 (GD hm fun j P hm => wV (elemP d (f.toNat * 2)) x (eI (l.mem0 u) rfl P) (wV (.agg #[iv j.Irq, iv j.Priority]) x (eE true 2 0 (f.toNat * 2) (l.mem0 u) P) (wN (CE 142 [iv 0, iv 0]) u fun k av V => MW 1 (wS true 2 0 (.agg #[iv j.Irq, iv j.Priority]) 0 [iv j.Irq, iv j.Priority] V rfl fun a0 W => NE (GD hm fun aq ai ah => G_meet (fun a w' => Mem [] w w' [] ∧ Sat Tryz.f160.ntmps [(0, SL i g h), (1, SL d b c), (10, SL d b c), (11, iv (b.length : Int)), (12, iv f), (56, .bool aq)] a) ?_ ?_))))))
   ·have hm := ai
    refine G_quiet (by kernel_rfl) (by kernel_rfl) W (MZ 1 (zV (iv j.Irq) (fun w_ M_ => (eL false 1 0 (M_.blk 0 rfl))) (GD hm fun v ak hm => ZC (.bool v) (fun w_ M_ => c_i_isIrq w_ j.Irq ak) (MS 2 [(0, SL i g h), (1, SL d b c), (5, iv f), (6, pB k 0), (10, SL d b c), (11, iv (b.length : Int)), (12, iv f), (21, .bool (!v))] ?_))))
    rcases gx_bif hm with ⟨B, hm⟩ | ⟨B, hm⟩
    ·refine zK 21 true B (MS 35 [(0, SL i g h), (1, SL d b c), (10, SL d b c), (11, iv (b.length : Int)), (12, iv f), (56, .bool true)] (Z_end fun a3 X => ?_))
     obtain rfl := HS hm
     exact NM fun a ha => ⟨X.pk [], ha.s⟩
    refine zK 21 false B (MZ 1 (zV (iv j.Priority) (fun w_ M_ => (eL false 1 1 (M_.blk 0 rfl))) (GD hm fun m al hm => ZC (.bool m) (fun w_ M_ => c_i_isPriority w_ j.Priority al) (MS 3 [(0, SL i g h), (1, SL d b c), (5, iv f), (6, pB k 0), (10, SL d b c), (11, iv (b.length : Int)), (12, iv f), (27, .bool (!m))] ?_))))
    rcases gx_bif hm with ⟨C, hm⟩ | ⟨C, hm⟩
    ·refine zK 27 true C (MS 29 [(0, SL i g h), (1, SL d b c), (10, SL d b c), (11, iv (b.length : Int)), (12, iv f), (56, .bool true)] (Z_end fun a4 Y => ?_))
     obtain rfl := HS hm
     exact NM fun a ha => ⟨Y.pk [], ha.s⟩
    refine zK 27 false C (MZ 2 (zV (iv j.Irq) (fun w_ M_ => (eL false 1 0 (M_.blk 0 rfl))) (GD hm fun n am hm => ZC (iv n) (fun w_ M_ => c_i_findSlot w_ g i h (L.mem0 M_) j.Irq am) (MS 3 [(0, SL i g h), (1, SL d b c), (5, iv f), (6, pB k 0), (10, SL d b c), (11, iv (b.length : Int)), (12, iv f), (34, .bool (decide (n ≥ 0)))] ?_))))
    rcases gx_bif hm with ⟨D, hm⟩ | ⟨D, hm⟩
    ·refine zK 34 true D (MS 22 [(0, SL i g h), (1, SL d b c), (10, SL d b c), (11, iv (b.length : Int)), (12, iv f), (56, .bool true)] (Z_end fun a5 Z => ?_))
     obtain rfl := HS hm
     exact NM fun a ha => ⟨Z.pk [], ha.s⟩
    refine zK 34 false D (MZ 2 (GD hm fun y R hm => zV (SL (subP d (0 : Int).toNat c 2) y (c - (0 : Int).toNat)) (fun w_ M_ => (E_slice (E := encWaiter) _ _ _ _ b.length 0 f rfl (by kernel_rfl) (Or.inl ⟨rfl, rfl⟩) (Or.inr ⟨_, rfl, by kernel_rfl⟩) (by kernel_rfl) (l.mem0 M_) rfl R)) (MZ 1 (zV (iv j.Irq) (fun w_ M_ => (eL false 1 0 (M_.blk 0 rfl))) (GD hm fun o an hm => ZC (iv o) (fun w_ M_ => c_i_waiterIndex w_ y (subP d (0 : Int).toNat c 2) (c - (0 : Int).toNat) ((l.mem0 M_).sliceM R) j.Irq an) (MS 3 [(0, SL i g h), (1, SL d b c), (5, iv f), (6, pB k 0), (10, SL d b c), (11, iv (b.length : Int)), (12, iv f), (43, .bool (decide (o ≥ 0)))] ?_))))))
    rcases gx_bif hm with ⟨F, hm⟩ | ⟨F, hm⟩
    ·refine zK 43 true F (MZ 13 (Z_end fun a6 aa => ?_))
     obtain rfl := HS hm
     exact NM fun a ha => ⟨aa.pk [], ha.s⟩
    refine zK 43 false F (MS 3 [(0, SL i g h), (1, SL d b c), (5, iv f), (6, pB k 0), (10, SL d b c), (11, iv (b.length : Int)), (12, iv f), (43, .bool false), (46, .bool (decide (f > 0)))] ?_)
    rcases gx_bif hm with ⟨G, hm⟩ | ⟨G, hm⟩
    ·refine zK 46 true G (MZ 3 (GD hm fun t Q hm => zV (elemP d ((w64 (f - 1)).toNat * 2)) (fun w_ M_ => (eI (l.mem0 M_) rfl Q)) (zV (.agg #[iv t.Irq, iv t.Priority]) (fun w_ M_ => (eE true 2 0 ((w64 (f - 1)).toNat * 2) (l.mem0 M_) Q)) (zV (.agg #[iv j.Irq, iv j.Priority]) (fun w_ M_ => (eL true 2 0 (M_.blk 0 rfl))) (GD hm fun q ao hm => ZC (iv q) (fun w_ M_ => c_i_compareUrgency w_ t j ao) (MZ 3 (Z_end fun a7 ab => ?_)))))))
     obtain rfl := HS hm
     exact NM fun a ha => ⟨ab.pk [], ha.s⟩
    refine zK 46 false G (MS 10 [(0, SL i g h), (1, SL d b c), (10, SL d b c), (11, iv (b.length : Int)), (12, iv f), (56, .bool false)] (Z_end fun a8 ac => ?_))
    obtain rfl := HS hm
    exact NM fun a ha => ⟨ac.pk [], ha.s⟩
   intro ay T ⟨K, af⟩
   refine N_use af ?_
   have hm := ah
   refine TN (GT hm (fun H hm => ?_) fun H hm => ?_)
   ·refine QA (MW 1 (NX ?_))
    obtain rfl := HS hm
    obtain rfl := O _ rfl
    have hm := N; simp only [Sum.elim_inr] at hm
    refine BR (N_meet_ret (TR ?_))
    obtain rfl := HS hm
    exact RA [.bool false] (⟨rfl, K.pk []⟩)
   refine KC (MW 2 (WN ?_))
   cases hm
   exact N_loop fun a ha => ⟨_, rfl, K.pk [], ha.s⟩
  refine XA ?_
  obtain rfl := HS hm
  obtain rfl := O _ rfl
  exact NM fun a ha => ⟨_, rfl, u.pk [], ha.s⟩
 intro az aw ⟨S, hout_, ad, ag⟩
 refine N_use ag ?_
 subst hout_
 have hm := N; simp only [Sum.elim_inl] at hm
 refine NF (MW 1 (NC ?_))
 obtain rfl := HS hm
 exact RA [.bool true] (⟨rfl, ad.pk []⟩)
theorem c_i_waiterOf (w : World) (a : Slot) {r : Waiter} (hm : M.i_waiterOf a = some r) :
  Calls Tryz.prog 119 #[.agg #[iv a.State, iv a.Irq, iv a.Priority]] w fun e w' => e = .returned (.agg #[iv r.Irq, iv r.Priority]) ∧ Mem [] w w' [] := by
 unfold M.i_waiterOf at hm
 refine cE Tryz.func119 ?_
 have M0 := Mem.refl [] w
 refine QA (wN (CE 117 [iv a.State, iv a.Irq, iv a.Priority]) M0 fun h l j => wN (CE 142 [iv 0, iv 0]) j fun c d f => NA (MW 1 (wV (iv a.Irq) d (eL false 1 1 (f.blk 0 rfl)) (MW 1 (wV (iv a.Priority) d (eL false 1 2 (f.blk 0 rfl)) (MW 1 (wS true 2 0 (.agg #[iv a.Irq, iv a.Priority]) 1 [iv a.Irq, iv a.Priority] f rfl fun m i => NC ?_)))))))
 obtain rfl := HS hm
 exact N_ret [.agg #[iv a.Irq, iv a.Priority]] (RX true 2 0 (i.blk 1 rfl) RVs_nil) (⟨rfl, i.pk []⟩)
theorem c_i_pendingSlot (w : World) (b : List Slot) (d f) (o : rdS encSlot w b d f) (g : Bool) {r : Int} (hm : M.i_pendingSlot b g = some r) :
  Calls Tryz.prog 197 #[SL d b f, .bool g] w fun e w' => e = .returned (iv r) ∧ Mem [] w w' [] := by
 unfold M.i_pendingSlot at hm
 refine cE Tryz.func197 ?_
 have M0 := Mem.refl [] w
 refine QA (MW 1 (NA (MW 1 (NB (MW 3 (NO (GD hm fun y Y R => G_meet (fun a w' => Mem [] w w' [] ∧ Sat Tryz.f197.ntmps [(5, iv y)] a) ?_ ?_)))))))
 ·refine GB (G_while (σ := Int × Int) (ρ := Int) (fun c a w' => Mem [] w w' [] ∧ Sat Tryz.f197.ntmps [(0, SL d b f), (1, .bool g), (5, iv c.1), (8, SL d b f), (9, iv (b.length : Int)), (10, iv c.2)] a) Y (fun a ha => ⟨M0.pk [], ha.s⟩) ?_)
  clear hm
  intro c am hm U ae q ⟨n, K⟩
  refine G_use K (QA (MW 1 (NE (GT hm (fun t hm => ?_) fun t hm => ?_))))
  ·refine KD (MW 1 (GD hm fun h A hm => wV (elemP d (c.2.toNat * 3)) q (eI (o.mem0 n) rfl A) (wV (.agg #[iv h.State, iv h.Irq, iv h.Priority]) q (eE true 3 0 (c.2.toNat * 3) (o.mem0 n) A) (wN (CE 117 [iv 0, iv 0, iv 0]) n fun k aa D => MW 1 (wS true 3 0 (.agg #[iv h.State, iv h.Irq, iv h.Priority]) 0 [iv h.State, iv h.Irq, iv h.Priority] D rfl fun ai E => NE (GD hm fun Z S P => G_meet (fun a w' => Mem [] w w' [] ∧ Sat Tryz.f197.ntmps [(0, SL d b f), (1, .bool g), (5, iv c.1), (6, iv c.2), (8, SL d b f), (9, iv (b.length : Int)), (10, iv c.2), (34, .bool Z)] a) ?_ ?_))))))
   ·have hm := S
    refine G_quiet (by kernel_rfl) (by kernel_rfl) E (MZ 1 (zV (iv h.State) (fun w_ M_ => (eL false 1 0 (M_.blk 0 rfl))) (MS 2 [(0, SL d b f), (1, .bool g), (5, iv c.1), (6, iv c.2), (7, pB k 0), (8, SL d b f), (9, iv (b.length : Int)), (10, iv c.2), (18, .bool (h.State == 1))] ?_)))
    rcases gx_bif hm with ⟨u, hm⟩ | ⟨u, hm⟩
    ·refine zK 18 true u (MS 3 [(0, SL d b f), (1, .bool g), (5, iv c.1), (6, iv c.2), (7, pB k 0), (8, SL d b f), (9, iv (b.length : Int)), (10, iv c.2), (18, .bool true), (21, .bool (decide (c.1 < 0)))] ?_)
     rcases gx_bif hm with ⟨v, hm⟩ | ⟨v, hm⟩
     ·refine zK 21 true v (MZ 13 (Z_end fun aj F => ?_))
      obtain rfl := HS hm
      exact NM fun a ha => ⟨F.pk [], ha.s⟩
     refine zK 21 false v (zV (.agg #[iv h.State, iv h.Irq, iv h.Priority]) (fun w_ M_ => (eL true 3 0 (M_.blk 0 rfl))) (GD hm fun i V hm => ZC (.agg #[iv i.Irq, iv i.Priority]) (fun w_ M_ => c_i_waiterOf w_ h V) (MZ 2 (GD hm fun j B hm => zV (elemP d (c.1.toNat * 3)) (fun w_ M_ => (eI (o.mem0 M_) rfl B)) (zV (.agg #[iv j.State, iv j.Irq, iv j.Priority]) (fun w_ M_ => (eE true 3 0 (c.1.toNat * 3) (o.mem0 M_) B)) (GD hm fun m W hm => ZC (.agg #[iv m.Irq, iv m.Priority]) (fun w_ M_ => c_i_waiterOf w_ j W) (GD hm fun l X hm => ZC (iv l) (fun w_ M_ => c_i_compareUrgency w_ i m X) (MS 5 [(0, SL d b f), (1, .bool g), (5, iv c.1), (6, iv c.2), (8, SL d b f), (9, iv (b.length : Int)), (10, iv c.2), (34, .bool ((decide (l < 0)) == g))] (Z_end fun ak G => ?_)))))))))
     obtain rfl := HS hm
     exact NM fun a ha => ⟨G.pk [], ha.s⟩
    refine zK 18 false u (MS 16 [(0, SL d b f), (1, .bool g), (5, iv c.1), (6, iv c.2), (8, SL d b f), (9, iv (b.length : Int)), (10, iv c.2), (34, .bool false)] (Z_end fun al H => ?_))
    obtain rfl := HS hm
    exact NM fun a ha => ⟨H.pk [], ha.s⟩
   intro af ab ⟨z, L⟩
   refine N_use L ?_
   have hm := P
   refine TN (GD hm fun C T Q => G_meet (fun a w' => Mem [] w w' [] ∧ Sat Tryz.f197.ntmps [(0, SL d b f), (1, .bool g), (5, iv C), (8, SL d b f), (9, iv (b.length : Int)), (10, iv c.2)] a) ?_ ?_)
   ·have hm := T
    refine GT hm (fun x hm => ?_) fun x hm => ?_
    ·refine GR (MW 2 (WN ?_))
     obtain rfl := HS hm
     exact NM fun a ha => ⟨z.pk [], ha.s⟩
    refine GK ?_
    obtain rfl := HS hm
    exact NM fun a ha => ⟨z.pk [], ha.s⟩
   intro ag ac ⟨I, N⟩
   refine N_use N ?_
   have hm := Q
   refine BN (TN (GR (MW 2 (WN ?_))))
   cases hm
   exact N_loop fun a ha => ⟨_, rfl, I.pk [], ha.s⟩
  refine XA ?_
  obtain rfl := HS hm
  obtain rfl := U _ rfl
  exact NM fun a ha => ⟨n.pk [], ha.s⟩
 intro ah ad ⟨J, O⟩
 refine N_use O ?_
 have hm := R
 refine NF (MW 2 (NC ?_))
 obtain rfl := HS hm
 exact RA [iv y] (⟨rfl, J.pk []⟩)
theorem c_i_firstEmpty_1 (w : World) (a : Slot) {r : Bool} (hm : M.i_firstEmpty_1 a = some r) :
  Calls Tryz.prog 240 #[.agg #[iv a.State, iv a.Irq, iv a.Priority]] w fun e w' => e = .returned (.bool r) ∧ Mem [] w w' [] := by
 unfold M.i_firstEmpty_1 at hm
 refine cE Tryz.func240 ?_
 have M0 := Mem.refl [] w
 refine QA (wN (CE 117 [iv a.State, iv a.Irq, iv a.Priority]) M0 fun d b c => MW 1 (NA (MW 1 (wV (iv a.State) b (eL false 1 0 (c.blk 0 rfl)) (MW 2 (NC ?_))))))
 cases hm
 exact RA [.bool (a.State == 0)] (⟨rfl, c.pk []⟩)
theorem c_slices_IndexFunc_210__i_firstEmpty_1 (w : World) (b : List Slot) (d f) (m : rdS encSlot w b d f) {r : Int} (hm : M.slices_IndexFunc_210__i_firstEmpty_1 b = some r) :
  Calls Tryz.prog 210 #[SL d b f, .func (.func 240) #[] #[]] w fun e w' => e = .returned (iv r) ∧ Mem [] w w' [] := by
 unfold M.slices_IndexFunc_210__i_firstEmpty_1 at hm
 refine cE Tryz.func210 ?_
 have M0 := Mem.refl [] w
 refine QA (MW 1 (NB (MW 3 (NO (GD hm fun C B n => G_meet (fun a w' => ∃ (t : Unit), C = .inl t ∧ Mem [] w w' [] ∧ Sat Tryz.f210.ntmps [] a) ?_ ?_)))))
 ·refine GB (G_while (σ := Int) (ρ := (Unit) ⊕ (Int)) (fun c a w' => Mem [] w w' [] ∧ Sat Tryz.f210.ntmps [(0, SL d b f), (1, .func (.func 240) #[] #[]), (7, iv (b.length : Int)), (8, iv c)] a) B (fun a ha => ⟨M0.pk [], ha.s⟩) ?_)
  clear hm
  intro c H hm o E h ⟨i, y⟩
  refine G_use y (QA (MW 1 (NE (GT hm (fun j hm => ?_) fun j hm => ?_))))
  ·refine KD (MW 2 (NA (MW 3 (GD hm fun g q hm => wV (elemP d (c.toNat * 3)) h (eI (m.mem0 i) rfl q) (wV (.agg #[iv g.State, iv g.Irq, iv g.Priority]) h (eE true 3 0 (c.toNat * 3) (m.mem0 i) q) (GD hm fun G A hm => WD (c_i_firstEmpty_1 h g A) i fun u l => NO (GT hm (fun k hm => ?_) fun k hm => ?_)))))))
   ·refine QA (MW 2 (NX ?_))
    obtain rfl := HS hm
    obtain rfl := o _ rfl
    have hm := n; simp only [Sum.elim_inr] at hm
    refine BR (N_meet_ret (TR ?_))
    obtain rfl := HS hm
    exact RA [iv c] (⟨rfl, l.pk []⟩)
   refine KC (MW 2 (WN ?_))
   cases hm
   exact N_loop fun a ha => ⟨_, rfl, l.pk [], ha.s⟩
  refine XA ?_
  obtain rfl := HS hm
  obtain rfl := o _ rfl
  exact NM fun a ha => ⟨_, rfl, i.pk [], ha.s⟩
 intro F D ⟨t, hout_, x, z⟩
 refine N_use z ?_
 subst hout_
 have hm := n; simp only [Sum.elim_inl] at hm
 refine NF (MW 1 (NC ?_))
 cases hm
 exact RA [iv (-1)] (⟨rfl, x.pk []⟩)
theorem c_i_firstEmpty (w : World) (a : List Slot) (c b) (h : rdS encSlot w a c b) {r : Int} (hm : M.i_firstEmpty a = some r) :
  Calls Tryz.prog 198 #[SL c a b] w fun e w' => e = .returned (iv r) ∧ Mem [] w w' [] := by
 unfold M.i_firstEmpty at hm
 refine cE Tryz.func198 ?_
 have M0 := Mem.refl [] w
 refine QA (MW 1 (NA (MW 1 (GD hm fun d i hm => WD (c_slices_IndexFunc_210__i_firstEmpty_1 w a c b (h.mem0 M0) i) M0 fun j g => MW 1 (NC ?_)))))
 obtain rfl := HS hm
 exact RA [iv d] (⟨rfl, g.pk []⟩)
theorem c_i_isSettled (w : World) (b : Queue) (f g) (q : rdS encSlot w b.Slots f g) (k n) (y : rdS encWaiter w b.Waiting k n) {r : Bool} (hm : M.i_isSettled b = some r) :
  Calls Tryz.prog 161 #[.agg #[SL f b.Slots g, SL k b.Waiting n]] w fun e w' => e = .returned (.bool r) ∧ Mem [] w w' [] := by
 unfold M.i_isSettled at hm
 refine cE Tryz.func161 ?_
 have M0 := Mem.refl [] w
 refine QA (wN (CE 85 [SL f b.Slots g, SL k b.Waiting n]) M0 fun c i m => MW 1 (NB (MW 1 (wV (SL k b.Waiting n) i (eL false 1 1 (m.blk 0 rfl)) (MW 2 (NO (GT hm (fun u hm => ?_) fun u hm => ?_)))))))
 ·refine QA (MW 1 (ND ?_))
  obtain rfl := HS hm
  exact RA [.bool true] (⟨rfl, m.pk []⟩)
 refine KA (MW 1 (wV (SL f b.Slots g) i (eL false 1 0 (m.blk 0 rfl)) (GD hm fun d L hm => WD (c_i_pendingSlot i b.Slots f g (q.mem0 m) false L) m fun Q D => MW 1 (NE (GD hm fun B K J => G_meet (fun a w' => Mem [] w w' [] ∧ Sat Tryz.f161.ntmps [(2, .bool B)] a) ?_ ?_)))))
 ·have hm := K
  refine G_quiet (by kernel_rfl) (by kernel_rfl) D (MZ 1 (zV (SL f b.Slots g) (fun w_ M_ => (eL false 1 0 (M_.blk 0 rfl))) (GD hm fun t N hm => ZC (iv t) (fun w_ M_ => c_i_firstEmpty w_ b.Slots f g (q.mem0 M_) N) (MS 2 [(1, pB c 0), (3, iv d), (15, .bool (decide (t < 0)))] ?_))))
  rcases gx_bif hm with ⟨v, hm⟩ | ⟨v, hm⟩
  ·refine zK 15 true v (MS 3 [(1, pB c 0), (3, iv d), (15, .bool true), (18, .bool (decide (d < 0)))] ?_)
   rcases gx_bif hm with ⟨x, hm⟩ | ⟨x, hm⟩
   ·refine zK 18 true x (MZ 15 (Z_end fun S E => ?_))
    obtain rfl := HS hm
    exact NM fun a ha => ⟨E.pk [], ha.s⟩
   refine zK 18 false x (MZ 1 (zV (SL k b.Waiting n) (fun w_ M_ => (eL false 1 1 (M_.blk 0 rfl))) (GD hm fun h z hm => zV (elemP k ((0 : Int).toNat * 2)) (fun w_ M_ => (eI (y.mem0 M_) rfl z)) (zV (.agg #[iv h.Irq, iv h.Priority]) (fun w_ M_ => (eE true 2 0 ((0 : Int).toNat * 2) (y.mem0 M_) z)) (MZ 1 (zV (SL f b.Slots g) (fun w_ M_ => (eL false 1 0 (M_.blk 0 rfl))) (MZ 1 (GD hm fun j A hm => zV (elemP f (d.toNat * 3)) (fun w_ M_ => (eI (q.mem0 M_) rfl A)) (zV (.agg #[iv j.State, iv j.Irq, iv j.Priority]) (fun w_ M_ => (eE true 3 0 (d.toNat * 3) (q.mem0 M_) A)) (GD hm fun o O hm => ZC (.agg #[iv o.Irq, iv o.Priority]) (fun w_ M_ => c_i_waiterOf w_ j O) (GD hm fun l P hm => ZC (iv l) (fun w_ M_ => c_i_compareUrgency w_ h o P) (MS 4 [(2, .bool (decide (l > 0)))] (Z_end fun T F => ?_)))))))))))))
   obtain rfl := HS hm
   exact NM fun a ha => ⟨F.pk [], ha.s⟩
  refine zK 15 false v (MS 18 [(2, .bool false)] (Z_end fun U G => ?_))
  obtain rfl := HS hm
  exact NM fun a ha => ⟨G.pk [], ha.s⟩
 intro R V ⟨H, I⟩
 refine N_use I ?_
 have hm := J
 refine TN (G_ret ?_)
 obtain rfl := HS hm
 exact RA [.bool B] (⟨rfl, H.pk []⟩)
theorem c_i_IsQueue (w : World) (b : Queue) (d c) (n : rdS encSlot w b.Slots d c) (g f) (o : rdS encWaiter w b.Waiting g f) {r : Bool} (hm : M.i_IsQueue b = some r) :
  Calls Tryz.prog 113 #[.agg #[SL d b.Slots c, SL g b.Waiting f]] w fun e w' => e = .returned (.bool r) ∧ Mem [] w w' [] := by
 unfold M.i_IsQueue at hm
 refine cE Tryz.func113 ?_
 have M0 := Mem.refl [] w
 refine QA (wN (CE 85 [SL d b.Slots c, SL g b.Waiting f]) M0 fun h i j => MW 1 (NE (GD hm fun q A z => G_meet (fun a w' => Mem [] w w' [] ∧ Sat Tryz.f113.ntmps [(2, .bool q)] a) ?_ ?_)))
 ·have hm := A
  refine GR (MW 1 (wV (SL d b.Slots c) i (eL false 1 0 (j.blk 0 rfl)) (MW 1 (wV (SL g b.Waiting f) i (eL false 1 1 (j.blk 0 rfl)) (GD hm fun D B hm => WD (c_i_areParts i b.Slots d c (n.mem0 j) b.Waiting g f (o.mem0 j) B) j fun l k => wR 1 [(1, pB h 0), (8, .bool D)] l ?_)))))
  rcases gx_bif hm with ⟨m, hm⟩ | ⟨m, hm⟩
  ·refine wK 8 true m (wV (.agg #[SL d b.Slots c, SL g b.Waiting f]) l (eL true 2 0 (k.blk 0 rfl)) (GD hm fun E C hm => WD (c_i_isSettled l b d c (n.mem0 k) g f (o.mem0 k) C) k fun F v => MW 2 (WN ?_)))
   obtain rfl := HS hm
   exact NM fun a ha => ⟨v.pk [], ha.s⟩
  refine wK 8 false m (MW 4 (WN ?_))
  obtain rfl := HS hm
  exact NM fun a ha => ⟨k.pk [], ha.s⟩
 intro G H ⟨x, y⟩
 refine N_use y ?_
 have hm := z
 refine TN (G_ret ?_)
 obtain rfl := HS hm
 exact RA [.bool q] (⟨rfl, x.pk []⟩)
theorem c_i_copyInts (w : World) (a : List Int) (c b) (n : rdS Gx.encI w a c b) {r : (List Int)} (hm : M.i_copyInts a = some r) :
  Calls Tryz.prog 67 #[SL c a b] w fun e w' => ∃ j i k, e = .returned (SL j r i) ∧ ownS Gx.encI r j i k ∧ Mem [] w w' [k] := by
 unfold M.i_copyInts at hm
 refine cE Tryz.func67 ?_
 have M0 := Mem.refl [] w
 refine QA (MW 1 (NA (wL (E := Gx.encI) ([] : List Int) 0 [] 3 M0 fun u m z x q g => MW 1 (GD hm fun h o hm => wA 8 [iv 0] 0 g q (n.mem0 g) o fun f d v y t l => MW 1 (NC ?_)))))
 obtain rfl := HS hm
 exact RA [SL f h d] (⟨f, d, v, rfl, t, l.pk [0]⟩)
theorem c_slices_Sort_114 (w : World) (b : List Int) (d c a) (g : ownS Gx.encI b d c a) (hA : ∀ q ∈ List.flatten [a], w.heap[q.1]? = some q.2) (hN : (idsOf [a]).Nodup) {r : (List Int)} (hm : M.slices_Sort_114 b = some r) :
  Calls Tryz.prog 114 #[SL d b c] w fun e w' => ∃ f, e = .returned (.tuple #[]) ∧ ownS Gx.encI r d c f ∧ r.length = b.length ∧ Mem (idsOf [a]) w w' [f] := by
 unfold M.slices_Sort_114 at hm
 rcases gx_bif hm with ⟨h, hm⟩ | ⟨h, hm⟩
 ·obtain rfl := HS hm
  exact sortI_run Tryz.slices_Sort_int Tryz.slices_Sort_int_none w b d c a g hA hN (of_decide_eq_true h)
 cases hm
theorem c_i_isActive (w : World) (b : Slot) {r : Bool} (hm : M.i_isActive b = some r) :
  Calls Tryz.prog 164 #[.agg #[iv b.State, iv b.Irq, iv b.Priority]] w fun e w' => e = .returned (.bool r) ∧ Mem [] w w' [] := by
 unfold M.i_isActive at hm
 refine cE Tryz.func164 ?_
 have M0 := Mem.refl [] w
 refine QA (wN (CE 117 [iv b.State, iv b.Irq, iv b.Priority]) M0 fun d c f => MW 1 (NE (GD hm fun h l k => G_meet (fun a w' => Mem [] w w' [] ∧ Sat Tryz.f164.ntmps [(2, .bool h)] a) ?_ ?_)))
 ·have hm := l
  refine GR (MW 1 (wV (iv b.State) c (eL false 1 0 (f.blk 0 rfl)) (wR 2 [(1, pB d 0), (6, .bool (b.State == 2))] c ?_)))
  rcases gx_bif hm with ⟨g, hm⟩ | ⟨g, hm⟩
  ·refine wK 6 true g (MW 5 (WN ?_))
   obtain rfl := HS hm
   exact NM fun a ha => ⟨f.pk [], ha.s⟩
  refine wK 6 false g (MW 1 (wV (iv b.State) c (eL false 1 0 (f.blk 0 rfl)) (MW 3 (WN ?_))))
  obtain rfl := HS hm
  exact NM fun a ha => ⟨f.pk [], ha.s⟩
 intro m n ⟨i, j⟩
 refine N_use j ?_
 have hm := k
 refine TN (G_ret ?_)
 obtain rfl := HS hm
 exact RA [.bool h] (⟨rfl, i.pk []⟩)
theorem c_i_activeIrqs (w : World) (b : List Slot) (h i) (N : rdS encSlot w b h i) {r : (List Int)} (hm : M.i_activeIrqs b = some r) :
  Calls Tryz.prog 116 #[SL h b i] w fun e w' => ∃ P K R, e = .returned (SL P r K) ∧ ownS Gx.encI r P K R ∧ Mem [] w w' [R] := by
 unfold M.i_activeIrqs at hm
 refine cE Tryz.func116 ?_
 have M0 := Mem.refl [] w
 refine QA (MW 1 (NA (wL (E := Gx.encI) ([] : List Int) 0 [] 3 M0 fun G A ay S al Y => MW 1 (NB (MW 3 (NO (GD hm fun k ax ak => G_meet (fun a w' => ∃ g f v, ownS Gx.encI k g f v ∧ Mem [] w w' [v] ∧ Sat Tryz.f116.ntmps [(3, SL g k f)] a) ?_ ?_)))))))
 ·refine GB (G_while (σ := List Int × Int) (ρ := List Int) (fun d a w' => ∃ l j o, ownS Gx.encI d.1 l j o ∧ Mem [] w w' [o] ∧ Sat Tryz.f116.ntmps [(3, SL l d.1 j), (7, SL h b i), (8, iv (b.length : Int)), (9, iv d.2)] a) ax (fun a ha => ⟨G, A, ay, al, Y.pk [0], ha.s⟩) ?_)
  clear hm
  intro d bf hm au a6 H ⟨l, j, o, D, q, af⟩
  refine G_use af (QA (MW 1 (NE (GT hm (fun B hm => ?_) fun B hm => ?_))))
  ·refine KD (GD hm fun c O hm => wV (elemP h (d.2.toNat * 3)) H (eI (N.mem0 q) rfl O) (wV (.agg #[iv c.State, iv c.Irq, iv c.Priority]) H (eE true 3 0 (d.2.toNat * 3) (N.mem0 q) O) (wN (CE 117 [iv 0, iv 0, iv 0]) q fun ae bd Z => wS true 3 0 (.agg #[iv c.State, iv c.Irq, iv c.Priority]) 1 [iv c.State, iv c.Irq, iv c.Priority] Z rfl fun T I => NA (wV (.agg #[iv c.State, iv c.Irq, iv c.Priority]) T (eL true 3 0 (I.blk 1 rfl)) (GD hm fun bb av hm => WD (c_i_isActive T c av) I fun U y => NO (GD hm fun F an aj => G_meet (fun a w' => ∃ n m x, ownS Gx.encI F n m x ∧ Mem [] w w' [x] ∧ Sat Tryz.f116.ntmps [(3, SL n F m), (7, SL h b i), (8, iv (b.length : Int)), (9, iv d.2)] a) ?_ ?_))))))
   ·have hm := an
    refine GT hm (fun C hm => ?_) fun C hm => ?_
    ·refine GR (MW 2 (wV (iv c.Irq) U (eL false 1 1 (y.blk 1 rfl)) (wL (E := Gx.encI) [c.Irq] 1 [iv c.Irq] 3 y fun ba a9 bc be ap J => GD hm fun ad ai hm => wA 8 [iv 0] 0 J D (ap.r J 2) ai fun Q L az a3 aq aa => MW 1 (WN ?_))))
     obtain rfl := HS hm
     exact NM fun a ha => ⟨Q, L, az, aq, aa.pk [0], ha.s⟩
    refine GK ?_
    obtain rfl := HS hm
    exact NM fun a ha => ⟨l, j, o, D, y.pk [0], ha.s⟩
   intro a7 a4 ⟨n, m, x, ao, ab, ag⟩
   refine N_use ag ?_
   have hm := aj
   refine BN (TN (GR (MW 2 (WN ?_))))
   cases hm
   exact N_loop fun a ha => ⟨_, rfl, n, m, x, ao, ab.pk [0], ha.s⟩
  refine XA ?_
  obtain rfl := HS hm
  obtain rfl := au _ rfl
  exact NM fun a ha => ⟨l, j, o, D, q.pk [0], ha.s⟩
 intro a8 V ⟨g, f, v, am, z, ah⟩
 refine N_use ah ?_
 have hm := ak
 refine NF (MW 1 (GD hm fun u aw hm => WC ((c_slices_Sort_114 V k g f v am (z.hasPick [0]) (z.nodupPick [0] (by kernel_rfl)) aw).mono ?_)))
 rintro e_ a5 ⟨a0, rfl, ar, t, X⟩
 have ac := z.callF' [0] [] (by kernel_rfl) X
 refine ⟨_, rfl, ?_⟩
 refine LY 3 g f t (LY 21 g f t (NA (MW 2 (NC ?_))))
 obtain rfl := HS hm
 exact RA [SL g u f] (⟨g, f, a0, rfl, ar, ac.pk [0]⟩)
theorem c_slices_Equal_115 (w : World) (b : List Int) (f h) (t : rdS Gx.encI w b f h) (d : List Int) (g i) (u : rdS Gx.encI w d g i) {r : Bool} (hm : M.slices_Equal_115 b d = some r) :
  Calls Tryz.prog 115 #[SL f b h, SL g d i] w fun e w' => e = .returned (.bool r) ∧ Mem [] w w' [] := by
 unfold M.slices_Equal_115 at hm
 refine cE Tryz.func115 ?_
 have M0 := Mem.refl [] w
 refine QA (MW 1 (NB (MW 5 (NO (GT hm (fun k hm => ?_) fun k hm => ?_)))))
 ·refine QA (MW 1 (ND ?_))
  obtain rfl := HS hm
  exact RA [.bool false] (⟨rfl, M0.pk []⟩)
 refine KB (MW 3 (NO (GD hm fun H G v => G_meet (fun a w' => ∃ (A : Unit), H = .inl A ∧ Mem [] w w' [] ∧ Sat Tryz.f115.ntmps [] a) ?_ ?_)))
 ·refine GB (G_while (σ := Int) (ρ := (Unit) ⊕ (Bool)) (fun c a w' => Mem [] w w' [] ∧ Sat Tryz.f115.ntmps [(0, SL f b h), (1, SL g d i), (12, iv (b.length : Int)), (13, iv c)] a) G (fun a ha => ⟨M0.pk [], ha.s⟩) ?_)
  clear hm
  intro c L hm x J B ⟨o, E⟩
  refine G_use E (QA (MW 1 (NE (GT hm (fun l hm => ?_) fun l hm => ?_))))
  ·refine KD (MW 2 (NE (G_quiet (by kernel_rfl) (by kernel_rfl) o (MZ 2 (GD hm fun j y hm => zV (elemP f (c.toNat * 1)) (fun w_ M_ => (eI (t.mem0 M_) rfl y)) (zV (iv j) (fun w_ M_ => (eE false 1 0 (c.toNat * 1) (t.mem0 M_) y)) (MZ 2 (GD hm fun n z hm => zV (elemP g (c.toNat * 1)) (fun w_ M_ => (eI (u.mem0 M_) rfl z)) (zV (iv n) (fun w_ M_ => (eE false 1 0 (c.toNat * 1) (u.mem0 M_) z)) (MS 1 [(0, SL f b h), (1, SL g d i), (12, iv (b.length : Int)), (13, iv c), (24, .bool (j != n))] (Z_end fun C q => (TN (GT hm (fun m hm => ?_) fun m hm => ?_)))))))))))))
   ·refine QA (MW 1 (NX ?_))
    obtain rfl := HS hm
    obtain rfl := x _ rfl
    have hm := v; simp only [Sum.elim_inr] at hm
    refine BR (N_meet_ret (TR ?_))
    obtain rfl := HS hm
    exact RA [.bool false] (⟨rfl, q.pk []⟩)
   refine KC (MW 2 (WN ?_))
   cases hm
   exact N_loop fun a ha => ⟨_, rfl, q.pk [], ha.s⟩
  refine XA ?_
  obtain rfl := HS hm
  obtain rfl := x _ rfl
  exact NM fun a ha => ⟨_, rfl, o.pk [], ha.s⟩
 intro K I ⟨A, hout_, D, F⟩
 refine N_use F ?_
 subst hout_
 have hm := v; simp only [Sum.elim_inl] at hm
 refine NF (MW 1 (NC ?_))
 obtain rfl := HS hm
 exact RA [.bool true] (⟨rfl, D.pk []⟩)
theorem c_i_priorityIn (w : World) (b : List Slot) (a c) (g : rdS encSlot w b a c) (d : Int) {r : Int} (hm : M.i_priorityIn b d = some r) :
  Calls Tryz.prog 117 #[SL a b c, iv d] w fun e w' => e = .returned (iv r) ∧ Mem [] w w' [] := by
 unfold M.i_priorityIn at hm
 refine cE Tryz.func117 ?_
 have M0 := Mem.refl [] w
 refine QA (MW 1 (NA (MW 3 (GD hm fun h m hm => WD (c_i_findSlot w b a c (g.mem0 M0) d m) M0 fun i f => GD hm fun k j hm => wV (elemP a (h.toNat * 3)) i (eI (g.mem0 f) rfl j) (wV (elemP a (h.toNat * 3 + 2)) i (eF 2 (h.toNat * 3) 2 (g.mem0 f) j) (wV (iv k.Priority) i (eE false 1 2 (h.toNat * 3 + 2) (g.mem0 f) j) (MW 1 (NC ?_))))))))
 obtain rfl := HS hm
 exact RA [iv k.Priority] (⟨rfl, f.pk []⟩)
theorem c_i_IsInterface (w : World) (b : Interface) (h i) (t : rdS Gx.encI w b.Stack h i) (g f) (y : rdS encSlot w b.Queue.Slots g f) (m l) (an : rdS encWaiter w b.Queue.Waiting m l) {r : Bool} (hm : M.i_IsInterface b = some r) :
  Calls Tryz.prog 59 #[.agg #[iv b.Mask, SL h b.Stack i, SL g b.Queue.Slots f, SL m b.Queue.Waiting l]] w fun e w' => e = .returned (.bool r) ∧ Mem [] w w' [] := by
 unfold M.i_IsInterface at hm
 refine cE Tryz.func59 ?_
 have M0 := Mem.refl [] w
 refine QA (wN (CE 87 [iv b.Mask, SL h b.Stack i, SL g b.Queue.Slots f, SL m b.Queue.Waiting l]) M0 fun c A T => MW 1 (NE (GS (GD hm fun a9 au ar => G_meet (fun a w' => Mem [] w w' [(BK c 87 [iv b.Mask, SL h b.Stack i, SL g b.Queue.Slots f, SL m b.Queue.Waiting l])] ∧ Sat Tryz.f59.ntmps [(1, pB c 0), (14, .bool a9)] a) ?_ ?_))))
 ·have hm := au
  refine GR (MW 1 (wV (iv b.Mask) A (eL false 1 0 (T.blk 0 rfl)) (GD hm fun bb ay hm => WD (c_i_isMask A b.Mask ay) T fun v q => wR 2 [(1, pB c 0), (9, .bool (!bb))] v ?_)))
  rcases gx_bif hm with ⟨G, hm⟩ | ⟨G, hm⟩
  ·refine wK 9 true G (MW 5 (WN ?_))
   obtain rfl := HS hm
   exact NM fun a ha => ⟨q.pk [0], ha.s⟩
  refine wK 9 false G (MW 1 (wV (.agg #[SL g b.Queue.Slots f, SL m b.Queue.Waiting l]) v (eL true 2 2 (q.blk 0 rfl)) (GD hm fun bc az hm => WD (c_i_IsQueue v b.Queue g f (y.mem0 q) m l (an.mem0 q) az) q fun bf al => MW 2 (WN ?_))))
  obtain rfl := HS hm
  exact NM fun a ha => ⟨al.pk [0], ha.s⟩
 intro bi B ⟨x, ao⟩
 refine N_use ao ?_
 have hm := ar
 refine TN (GT hm (fun H hm => ?_) fun H hm => ?_)
 ·refine QA (MW 1 (ND ?_))
  obtain rfl := HS hm
  exact RA [.bool false] (⟨rfl, x.pk []⟩)
 refine KA (MW 1 (wV (SL h b.Stack i) B (eL false 1 1 (x.blk 0 rfl)) (GD hm fun n a0 hm => WC ((c_i_copyInts B b.Stack h i (t.mem0 x) a0).mono ?_))))
 rintro e_ N ⟨k, j, be, rfl, av, ah⟩
 have C := x.call ah
 refine ⟨_, rfl, ?_⟩
 refine MW 1 (NA (MW 1 (GD hm fun u a3 hm => WC ((c_slices_Sort_114 N n k j be av (C.hasPick [1]) (C.nodupPick [1] (by kernel_rfl)) a3).mono ?_))))
 rintro e_ O ⟨bl, rfl, aw, z, ai⟩
 have D := C.callF' [1] [0] (by kernel_rfl) ai
 refine ⟨_, rfl, ?_⟩
 refine LY 3 k j z (LY 18 k j z (NB (MW 3 (wV (SL g b.Queue.Slots f) O (eL false 1 2 (D.blk 0 rfl)) (GD hm fun ad a4 hm => WC ((c_i_activeIrqs O b.Queue.Slots g f (y.mem0 D) a4).mono ?_))))))
 rintro e_ bg ⟨ac, W, bm, rfl, ax, aj⟩
 have E := D.call aj
 refine ⟨_, rfl, ?_⟩
 refine GD hm fun bd a5 hm => WD (c_slices_Equal_115 bg u k j (aw.r E 1) ad ac W (ax.r E 2) a5) E fun P U => wR 1 [(1, pB c 0), (26, .bool (!bd))] P (NO (GT hm (fun I hm => ?_) fun I hm => ?_))
 ·refine QA (MW 1 (ND ?_))
  obtain rfl := HS hm
  exact RA [.bool false] (⟨rfl, U.pk []⟩)
 refine KB (MW 1 (NO (GD hm fun ba a8 X => G_meet (fun a w' => ∃ (ab : Unit), ba = .inl ab ∧ Mem [] w w' [] ∧ Sat Tryz.f59.ntmps [] a) ?_ ?_)))
 ·refine GB (G_while (σ := Int) (ρ := (Unit) ⊕ (Bool)) (fun d a w' => Mem [] w w' [(BK c 87 [iv b.Mask, SL h b.Stack i, SL g b.Queue.Slots f, SL m b.Queue.Waiting l])] ∧ Sat Tryz.f59.ntmps [(1, pB c 0), (4, iv d)] a) a8 (fun a ha => ⟨U.pk [0], ha.s⟩) ?_)
  clear hm
  intro d bn hm Y bj Q ⟨F, ap⟩
  refine G_use ap (QB (MW 2 (wV (SL h b.Stack i) Q (eL false 1 1 (F.blk 0 rfl)) (MW 2 (NO (GT hm (fun J hm => ?_) fun J hm => ?_))))))
  ·refine GK (TN (GS (GB (GS (G_quiet (by kernel_rfl) (by kernel_rfl) F (MZ 2 (zV (SL g b.Queue.Slots f) (fun w_ M_ => (eL false 1 2 (M_.blk 0 rfl))) (MZ 1 (zV (SL h b.Stack i) (fun w_ M_ => (eL false 1 1 (M_.blk 0 rfl))) (MZ 1 (GD hm fun R Z hm => zV (elemP h (d.toNat * 1)) (fun w_ M_ => (eI (t.mem0 M_) rfl Z)) (zV (iv R) (fun w_ M_ => (eE false 1 0 (d.toNat * 1) (t.mem0 M_) Z)) (GD hm fun o a6 hm => ZC (iv o) (fun w_ M_ => c_i_priorityIn w_ b.Queue.Slots g f (y.mem0 M_) R a6) (MZ 2 (zV (SL g b.Queue.Slots f) (fun w_ M_ => (eL false 1 2 (M_.blk 0 rfl))) (MZ 1 (zV (SL h b.Stack i) (fun w_ M_ => (eL false 1 1 (M_.blk 0 rfl))) (MZ 2 (GD hm fun S aa hm => zV (elemP h ((w64 (d - 1)).toNat * 1)) (fun w_ M_ => (eI (t.mem0 M_) rfl aa)) (zV (iv S) (fun w_ M_ => (eE false 1 0 ((w64 (d - 1)).toNat * 1) (t.mem0 M_) aa)) (GD hm fun L a7 hm => ZC (iv L) (fun w_ M_ => c_i_priorityIn w_ b.Queue.Slots g f (y.mem0 M_) S a7) (MS 1 [(1, pB c 0), (4, iv d), (53, .bool (decide (o ≥ L)))] (Z_end fun ae V => (TN ?_))))))))))))))))))))))))
   refine GT hm (fun K hm => ?_) fun K hm => ?_
   ·refine QA (MW 1 (NX ?_))
    obtain rfl := HS hm
    obtain rfl := Y _ rfl
    have hm := X; simp only [Sum.elim_inr] at hm
    refine BR (N_meet_ret (TR ?_))
    obtain rfl := HS hm
    exact RA [.bool false] (⟨rfl, V.pk []⟩)
   refine KC (MW 3 (WN ?_))
   cases hm
   exact N_loop fun a ha => ⟨_, rfl, V.pk [0], ha.s⟩
  refine XA ?_
  obtain rfl := HS hm
  obtain rfl := Y _ rfl
  exact NM fun a ha => ⟨_, rfl, F.pk [], ha.s⟩
 intro bk bh ⟨ab, hout_, am, aq⟩
 refine N_use aq ?_
 subst hout_
 have hm := X; simp only [Sum.elim_inl] at hm
 refine NF (MW 1 (NC ?_))
 obtain rfl := HS hm
 exact RA [.bool true] (⟨rfl, am.pk []⟩)
theorem c_slices_Clone_118 (w : World) (b : List Waiter) (d a) (j : rdS encWaiter w b d a) {r : (List Waiter)} (hm : M.slices_Clone_118 b = some r) :
  Calls Tryz.prog 118 #[SL d b a] w fun e w' => ∃ k i l, e = .returned (SL k r i) ∧ ownS encWaiter r k i l ∧ Mem [] w w' [l] := by
 unfold M.slices_Clone_118 at hm
 cases d with
 | none =>
  have hx : b = [] := by rcases j.2 with hh | ⟨_, _, _, _, _, hp, _⟩; exact hh; cases hp
  subst hx
  have hm : some ([] : List Waiter) = some r := by simpa [gxApp] using hm
  refine cE Tryz.func118 ?_
  have M0 := Mem.refl [] w
  refine QA (MW 1 (NB (MW 2 (NO (gT rfl (QA (MW 1 (WN (TN (G_ret (TR ?_)))))))))))
  cases hm
  exact RA [SN] (⟨none, 0, [], rfl, ownS_nil, M0.pk [100000]⟩)
 | some a_ =>
  refine cE Tryz.func118 ?_
  have M0 := Mem.refl [] w
  refine QA (MW 1 (NB (MW 2 (NO (gF rfl (KA (wL (E := encWaiter) ([] : List Waiter) 0 [] 142 M0 fun u n z x q g => MW 1 (GD hm fun h o hm => wA 16 [iv 0, iv 0] 0 g q (j.mem0 g) o fun f c v y t m => MW 1 (NC ?_)))))))))
  obtain rfl := HS hm
  exact RA [SL f h c] (⟨f, c, v, rfl, t, m.pk [0]⟩)
theorem c_i_fitsRoutes_1 (w : World) (b : Waiter) (h : List Route) (g i) (k : rdS encRoute w h g i) (j : Nat) (o : w.heap[j]? = some (CE 29 [SL g h i])) (c : Int) (f : Nat) (q : w.heap[f]? = some (CE 3 [iv c])) {r : Bool} (hm : M.i_fitsRoutes_1 b h c = some r) :
  Calls Tryz.prog 121 #[.agg #[iv b.Irq, iv b.Priority], pB j 0, pB f 0] w fun e w' => e = .returned (.bool r) ∧ Mem [] w w' [] := by
 unfold M.i_fitsRoutes_1 at hm
 refine cE Tryz.func121 ?_
 have M0 := Mem.refl [] w
 refine QA (wN (CE 142 [iv b.Irq, iv b.Priority]) M0 fun d t m => MW 1 (NE (G_quiet (by kernel_rfl) (by kernel_rfl) m (zV (SL g h i) (fun w_ M_ => (eL false 1 0 (M_.ro o))) (MZ 1 (zV (iv b.Irq) (fun w_ M_ => (eL false 1 0 (M_.blk 0 rfl))) (GD hm fun a l hm => zV (elemP g (b.Irq.toNat * 2)) (fun w_ M_ => (eI (k.mem0 M_) rfl l)) (zV (.agg #[iv a.Priority, iv a.Target]) (fun w_ M_ => (eE true 2 0 (b.Irq.toNat * 2) (k.mem0 M_) l)) (MZ 1 (zV (iv b.Priority) (fun w_ M_ => (eL false 1 1 (M_.blk 0 rfl))) (zV (iv c) (fun w_ M_ => (eL false 1 0 (M_.ro q))) (MZ 1 (zV (.bool (!((a.Priority == b.Priority) && ((a.Target == c) && true)))) (fun w_ M_ => (E_neqAgg _ _ _ _ [iv a.Priority, iv a.Target] [iv b.Priority, iv c] ((a.Priority == b.Priority) && ((a.Target == c) && true)) rfl (by kernel_rfl) (by kernel_rfl) (by kernel_rfl) (by kernel_rfl) (by kernel_rfl) (by kernel_rfl))) (MZ 1 (Z_end fun u n => (TN (G_ret ?_)))))))))))))))))
 cases hm
 exact RA [.bool (!((a.Priority == b.Priority) && ((a.Target == c) && true)))] (⟨rfl, n.pk []⟩)
theorem c_slices_IndexFunc_166__i_fitsRoutes_1 (w : World) (b : List Waiter) (g h) (v : rdS encWaiter w b g h) (l : List Route) (q m) (E : rdS encRoute w l q m) (d : Nat) (H : w.heap[d]? = some (CE 29 [SL q l m])) (t : Int) (f : Nat) (I : w.heap[f]? = some (CE 3 [iv t])) {r : Int} (hm : M.slices_IndexFunc_166__i_fitsRoutes_1 b l t = some r) :
  Calls Tryz.prog 166 #[SL g b h, .func (.func 121) #[] #[pB d 0, pB f 0]] w fun e w' => e = .returned (iv r) ∧ Mem [] w w' [] := by
 unfold M.slices_IndexFunc_166__i_fitsRoutes_1 at hm
 refine cE Tryz.func166 ?_
 have M0 := Mem.refl [] w
 refine QA (MW 1 (NB (MW 3 (NO (GD hm fun L K x => G_meet (fun a w' => ∃ (A : Unit), L = .inl A ∧ Mem [] w w' [] ∧ Sat Tryz.f166.ntmps [] a) ?_ ?_)))))
 ·refine GB (G_while (σ := Int) (ρ := (Unit) ⊕ (Int)) (fun c a w' => Mem [] w w' [] ∧ Sat Tryz.f166.ntmps [(0, SL g b h), (1, .func (.func 121) #[] #[pB d 0, pB f 0]), (7, iv (b.length : Int)), (8, iv c)] a) K (fun a ha => ⟨M0.pk [], ha.s⟩) ?_)
  clear hm
  intro c R hm y O j ⟨i, F⟩
  refine G_use F (QA (MW 1 (NE (GT hm (fun n hm => ?_) fun n hm => ?_))))
  ·refine KD (MW 2 (NA (MW 3 (GD hm fun k z hm => wV (elemP g (c.toNat * 2)) j (eI (v.mem0 i) rfl z) (wV (.agg #[iv k.Irq, iv k.Priority]) j (eE true 2 0 (c.toNat * 2) (v.mem0 i) z) (GD hm fun Q J hm => WD (c_i_fitsRoutes_1 j k l q m (E.mem0 i) d (i.ro H) t f (i.ro I) J) i fun B u => NO (GT hm (fun o hm => ?_) fun o hm => ?_)))))))
   ·refine QA (MW 2 (NX ?_))
    obtain rfl := HS hm
    obtain rfl := y _ rfl
    have hm := x; simp only [Sum.elim_inr] at hm
    refine BR (N_meet_ret (TR ?_))
    obtain rfl := HS hm
    exact RA [iv c] (⟨rfl, u.pk []⟩)
   refine KC (MW 2 (WN ?_))
   cases hm
   exact N_loop fun a ha => ⟨_, rfl, u.pk [], ha.s⟩
  refine XA ?_
  obtain rfl := HS hm
  obtain rfl := y _ rfl
  exact NM fun a ha => ⟨_, rfl, i.pk [], ha.s⟩
 intro P N ⟨A, hout_, D, G⟩
 refine N_use G ?_
 subst hout_
 have hm := x; simp only [Sum.elim_inl] at hm
 refine NF (MW 1 (NC ?_))
 cases hm
 exact RA [iv (-1)] (⟨rfl, D.pk []⟩)
theorem c_slices_ContainsFunc_120__i_fitsRoutes_1 (w : World) (a : List Waiter) (f d) (n : rdS encWaiter w a f d) (g : List Route) (i h) (o : rdS encRoute w g i h) (b : Nat) (q : w.heap[b]? = some (CE 29 [SL i g h])) (j : Int) (c : Nat) (t : w.heap[c]? = some (CE 3 [iv j])) {r : Bool} (hm : M.slices_ContainsFunc_120__i_fitsRoutes_1 a g j = some r) :
  Calls Tryz.prog 120 #[SL f a d, .func (.func 121) #[] #[pB b 0, pB c 0]] w fun e w' => e = .returned (.bool r) ∧ Mem [] w w' [] := by
 unfold M.slices_ContainsFunc_120__i_fitsRoutes_1 at hm
 refine cE Tryz.func120 ?_
 have M0 := Mem.refl [] w
 refine QA (MW 1 (NA (MW 2 (GD hm fun k u hm => WD (c_slices_IndexFunc_166__i_fitsRoutes_1 w a f d (n.mem0 M0) g i h (o.mem0 M0) b (M0.ro q) j c (M0.ro t) u) M0 fun v m => MW 2 (NC ?_)))))
 cases hm
 exact RA [.bool (decide (k ≥ 0))] (⟨rfl, m.pk []⟩)
theorem c_i_fitsRoutes (w : World) (n : List Route) (t q) (az : rdS encRoute w n t q) (u : Int) (c : Interface) (X R) (bs : rdS Gx.encI w c.Stack X R) (i j) (af : rdS encSlot w c.Queue.Slots i j) (B z) (a0 : rdS encWaiter w c.Queue.Waiting B z) {r : Bool} (hm : M.i_fitsRoutes n u c = some r) :
  Calls Tryz.prog 60 #[SL t n q, iv u, .agg #[iv c.Mask, SL X c.Stack R, SL i c.Queue.Slots j, SL B c.Queue.Waiting z]] w fun e w' => e = .returned (.bool r) ∧ Mem [] w w' [] := by
 unfold M.i_fitsRoutes at hm
 refine cE Tryz.func60 ?_
 have M0 := Mem.refl [] w
 refine QA (wN (CE 29 [SL t n q]) M0 fun d bv ap => wN (CE 3 [iv u]) ap fun f bw aq => wN (CE 87 [iv c.Mask, SL X c.Stack R, SL i c.Queue.Slots j, SL B c.Queue.Waiting z]) aq fun F O Q => MW 1 (NA (MW 2 (wV (SL B c.Queue.Waiting z) O (eL false 1 3 (Q.blk 2 rfl)) (GD hm fun Y be hm => WC ((c_slices_Clone_118 O c.Queue.Waiting B z (a0.mem0 Q) be).mono ?_))))))
 rintro e_ P ⟨L, K, bj, rfl, a8, am⟩
 have ac := Q.call am
 refine ⟨_, rfl, ?_⟩
 refine MW 1 (NB (MW 2 (wV (SL i c.Queue.Slots j) P (eL false 1 2 (ac.blk 2 rfl)) (MW 2 (NO (GD hm fun bi bh ag => G_meet (fun a w' => ∃ (x : List Waiter), ∃ C A aa, ownS encWaiter x C A aa ∧ bi = .inl x ∧ Mem [] w w' [(BK d 29 [SL t n q]), (BK f 3 [iv u]), aa] ∧ Sat Tryz.f60.ntmps [(3, pB d 0), (4, pB f 0), (7, SL C x A)] a) ?_ ?_))))))
 ·refine GB (G_while (σ := List Waiter × Int) (ρ := (List Waiter) ⊕ (Bool)) (fun g a w' => ∃ l k I, ownS encWaiter g.1 l k I ∧ Mem [] w w' [(BK d 29 [SL t n q]), (BK f 3 [iv u]), I] ∧ Sat Tryz.f60.ntmps [(3, pB d 0), (4, pB f 0), (7, SL l g.1 k), (16, SL i c.Queue.Slots j), (17, iv (c.Queue.Slots.length : Int)), (18, iv g.2)] a) bh (fun a ha => ⟨L, K, bj, a8, ac.pk [0, 1, 3], ha.s⟩) ?_)
  clear hm
  intro g b1 hm ah bo ab ⟨l, k, I, V, J, a3⟩
  refine G_use a3 (QA (MW 1 (NE (GT hm (fun S hm => ?_) fun S hm => ?_))))
  ·refine KD (GD hm fun h ai hm => wV (elemP i (g.2.toNat * 3)) ab (eI (af.mem0 J) rfl ai) (wV (.agg #[iv h.State, iv h.Irq, iv h.Priority]) ab (eE true 3 0 (g.2.toNat * 3) (af.mem0 J) ai) (wN (CE 117 [iv 0, iv 0, iv 0]) J fun v bx ar => wS true 3 0 (.agg #[iv h.State, iv h.Irq, iv h.Priority]) 3 [iv h.State, iv h.Irq, iv h.Priority] ar rfl fun m y => NB (MW 1 (wV (iv h.State) m (eL false 1 0 (y.blk 3 rfl)) (MW 1 (NO (GT hm (fun T hm => ?_) fun T hm => ?_))))))))
   ·refine QA (MW 1 (ND (BR (TR (TR ?_)))))
    obtain rfl := HS hm
    obtain rfl := ah _ rfl
    have hm := ag; simp only [Sum.elim_inr] at hm
    refine BR (N_meet_ret (TR ?_))
    obtain rfl := HS hm
    exact RA [.bool false] (⟨rfl, y.pk []⟩)
   refine KA (MW 1 (wV (iv h.State) m (eL false 1 0 (y.blk 3 rfl)) (MW 1 (NO (GD hm fun W ba a7 => G_meet (fun a w' => ∃ H G N, ownS encWaiter W H G N ∧ Mem [] w w' [(BK d 29 [SL t n q]), (BK f 3 [iv u]), N] ∧ Sat Tryz.f60.ntmps [(3, pB d 0), (4, pB f 0), (7, SL H W G), (16, SL i c.Queue.Slots j), (17, iv (c.Queue.Slots.length : Int)), (18, iv g.2)] a) ?_ ?_)))))
   ·have hm := ba
    refine GT hm (fun U hm => ?_) fun U hm => ?_
    ·refine GR (MW 1 (wV (.agg #[iv h.State, iv h.Irq, iv h.Priority]) m (eL true 3 0 (y.blk 3 rfl)) (GD hm fun Z bf hm => WD (c_i_waiterOf m h bf) y fun bz au => wL (E := encWaiter) [Z] 1 [iv Z.Irq, iv Z.Priority] 142 au fun bt br bu b0 bc ad => GD hm fun ay a6 hm => wA 16 [iv 0, iv 0] 2 ad V (bc.r ad 4) a6 fun aj ae bk bl bd av => wR 1 [(3, pB d 0), (4, pB f 0), (7, SL aj ay ae), (16, SL i c.Queue.Slots j), (17, iv (c.Queue.Slots.length : Int)), (18, iv g.2)] bl (WN ?_))))
     obtain rfl := HS hm
     exact NM fun a ha => ⟨aj, ae, bk, bd, av.pk [0, 1, 2], ha.s⟩
    refine GK ?_
    obtain rfl := HS hm
    exact NM fun a ha => ⟨l, k, I, V, y.pk [0, 1, 2], ha.s⟩
   intro bp bm ⟨H, G, N, bb, aw, a4⟩
   refine N_use a4 ?_
   have hm := a7
   refine BN (TN (GR (MW 2 (WN ?_))))
   cases hm
   exact N_loop fun a ha => ⟨_, rfl, H, G, N, bb, aw.pk [0, 1, 2], ha.s⟩
  refine XA ?_
  obtain rfl := HS hm
  obtain rfl := ah _ rfl
  exact NM fun a ha => ⟨_, l, k, I, V, rfl, J.pk [0, 1, 2], ha.s⟩
 intro bq al ⟨x, C, A, aa, a9, hout_, D, a5⟩
 refine N_use a5 ?_
 subst hout_
 have hm := ag; simp only [Sum.elim_inl] at hm
 refine NF (MW 2 (GD hm fun ak bg hm => WD (c_slices_ContainsFunc_120__i_fitsRoutes_1 al x C A (a9.r D 2) n t q (az.mem0 D) d (D.blk 0 (b := d) (o := .cells ⟨[SL t n q]⟩ 29 (0, 0)) (by kernel_rfl)) u f (D.blk 1 (b := f) (o := .cells ⟨[iv u]⟩ 3 (0, 0)) (by kernel_rfl)) bg) D fun bn ax => MW 2 (NC ?_)))
 cases hm
 exact RA [.bool (!ak)] (⟨rfl, ax.pk []⟩)
theorem c_i_IsMachine (w : World) (c : Machine) (k j) (P : rdS encRoute w c.Routes k j) (t o) (a8 : rdS Gx.encB w c.Enabled t o) (u q) (a9 : rdS Gx.encB w c.Raised u q) (h i) (ad : rdD deepInterface w c.Cpus h i) {r : Bool} (hm : M.i_IsMachine c = some r) :
  Calls Tryz.prog 15 #[.agg #[SL k c.Routes j, SL t c.Enabled o, SL u c.Raised q, SL h c.Cpus i]] w fun e w' => e = .returned (.bool r) ∧ Mem [] w w' [] := by
 unfold M.i_IsMachine at hm
 refine cE Tryz.func15 ?_
 have M0 := Mem.refl [] w
 refine QA (wN (CE 32 [SL k c.Routes j, SL t c.Enabled o, SL u c.Raised q, SL h c.Cpus i]) M0 fun f v B => MW 1 (NE (GS (GD hm fun ar ak ai => G_meet (fun a w' => Mem [] w w' [(BK f 32 [SL k c.Routes j, SL t c.Enabled o, SL u c.Raised q, SL h c.Cpus i])] ∧ Sat Tryz.f15.ntmps [(1, pB f 0), (23, .bool ar)] a) ?_ ?_))))
 ·have hm := ak
  refine GR (MW 1 (wV (SL k c.Routes j) v (eL false 1 0 (B.blk 0 rfl)) (MW 1 (wV (SL h c.Cpus i) v (eL false 1 3 (B.blk 0 rfl)) (MW 1 (GD hm fun aw am hm => WD (c_i_areRoutes v c.Routes k j (P.mem0 B) (c.Cpus.length : Int) am) B fun l z => wR 2 [(1, pB f 0), (12, .bool (!aw))] l ?_))))))
  rcases gx_bif hm with ⟨H, hm⟩ | ⟨H, hm⟩
  ·refine wK 12 true H (MW 11 (WN ?_))
   obtain rfl := HS hm
   exact NM fun a ha => ⟨z.pk [0], ha.s⟩
  refine wK 12 false H (MW 1 (wV (SL t c.Enabled o) l (eL false 1 1 (z.blk 0 rfl)) (wR 4 [(1, pB f 0), (18, .bool ((c.Enabled.length : Int) != 8))] l ?_)))
  rcases gx_bif hm with ⟨I, hm⟩ | ⟨I, hm⟩
  ·refine wK 18 true I (MW 5 (WN ?_))
   obtain rfl := HS hm
   exact NM fun a ha => ⟨z.pk [0], ha.s⟩
  refine wK 18 false I (MW 1 (wV (SL u c.Raised q) l (eL false 1 2 (z.blk 0 rfl)) (MW 3 (WN ?_))))
  obtain rfl := HS hm
  exact NM fun a ha => ⟨z.pk [0], ha.s⟩
 intro a4 E ⟨G, ae⟩
 refine N_use ae ?_
 have hm := ai
 refine TN (GT hm (fun J hm => ?_) fun J hm => ?_)
 ·refine QA (MW 1 (ND ?_))
  obtain rfl := HS hm
  exact RA [.bool false] (⟨rfl, G.pk []⟩)
 refine KB (MW 1 (wV (SL h c.Cpus i) E (eL false 1 3 (G.blk 0 rfl)) (MW 2 (NO (GD hm fun av ap Q => G_meet (fun a w' => ∃ (U : Unit), av = .inl U ∧ Mem [] w w' [] ∧ Sat Tryz.f15.ntmps [] a) ?_ ?_)))))
 ·refine GB (G_while (σ := Int) (ρ := (Unit) ⊕ (Bool)) (fun g a w' => Mem [] w w' [(BK f 32 [SL k c.Routes j, SL t c.Enabled o, SL u c.Raised q, SL h c.Cpus i])] ∧ Sat Tryz.f15.ntmps [(1, pB f 0), (25, SL h c.Cpus i), (26, iv (c.Cpus.length : Int)), (27, iv g)] a) ap (fun a ha => ⟨G.pk [0], ha.s⟩) ?_)
  clear hm
  intro g ba hm R a5 F ⟨C, af⟩
  refine G_use af (QA (MW 1 (NE (GT hm (fun K hm => ?_) fun K hm => ?_))))
  ·refine KD (MW 1 (GD hm fun d aq hm => ?_))
   obtain ⟨bb, T, S, y⟩ := id ad
   obtain ⟨b, n⟩ := gxIdx_fst T aq
   refine wV (elemP h (g.toNat * 4)) F (eI (S.mem0 C) (len_fst T) n) (wV (.agg #[iv d.Mask, SL ((b 0).1) d.Stack ((b 0).2), SL ((b 1).1) d.Queue.Slots ((b 1).2), SL ((b 2).1) d.Queue.Waiting ((b 2).2)]) F (eE true 4 0 (g.toNat * 4) (S.mem0 C) n) (wN (CE 87 [iv 0, SN, SN, SN]) C fun D az aa => wR 1 [(1, pB f 0), (3, iv g), (4, pB D 0), (25, SL h c.Cpus i), (26, iv (c.Cpus.length : Int)), (27, iv g), (31, .agg #[iv d.Mask, SL ((b 0).1) d.Stack ((b 0).2), SL ((b 1).1) d.Queue.Slots ((b 1).2), SL ((b 2).1) d.Queue.Waiting ((b 2).2)])] az (wS true 4 0 (.agg #[iv d.Mask, SL ((b 0).1) d.Stack ((b 0).2), SL ((b 1).1) d.Queue.Slots ((b 1).2), SL ((b 2).1) d.Queue.Waiting ((b 2).2)]) 1 [iv d.Mask, SL ((b 0).1) d.Stack ((b 0).2), SL ((b 1).1) d.Queue.Slots ((b 1).2), SL ((b 2).1) d.Queue.Waiting ((b 2).2)] aa rfl fun V A => NE (GD hm fun au al aj => G_meet (fun a w' => Mem [] w w' [(BK f 32 [SL k c.Routes j, SL t c.Enabled o, SL u c.Raised q, SL h c.Cpus i])] ∧ Sat Tryz.f15.ntmps [(1, pB f 0), (25, SL h c.Cpus i), (26, iv (c.Cpus.length : Int)), (27, iv g), (42, .bool au)] a) ?_ ?_))))
   ·have hm := al
    refine GR (wV (.agg #[iv d.Mask, SL ((b 0).1) d.Stack ((b 0).2), SL ((b 1).1) d.Queue.Slots ((b 1).2), SL ((b 2).1) d.Queue.Waiting ((b 2).2)]) V (eL true 4 0 (A.blk 1 rfl)) (GD hm fun ax an hm => WD (c_i_IsInterface V d ((b 0).1) ((b 0).2) ((y.mem0 A).a_ n 0) ((b 1).1) ((b 1).2) ((y.mem0 A).a_ n 1) ((b 2).1) ((b 2).2) ((y.mem0 A).a_ n 2) an) A fun x m => wR 2 [(1, pB f 0), (3, iv g), (4, pB D 0), (25, SL h c.Cpus i), (26, iv (c.Cpus.length : Int)), (27, iv g), (35, .bool (!ax))] x ?_))
    rcases gx_bif hm with ⟨L, hm⟩ | ⟨L, hm⟩
    ·refine wK 35 true L (MW 7 (WN ?_))
     obtain rfl := HS hm
     exact NM fun a ha => ⟨m.pk [0], ha.s⟩
    refine wK 35 false L (MW 1 (wV (SL k c.Routes j) x (eL false 1 0 (m.blk 0 rfl)) (MW 1 (wV (.agg #[iv d.Mask, SL ((b 0).1) d.Stack ((b 0).2), SL ((b 1).1) d.Queue.Slots ((b 1).2), SL ((b 2).1) d.Queue.Waiting ((b 2).2)]) x (eL true 4 0 (m.blk 1 rfl)) (GD hm fun ay ao hm => WD (c_i_fitsRoutes x c.Routes k j (P.mem0 m) g d ((b 0).1) ((b 0).2) ((y.mem0 m).a_ n 0) ((b 1).1) ((b 1).2) ((y.mem0 m).a_ n 1) ((b 2).1) ((b 2).2) ((y.mem0 m).a_ n 2) ao) m fun a0 ab => MW 2 (WN ?_))))))
    obtain rfl := HS hm
    exact NM fun a ha => ⟨ab.pk [0], ha.s⟩
   intro a6 W ⟨O, ag⟩
   refine N_use ag ?_
   have hm := aj
   refine TN (GT hm (fun N hm => ?_) fun N hm => ?_)
   ·refine QA (MW 1 (NX ?_))
    obtain rfl := HS hm
    obtain rfl := R _ rfl
    have hm := Q; simp only [Sum.elim_inr] at hm
    refine BR (N_meet_ret (TR ?_))
    obtain rfl := HS hm
    exact RA [.bool false] (⟨rfl, O.pk []⟩)
   refine KC (MW 2 (WN ?_))
   cases hm
   exact N_loop fun a ha => ⟨_, rfl, O.pk [0], ha.s⟩
  refine XA ?_
  obtain rfl := HS hm
  obtain rfl := R _ rfl
  exact NM fun a ha => ⟨_, rfl, C.pk [], ha.s⟩
 intro a7 a3 ⟨U, hout_, ac, ah⟩
 refine N_use ah ?_
 subst hout_
 have hm := Q; simp only [Sum.elim_inl] at hm
 refine NF (MW 1 (NC ?_))
 obtain rfl := HS hm
 exact RA [.bool true] (⟨rfl, ac.pk []⟩)
theorem c_l_eqRoute (w : World) (b : Route) (c : Route) {r : Bool} (hm : M.l_eqRoute b c = some r) :
  Calls Tryz.prog 122 #[.agg #[iv b.Priority, iv b.Target], .agg #[iv c.Priority, iv c.Target]] w fun e w' => e = .returned (.bool r) ∧ Mem [] w w' [] := by
 unfold M.l_eqRoute at hm
 refine cE Tryz.func122 ?_
 have M0 := Mem.refl [] w
 refine QA (wN (CE 129 [iv b.Priority, iv b.Target]) M0 fun g w6498 j => wN (CE 129 [iv c.Priority, iv c.Target]) j fun f a d => MW 1 (NB (MW 1 (wV (iv b.Priority) a (eL false 1 0 (d.blk 0 rfl)) (MW 1 (wV (iv c.Priority) a (eL false 1 0 (d.blk 1 rfl)) (MW 1 (NO (GT hm (fun h hm => ?_) fun h hm => ?_)))))))))
 ·refine QA (MW 1 (ND ?_))
  obtain rfl := HS hm
  exact RA [.bool false] (⟨rfl, d.pk []⟩)
 refine KB (MW 1 (wV (iv b.Target) a (eL false 1 1 (d.blk 0 rfl)) (MW 1 (wV (iv c.Target) a (eL false 1 1 (d.blk 1 rfl)) (MW 1 (NO (GT hm (fun i hm => ?_) fun i hm => ?_)))))))
 ·refine QA (MW 1 (ND ?_))
  obtain rfl := HS hm
  exact RA [.bool false] (⟨rfl, d.pk []⟩)
 refine KA (MW 1 (NC ?_))
 obtain rfl := HS hm
 exact RA [.bool true] (⟨rfl, d.pk []⟩)
theorem c_l_eqRouteS (w : World) (c : List Route) (f h) (u : rdS encRoute w c f h) (d : List Route) (g i) (v : rdS encRoute w d g i) {r : Bool} (hm : M.l_eqRouteS c d = some r) :
  Calls Tryz.prog 61 #[SL f c h, SL g d i] w fun e w' => e = .returned (.bool r) ∧ Mem [] w w' [] := by
 unfold M.l_eqRouteS at hm
 refine cE Tryz.func61 ?_
 have M0 := Mem.refl [] w
 refine QA (MW 1 (NB (MW 5 (NO (GT hm (fun l hm => ?_) fun l hm => ?_)))))
 ·refine QA (MW 1 (ND ?_))
  obtain rfl := HS hm
  exact RA [.bool false] (⟨rfl, M0.pk []⟩)
 refine KB (MW 1 (NO (GD hm fun I H x => G_meet (fun a w' => ∃ (B : Unit), I = .inl B ∧ Mem [] w w' [] ∧ Sat Tryz.f61.ntmps [] a) ?_ ?_)))
 ·refine GB (G_while (σ := Int) (ρ := (Unit) ⊕ (Bool)) (fun b a w' => Mem [] w w' [] ∧ Sat Tryz.f61.ntmps [(0, SL f c h), (1, SL g d i), (5, iv b)] a) H (fun a ha => ⟨M0.pk [], ha.s⟩) ?_)
  clear hm
  intro b O hm y L J ⟨q, E⟩
  refine G_use E (QB (MW 4 (NO (GT hm (fun m hm => ?_) fun m hm => ?_))))
  ·refine GK (TN (GS (GB (GS (G_quiet (by kernel_rfl) (by kernel_rfl) q (MZ 2 (GD hm fun j z hm => zV (elemP f (b.toNat * 2)) (fun w_ M_ => (eI (u.mem0 M_) rfl z)) (zV (.agg #[iv j.Priority, iv j.Target]) (fun w_ M_ => (eE true 2 0 (b.toNat * 2) (u.mem0 M_) z)) (MZ 2 (GD hm fun k A hm => zV (elemP g (b.toNat * 2)) (fun w_ M_ => (eI (v.mem0 M_) rfl A)) (zV (.agg #[iv k.Priority, iv k.Target]) (fun w_ M_ => (eE true 2 0 (b.toNat * 2) (v.mem0 M_) A)) (GD hm fun o G hm => ZC (.bool o) (fun w_ M_ => c_l_eqRoute w_ j k G) (MS 1 [(0, SL f c h), (1, SL g d i), (5, iv b), (26, .bool (!o))] (Z_end fun C t => (TN (GT hm (fun n hm => ?_) fun n hm => ?_))))))))))))))))
   ·refine QA (MW 1 (NX ?_))
    obtain rfl := HS hm
    obtain rfl := y _ rfl
    have hm := x; simp only [Sum.elim_inr] at hm
    refine BR (N_meet_ret (TR ?_))
    obtain rfl := HS hm
    exact RA [.bool false] (⟨rfl, t.pk []⟩)
   refine KC (MW 3 (WN ?_))
   cases hm
   exact N_loop fun a ha => ⟨_, rfl, t.pk [], ha.s⟩
  refine XA ?_
  obtain rfl := HS hm
  obtain rfl := y _ rfl
  exact NM fun a ha => ⟨_, rfl, q.pk [], ha.s⟩
 intro N K ⟨B, hout_, D, F⟩
 refine N_use F ?_
 subst hout_
 have hm := x; simp only [Sum.elim_inl] at hm
 refine NF (MW 1 (NC ?_))
 obtain rfl := HS hm
 exact RA [.bool true] (⟨rfl, D.pk []⟩)
theorem c_l_eqBoolS (w : World) (c : List Bool) (f h) (t : rdS Gx.encB w c f h) (d : List Bool) (g i) (u : rdS Gx.encB w d g i) {r : Bool} (hm : M.l_eqBoolS c d = some r) :
  Calls Tryz.prog 62 #[SL f c h, SL g d i] w fun e w' => e = .returned (.bool r) ∧ Mem [] w w' [] := by
 unfold M.l_eqBoolS at hm
 refine cE Tryz.func62 ?_
 have M0 := Mem.refl [] w
 refine QA (MW 1 (NB (MW 5 (NO (GT hm (fun k hm => ?_) fun k hm => ?_)))))
 ·refine QA (MW 1 (ND ?_))
  obtain rfl := HS hm
  exact RA [.bool false] (⟨rfl, M0.pk []⟩)
 refine KB (MW 1 (NO (GD hm fun G F v => G_meet (fun a w' => ∃ (A : Unit), G = .inl A ∧ Mem [] w w' [] ∧ Sat Tryz.f62.ntmps [] a) ?_ ?_)))
 ·refine GB (G_while (σ := Int) (ρ := (Unit) ⊕ (Bool)) (fun b a w' => Mem [] w w' [] ∧ Sat Tryz.f62.ntmps [(0, SL f c h), (1, SL g d i), (5, iv b)] a) F (fun a ha => ⟨M0.pk [], ha.s⟩) ?_)
  clear hm
  intro b L hm x J H ⟨o, D⟩
  refine G_use D (QB (MW 4 (NO (GT hm (fun l hm => ?_) fun l hm => ?_))))
  ·refine GK (TN (GS (GB (GS (G_quiet (by kernel_rfl) (by kernel_rfl) o (MZ 2 (GD hm fun j y hm => zV (elemP f (b.toNat * 1)) (fun w_ M_ => (eI (t.mem0 M_) rfl y)) (zV (.bool j) (fun w_ M_ => (eE false 1 0 (b.toNat * 1) (t.mem0 M_) y)) (MZ 2 (GD hm fun n z hm => zV (elemP g (b.toNat * 1)) (fun w_ M_ => (eI (u.mem0 M_) rfl z)) (zV (.bool n) (fun w_ M_ => (eE false 1 0 (b.toNat * 1) (u.mem0 M_) z)) (MS 1 [(0, SL f c h), (1, SL g d i), (5, iv b), (25, .bool (!(j == n)))] (Z_end fun B q => (TN (GT hm (fun m hm => ?_) fun m hm => ?_)))))))))))))))
   ·refine QA (MW 1 (NX ?_))
    obtain rfl := HS hm
    obtain rfl := x _ rfl
    have hm := v; simp only [Sum.elim_inr] at hm
    refine BR (N_meet_ret (TR ?_))
    obtain rfl := HS hm
    exact RA [.bool false] (⟨rfl, q.pk []⟩)
   refine KC (MW 3 (WN ?_))
   cases hm
   exact N_loop fun a ha => ⟨_, rfl, q.pk [], ha.s⟩
  refine XA ?_
  obtain rfl := HS hm
  obtain rfl := x _ rfl
  exact NM fun a ha => ⟨_, rfl, o.pk [], ha.s⟩
 intro K I ⟨A, hout_, C, E⟩
 refine N_use E ?_
 subst hout_
 have hm := v; simp only [Sum.elim_inl] at hm
 refine NF (MW 1 (NC ?_))
 obtain rfl := HS hm
 exact RA [.bool true] (⟨rfl, C.pk []⟩)
theorem c_l_eqIntS (w : World) (c : List Int) (f h) (t : rdS Gx.encI w c f h) (d : List Int) (g i) (u : rdS Gx.encI w d g i) {r : Bool} (hm : M.l_eqIntS c d = some r) :
  Calls Tryz.prog 19 #[SL f c h, SL g d i] w fun e w' => e = .returned (.bool r) ∧ Mem [] w w' [] := by
 unfold M.l_eqIntS at hm
 refine cE Tryz.func19 ?_
 have M0 := Mem.refl [] w
 refine QA (MW 1 (NB (MW 5 (NO (GT hm (fun k hm => ?_) fun k hm => ?_)))))
 ·refine QA (MW 1 (ND ?_))
  obtain rfl := HS hm
  exact RA [.bool false] (⟨rfl, M0.pk []⟩)
 refine KB (MW 1 (NO (GD hm fun G F v => G_meet (fun a w' => ∃ (A : Unit), G = .inl A ∧ Mem [] w w' [] ∧ Sat Tryz.f19.ntmps [] a) ?_ ?_)))
 ·refine GB (G_while (σ := Int) (ρ := (Unit) ⊕ (Bool)) (fun b a w' => Mem [] w w' [] ∧ Sat Tryz.f19.ntmps [(0, SL f c h), (1, SL g d i), (5, iv b)] a) F (fun a ha => ⟨M0.pk [], ha.s⟩) ?_)
  clear hm
  intro b L hm x J H ⟨o, D⟩
  refine G_use D (QB (MW 4 (NO (GT hm (fun l hm => ?_) fun l hm => ?_))))
  ·refine GK (TN (GS (GB (GS (G_quiet (by kernel_rfl) (by kernel_rfl) o (MZ 2 (GD hm fun j y hm => zV (elemP f (b.toNat * 1)) (fun w_ M_ => (eI (t.mem0 M_) rfl y)) (zV (iv j) (fun w_ M_ => (eE false 1 0 (b.toNat * 1) (t.mem0 M_) y)) (MZ 2 (GD hm fun n z hm => zV (elemP g (b.toNat * 1)) (fun w_ M_ => (eI (u.mem0 M_) rfl z)) (zV (iv n) (fun w_ M_ => (eE false 1 0 (b.toNat * 1) (u.mem0 M_) z)) (MS 1 [(0, SL f c h), (1, SL g d i), (5, iv b), (25, .bool (j != n))] (Z_end fun B q => (TN (GT hm (fun m hm => ?_) fun m hm => ?_)))))))))))))))
   ·refine QA (MW 1 (NX ?_))
    obtain rfl := HS hm
    obtain rfl := x _ rfl
    have hm := v; simp only [Sum.elim_inr] at hm
    refine BR (N_meet_ret (TR ?_))
    obtain rfl := HS hm
    exact RA [.bool false] (⟨rfl, q.pk []⟩)
   refine KC (MW 3 (WN ?_))
   cases hm
   exact N_loop fun a ha => ⟨_, rfl, q.pk [], ha.s⟩
  refine XA ?_
  obtain rfl := HS hm
  obtain rfl := x _ rfl
  exact NM fun a ha => ⟨_, rfl, o.pk [], ha.s⟩
 intro K I ⟨A, hout_, C, E⟩
 refine N_use E ?_
 subst hout_
 have hm := v; simp only [Sum.elim_inl] at hm
 refine NF (MW 1 (NC ?_))
 obtain rfl := HS hm
 exact RA [.bool true] (⟨rfl, C.pk []⟩)
theorem c_l_eqSlot (w : World) (b : Slot) (c : Slot) {r : Bool} (hm : M.l_eqSlot b c = some r) :
  Calls Tryz.prog 246 #[.agg #[iv b.State, iv b.Irq, iv b.Priority], .agg #[iv c.State, iv c.Irq, iv c.Priority]] w fun e w' => e = .returned (.bool r) ∧ Mem [] w w' [] := by
 unfold M.l_eqSlot at hm
 refine cE Tryz.func246 ?_
 have M0 := Mem.refl [] w
 refine QA (wN (CE 117 [iv b.State, iv b.Irq, iv b.Priority]) M0 fun g l k => wN (CE 117 [iv c.State, iv c.Irq, iv c.Priority]) k fun d a f => MW 1 (NB (MW 1 (wV (iv b.State) a (eL false 1 0 (f.blk 0 rfl)) (MW 1 (wV (iv c.State) a (eL false 1 0 (f.blk 1 rfl)) (MW 1 (NO (GT hm (fun h hm => ?_) fun h hm => ?_)))))))))
 ·refine QA (MW 1 (ND ?_))
  obtain rfl := HS hm
  exact RA [.bool false] (⟨rfl, f.pk []⟩)
 refine KB (MW 1 (wV (iv b.Irq) a (eL false 1 1 (f.blk 0 rfl)) (MW 1 (wV (iv c.Irq) a (eL false 1 1 (f.blk 1 rfl)) (MW 1 (NO (GT hm (fun i hm => ?_) fun i hm => ?_)))))))
 ·refine QA (MW 1 (ND ?_))
  obtain rfl := HS hm
  exact RA [.bool false] (⟨rfl, f.pk []⟩)
 refine KB (MW 1 (wV (iv b.Priority) a (eL false 1 2 (f.blk 0 rfl)) (MW 1 (wV (iv c.Priority) a (eL false 1 2 (f.blk 1 rfl)) (MW 1 (NO (GT hm (fun j hm => ?_) fun j hm => ?_)))))))
 ·refine QA (MW 1 (ND ?_))
  obtain rfl := HS hm
  exact RA [.bool false] (⟨rfl, f.pk []⟩)
 refine KA (MW 1 (NC ?_))
 obtain rfl := HS hm
 exact RA [.bool true] (⟨rfl, f.pk []⟩)
end Go.Proofs.YtllhajkgkghhdaaGreat
set_option linter.unusedVariables false
set_option linter.unusedSimpArgs false
set_option maxRecDepth 100000
set_option maxHeartbeats 4000000
namespace Go.Proofs.YtllhajkgkghhdaaGreat
open Go.Gx
theorem c_l_eqSlotS (w : World) (c : List Slot) (f h) (u : rdS encSlot w c f h) (d : List Slot) (g i) (v : rdS encSlot w d g i) {r : Bool} (hm : M.l_eqSlotS c d = some r) :
  Calls Tryz.prog 212 #[SL f c h, SL g d i] w fun e w' => e = .returned (.bool r) ∧ Mem [] w w' [] := by
 unfold M.l_eqSlotS at hm
 refine cE Tryz.func212 ?_
 have M0 := Mem.refl [] w
 refine QA (MW 1 (NB (MW 5 (NO (GT hm (fun l hm => ?_) fun l hm => ?_)))))
 ·refine QA (MW 1 (ND ?_))
  obtain rfl := HS hm
  exact RA [.bool false] (⟨rfl, M0.pk []⟩)
 refine KB (MW 1 (NO (GD hm fun I H x => G_meet (fun a w' => ∃ (B : Unit), I = .inl B ∧ Mem [] w w' [] ∧ Sat Tryz.f212.ntmps [] a) ?_ ?_)))
 ·refine GB (G_while (σ := Int) (ρ := (Unit) ⊕ (Bool)) (fun b a w' => Mem [] w w' [] ∧ Sat Tryz.f212.ntmps [(0, SL f c h), (1, SL g d i), (5, iv b)] a) H (fun a ha => ⟨M0.pk [], ha.s⟩) ?_)
  clear hm
  intro b O hm y L J ⟨q, E⟩
  refine G_use E (QB (MW 4 (NO (GT hm (fun m hm => ?_) fun m hm => ?_))))
  ·refine GK (TN (GS (GB (GS (G_quiet (by kernel_rfl) (by kernel_rfl) q (MZ 2 (GD hm fun j z hm => zV (elemP f (b.toNat * 3)) (fun w_ M_ => (eI (u.mem0 M_) rfl z)) (zV (.agg #[iv j.State, iv j.Irq, iv j.Priority]) (fun w_ M_ => (eE true 3 0 (b.toNat * 3) (u.mem0 M_) z)) (MZ 2 (GD hm fun k A hm => zV (elemP g (b.toNat * 3)) (fun w_ M_ => (eI (v.mem0 M_) rfl A)) (zV (.agg #[iv k.State, iv k.Irq, iv k.Priority]) (fun w_ M_ => (eE true 3 0 (b.toNat * 3) (v.mem0 M_) A)) (GD hm fun o G hm => ZC (.bool o) (fun w_ M_ => c_l_eqSlot w_ j k G) (MS 1 [(0, SL f c h), (1, SL g d i), (5, iv b), (26, .bool (!o))] (Z_end fun C t => (TN (GT hm (fun n hm => ?_) fun n hm => ?_))))))))))))))))
   ·refine QA (MW 1 (NX ?_))
    obtain rfl := HS hm
    obtain rfl := y _ rfl
    have hm := x; simp only [Sum.elim_inr] at hm
    refine BR (N_meet_ret (TR ?_))
    obtain rfl := HS hm
    exact RA [.bool false] (⟨rfl, t.pk []⟩)
   refine KC (MW 3 (WN ?_))
   cases hm
   exact N_loop fun a ha => ⟨_, rfl, t.pk [], ha.s⟩
  refine XA ?_
  obtain rfl := HS hm
  obtain rfl := y _ rfl
  exact NM fun a ha => ⟨_, rfl, q.pk [], ha.s⟩
 intro N K ⟨B, hout_, D, F⟩
 refine N_use F ?_
 subst hout_
 have hm := x; simp only [Sum.elim_inl] at hm
 refine NF (MW 1 (NC ?_))
 obtain rfl := HS hm
 exact RA [.bool true] (⟨rfl, D.pk []⟩)
theorem c_l_eqWaiter (w : World) (b : Waiter) (c : Waiter) {r : Bool} (hm : M.l_eqWaiter b c = some r) :
  Calls Tryz.prog 247 #[.agg #[iv b.Irq, iv b.Priority], .agg #[iv c.Irq, iv c.Priority]] w fun e w' => e = .returned (.bool r) ∧ Mem [] w w' [] := by
 unfold M.l_eqWaiter at hm
 refine cE Tryz.func247 ?_
 have M0 := Mem.refl [] w
 refine QA (wN (CE 142 [iv b.Irq, iv b.Priority]) M0 fun g k j => wN (CE 142 [iv c.Irq, iv c.Priority]) j fun f a d => MW 1 (NB (MW 1 (wV (iv b.Irq) a (eL false 1 0 (d.blk 0 rfl)) (MW 1 (wV (iv c.Irq) a (eL false 1 0 (d.blk 1 rfl)) (MW 1 (NO (GT hm (fun h hm => ?_) fun h hm => ?_)))))))))
 ·refine QA (MW 1 (ND ?_))
  obtain rfl := HS hm
  exact RA [.bool false] (⟨rfl, d.pk []⟩)
 refine KB (MW 1 (wV (iv b.Priority) a (eL false 1 1 (d.blk 0 rfl)) (MW 1 (wV (iv c.Priority) a (eL false 1 1 (d.blk 1 rfl)) (MW 1 (NO (GT hm (fun i hm => ?_) fun i hm => ?_)))))))
 ·refine QA (MW 1 (ND ?_))
  obtain rfl := HS hm
  exact RA [.bool false] (⟨rfl, d.pk []⟩)
 refine KA (MW 1 (NC ?_))
 obtain rfl := HS hm
 exact RA [.bool true] (⟨rfl, d.pk []⟩)
theorem c_l_eqWaiterS (w : World) (c : List Waiter) (f h) (u : rdS encWaiter w c f h) (d : List Waiter) (g i) (v : rdS encWaiter w d g i) {r : Bool} (hm : M.l_eqWaiterS c d = some r) :
  Calls Tryz.prog 213 #[SL f c h, SL g d i] w fun e w' => e = .returned (.bool r) ∧ Mem [] w w' [] := by
 unfold M.l_eqWaiterS at hm
 refine cE Tryz.func213 ?_
 have M0 := Mem.refl [] w
 refine QA (MW 1 (NB (MW 5 (NO (GT hm (fun l hm => ?_) fun l hm => ?_)))))
 ·refine QA (MW 1 (ND ?_))
  obtain rfl := HS hm
  exact RA [.bool false] (⟨rfl, M0.pk []⟩)
 refine KB (MW 1 (NO (GD hm fun I H x => G_meet (fun a w' => ∃ (B : Unit), I = .inl B ∧ Mem [] w w' [] ∧ Sat Tryz.f213.ntmps [] a) ?_ ?_)))
 ·refine GB (G_while (σ := Int) (ρ := (Unit) ⊕ (Bool)) (fun b a w' => Mem [] w w' [] ∧ Sat Tryz.f213.ntmps [(0, SL f c h), (1, SL g d i), (5, iv b)] a) H (fun a ha => ⟨M0.pk [], ha.s⟩) ?_)
  clear hm
  intro b O hm y L J ⟨q, E⟩
  refine G_use E (QB (MW 4 (NO (GT hm (fun m hm => ?_) fun m hm => ?_))))
  ·refine GK (TN (GS (GB (GS (G_quiet (by kernel_rfl) (by kernel_rfl) q (MZ 2 (GD hm fun j z hm => zV (elemP f (b.toNat * 2)) (fun w_ M_ => (eI (u.mem0 M_) rfl z)) (zV (.agg #[iv j.Irq, iv j.Priority]) (fun w_ M_ => (eE true 2 0 (b.toNat * 2) (u.mem0 M_) z)) (MZ 2 (GD hm fun k A hm => zV (elemP g (b.toNat * 2)) (fun w_ M_ => (eI (v.mem0 M_) rfl A)) (zV (.agg #[iv k.Irq, iv k.Priority]) (fun w_ M_ => (eE true 2 0 (b.toNat * 2) (v.mem0 M_) A)) (GD hm fun o G hm => ZC (.bool o) (fun w_ M_ => c_l_eqWaiter w_ j k G) (MS 1 [(0, SL f c h), (1, SL g d i), (5, iv b), (26, .bool (!o))] (Z_end fun C t => (TN (GT hm (fun n hm => ?_) fun n hm => ?_))))))))))))))))
   ·refine QA (MW 1 (NX ?_))
    obtain rfl := HS hm
    obtain rfl := y _ rfl
    have hm := x; simp only [Sum.elim_inr] at hm
    refine BR (N_meet_ret (TR ?_))
    obtain rfl := HS hm
    exact RA [.bool false] (⟨rfl, t.pk []⟩)
   refine KC (MW 3 (WN ?_))
   cases hm
   exact N_loop fun a ha => ⟨_, rfl, t.pk [], ha.s⟩
  refine XA ?_
  obtain rfl := HS hm
  obtain rfl := y _ rfl
  exact NM fun a ha => ⟨_, rfl, q.pk [], ha.s⟩
 intro N K ⟨B, hout_, D, F⟩
 refine N_use F ?_
 subst hout_
 have hm := x; simp only [Sum.elim_inl] at hm
 refine NF (MW 1 (NC ?_))
 obtain rfl := HS hm
 exact RA [.bool true] (⟨rfl, D.pk []⟩)
theorem c_l_eqQueue (w : World) (a : Queue) (g d) (C : rdS encSlot w a.Slots g d) (h f) (D : rdS encWaiter w a.Waiting h f) (b : Queue) (n l) (E : rdS encSlot w b.Slots n l) (o m) (F : rdS encWaiter w b.Waiting o m) {r : Bool} (hm : M.l_eqQueue a b = some r) :
  Calls Tryz.prog 167 #[.agg #[SL g a.Slots d, SL h a.Waiting f], .agg #[SL n b.Slots l, SL o b.Waiting m]] w fun e w' => e = .returned (.bool r) ∧ Mem [] w w' [] := by
 unfold M.l_eqQueue at hm
 refine cE Tryz.func167 ?_
 have M0 := Mem.refl [] w
 refine QA (wN (CE 85 [SL g a.Slots d, SL h a.Waiting f]) M0 fun k K B => wN (CE 85 [SL n b.Slots l, SL o b.Waiting m]) B fun c q t => MW 1 (NB (MW 1 (wV (SL g a.Slots d) q (eL false 1 0 (t.blk 0 rfl)) (MW 1 (wV (SL n b.Slots l) q (eL false 1 0 (t.blk 1 rfl)) (GD hm fun I G hm => WD (c_l_eqSlotS q a.Slots g d (C.mem0 t) b.Slots n l (E.mem0 t) G) t fun i j => MW 1 (NO (GT hm (fun u hm => ?_) fun u hm => ?_)))))))))
 ·refine QA (MW 1 (ND ?_))
  obtain rfl := HS hm
  exact RA [.bool false] (⟨rfl, j.pk []⟩)
 refine KB (MW 1 (wV (SL h a.Waiting f) i (eL false 1 1 (j.blk 0 rfl)) (MW 1 (wV (SL o b.Waiting m) i (eL false 1 1 (j.blk 1 rfl)) (GD hm fun J H hm => WD (c_l_eqWaiterS i a.Waiting h f (D.mem0 j) b.Waiting o m (F.mem0 j) H) j fun x y => MW 1 (NO (GT hm (fun v hm => ?_) fun v hm => ?_)))))))
 ·refine QA (MW 1 (ND ?_))
  obtain rfl := HS hm
  exact RA [.bool false] (⟨rfl, y.pk []⟩)
 refine KA (MW 1 (NC ?_))
 obtain rfl := HS hm
 exact RA [.bool true] (⟨rfl, y.pk []⟩)
theorem c_l_eqInterface (w : World) (a : Interface) (l i) (H : rdS Gx.encI w a.Stack l i) (m j) (I : rdS encSlot w a.Queue.Slots m j) (n k) (J : rdS encWaiter w a.Queue.Waiting n k) (b : Interface) (v q) (K : rdS Gx.encI w b.Stack v q) (x t) (L : rdS encSlot w b.Queue.Slots x t) (y u) (N : rdS encWaiter w b.Queue.Waiting y u) {r : Bool} (hm : M.l_eqInterface a b = some r) :
  Calls Tryz.prog 123 #[.agg #[iv a.Mask, SL l a.Stack i, SL m a.Queue.Slots j, SL n a.Queue.Waiting k], .agg #[iv b.Mask, SL v b.Stack q, SL x b.Queue.Slots t, SL y b.Queue.Waiting u]] w fun e w' => e = .returned (.bool r) ∧ Mem [] w w' [] := by
 unfold M.l_eqInterface at hm
 refine cE Tryz.func123 ?_
 have M0 := Mem.refl [] w
 refine QA (wN (CE 87 [iv a.Mask, SL l a.Stack i, SL m a.Queue.Slots j, SL n a.Queue.Waiting k]) M0 fun f S G => wN (CE 87 [iv b.Mask, SL v b.Stack q, SL x b.Queue.Slots t, SL y b.Queue.Waiting u]) G fun d c g => MW 1 (NB (MW 1 (wV (iv a.Mask) c (eL false 1 0 (g.blk 0 rfl)) (MW 1 (wV (iv b.Mask) c (eL false 1 0 (g.blk 1 rfl)) (MW 1 (NO (GT hm (fun z hm => ?_) fun z hm => ?_)))))))))
 ·refine QA (MW 1 (ND ?_))
  obtain rfl := HS hm
  exact RA [.bool false] (⟨rfl, g.pk []⟩)
 refine KB (MW 1 (wV (SL l a.Stack i) c (eL false 1 1 (g.blk 0 rfl)) (MW 1 (wV (SL v b.Stack q) c (eL false 1 1 (g.blk 1 rfl)) (GD hm fun Q O hm => WD (c_l_eqIntS c a.Stack l i (H.mem0 g) b.Stack v q (K.mem0 g) O) g fun o h => MW 1 (NO (GT hm (fun A hm => ?_) fun A hm => ?_)))))))
 ·refine QA (MW 1 (ND ?_))
  obtain rfl := HS hm
  exact RA [.bool false] (⟨rfl, h.pk []⟩)
 refine KB (MW 1 (wV (.agg #[SL m a.Queue.Slots j, SL n a.Queue.Waiting k]) o (eL true 2 2 (h.blk 0 rfl)) (MW 1 (wV (.agg #[SL x b.Queue.Slots t, SL y b.Queue.Waiting u]) o (eL true 2 2 (h.blk 1 rfl)) (GD hm fun R P hm => WD (c_l_eqQueue o a.Queue m j (I.mem0 h) n k (J.mem0 h) b.Queue x t (L.mem0 h) y u (N.mem0 h) P) h fun C D => MW 1 (NO (GT hm (fun B hm => ?_) fun B hm => ?_)))))))
 ·refine QA (MW 1 (ND ?_))
  obtain rfl := HS hm
  exact RA [.bool false] (⟨rfl, D.pk []⟩)
 refine KA (MW 1 (NC ?_))
 obtain rfl := HS hm
 exact RA [.bool true] (⟨rfl, D.pk []⟩)
theorem c_l_eqInterfaceS (w : World) (g : List Interface) (j l) (K : rdD deepInterface w g j l) (h : List Interface) (k m) (L : rdD deepInterface w h k m) {r : Bool} (hm : M.l_eqInterfaceS g h = some r) :
  Calls Tryz.prog 63 #[SL j g l, SL k h m] w fun e w' => e = .returned (.bool r) ∧ Mem [] w w' [] := by
 unfold M.l_eqInterfaceS at hm
 refine cE Tryz.func63 ?_
 have M0 := Mem.refl [] w
 refine QA (MW 1 (NB (MW 5 (NO (GT hm (fun q hm => ?_) fun q hm => ?_)))))
 ·refine QA (MW 1 (ND ?_))
  obtain rfl := HS hm
  exact RA [.bool false] (⟨rfl, M0.pk []⟩)
 refine KB (MW 1 (NO (GD hm fun T Q B => G_meet (fun a w' => ∃ (H : Unit), T = .inl H ∧ Mem [] w w' [] ∧ Sat Tryz.f63.ntmps [] a) ?_ ?_)))
 ·refine GB (G_while (σ := Int) (ρ := (Unit) ⊕ (Bool)) (fun f a w' => Mem [] w w' [] ∧ Sat Tryz.f63.ntmps [(0, SL j g l), (1, SL k h m), (5, iv f)] a) Q (fun a ha => ⟨M0.pk [], ha.s⟩) ?_)
  clear hm
  intro f Y hm C W U ⟨z, N⟩
  refine G_use N (QB (MW 4 (NO (GT hm (fun t hm => ?_) fun t hm => ?_))))
  ·refine GK (TN (GS (GB (GS (G_quiet (by kernel_rfl) (by kernel_rfl) z (MZ 2 (GD hm fun d R hm => ?_)))))))
   obtain ⟨Z, F, D, v⟩ := id K
   obtain ⟨b, n⟩ := gxIdx_fst F R
   refine zV (elemP j (f.toNat * 4)) (fun w_ M_ => (eI (D.mem0 M_) (len_fst F) n)) (zV (.agg #[iv d.Mask, SL ((b 0).1) d.Stack ((b 0).2), SL ((b 1).1) d.Queue.Slots ((b 1).2), SL ((b 2).1) d.Queue.Waiting ((b 2).2)]) (fun w_ M_ => (eE true 4 0 (f.toNat * 4) (D.mem0 M_) n)) (MS 2 [(0, SL j g l), (1, SL k h m), (5, iv f), (20, .agg #[iv d.Mask, SL ((b 0).1) d.Stack ((b 0).2), SL ((b 1).1) d.Queue.Slots ((b 1).2), SL ((b 2).1) d.Queue.Waiting ((b 2).2)]), (21, SL k h m), (22, iv f)] (GD hm fun i S hm => ?_)))
   obtain ⟨aa, G, E, x⟩ := id L
   obtain ⟨c, o⟩ := gxIdx_fst G S
   refine zV (elemP k (f.toNat * 4)) (fun w_ M_ => (eI (E.mem0 M_) (len_fst G) o)) (zV (.agg #[iv i.Mask, SL ((c 0).1) i.Stack ((c 0).2), SL ((c 1).1) i.Queue.Slots ((c 1).2), SL ((c 2).1) i.Queue.Waiting ((c 2).2)]) (fun w_ M_ => (eE true 4 0 (f.toNat * 4) (E.mem0 M_) o)) (GD hm fun y P hm => ZC (.bool y) (fun w_ M_ => c_l_eqInterface w_ d ((b 0).1) ((b 0).2) ((v.mem0 M_).a_ n 0) ((b 1).1) ((b 1).2) ((v.mem0 M_).a_ n 1) ((b 2).1) ((b 2).2) ((v.mem0 M_).a_ n 2) i ((c 0).1) ((c 0).2) ((x.mem0 M_).a_ o 0) ((c 1).1) ((c 1).2) ((x.mem0 M_).a_ o 1) ((c 2).1) ((c 2).2) ((x.mem0 M_).a_ o 2) P) (MZ 1 (Z_end fun I A => (TN (GT hm (fun u hm => ?_) fun u hm => ?_))))))
   ·refine QA (MW 1 (NX ?_))
    obtain rfl := HS hm
    obtain rfl := C _ rfl
    have hm := B; simp only [Sum.elim_inr] at hm
    refine BR (N_meet_ret (TR ?_))
    obtain rfl := HS hm
    exact RA [.bool false] (⟨rfl, A.pk []⟩)
   refine KC (MW 3 (WN ?_))
   cases hm
   exact N_loop fun a ha => ⟨_, rfl, A.pk [], ha.s⟩
  refine XA ?_
  obtain rfl := HS hm
  obtain rfl := C _ rfl
  exact NM fun a ha => ⟨_, rfl, z.pk [], ha.s⟩
 intro X V ⟨H, hout_, J, O⟩
 refine N_use O ?_
 subst hout_
 have hm := B; simp only [Sum.elim_inl] at hm
 refine NF (MW 1 (NC ?_))
 obtain rfl := HS hm
 exact RA [.bool true] (⟨rfl, J.pk []⟩)
theorem c_l_eqMachine (w : World) (a : Machine) (j f) (S : rdS encRoute w a.Routes j f) (k g) (T : rdS Gx.encB w a.Enabled k g) (l h) (U : rdS Gx.encB w a.Raised l h) (m i) (V : rdD deepInterface w a.Cpus m i) (b : Machine) (B x) (W : rdS encRoute w b.Routes B x) (C y) (X : rdS Gx.encB w b.Enabled C y) (D z) (Y : rdS Gx.encB w b.Raised D z) (E A) (Z : rdD deepInterface w b.Cpus E A) {r : Bool} (hm : M.l_eqMachine a b = some r) :
  Calls Tryz.prog 16 #[.agg #[SL j a.Routes f, SL k a.Enabled g, SL l a.Raised h, SL m a.Cpus i], .agg #[SL B b.Routes x, SL C b.Enabled y, SL D b.Raised z, SL E b.Cpus A]] w fun e w' => e = .returned (.bool r) ∧ Mem [] w w' [] := by
 unfold M.l_eqMachine at hm
 refine cE Tryz.func16 ?_
 have M0 := Mem.refl [] w
 refine QA (wN (CE 32 [SL j a.Routes f, SL k a.Enabled g, SL l a.Raised h, SL m a.Cpus i]) M0 fun d w6474 R => wN (CE 32 [SL B b.Routes x, SL C b.Enabled y, SL D b.Raised z, SL E b.Cpus A]) R fun c w6478 F => MW 1 (NB (MW 1 (wV (SL j a.Routes f) w6478 (eL false 1 0 (F.blk 0 rfl)) (MW 1 (wV (SL B b.Routes x) w6478 (eL false 1 0 (F.blk 1 rfl)) (GD hm fun ae aa hm => WD (c_l_eqRouteS w6478 a.Routes j f (S.mem0 F) b.Routes B x (W.mem0 F) aa) F fun n t => MW 1 (NO (GT hm (fun G hm => ?_) fun G hm => ?_)))))))))
 ·refine QA (MW 1 (ND ?_))
  obtain rfl := HS hm
  exact RA [.bool false] (⟨rfl, t.pk []⟩)
 refine KB (MW 1 (wV (SL k a.Enabled g) n (eL false 1 1 (t.blk 0 rfl)) (MW 1 (wV (SL C b.Enabled y) n (eL false 1 1 (t.blk 1 rfl)) (GD hm fun af ab hm => WD (c_l_eqBoolS n a.Enabled k g (T.mem0 t) b.Enabled C y (X.mem0 t) ab) t fun o u => MW 1 (NO (GT hm (fun H hm => ?_) fun H hm => ?_)))))))
 ·refine QA (MW 1 (ND ?_))
  obtain rfl := HS hm
  exact RA [.bool false] (⟨rfl, u.pk []⟩)
 refine KB (MW 1 (wV (SL l a.Raised h) o (eL false 1 2 (u.blk 0 rfl)) (MW 1 (wV (SL D b.Raised z) o (eL false 1 2 (u.blk 1 rfl)) (GD hm fun ag ac hm => WD (c_l_eqBoolS o a.Raised l h (U.mem0 u) b.Raised D z (Y.mem0 u) ac) u fun q v => MW 1 (NO (GT hm (fun I hm => ?_) fun I hm => ?_)))))))
 ·refine QA (MW 1 (ND ?_))
  obtain rfl := HS hm
  exact RA [.bool false] (⟨rfl, v.pk []⟩)
 refine KB (MW 1 (wV (SL m a.Cpus i) q (eL false 1 3 (v.blk 0 rfl)) (MW 1 (wV (SL E b.Cpus A) q (eL false 1 3 (v.blk 1 rfl)) (GD hm fun ah ad hm => WD (c_l_eqInterfaceS q a.Cpus m i (V.mem0 v) b.Cpus E A (Z.mem0 v) ad) v fun K L => wR 1 [(28, .bool (!ah))] K (NO (GT hm (fun J hm => ?_) fun J hm => ?_)))))))
 ·refine QA (MW 1 (ND ?_))
  obtain rfl := HS hm
  exact RA [.bool false] (⟨rfl, L.pk []⟩)
 refine KA (MW 1 (NC ?_))
 obtain rfl := HS hm
 exact RA [.bool true] (⟨rfl, L.pk []⟩)
theorem c_s_l1Own (w : World) (a : List Int) (c b) (n : rdS Gx.encI w a c b) {r : (List Int)} (hm : M.s_l1Own a = some r) :
  Calls Tryz.prog 65 #[SL c a b] w fun e w' => ∃ j i k, e = .returned (SL j r i) ∧ ownS Gx.encI r j i k ∧ Mem [] w w' [k] := by
 unfold M.s_l1Own at hm
 refine cE Tryz.func65 ?_
 have M0 := Mem.refl [] w
 refine QA (MW 1 (NA (wL (E := Gx.encI) ([] : List Int) 0 [] 3 M0 fun u m z x q g => MW 1 (GD hm fun h o hm => wA 8 [iv 0] 0 g q (n.mem0 g) o fun f d v y t l => MW 1 (NC ?_)))))
 obtain rfl := HS hm
 exact RA [SL f h d] (⟨f, d, v, rfl, t, l.pk [0]⟩)
theorem c_i_Machine_hasCpu (w : World) (a : Machine) (j g) (x : rdS encRoute w a.Routes j g) (k h) (y : rdS Gx.encB w a.Enabled k h) (l i) (z : rdS Gx.encB w a.Raised l i) (f d) (A : rdD deepInterface w a.Cpus f d) (b : Int) {r : Bool} (hm : M.i_Machine_hasCpu a b = some r) :
  Calls Tryz.prog 66 #[.agg #[SL j a.Routes g, SL k a.Enabled h, SL l a.Raised i, SL f a.Cpus d], iv b] w fun e w' => e = .returned (.bool r) ∧ Mem [] w w' [] := by
 unfold M.i_Machine_hasCpu at hm
 refine cE Tryz.func66 ?_
 have M0 := Mem.refl [] w
 refine QA (wN (CE 32 [SL j a.Routes g, SL k a.Enabled h, SL l a.Raised i, SL f a.Cpus d]) M0 fun n c m => MW 1 (NA (MW 2 (wV (SL f a.Cpus d) c (eL false 1 3 (m.blk 0 rfl)) (MW 2 (GD hm fun o u hm => WD (c_i_inside c b 0 (w64 ((a.Cpus.length : Int) - 1)) u) m fun v t => MW 1 (NC ?_)))))))
 obtain rfl := HS hm
 exact RA [.bool o] (⟨rfl, t.pk []⟩)
theorem c_l_markRouteS (w : World) (h : List Route) (c f g) (J : ownS encRoute h c f g) (u : Int) (hA : ∀ q ∈ List.flatten [g], w.heap[q.1]? = some q.2) (hN : (idsOf [g]).Nodup) {r : Int × (List Route)} (hm : M.l_markRouteS h u = some r) :
  Calls Tryz.prog 68 #[SL c h f, iv u] w fun e w' => ∃ B, e = .returned (iv r.1) ∧ ownS encRoute r.2 c f B ∧ r.2.length = h.length ∧ Mem (idsOf [g]) w w' [B] := by
 unfold M.l_markRouteS at hm
 refine cE Tryz.func68 ?_
 have M0 := Mem.start' w [g] hA hN
 refine QA (MW 1 (NB (MW 1 (NO (GD hm fun i O I => G_meet (fun a w' => ∃ n, ownS encRoute i.2 c f n ∧ i.2.length = h.length ∧ Mem (idsOf [g]) w w' [n] ∧ Sat Tryz.f68.ntmps [(1, iv i.1)] a) ?_ ?_)))))
 ·refine GB (G_while (σ := Int × Int × List Route) (ρ := Int × List Route) (fun b a w' => ∃ m, ownS encRoute b.2.2 c f m ∧ b.2.2.length = h.length ∧ Mem (idsOf [g]) w w' [m] ∧ Sat Tryz.f68.ntmps [(0, SL c b.2.2 f), (1, iv b.1), (5, iv b.2.1)] a) O (fun a ha => ⟨g, J, rfl, M0.pk [0], ha.s⟩) ?_)
  clear hm
  intro b W hm N S o ⟨m, k, A, j, F⟩
  refine G_use F (QB (MW 4 (NO (GT hm (fun x hm => ?_) fun x hm => ?_))))
  ·refine KD (MW 3 (GD hm fun d l hm => wV (elemP c (b.2.1.toNat * 2)) o (eI (k.r j 0) rfl l) (wV (elemP c (b.2.1.toNat * 2 + 0)) o (eF 0 (b.2.1.toNat * 2) 0 (k.r j 0) l) (wE false 1 b.2.1.toNat 0 (b.2.1.toNat * 2 + 0) d (⟨b.1, d.Target⟩ : Route) (iv b.1) 0 j k (gxIdx_spec l).2 ?_))))
   intro t V y v
   have z := gxIdx_put (⟨b.1, d.Target⟩ : Route) l
   refine LX 0 c f b.2.2 b.2.1.toNat (⟨b.1, d.Target⟩ : Route) (LX 12 c f b.2.2 b.2.1.toNat (⟨b.1, d.Target⟩ : Route) (NA (MW 3 (NA (MW 3 (GD hm fun X P hm => wV (elemP c (b.2.1.toNat * 2)) t (eI (y.r v 0) rfl P) (wV (elemP c (b.2.1.toNat * 2 + 1)) t (eF 1 (b.2.1.toNat * 2) 1 (y.r v 0) z) (wE false 1 b.2.1.toNat 1 (b.2.1.toNat * 2 + 1) (⟨b.1, d.Target⟩ : Route) (⟨(⟨b.1, d.Target⟩ : Route).Priority, w64 (b.1 + 1)⟩ : Route) (iv (w64 (b.1 + 1))) 0 v y (gxIdx_spec z).2 ?_))))))))
   intro C Q L D
   have U := gxIdx_put (⟨(⟨b.1, d.Target⟩ : Route).Priority, w64 (b.1 + 1)⟩ : Route) z
   refine LX 0 c f (b.2.2.set b.2.1.toNat (⟨b.1, d.Target⟩ : Route)) b.2.1.toNat (⟨(⟨b.1, d.Target⟩ : Route).Priority, w64 (b.1 + 1)⟩ : Route) (LX 19 c f (b.2.2.set b.2.1.toNat (⟨b.1, d.Target⟩ : Route)) b.2.1.toNat (⟨(⟨b.1, d.Target⟩ : Route).Priority, w64 (b.1 + 1)⟩ : Route) (NO (GR (MW 3 (NG (wR 3 [(0, SL c ((b.2.2.set b.2.1.toNat (⟨b.1, d.Target⟩ : Route)).set b.2.1.toNat (⟨(⟨b.1, d.Target⟩ : Route).Priority, w64 (b.1 + 1)⟩ : Route)) f), (1, iv (w64 ((w64 (b.1 + 1)) + 1))), (5, iv (w64 (b.2.1 + 1)))] C (WN ?_)))))))
   cases hm
   exact N_loop fun a ha => ⟨_, rfl, Q, L, (List.length_set.trans (List.length_set.trans A)), D.pk [0], ha.s⟩
  refine XA ?_
  obtain rfl := HS hm
  obtain rfl := N _ rfl
  exact NM fun a ha => ⟨m, k, A, j.pk [0], ha.s⟩
 intro T R ⟨n, K, H, E, G⟩
 refine N_use G ?_
 have hm := I
 refine NF (MW 2 (NC ?_))
 obtain rfl := HS hm
 exact RA [iv i.1] (⟨n, rfl, K, H, E.pk [0]⟩)
theorem c_l_markBoolS (w : World) (g : List Bool) (c d f) (E : ownS Gx.encB g c d f) (k : Int) (hA : ∀ q ∈ List.flatten [f], w.heap[q.1]? = some q.2) (hN : (idsOf [f]).Nodup) {r : Int × (List Bool)} (hm : M.l_markBoolS g k = some r) :
  Calls Tryz.prog 69 #[SL c g d, iv k] w fun e w' => ∃ v, e = .returned (iv r.1) ∧ ownS Gx.encB r.2 c d v ∧ r.2.length = g.length ∧ Mem (idsOf [f]) w w' [v] := by
 unfold M.l_markBoolS at hm
 refine cE Tryz.func69 ?_
 have M0 := Mem.start' w [f] hA hN
 refine QA (MW 1 (NB (MW 1 (NO (GD hm fun h I D => G_meet (fun a w' => ∃ j, ownS Gx.encB h.2 c d j ∧ h.2.length = g.length ∧ Mem (idsOf [f]) w w' [j] ∧ Sat Tryz.f69.ntmps [(1, iv h.1)] a) ?_ ?_)))))
 ·refine GB (G_while (σ := Int × Int × List Bool) (ρ := Int × List Bool) (fun b a w' => ∃ i, ownS Gx.encB b.2.2 c d i ∧ b.2.2.length = g.length ∧ Mem (idsOf [f]) w w' [i] ∧ Sat Tryz.f69.ntmps [(0, SL c b.2.2 d), (1, iv b.1), (5, iv b.2.1)] a) I (fun a ha => ⟨f, E, rfl, M0.pk [0], ha.s⟩) ?_)
  clear hm
  intro b P hm H N o ⟨i, n, t, l, A⟩
  refine G_use A (QB (MW 4 (NO (GT hm (fun m hm => ?_) fun m hm => ?_))))
  ·refine KD (MW 5 (GD hm fun L u hm => wV (elemP c (b.2.1.toNat * 1)) o (eI (n.r l 0) rfl u) (wE false 1 b.2.1.toNat 0 (b.2.1.toNat * 1) L ((b.1.tmod 3) == 0) (.bool ((b.1.tmod 3) == 0)) 0 l n (gxIdx_spec u).2 fun x J G y => LX 0 c d b.2.2 b.2.1.toNat ((b.1.tmod 3) == 0) (LX 12 c d b.2.2 b.2.1.toNat ((b.1.tmod 3) == 0) (NO (GR (MW 3 (NG (wR 3 [(0, SL c (b.2.2.set b.2.1.toNat ((b.1.tmod 3) == 0)) d), (1, iv (w64 (b.1 + 1))), (5, iv (w64 (b.2.1 + 1)))] x (WN ?_))))))))))
   cases hm
   exact N_loop fun a ha => ⟨_, rfl, J, G, (List.length_set.trans t), y.pk [0], ha.s⟩
  refine XA ?_
  obtain rfl := HS hm
  obtain rfl := H _ rfl
  exact NM fun a ha => ⟨i, n, t, l.pk [0], ha.s⟩
 intro O K ⟨j, F, C, z, B⟩
 refine N_use B ?_
 have hm := D
 refine NF (MW 2 (NC ?_))
 obtain rfl := HS hm
 exact RA [iv h.1] (⟨j, rfl, F, C, z.pk [0]⟩)
theorem c_l_markIntS (w : World) (g : List Int) (c d f) (E : ownS Gx.encI g c d f) (k : Int) (hA : ∀ q ∈ List.flatten [f], w.heap[q.1]? = some q.2) (hN : (idsOf [f]).Nodup) {r : Int × (List Int)} (hm : M.l_markIntS g k = some r) :
  Calls Tryz.prog 21 #[SL c g d, iv k] w fun e w' => ∃ v, e = .returned (iv r.1) ∧ ownS Gx.encI r.2 c d v ∧ r.2.length = g.length ∧ Mem (idsOf [f]) w w' [v] := by
 unfold M.l_markIntS at hm
 refine cE Tryz.func21 ?_
 have M0 := Mem.start' w [f] hA hN
 refine QA (MW 1 (NB (MW 1 (NO (GD hm fun h I D => G_meet (fun a w' => ∃ j, ownS Gx.encI h.2 c d j ∧ h.2.length = g.length ∧ Mem (idsOf [f]) w w' [j] ∧ Sat Tryz.f21.ntmps [(1, iv h.1)] a) ?_ ?_)))))
 ·refine GB (G_while (σ := Int × Int × List Int) (ρ := Int × List Int) (fun b a w' => ∃ i, ownS Gx.encI b.2.2 c d i ∧ b.2.2.length = g.length ∧ Mem (idsOf [f]) w w' [i] ∧ Sat Tryz.f21.ntmps [(0, SL c b.2.2 d), (1, iv b.1), (5, iv b.2.1)] a) I (fun a ha => ⟨f, E, rfl, M0.pk [0], ha.s⟩) ?_)
  clear hm
  intro b P hm H N o ⟨i, n, t, l, A⟩
  refine G_use A (QB (MW 4 (NO (GT hm (fun m hm => ?_) fun m hm => ?_))))
  ·refine KD (MW 3 (GD hm fun L u hm => wV (elemP c (b.2.1.toNat * 1)) o (eI (n.r l 0) rfl u) (wE false 1 b.2.1.toNat 0 (b.2.1.toNat * 1) L b.1 (iv b.1) 0 l n (gxIdx_spec u).2 fun x J G y => LX 0 c d b.2.2 b.2.1.toNat b.1 (LX 12 c d b.2.2 b.2.1.toNat b.1 (NO (GR (MW 3 (NG (MW 3 (WN ?_))))))))))
   cases hm
   exact N_loop fun a ha => ⟨_, rfl, J, G, (List.length_set.trans t), y.pk [0], ha.s⟩
  refine XA ?_
  obtain rfl := HS hm
  obtain rfl := H _ rfl
  exact NM fun a ha => ⟨i, n, t, l.pk [0], ha.s⟩
 intro O K ⟨j, F, C, z, B⟩
 refine N_use B ?_
 have hm := D
 refine NF (wR 2 [(4, iv h.1)] K (NC ?_))
 obtain rfl := HS hm
 exact RA [iv h.1] (⟨j, rfl, F, C, z.pk [0]⟩)
theorem c_l_markSlotS (w : World) (h : List Slot) (d f g) (O : ownS encSlot h d f g) (v : Int) (hA : ∀ q ∈ List.flatten [g], w.heap[q.1]? = some q.2) (hN : (idsOf [g]).Nodup) {r : Int × (List Slot)} (hm : M.l_markSlotS h v = some r) :
  Calls Tryz.prog 125 #[SL d h f, iv v] w fun e w' => ∃ F, e = .returned (iv r.1) ∧ ownS encSlot r.2 d f F ∧ r.2.length = h.length ∧ Mem (idsOf [g]) w w' [F] := by
 unfold M.l_markSlotS at hm
 refine cE Tryz.func125 ?_
 have M0 := Mem.start' w [g] hA hN
 refine QA (MW 1 (NB (MW 1 (NO (GD hm fun i S N => G_meet (fun a w' => ∃ n, ownS encSlot i.2 d f n ∧ i.2.length = h.length ∧ Mem (idsOf [g]) w w' [n] ∧ Sat Tryz.f125.ntmps [(1, iv i.1)] a) ?_ ?_)))))
 ·refine GB (G_while (σ := Int × Int × List Slot) (ρ := Int × List Slot) (fun b a w' => ∃ m, ownS encSlot b.2.2 d f m ∧ b.2.2.length = h.length ∧ Mem (idsOf [g]) w w' [m] ∧ Sat Tryz.f125.ntmps [(0, SL d b.2.2 f), (1, iv b.1), (5, iv b.2.1)] a) S (fun a ha => ⟨g, O, rfl, M0.pk [0], ha.s⟩) ?_)
  clear hm
  intro b ac hm R X o ⟨m, k, E, j, J⟩
  refine G_use J (QB (MW 4 (NO (GT hm (fun z hm => ?_) fun z hm => ?_))))
  ·refine KD (MW 3 (GD hm fun c l hm => wV (elemP d (b.2.1.toNat * 3)) o (eI (k.r j 0) rfl l) (wV (elemP d (b.2.1.toNat * 3 + 0)) o (eF 0 (b.2.1.toNat * 3) 0 (k.r j 0) l) (wE false 1 b.2.1.toNat 0 (b.2.1.toNat * 3 + 0) c (⟨b.1, c.Irq, c.Priority⟩ : Slot) (iv b.1) 0 j k (gxIdx_spec l).2 ?_))))
   intro t aa A x
   have C := gxIdx_put (⟨b.1, c.Irq, c.Priority⟩ : Slot) l
   refine LX 0 d f b.2.2 b.2.1.toNat (⟨b.1, c.Irq, c.Priority⟩ : Slot) (LX 12 d f b.2.2 b.2.1.toNat (⟨b.1, c.Irq, c.Priority⟩ : Slot) (NA (MW 3 (NA (MW 3 (GD hm fun ad T hm => wV (elemP d (b.2.1.toNat * 3)) t (eI (A.r x 0) rfl T) (wV (elemP d (b.2.1.toNat * 3 + 1)) t (eF 1 (b.2.1.toNat * 3) 1 (A.r x 0) C) (wE false 1 b.2.1.toNat 1 (b.2.1.toNat * 3 + 1) (⟨b.1, c.Irq, c.Priority⟩ : Slot) (⟨(⟨b.1, c.Irq, c.Priority⟩ : Slot).State, w64 (b.1 + 1), (⟨b.1, c.Irq, c.Priority⟩ : Slot).Priority⟩ : Slot) (iv (w64 (b.1 + 1))) 0 x A (gxIdx_spec C).2 ?_))))))))
   intro u ab B y
   have D := gxIdx_put (⟨(⟨b.1, c.Irq, c.Priority⟩ : Slot).State, w64 (b.1 + 1), (⟨b.1, c.Irq, c.Priority⟩ : Slot).Priority⟩ : Slot) C
   refine LX 0 d f (b.2.2.set b.2.1.toNat (⟨b.1, c.Irq, c.Priority⟩ : Slot)) b.2.1.toNat (⟨(⟨b.1, c.Irq, c.Priority⟩ : Slot).State, w64 (b.1 + 1), (⟨b.1, c.Irq, c.Priority⟩ : Slot).Priority⟩ : Slot) (LX 19 d f (b.2.2.set b.2.1.toNat (⟨b.1, c.Irq, c.Priority⟩ : Slot)) b.2.1.toNat (⟨(⟨b.1, c.Irq, c.Priority⟩ : Slot).State, w64 (b.1 + 1), (⟨b.1, c.Irq, c.Priority⟩ : Slot).Priority⟩ : Slot) (NA (MW 3 (NA (wR 3 [(0, SL d ((b.2.2.set b.2.1.toNat (⟨b.1, c.Irq, c.Priority⟩ : Slot)).set b.2.1.toNat (⟨(⟨b.1, c.Irq, c.Priority⟩ : Slot).State, w64 (b.1 + 1), (⟨b.1, c.Irq, c.Priority⟩ : Slot).Priority⟩ : Slot)) f), (1, iv (w64 ((w64 (b.1 + 1)) + 1))), (5, iv b.2.1), (26, SL d ((b.2.2.set b.2.1.toNat (⟨b.1, c.Irq, c.Priority⟩ : Slot)).set b.2.1.toNat (⟨(⟨b.1, c.Irq, c.Priority⟩ : Slot).State, w64 (b.1 + 1), (⟨b.1, c.Irq, c.Priority⟩ : Slot).Priority⟩ : Slot)) f), (27, iv b.2.1), (28, iv (w64 ((w64 (b.1 + 1)) + 1)))] u (GD hm fun ae U hm => wV (elemP d (b.2.1.toNat * 3)) u (eI (B.r y 0) rfl U) (wV (elemP d (b.2.1.toNat * 3 + 2)) u (eF 2 (b.2.1.toNat * 3) 2 (B.r y 0) D) (wE false 1 b.2.1.toNat 2 (b.2.1.toNat * 3 + 2) (⟨(⟨b.1, c.Irq, c.Priority⟩ : Slot).State, w64 (b.1 + 1), (⟨b.1, c.Irq, c.Priority⟩ : Slot).Priority⟩ : Slot) (⟨(⟨(⟨b.1, c.Irq, c.Priority⟩ : Slot).State, w64 (b.1 + 1), (⟨b.1, c.Irq, c.Priority⟩ : Slot).Priority⟩ : Slot).State, (⟨(⟨b.1, c.Irq, c.Priority⟩ : Slot).State, w64 (b.1 + 1), (⟨b.1, c.Irq, c.Priority⟩ : Slot).Priority⟩ : Slot).Irq, w64 ((w64 (b.1 + 1)) + 1)⟩ : Slot) (iv (w64 ((w64 (b.1 + 1)) + 1))) 0 y B (gxIdx_spec D).2 ?_))))))))
   intro G V Q H
   have Z := gxIdx_put (⟨(⟨(⟨b.1, c.Irq, c.Priority⟩ : Slot).State, w64 (b.1 + 1), (⟨b.1, c.Irq, c.Priority⟩ : Slot).Priority⟩ : Slot).State, (⟨(⟨b.1, c.Irq, c.Priority⟩ : Slot).State, w64 (b.1 + 1), (⟨b.1, c.Irq, c.Priority⟩ : Slot).Priority⟩ : Slot).Irq, w64 ((w64 (b.1 + 1)) + 1)⟩ : Slot) D
   refine LX 0 d f ((b.2.2.set b.2.1.toNat (⟨b.1, c.Irq, c.Priority⟩ : Slot)).set b.2.1.toNat (⟨(⟨b.1, c.Irq, c.Priority⟩ : Slot).State, w64 (b.1 + 1), (⟨b.1, c.Irq, c.Priority⟩ : Slot).Priority⟩ : Slot)) b.2.1.toNat (⟨(⟨(⟨b.1, c.Irq, c.Priority⟩ : Slot).State, w64 (b.1 + 1), (⟨b.1, c.Irq, c.Priority⟩ : Slot).Priority⟩ : Slot).State, (⟨(⟨b.1, c.Irq, c.Priority⟩ : Slot).State, w64 (b.1 + 1), (⟨b.1, c.Irq, c.Priority⟩ : Slot).Priority⟩ : Slot).Irq, w64 ((w64 (b.1 + 1)) + 1)⟩ : Slot) (LX 26 d f ((b.2.2.set b.2.1.toNat (⟨b.1, c.Irq, c.Priority⟩ : Slot)).set b.2.1.toNat (⟨(⟨b.1, c.Irq, c.Priority⟩ : Slot).State, w64 (b.1 + 1), (⟨b.1, c.Irq, c.Priority⟩ : Slot).Priority⟩ : Slot)) b.2.1.toNat (⟨(⟨(⟨b.1, c.Irq, c.Priority⟩ : Slot).State, w64 (b.1 + 1), (⟨b.1, c.Irq, c.Priority⟩ : Slot).Priority⟩ : Slot).State, (⟨(⟨b.1, c.Irq, c.Priority⟩ : Slot).State, w64 (b.1 + 1), (⟨b.1, c.Irq, c.Priority⟩ : Slot).Priority⟩ : Slot).Irq, w64 ((w64 (b.1 + 1)) + 1)⟩ : Slot) (NO (GR (MW 3 (NG (MW 3 (WN ?_)))))))
   cases hm
   exact N_loop fun a ha => ⟨_, rfl, V, Q, (List.length_set.trans (List.length_set.trans (List.length_set.trans E))), H.pk [0], ha.s⟩
  refine XA ?_
  obtain rfl := HS hm
  obtain rfl := R _ rfl
  exact NM fun a ha => ⟨m, k, E, j.pk [0], ha.s⟩
 intro Y W ⟨n, P, L, I, K⟩
 refine N_use K ?_
 have hm := N
 refine NF (MW 2 (NC ?_))
 obtain rfl := HS hm
 exact RA [iv i.1] (⟨n, rfl, P, L, I.pk [0]⟩)
theorem c_l_markWaiterS (w : World) (h : List Waiter) (c f g) (J : ownS encWaiter h c f g) (u : Int) (hA : ∀ q ∈ List.flatten [g], w.heap[q.1]? = some q.2) (hN : (idsOf [g]).Nodup) {r : Int × (List Waiter)} (hm : M.l_markWaiterS h u = some r) :
  Calls Tryz.prog 126 #[SL c h f, iv u] w fun e w' => ∃ B, e = .returned (iv r.1) ∧ ownS encWaiter r.2 c f B ∧ r.2.length = h.length ∧ Mem (idsOf [g]) w w' [B] := by
 unfold M.l_markWaiterS at hm
 refine cE Tryz.func126 ?_
 have M0 := Mem.start' w [g] hA hN
 refine QA (MW 1 (NB (MW 1 (NO (GD hm fun i O I => G_meet (fun a w' => ∃ n, ownS encWaiter i.2 c f n ∧ i.2.length = h.length ∧ Mem (idsOf [g]) w w' [n] ∧ Sat Tryz.f126.ntmps [(1, iv i.1)] a) ?_ ?_)))))
 ·refine GB (G_while (σ := Int × Int × List Waiter) (ρ := Int × List Waiter) (fun b a w' => ∃ m, ownS encWaiter b.2.2 c f m ∧ b.2.2.length = h.length ∧ Mem (idsOf [g]) w w' [m] ∧ Sat Tryz.f126.ntmps [(0, SL c b.2.2 f), (1, iv b.1), (5, iv b.2.1)] a) O (fun a ha => ⟨g, J, rfl, M0.pk [0], ha.s⟩) ?_)
  clear hm
  intro b W hm N S o ⟨m, k, A, j, F⟩
  refine G_use F (QB (MW 4 (NO (GT hm (fun x hm => ?_) fun x hm => ?_))))
  ·refine KD (MW 3 (GD hm fun d l hm => wV (elemP c (b.2.1.toNat * 2)) o (eI (k.r j 0) rfl l) (wV (elemP c (b.2.1.toNat * 2 + 0)) o (eF 0 (b.2.1.toNat * 2) 0 (k.r j 0) l) (wE false 1 b.2.1.toNat 0 (b.2.1.toNat * 2 + 0) d (⟨b.1, d.Priority⟩ : Waiter) (iv b.1) 0 j k (gxIdx_spec l).2 ?_))))
   intro t V y v
   have z := gxIdx_put (⟨b.1, d.Priority⟩ : Waiter) l
   refine LX 0 c f b.2.2 b.2.1.toNat (⟨b.1, d.Priority⟩ : Waiter) (LX 12 c f b.2.2 b.2.1.toNat (⟨b.1, d.Priority⟩ : Waiter) (NA (MW 3 (NA (MW 3 (GD hm fun X P hm => wV (elemP c (b.2.1.toNat * 2)) t (eI (y.r v 0) rfl P) (wV (elemP c (b.2.1.toNat * 2 + 1)) t (eF 1 (b.2.1.toNat * 2) 1 (y.r v 0) z) (wE false 1 b.2.1.toNat 1 (b.2.1.toNat * 2 + 1) (⟨b.1, d.Priority⟩ : Waiter) (⟨(⟨b.1, d.Priority⟩ : Waiter).Irq, w64 (b.1 + 1)⟩ : Waiter) (iv (w64 (b.1 + 1))) 0 v y (gxIdx_spec z).2 ?_))))))))
   intro C Q L D
   have U := gxIdx_put (⟨(⟨b.1, d.Priority⟩ : Waiter).Irq, w64 (b.1 + 1)⟩ : Waiter) z
   refine LX 0 c f (b.2.2.set b.2.1.toNat (⟨b.1, d.Priority⟩ : Waiter)) b.2.1.toNat (⟨(⟨b.1, d.Priority⟩ : Waiter).Irq, w64 (b.1 + 1)⟩ : Waiter) (LX 19 c f (b.2.2.set b.2.1.toNat (⟨b.1, d.Priority⟩ : Waiter)) b.2.1.toNat (⟨(⟨b.1, d.Priority⟩ : Waiter).Irq, w64 (b.1 + 1)⟩ : Waiter) (NO (GR (MW 3 (NG (wR 3 [(0, SL c ((b.2.2.set b.2.1.toNat (⟨b.1, d.Priority⟩ : Waiter)).set b.2.1.toNat (⟨(⟨b.1, d.Priority⟩ : Waiter).Irq, w64 (b.1 + 1)⟩ : Waiter)) f), (1, iv (w64 ((w64 (b.1 + 1)) + 1))), (5, iv (w64 (b.2.1 + 1)))] C (WN ?_)))))))
   cases hm
   exact N_loop fun a ha => ⟨_, rfl, Q, L, (List.length_set.trans (List.length_set.trans A)), D.pk [0], ha.s⟩
  refine XA ?_
  obtain rfl := HS hm
  obtain rfl := N _ rfl
  exact NM fun a ha => ⟨m, k, A, j.pk [0], ha.s⟩
 intro T R ⟨n, K, H, E, G⟩
 refine N_use G ?_
 have hm := I
 refine NF (MW 2 (NC ?_))
 obtain rfl := HS hm
 exact RA [iv i.1] (⟨n, rfl, K, H, E.pk [0]⟩)
theorem c_l_markInterfaceS (w : World) (A : List Interface) (g h t) (u) (b5 : ownD deepInterface A g h t u) (am : Int) (hA : ∀ q ∈ List.flatten [t, u], w.heap[q.1]? = some q.2) (hN : (idsOf [t, u]).Nodup) {r : Int × (List Interface)} (hm : M.l_markInterfaceS A am = some r) :
  Calls Tryz.prog 70 #[SL g A h, iv am] w fun e w' => ∃ a4 a5, e = .returned (iv r.1) ∧ ownD deepInterface r.2 g h a4 a5 ∧ r.2.length = A.length ∧ Mem (idsOf [t, u]) w w' [a4, a5] := by
 unfold M.l_markInterfaceS at hm
 refine cE Tryz.func70 ?_
 have M0 := Mem.start' w [t, u] hA hN
 refine QA (MW 1 (NB (MW 1 (NO (GD hm fun K dd b4 => G_meet (fun a w' => ∃ ad ae, ownD deepInterface K.2 g h ad ae ∧ K.2.length = A.length ∧ Mem (idsOf [t, u]) w w' [ad, ae] ∧ Sat Tryz.f70.ntmps [(1, iv K.1)] a) ?_ ?_)))))
 ·refine GB (G_while (σ := Int × Int × List Interface) (ρ := Int × List Interface) (fun b a w' => ∃ ac O, ownD deepInterface b.2.2 g h ac O ∧ b.2.2.length = A.length ∧ Mem (idsOf [t, u]) w w' [ac, O] ∧ Sat Tryz.f70.ntmps [(0, SL g b.2.2 h), (1, iv b.1), (5, iv b.2.1)] a) dd (fun a ha => ⟨t, u, b5, rfl, M0.pk [0, 1], ha.s⟩) ?_)
  clear hm
  intro b d5 hm co dw ak ⟨ac, O, a3, a0, R, bt⟩
  refine G_use bt (QB (MW 4 (NO (GT hm (fun ar hm => ?_) fun ar hm => ?_))))
  ·refine KD (MW 3 (GD hm fun c de hm => ?_))
   obtain ⟨d6, U, ax, bz⟩ := id a3
   obtain ⟨aq, H⟩ := gxIdx_fst U de
   refine wV (elemP g (b.2.1.toNat * 4)) ak (eI (ax.r R 0) (len_fst U) H) (wV (elemP g (b.2.1.toNat * 4 + 0)) ak (eF 0 (b.2.1.toNat * 4) 0 (ax.r R 0) H) (wE false 1 b.2.1.toNat 0 (b.2.1.toNat * 4 + 0) (c, aq) ((⟨b.1, c.Stack, c.Queue⟩ : Interface), aq) (iv b.1) 0 R ax (gxIdx_spec H).2 ?_))
   intro D x b7 S
   have b8 : ownD deepInterface (b.2.2.set b.2.1.toNat (⟨b.1, c.Stack, c.Queue⟩ : Interface)) g h x O := ⟨_, set_fst U b.2.1.toNat ((⟨b.1, c.Stack, c.Queue⟩ : Interface), aq), b7, (by rw [flatMap_setSame (gxIdx_spec H).2 (by kernel_rfl)]; exact bz)⟩
   have dy := gxIdx_put (⟨b.1, c.Stack, c.Queue⟩ : Interface) (gxIdx_down U H)
   refine LX 0 g h b.2.2 b.2.1.toNat (⟨b.1, c.Stack, c.Queue⟩ : Interface) (LX 12 g h b.2.2 b.2.1.toNat (⟨b.1, c.Stack, c.Queue⟩ : Interface) (NA (MW 3 (NA (MW 2 (GD hm fun d df hm => ?_))))))
   obtain ⟨d7, V, T, b0⟩ := id b8
   obtain ⟨l, E⟩ := gxIdx_fst V df
   refine wV (elemP g (b.2.1.toNat * 4)) D (eI (T.r S 0) (len_fst V) E) (wV (elemP g (b.2.1.toNat * 4 + 1)) D (eF 1 (b.2.1.toNat * 4) 1 (T.r S 0) E) (wV (SL ((l 0).1) d.Stack ((l 0).2)) D (eE false 1 1 (b.2.1.toNat * 4 + 1) (T.r S 0) E) (wR 1 [(0, SL g (b.2.2.set b.2.1.toNat (⟨b.1, c.Stack, c.Queue⟩ : Interface)) h), (1, iv (w64 (b.1 + 1))), (5, iv b.2.1), (23, SL ((l 0).1) d.Stack ((l 0).2)), (24, iv (w64 (b.1 + 1)))] D ?_)))
   obtain ⟨Y, ds, aa, c1, bv, cp⟩ := b0.lens (gxIdx_spec E).2
   have bc := S.cut 1 (sa := Y) (sb := ds) (sc := aa) c1 (by kernel_rfl)
   obtain ⟨a6, di, c4, b9, ct⟩ := bv
   have bd := bc.cut 2 (sa := []) (sb := a6) (sc := di) c4 (by kernel_rfl)
   obtain ⟨ag, dj, c5, ca, cu⟩ := ct
   have be := bd.cut 5 (sa := []) (sb := ag) (sc := dj) c5 (by kernel_rfl)
   obtain ⟨ah, dk, c6, cb, d2⟩ := cu
   have an := be.cut 7 (sa := []) (sb := ah) (sc := dk) c6 (by kernel_rfl)
   refine GD hm fun k cs hm => WC ((c_l_markIntS D d.Stack ((l 0).1) ((l 0).2) a6 b9 (w64 (b.1 + 1)) (an.hasPick [4]) (an.nodupPick [4] (by kernel_rfl)) cs).mono ?_)
   rintro e_ y ⟨ay, rfl, cc, au, a9⟩
   have bf := an.callF' [4] [0, 1, 2, 3, 5, 6, 7, 8, 9] (by kernel_rfl) a9
   refine ⟨_, rfl, ?_⟩
   refine LY 23 ((l 0).1) ((l 0).2) au ?_
   have bg : Mem (idsOf [t, u]) w y [x, [], [], [], Y, ay, ag, ah, aa] := bf.pk [0, 2, 4, 6, 1, 9, 5, 7, 3]
   have F : Mem (idsOf [t, u]) w y [x, [], [], [], (Y ++ ((ay ++ (ag ++ (ah ++ []))) ++ aa))] := bg.regroup (by simp)
   have cd : ownD deepInterface ((b.2.2.set b.2.1.toNat (⟨b.1, c.Stack, c.Queue⟩ : Interface)).set b.2.1.toNat (⟨d.Mask, k.2, d.Queue⟩ : Interface)) g h x (Y ++ ((ay ++ (ag ++ (ah ++ []))) ++ aa)) := ⟨_, set_fst V b.2.1.toNat ((⟨d.Mask, k.2, d.Queue⟩ : Interface), l), (T.setSame (z' := ((⟨d.Mask, k.2, d.Queue⟩ : Interface), l)) (gxIdx_spec E).2 (by show ([iv d.Mask, .slice ((l 0).1) k.2.length ((l 0).2), .slice ((l 1).1) d.Queue.Slots.length ((l 1).2), .slice ((l 2).1) d.Queue.Waiting.length ((l 2).2)] : List Value) = [iv d.Mask, .slice ((l 0).1) d.Stack.length ((l 0).2), .slice ((l 1).1) d.Queue.Slots.length ((l 1).2), .slice ((l 2).1) d.Queue.Waiting.length ((l 2).2)]; rw [au])), cp ((⟨d.Mask, k.2, d.Queue⟩ : Interface), l) _ (ownI_cons (i := ⟨Int, Gx.encI, _, _, _⟩) cc (ownI_cons (i := ⟨Slot, encSlot, _, _, _⟩) ca (ownI_cons (i := ⟨Waiter, encWaiter, _, _, _⟩) cb ownI_nil)))⟩
   have dz := gxIdx_put (⟨d.Mask, k.2, d.Queue⟩ : Interface) (gxIdx_down V E)
   refine LX 0 g h (b.2.2.set b.2.1.toNat (⟨b.1, c.Stack, c.Queue⟩ : Interface)) b.2.1.toNat (⟨d.Mask, k.2, d.Queue⟩ : Interface) (MW 1 (NA (MW 2 (GD hm fun f dg hm => ?_))))
   obtain ⟨d8, W, I, b1⟩ := id cd
   obtain ⟨m, B⟩ := gxIdx_fst W dg
   refine wV (elemP g (b.2.1.toNat * 4)) y (eI (I.r F 0) (len_fst W) B) (wV (elemP g (b.2.1.toNat * 4 + 2)) y (eF 2 (b.2.1.toNat * 4) 2 (I.r F 0) B) (wV (elemP g (b.2.1.toNat * 4 + 2 + 0)) y (eF 0 (b.2.1.toNat * 4 + 2) 0 (I.r F 0) B) (wV (SL ((m 1).1) f.Queue.Slots ((m 1).2)) y (eE false 1 2 (b.2.1.toNat * 4 + 2 + 0) (I.r F 0) B) (wR 1 [(0, SL g ((b.2.2.set b.2.1.toNat (⟨b.1, c.Stack, c.Queue⟩ : Interface)).set b.2.1.toNat (⟨d.Mask, k.2, d.Queue⟩ : Interface)) h), (1, iv k.1), (5, iv b.2.1), (31, SL ((m 1).1) f.Queue.Slots ((m 1).2)), (32, iv k.1)] y ?_))))
   obtain ⟨Z, dt, ab, c2, bw, cq⟩ := b1.lens (gxIdx_spec B).2
   have bh := F.cut 4 (sa := Z) (sb := dt) (sc := ab) c2 (by kernel_rfl)
   obtain ⟨ai, dl, c7, ce, cw⟩ := bw
   have bi := bh.cut 5 (sa := []) (sb := ai) (sc := dl) c7 (by kernel_rfl)
   obtain ⟨a7, dm, c8, cf, cx⟩ := cw
   have bj := bi.cut 8 (sa := []) (sb := a7) (sc := dm) c8 (by kernel_rfl)
   obtain ⟨aj, dn, c9, cg, d3⟩ := cx
   have ao := bj.cut 10 (sa := []) (sb := aj) (sc := dn) c9 (by kernel_rfl)
   refine GD hm fun o cv hm => WC ((c_l_markSlotS y f.Queue.Slots ((m 1).1) ((m 1).2) a7 cf k.1 (ao.hasPick [9]) (ao.nodupPick [9] (by kernel_rfl)) cv).mono ?_)
   rintro e_ z ⟨az, rfl, ch, av, ba⟩
   have bk := ao.callF' [9] [0, 1, 2, 3, 4, 5, 6, 7, 8, 10, 11, 12] (by kernel_rfl) ba
   refine ⟨_, rfl, ?_⟩
   refine LY 31 ((m 1).1) ((m 1).2) av ?_
   have bl : Mem (idsOf [t, u]) w z [x, [], [], [], [], [], [], Z, ai, az, aj, ab] := bk.pk [0, 1, 2, 3, 5, 8, 9, 4, 7, 12, 10, 6]
   have G : Mem (idsOf [t, u]) w z [x, [], [], [], [], [], [], (Z ++ ((ai ++ (az ++ (aj ++ []))) ++ ab))] := bl.regroup (by simp)
   have ci : ownD deepInterface (((b.2.2.set b.2.1.toNat (⟨b.1, c.Stack, c.Queue⟩ : Interface)).set b.2.1.toNat (⟨d.Mask, k.2, d.Queue⟩ : Interface)).set b.2.1.toNat (⟨f.Mask, f.Stack, (⟨o.2, f.Queue.Waiting⟩ : Queue)⟩ : Interface)) g h x (Z ++ ((ai ++ (az ++ (aj ++ []))) ++ ab)) := ⟨_, set_fst W b.2.1.toNat ((⟨f.Mask, f.Stack, (⟨o.2, f.Queue.Waiting⟩ : Queue)⟩ : Interface), m), (I.setSame (z' := ((⟨f.Mask, f.Stack, (⟨o.2, f.Queue.Waiting⟩ : Queue)⟩ : Interface), m)) (gxIdx_spec B).2 (by show ([iv f.Mask, .slice ((m 0).1) f.Stack.length ((m 0).2), .slice ((m 1).1) o.2.length ((m 1).2), .slice ((m 2).1) f.Queue.Waiting.length ((m 2).2)] : List Value) = [iv f.Mask, .slice ((m 0).1) f.Stack.length ((m 0).2), .slice ((m 1).1) f.Queue.Slots.length ((m 1).2), .slice ((m 2).1) f.Queue.Waiting.length ((m 2).2)]; rw [av])), cq ((⟨f.Mask, f.Stack, (⟨o.2, f.Queue.Waiting⟩ : Queue)⟩ : Interface), m) _ (ownI_cons (i := ⟨Int, Gx.encI, _, _, _⟩) ce (ownI_cons (i := ⟨Slot, encSlot, _, _, _⟩) ch (ownI_cons (i := ⟨Waiter, encWaiter, _, _, _⟩) cg ownI_nil)))⟩
   have d0 := gxIdx_put (⟨f.Mask, f.Stack, (⟨o.2, f.Queue.Waiting⟩ : Queue)⟩ : Interface) (gxIdx_down W B)
   refine LX 0 g h ((b.2.2.set b.2.1.toNat (⟨b.1, c.Stack, c.Queue⟩ : Interface)).set b.2.1.toNat (⟨d.Mask, k.2, d.Queue⟩ : Interface)) b.2.1.toNat (⟨f.Mask, f.Stack, (⟨o.2, f.Queue.Waiting⟩ : Queue)⟩ : Interface) (MW 1 (NO (GR (MW 2 (GD hm fun j dh hm => ?_)))))
   obtain ⟨d9, X, J, b2⟩ := id ci
   obtain ⟨n, C⟩ := gxIdx_fst X dh
   refine wV (elemP g (b.2.1.toNat * 4)) z (eI (J.r G 0) (len_fst X) C) (wV (elemP g (b.2.1.toNat * 4 + 2)) z (eF 2 (b.2.1.toNat * 4) 2 (J.r G 0) C) (wV (elemP g (b.2.1.toNat * 4 + 2 + 1)) z (eF 1 (b.2.1.toNat * 4 + 2) 1 (J.r G 0) C) (wV (SL ((n 2).1) j.Queue.Waiting ((n 2).2)) z (eE false 1 3 (b.2.1.toNat * 4 + 2 + 1) (J.r G 0) C) (wR 1 [(0, SL g (((b.2.2.set b.2.1.toNat (⟨b.1, c.Stack, c.Queue⟩ : Interface)).set b.2.1.toNat (⟨d.Mask, k.2, d.Queue⟩ : Interface)).set b.2.1.toNat (⟨f.Mask, f.Stack, (⟨o.2, f.Queue.Waiting⟩ : Queue)⟩ : Interface)) h), (1, iv o.1), (5, iv b.2.1), (39, SL ((n 2).1) j.Queue.Waiting ((n 2).2)), (40, iv o.1)] z ?_))))
   obtain ⟨L, du, N, c3, bx, cr⟩ := b2.lens (gxIdx_spec C).2
   have bm := G.cut 7 (sa := L) (sb := du) (sc := N) c3 (by kernel_rfl)
   obtain ⟨P, dp, da, cj, cz⟩ := bx
   have bn := bm.cut 8 (sa := []) (sb := P) (sc := dp) da (by kernel_rfl)
   obtain ⟨Q, dq, db, ck, c0⟩ := cz
   have bo := bn.cut 11 (sa := []) (sb := Q) (sc := dq) db (by kernel_rfl)
   obtain ⟨a8, dr, dc, cl, d4⟩ := c0
   have ap := bo.cut 13 (sa := []) (sb := a8) (sc := dr) dc (by kernel_rfl)
   refine GD hm fun v cy hm => WC ((c_l_markWaiterS z j.Queue.Waiting ((n 2).1) ((n 2).2) a8 cl o.1 (ap.hasPick [14]) (ap.nodupPick [14] (by kernel_rfl)) cy).mono ?_)
   rintro e_ al ⟨af, rfl, cm, aw, bb⟩
   have bp := ap.callF' [14] [0, 1, 2, 3, 4, 5, 6, 7, 8, 9, 10, 11, 12, 13, 15] (by kernel_rfl) bb
   refine ⟨_, rfl, ?_⟩
   refine LY 39 ((n 2).1) ((n 2).2) aw ?_
   have bq : Mem (idsOf [t, u]) w al [x, [], [], [], [], [], [], [], [], [], L, P, Q, af, N] := bp.pk [0, 1, 2, 3, 4, 5, 6, 8, 11, 13, 7, 10, 12, 15, 9]
   have br : Mem (idsOf [t, u]) w al [x, [], [], [], [], [], [], [], [], [], (L ++ ((P ++ (Q ++ (af ++ []))) ++ N))] := bq.regroup (by simp)
   have cn : ownD deepInterface ((((b.2.2.set b.2.1.toNat (⟨b.1, c.Stack, c.Queue⟩ : Interface)).set b.2.1.toNat (⟨d.Mask, k.2, d.Queue⟩ : Interface)).set b.2.1.toNat (⟨f.Mask, f.Stack, (⟨o.2, f.Queue.Waiting⟩ : Queue)⟩ : Interface)).set b.2.1.toNat (⟨j.Mask, j.Stack, (⟨j.Queue.Slots, v.2⟩ : Queue)⟩ : Interface)) g h x (L ++ ((P ++ (Q ++ (af ++ []))) ++ N)) := ⟨_, set_fst X b.2.1.toNat ((⟨j.Mask, j.Stack, (⟨j.Queue.Slots, v.2⟩ : Queue)⟩ : Interface), n), (J.setSame (z' := ((⟨j.Mask, j.Stack, (⟨j.Queue.Slots, v.2⟩ : Queue)⟩ : Interface), n)) (gxIdx_spec C).2 (by show ([iv j.Mask, .slice ((n 0).1) j.Stack.length ((n 0).2), .slice ((n 1).1) j.Queue.Slots.length ((n 1).2), .slice ((n 2).1) v.2.length ((n 2).2)] : List Value) = [iv j.Mask, .slice ((n 0).1) j.Stack.length ((n 0).2), .slice ((n 1).1) j.Queue.Slots.length ((n 1).2), .slice ((n 2).1) j.Queue.Waiting.length ((n 2).2)]; rw [aw])), cr ((⟨j.Mask, j.Stack, (⟨j.Queue.Slots, v.2⟩ : Queue)⟩ : Interface), n) _ (ownI_cons (i := ⟨Int, Gx.encI, _, _, _⟩) cj (ownI_cons (i := ⟨Slot, encSlot, _, _, _⟩) ck (ownI_cons (i := ⟨Waiter, encWaiter, _, _, _⟩) cm ownI_nil)))⟩
   have d1 := gxIdx_put (⟨j.Mask, j.Stack, (⟨j.Queue.Slots, v.2⟩ : Queue)⟩ : Interface) (gxIdx_down X C)
   refine LX 0 g h (((b.2.2.set b.2.1.toNat (⟨b.1, c.Stack, c.Queue⟩ : Interface)).set b.2.1.toNat (⟨d.Mask, k.2, d.Queue⟩ : Interface)).set b.2.1.toNat (⟨f.Mask, f.Stack, (⟨o.2, f.Queue.Waiting⟩ : Queue)⟩ : Interface)) b.2.1.toNat (⟨j.Mask, j.Stack, (⟨j.Queue.Slots, v.2⟩ : Queue)⟩ : Interface) (MW 1 (NG (MW 3 (WN ?_))))
   cases hm
   exact N_loop fun a ha => ⟨_, rfl, x, (L ++ ((P ++ (Q ++ (af ++ []))) ++ N)), cn, (List.length_set.trans (List.length_set.trans (List.length_set.trans (List.length_set.trans a0)))), br.pk [0, 10], ha.s⟩
  refine XA ?_
  obtain rfl := HS hm
  obtain rfl := co _ rfl
  exact NM fun a ha => ⟨ac, O, a3, a0, R.pk [0, 1], ha.s⟩
 intro dx dv ⟨ad, ae, b6, b3, bs, bu⟩
 refine N_use bu ?_
 have hm := b4
 refine NF (MW 2 (NC ?_))
 obtain rfl := HS hm
 exact RA [iv K.1] (⟨ad, ae, rfl, b6, b3, bs.pk [0, 1]⟩)
theorem c_l_markMachine (w : World) (a : Machine) (h c v) (ah : ownS encRoute a.Routes h c v) (i d t) (ai : ownS Gx.encB a.Enabled i d t) (j f n) (aj : ownS Gx.encB a.Raised j f n) (k g l) (m) (ak : ownD deepInterface a.Cpus k g l m) (y : Int) (hA : ∀ q ∈ List.flatten [v, t, n, l, m], w.heap[q.1]? = some q.2) (hN : (idsOf [v, t, n, l, m]).Nodup) {r : Int × (List Route) × (List Bool) × (List Bool) × (List Interface)} (hm : M.l_markMachine a y = some r) :
  Calls Tryz.prog 20 #[.agg #[SL h a.Routes c, SL i a.Enabled d, SL j a.Raised f, SL k a.Cpus g], iv y] w fun e w' => ∃ R S T U V, e = .returned (iv r.1) ∧ ownS encRoute r.2.1 h c R ∧ r.2.1.length = a.Routes.length ∧ ownS Gx.encB r.2.2.1 i d S ∧ r.2.2.1.length = a.Enabled.length ∧ ownS Gx.encB r.2.2.2.1 j f T ∧ r.2.2.2.1.length = a.Raised.length ∧ ownD deepInterface r.2.2.2.2 k g U V ∧ r.2.2.2.2.length = a.Cpus.length ∧ Mem (idsOf [v, t, n, l, m]) w w' [R, S, T, U, V] := by
 unfold M.l_markMachine at hm
 refine cE Tryz.func20 ?_
 have M0 := Mem.start' w [v, t, n, l, m] hA hN
 refine QA (wN (CE 32 [SL h a.Routes c, SL i a.Enabled d, SL j a.Raised f, SL k a.Cpus g]) M0 fun b E F => MW 1 (NA (MW 1 (wV (SL h a.Routes c) E (eL false 1 0 (F.blk 5 rfl)) (MW 1 (GD hm fun o ap hm => WC ((c_l_markRouteS E a.Routes h c v ah y (F.hasPick [0]) (F.nodupPick [0] (by kernel_rfl)) ap).mono ?_)))))))
 rintro e_ z ⟨D, rfl, al, J, Y⟩
 have ac := F.callF' [0] [1, 2, 3, 4, 5] (by kernel_rfl) Y
 refine ⟨_, rfl, ?_⟩
 refine LY 6 h c J ?_
 have G : Mem (idsOf [v, t, n, l, m]) w z [t, n, l, m, (BK b 32 [.slice h o.2.length c, .slice i a.Enabled.length d, .slice j a.Raised.length f, .slice k a.Cpus.length g]), D] := by rw [J]; exact ac
 refine MW 1 (NA (MW 1 (wV (SL i a.Enabled d) z (eL false 1 1 (G.blk 4 rfl)) (MW 1 (GD hm fun u aq hm => WC ((c_l_markBoolS z a.Enabled i d t ai o.1 (G.hasPick [0]) (G.nodupPick [0] (by kernel_rfl)) aq).mono ?_))))))
 rintro e_ A ⟨O, rfl, am, K, Z⟩
 have ad := G.callF' [0] [1, 2, 3, 4, 5] (by kernel_rfl) Z
 refine ⟨_, rfl, ?_⟩
 refine LY 10 i d K ?_
 have H : Mem (idsOf [v, t, n, l, m]) w A [n, l, m, (BK b 32 [.slice h o.2.length c, .slice i u.2.length d, .slice j a.Raised.length f, .slice k a.Cpus.length g]), D, O] := by rw [K]; exact ad
 refine MW 1 (NA (MW 1 (wV (SL j a.Raised f) A (eL false 1 2 (H.blk 3 rfl)) (MW 1 (GD hm fun x ar hm => WC ((c_l_markBoolS A a.Raised j f n aj u.1 (H.hasPick [0]) (H.nodupPick [0] (by kernel_rfl)) ar).mono ?_))))))
 rintro e_ B ⟨P, rfl, an, L, aa⟩
 have ae := H.callF' [0] [1, 2, 3, 4, 5] (by kernel_rfl) aa
 refine ⟨_, rfl, ?_⟩
 refine LY 14 j f L ?_
 have I : Mem (idsOf [v, t, n, l, m]) w B [l, m, (BK b 32 [.slice h o.2.length c, .slice i u.2.length d, .slice j x.2.length f, .slice k a.Cpus.length g]), D, O, P] := by rw [L]; exact ae
 refine MW 1 (NA (MW 1 (wV (SL k a.Cpus g) B (eL false 1 3 (I.blk 2 rfl)) (MW 1 (GD hm fun C au hm => WC ((c_l_markInterfaceS B a.Cpus k g l m ak x.1 (I.hasPick [0, 1]) (I.nodupPick [0, 1] (by kernel_rfl)) au).mono ?_))))))
 rintro e_ Q ⟨W, X, rfl, ao, N, ab⟩
 have af := I.callF' [0, 1] [2, 3, 4, 5] (by kernel_rfl) ab
 refine ⟨_, rfl, ?_⟩
 refine LY 18 k g N ?_
 have ag : Mem (idsOf [v, t, n, l, m]) w Q [(BK b 32 [.slice h o.2.length c, .slice i u.2.length d, .slice j x.2.length f, .slice k C.2.length g]), D, O, P, W, X] := by rw [N]; exact af
 refine MW 1 (NA (MW 2 (NC ?_)))
 obtain rfl := HS hm
 exact RA [iv C.1] (⟨D, O, P, W, X, rfl, al, (J.trans rfl), am, (K.trans rfl), an, (L.trans rfl), ao, (N.trans rfl), ag.pk [1, 2, 3, 4, 5]⟩)
theorem c_l_heldIntS (w : World) (c : List Int) (d f) (m : rdS Gx.encI w c d f) (j : Int) {r : Int} (hm : M.l_heldIntS c j = some r) :
  Calls Tryz.prog 22 #[SL d c f, iv j] w fun e w' => e = .returned (iv r) ∧ Mem [] w w' [] := by
 unfold M.l_heldIntS at hm
 refine cE Tryz.func22 ?_
 have M0 := Mem.refl [] w
 refine QA (MW 1 (NB (MW 1 (NO (GD hm fun z y n => G_meet (fun a w' => ∃ (i : Int), z = .inl i ∧ Mem [] w w' [] ∧ Sat Tryz.f22.ntmps [(1, iv i)] a) ?_ ?_)))))
 ·refine GB (G_while (σ := Int × Int) (ρ := (Int) ⊕ (Int)) (fun b a w' => Mem [] w w' [] ∧ Sat Tryz.f22.ntmps [(0, SL d c f), (1, iv b.1), (5, iv b.2)] a) y (fun a ha => ⟨M0.pk [], ha.s⟩) ?_)
  clear hm
  intro b D hm o B g ⟨h, v⟩
  refine G_use v (QB (MW 4 (NO (GT hm (fun k hm => ?_) fun k hm => ?_))))
  ·refine GK (TN (GS (GB (QB (MW 2 (GD hm fun t q hm => wV (elemP d (b.2.toNat * 1)) g (eI (m.mem0 h) rfl q) (wV (iv t) g (eE false 1 0 (b.2.toNat * 1) (m.mem0 h) q) (MW 2 (NO (GT hm (fun l hm => ?_) fun l hm => ?_))))))))))
   ·refine QA (MW 1 (ND (BR (TR (TR ?_)))))
    obtain rfl := HS hm
    obtain rfl := o _ rfl
    have hm := n; simp only [Sum.elim_inr] at hm
    refine BR (N_meet_ret (TR ?_))
    cases hm
    exact RA [iv (-1)] (⟨rfl, h.pk []⟩)
   refine GK (TN (GR (MW 3 (NG (wR 3 [(0, SL d c f), (1, iv (w64 (b.1 + 1))), (5, iv (w64 (b.2 + 1)))] g (WN ?_))))))
   cases hm
   exact N_loop fun a ha => ⟨_, rfl, h.pk [], ha.s⟩
  refine XA ?_
  obtain rfl := HS hm
  obtain rfl := o _ rfl
  exact NM fun a ha => ⟨_, rfl, h.pk [], ha.s⟩
 intro C A ⟨i, hout_, u, x⟩
 refine N_use x ?_
 subst hout_
 have hm := n; simp only [Sum.elim_inl] at hm
 refine NF (MW 2 (NC ?_))
 obtain rfl := HS hm
 exact RA [iv i] (⟨rfl, u.pk []⟩)
end Go.Proofs.YtllhajkgkghhdaaGreat
set_option linter.unusedVariables false
set_option linter.unusedSimpArgs false
set_option maxRecDepth 100000
set_option maxHeartbeats 4000000
namespace Go.Proofs.YtllhajkgkghhdaaGreat
open Go.Gx
theorem c_s_l9Wait (w : World) (d : List Waiter) (c b) (t : rdS encWaiter w d c b) (g : Waiter) {r : (List Waiter)} (hm : M.s_l9Wait d g = some r) :
  Calls Tryz.prog 130 #[SL c d b, .agg #[iv g.Irq, iv g.Priority]] w fun e w' => ∃ ai af aj, e = .returned (SL ai r af) ∧ ownS encWaiter r ai af aj ∧ Mem [] w w' [aj] := by
 unfold M.s_l9Wait at hm
 refine cE Tryz.func130 ?_
 have M0 := Mem.refl [] w
 refine QA (wN (CE 142 [iv g.Irq, iv g.Priority]) M0 fun l ak al => MW 1 (NA (MW 1 (NE (GD hm fun m bi bd => G_meet (fun a w' => Mem [] w w' [(BK l 142 [iv g.Irq, iv g.Priority])] ∧ Sat Tryz.f130.ntmps [(0, SL c d b), (3, pB l 0), (5, iv m)] a) ?_ ?_)))))
 ·refine GB (G_while (σ := Int) (ρ := Int) (fun k a w' => Mem [] w w' [(BK l 142 [iv g.Irq, iv g.Priority])] ∧ Sat Tryz.f130.ntmps [(0, SL c d b), (3, pB l 0), (5, iv k)] a) bi (fun a ha => ⟨al.pk [0], ha.s⟩) ?_)
  clear hm
  intro k cf hm bg b0 b3 ⟨am, a6⟩
  refine G_use a6 (GS (GS (GD hm fun bj be bc => G_meet (fun a w' => Mem [] w w' [(BK l 142 [iv g.Irq, iv g.Priority])] ∧ Sat Tryz.f130.ntmps [(0, SL c d b), (3, pB l 0), (5, iv k), (26, .bool bj)] a) ?_ ?_)))
  ·have hm := be
   refine G_quiet (by kernel_rfl) (by kernel_rfl) am (MS 5 [(0, SL c d b), (3, pB l 0), (5, iv k), (10, .bool (decide (k < (d.length : Int))))] ?_)
   rcases gx_bif hm with ⟨N, hm⟩ | ⟨N, hm⟩
   ·refine zK 10 true N (MZ 2 (GD hm fun D T hm => zV (elemP c (k.toNat * 2)) (fun w_ M_ => (eI (t.mem0 M_) rfl T)) (zV (elemP c (k.toNat * 2 + 1)) (fun w_ M_ => (eF 1 (k.toNat * 2) 1 (t.mem0 M_) T)) (zV (iv D.Priority) (fun w_ M_ => (eE false 1 1 (k.toNat * 2 + 1) (t.mem0 M_) T)) (MZ 2 (GD hm fun H U hm => zV (elemP c (k.toNat * 2)) (fun w_ M_ => (eI (t.mem0 M_) rfl U)) (zV (elemP c (k.toNat * 2 + 0)) (fun w_ M_ => (eF 0 (k.toNat * 2) 0 (t.mem0 M_) U)) (zV (iv H.Irq) (fun w_ M_ => (eE false 1 0 (k.toNat * 2 + 0) (t.mem0 M_) U)) (MZ 1 (zV (iv g.Priority) (fun w_ M_ => (eL false 1 1 (M_.blk 0 rfl))) (MZ 1 (zV (iv g.Irq) (fun w_ M_ => (eL false 1 0 (M_.blk 0 rfl))) (GD hm fun W bh hm => ZC (.bool W) (fun w_ M_ => c_s_l8Less w_ D.Priority H.Irq g.Priority g.Irq bh) (MZ 1 (Z_end fun b4 an => ?_)))))))))))))))
    obtain rfl := HS hm
    exact NM fun a ha => ⟨an.pk [0], ha.s⟩
   refine zK 10 false N (MS 16 [(0, SL c d b), (3, pB l 0), (5, iv k), (26, .bool false)] (Z_end fun b5 ao => ?_))
   obtain rfl := HS hm
   exact NM fun a ha => ⟨ao.pk [0], ha.s⟩
  intro b1 bp ⟨X, a7⟩
  refine N_use a7 ?_
  have hm := bc
  refine TN (GT hm (fun O hm => ?_) fun O hm => ?_)
  ·refine GK (TN (GB (GR (MW 3 (WN (BN ?_))))))
   cases hm
   exact N_loop fun a ha => ⟨_, rfl, X.pk [0], ha.s⟩
  refine XA ?_
  obtain rfl := HS hm
  obtain rfl := bg _ rfl
  exact NM fun a ha => ⟨X.pk [0], ha.s⟩
 intro b2 b6 ⟨ap, a8⟩
 refine N_use a8 ?_
 have hm := bd
 refine TN (GS (GD hm fun J ag hm => GD hm fun F a9 hm => GD hm fun G ba hm => GD hm fun K ah hm => GU [(0, SL c d b), (3, pB l 0), (5, iv m)] (DL 11 [[],[],[],[1,2],[0,3],[],[5],[4,6],[],[],[8,9]] [[],[],[],[],[0],[],[],[4],[],[],[]] [[],[],[],[],[],[],[],[6],[],[],[]] (EM 11) (EM 11) (EM 11) (fun _ => []) [fun f v s => ∃ A x, v = (.slice A ([] : List Waiter).length x : Value) ∧ ownS encWaiter ([] : List Waiter) A x s, QV (.slice c d.length b), QV (iv m), QV (.slice (subP c (0 : Int).toNat b 2) J.length (b - (0 : Int).toNat)), fun f v s => ∃ B y, v = (.slice B F.length y : Value) ∧ ownS encWaiter F B y s, QV (.agg #[iv g.Irq, iv g.Priority]), fun f v s => ∃ u q, v = (.slice u [g].length q : Value) ∧ ownS encWaiter [g] u q s, fun f v s => ∃ C z, v = (.slice C G.length z : Value) ∧ ownS encWaiter G C z s, QV (.slice c d.length b), QV (iv m), QV (.slice (subP c m.toNat b 2) K.length (b - m.toNat))] [] [6, 7, 10] [6, 7] (ap.preNil 11) (AC ?_ (AC ?_ (AC ?_ (AC ?_ (AC ?_ (AC ?_ (AC ?_ (AC ?_ (AC ?_ (AC ?_ (AC ?_ AN))))))))))) ?_)))
 ·intro n o R b7 aq
  exact wL (E := encWaiter) ([] : List Waiter) 0 [] 142 aq fun A x bk b8 P ar => WN (oE (SL A ([] : List Waiter) x) bk ⟨A, x, rfl, P⟩ (Mem.mid ar))
 ·intro n o R bq au
  exact OM ⟨rfl, rfl⟩ au
 ·intro n o R br av
  exact OM ⟨rfl, rfl⟩ av
 ·rintro n o v1_ ⟨rfl, _⟩
  rintro v2_ ⟨rfl, _⟩ R bs Y
  exact OV ⟨rfl, rfl⟩ (E_slice (E := encWaiter) _ _ _ _ d.length 0 m rfl (by kernel_rfl) (Or.inl ⟨rfl, rfl⟩) (Or.inr ⟨_, rfl, by kernel_rfl⟩) (by kernel_rfl) (t.mem0 Y) rfl ag) Y
 ·intro n o v0_ hb0_
  obtain ⟨A, x, rfl, P⟩ := hb0_
  rintro v3_ ⟨rfl, _⟩ R b9 Z
  exact wA 16 [iv 0, iv 0] 2 Z P ((t.mem0 Z).sliceM ag) a9 fun B y bl ca Q aw => WN (oE (SL B F y) bl ⟨B, y, rfl, Q⟩ (Mem.takeOver aw))
 ·intro n o R bt aa
  exact OV ⟨rfl, rfl⟩ (eL true 2 0 (aa.blk 0 rfl)) aa
 ·rintro n o v5_ ⟨rfl, _⟩ R cb ax
  exact wL (E := encWaiter) [g] 1 [iv g.Irq, iv g.Priority] 142 ax fun u q bm cc I ay => WN (oE (SL u [g] q) bm ⟨u, q, rfl, I⟩ (Mem.mid ay))
 ·intro n o v4_ hb4_
  obtain ⟨B, y, rfl, Q⟩ := hb4_
  intro v6_ hb6_
  obtain ⟨u, q, rfl, I⟩ := hb6_
  intro R cd ab
  exact wA 16 [iv 0, iv 0] 2 ab Q (I.r ab 3) ba fun C z bn ce S az => WN (oE (SL C G z) bn ⟨C, z, rfl, S⟩ (Mem.takeOver az))
 ·intro n o R bu a0
  exact OM ⟨rfl, rfl⟩ a0
 ·intro n o R bv a3
  exact OM ⟨rfl, rfl⟩ a3
 ·rintro n o v8_ ⟨rfl, _⟩
  rintro v9_ ⟨rfl, _⟩ R bw ac
  exact OV ⟨rfl, rfl⟩ (E_slice (E := encWaiter) _ _ _ _ d.length m (d.length : Int) rfl (by kernel_rfl) (Or.inr ⟨_, rfl, by kernel_rfl⟩) (Or.inl ⟨rfl, rfl⟩) (by kernel_rfl) (t.mem0 ac) rfl ah) ac
 intro n o v6_ hb6_
 obtain ⟨u, q, rfl, I⟩ := hb6_
 intro v7_ hb7_
 obtain ⟨C, z, rfl, S⟩ := hb7_
 rintro v10_ ⟨rfl, _⟩ bx a4
 have ad : Mem [] w bx [(BK l 142 [iv g.Irq, iv g.Priority]), (n 6), (n 7)] := a4
 refine GD hm fun ae bb hm => wA 16 [iv 0, iv 0] 2 ad S ((t.mem0 ad).sliceM ah) bb fun V L bo bz bf a5 => MW 1 (NC ?_)
 obtain rfl := HS hm
 exact RA [SL V ae L] (⟨V, L, bo, rfl, bf, a5.pk [2]⟩)
end Go.Proofs.YtllhajkgkghhdaaGreat
