/- Short names for the rules of the walks; what the kernel checks stands last and is filled in. -/
import Derived.Test.YtjbblcdajdpfkaaGxG
set_option linter.unusedVariables false
namespace Go.Gx
abbrev iv (x : Int) : Value := .int .i64 x
abbrev pB (b off : Nat) : Value := .pointer (some ⟨b, off, none⟩)
section
variable {α : Type} {E : Enc α} {F : List Nat} {w0 w w' : World} {Ls : List Seg} {xs ys : List α} {p q : Option Addr} {c : Nat} {seg : Seg}
variable {P : Program} {ops : Array Oper} {n : Nat} {Q : Exit → Act → World → Prop} {S S' : Store} {l rest : List Oper} {o : Oper}
theorem wR (m : Nat) (S' : Store) (w' : World) (k : W P ops n Q S' w' (l.drop m)) (h : ((runP P ops n m l S w).bind fun r => (sub S' r.1).map fun s => (s, r.2)) = some (S', w') := by kernel_rfl) : W P ops n Q S w l := W_run m S' w' h k
theorem wV (v : Value) (w' : World) (hr : (execOp (rho S) o).run P w = .ok (.value v) w') (k : W P ops n Q (putS S o.dst v) w' rest) (hok : okAll ops n S o = true := by kernel_rfl) : W P ops n Q S w (o :: rest) := W_val v w' hok hr k
theorem wC (f : FuncId) (args : Array Value) (hc : Calls P f args w fun e w' => ∃ v, e = .returned v ∧ W P ops n Q (putS S o.dst v) w' rest) (hok : okAll ops n S o = true := by kernel_rfl) (hr : (execOp (rho S) o).run P w = .ok (.enter f args) w := by kernel_rfl) : W P ops n Q S w (o :: rest) := W_call f args hok hr hc
theorem wK (k : Nat) {b : Bool} (c : Bool) (hb : b = c) (h : W P ops n Q ((k, .bool c) :: S) w l) (hk : look S k = some (.bool b) := by kernel_rfl) : W P ops n Q S w l := W_known k c hk hb h
theorem zR {C : World → Prop} {K : Act → Prop} (vs : List Value) (S' : Store) (k : Z P ops n C K S' (l.drop vs.length)) (h : ∀ w, resL P ops n vs l S w = vs.map (fun v => some (.ok (.value v) w)) := by (intro w_; kernel_rfl)) (hs : sub S' (putL vs l S) = some S' := by kernel_rfl) : Z P ops n C K S l := Z_runs vs S' h hs k
theorem zV {C : World → Prop} {K : Act → Prop} (v : Value) (hr : ∀ w, C w → (execOp (rho S) o).run P w = .ok (.value v) w) (k : Z P ops n C K (putS S o.dst v) rest) (hok : okAll ops n S o = true := by kernel_rfl) : Z P ops n C K S (o :: rest) := Z_val v hok hr k
theorem zK {C : World → Prop} {K : Act → Prop} (k : Nat) {b : Bool} (c : Bool) (hb : b = c) (h : Z P ops n C K ((k, .bool c) :: S) l) (hk : look S k = some (.bool b) := by kernel_rfl) : Z P ops n C K S l := Z_known k c hk hb h
theorem cE {f : FuncId} {fn : Func} {cd : Code} {args : List Value} {R : Ending → World → Prop} (hf : P.funcs[f]? = some fn) (h : G P fn.ntmps cd (bodyPost P fn R) (initS 0 args) w) (hb : fn.body = some cd := by rfl) (hs : Nat.ble args.length fn.ntmps = true := by kernel_rfl) : Calls P f args.toArray w R := C_enter hf hb hs h
theorem rT {t : Nat} {v : Value} (h : look S t = some v := by kernel_rfl) : RV P S w (.tmp t) v := h
theorem rC {t : Nat} {v : Value} {rs : List ResultVar} {vs : List Value} (hs : RVs P S w rs vs) (h : look S t = some v := by kernel_rfl) : RVs P S w (.tmp t :: rs) (v :: vs) := ⟨h, hs⟩
theorem gT {cd : Operand} {b : Bool} {x y : Code} (hb : b = true) (ht : G P n x Q S w) (hc : evalO S cd = some (.bool b) := by kernel_rfl) : G P n (.cond cd x y) Q S w := G_cond_t hb hc ht
theorem gF {cd : Operand} {b : Bool} {x y : Code} (hb : b = false) (ht : G P n y Q S w) (hc : evalO S cd = some (.bool b) := by kernel_rfl) : G P n (.cond cd x y) Q S w := G_cond_f hb hc ht
theorem oE {B1 : Value → Seg → Prop} {R : List Seg} (v : Value) (s : Seg) {d : Nat} (hb : B1 v s) (hM : Mem F w0 w (Ls ++ ([s] ++ R))) (hd : o.dst = some d := by rfl) (hv : look S d = some v := by kernel_rfl) :
    N n (Q1 fun a' w' => a'.defers = [] ∧ ∃ v s, (∀ d, o.dst = some d → a'.tmps[d]? = some v) ∧ B1 v s ∧ Mem F w0 w' (Ls ++ ([s] ++ R))) .normal S w := ob_end v s hd hv hb hM
theorem eL (g : Bool) (k off : Nat) {t : TypeId} {x : Operand} {b : Nat} {cs : List Value} {e : TypeId} {fr : Nat × Nat} {v : Value} (hb : w.heap[b]? = some (.cells ⟨cs⟩ e fr)) (ho : o.op = .load t x := by rfl)
    (hx : evalO S x = some (.pointer (some ⟨b, off, none⟩)) := by kernel_rfl) (hs : shapeT P t = some (g, k) := by kernel_rfl) (hv : loadV g k cs off = some v := by kernel_rfl) : (execOp (rho S) o).run P w = .ok (.value v) w := E_load t x g k b off cs v ho hx hs hv hb
theorem eI {t : TypeId} {x ix : Operand} {len c : Nat} {i : Int} {k : Nat} {y : α} (hrd : rdS E w xs p c) (hlen : xs.length = len) (hm : gxIdx xs i = some y) (ho : o.op = .indexAddr t x ix := by rfl)
    (hx : evalO S x = some (.slice p len c) := by kernel_rfl) (hi : evalO S ix = some (.int .i64 i) := by kernel_rfl) (ht : sliceElem P t = some k := by kernel_rfl) : (execOp (rho S) o).run P w = .ok (.value (elemP p (i.toNat * k))) w := E_index t x ix len c .i64 i k ho hx hi ht hrd hlen hm
theorem eE (g : Bool) (k f m : Nat) {t : TypeId} {x : Operand} {i : Int} {y : α} {v : Value} (hrd : rdS E w xs p c) (hi : gxIdx xs i = some y) (hm : m = i.toNat * E.k + f := by rfl) (ho : o.op = .load t x := by rfl)
    (hx : evalO S x = some (elemP p m) := by kernel_rfl) (hs : shapeT P t = some (g, k) := by kernel_rfl) (hv : loadV g k (E.cells y) f = some v := by kernel_rfl) : (execOp (rho S) o).run P w = .ok (.value v) w := E_loadE t x g k i f m y v ho hx hs hv hrd hi hm
theorem eF {s : TypeId} {x : Operand} (fld m f : Nat) {y : α} {i : Int} (hrd : rdS E w xs p c) (hi : gxIdx xs i = some y) (ho : o.op = .fieldAddr s x fld := by rfl) (hx : evalO S x = some (elemP p m) := by kernel_rfl) (hf : fieldOff P s fld = some f := by kernel_rfl) : (execOp (rho S) o).run P w = .ok (.value (elemP p (m + f))) w := E_fieldE s x fld m f ho hx hf hrd hi
theorem wS (g : Bool) (k off : Nat) (v : Value) (i : Nat) (cs' : List Value) {b : Nat} {cs : List Value} {e : TypeId} {t : TypeId} {x y : Operand} (hM : Mem F w0 w Ls) (hi : Ls.getD i [] = [(b, .cells ⟨cs⟩ e (0, 0))])
    (kk : ∀ w', Mem F w0 w' (Ls.set i [(b, .cells ⟨cs'⟩ e (0, 0))]) → W P ops n Q (putS S o.dst undef) w' rest) (ho : o.op = .store t x y := by rfl) (hok : okAll ops n S o = true := by kernel_rfl) (hx : evalO S x = some (.pointer (some ⟨b, off, none⟩)) := by kernel_rfl) (hy : evalO S y = some v := by kernel_rfl)
    (hs : shapeT P t = some (g, k) := by kernel_rfl) (hk : Nat.beq v.cells.toList.length k = true := by kernel_rfl) (hone : v.cells.toList.all oneB = true := by kernel_rfl)
    (hl : Nat.ble (off + k) cs.length = true := by kernel_rfl) (hc' : splice cs off v.cells.toList = cs' := by kernel_rfl) : W P ops n Q S w (o :: rest) := W_store t x y g k b off cs e v i cs' hM hok ho hx hy hs hk hone hi hl hc' kk
theorem wE (g : Bool) (k i f m : Nat) (y y' : α) (v : Value) (pl : Nat) {t : TypeId} {x z : Operand} (hM : Mem F w0 w Ls) (hown : ownS E xs p c seg) (hy : xs[i]? = some y)
    (kk : ∀ w' seg', ownS E (xs.set i y') p c seg' → Mem F w0 w' (Ls.set pl seg') → W P ops n Q (putS S o.dst undef) w' rest) (hm : m = i * E.k + f := by rfl) (ho : o.op = .store t x z := by rfl) (hi : Ls.getD pl [] = seg := by kernel_rfl) (hok : okAll ops n S o = true := by kernel_rfl) (hx : evalO S x = some (elemP p m) := by kernel_rfl) (hz : evalO S z = some v := by kernel_rfl)
    (hs : shapeT P t = some (g, k) := by kernel_rfl) (hk : Nat.beq v.cells.toList.length k = true := by kernel_rfl) (hone : v.cells.toList.all oneB = true := by kernel_rfl) (hfk : Nat.ble (f + k) E.k = true := by kernel_rfl)
    (hsp : splice (E.cells y) f v.cells.toList = E.cells y' := by kernel_rfl) : W P ops n Q S w (o :: rest) := W_storeE t x z g k i f m y y' v pl hM hown hi hok ho hx hz hs hk hone hfk hsp hy hm kk
theorem wN (ob : Obj) (hM : Mem F w0 w Ls) (kk : ∀ b w', Mem F w0 w' (Ls ++ [[(b, ob)]]) → W P ops n Q (putS S o.dst (.pointer (some ⟨b, 0, none⟩))) w' rest) (hfz : fzOf (some ob) = (0, 0) := by rfl) (hok : okAll ops n S o = true := by kernel_rfl) (hr : (execOp (rho S) o).run P w = .ok (.value ((fun b => .pointer (some ⟨b, 0, none⟩)) w.heap.size)) (w.alloc ob) := by kernel_rfl) :
    W P ops n Q S w (o :: rest) := W_new (fun b => .pointer (some ⟨b, 0, none⟩)) ob hM hfz hok hr kk
theorem wA (bytes : Nat) (zsv : List Value) (pl : Nat) {cy : Nat} {zz : List α} {t : TypeId} {s y : Operand} (hM : Mem F w0 w Ls) (hown : ownS E xs p c seg) (hrd : rdS E w ys q cy) (hm : gxApp bytes xs ys = some zz)
    (kk : ∀ p' c' seg' w', ownS E zz p' c' seg' → Mem F w0 w' (Ls.set pl seg') → W P ops n Q (putS S o.dst (.slice p' zz.length c')) w' rest) (ho : o.op = .call { callee := .builtin .append, args := #[s, y], argTypes := #[t, t] } := by rfl) (hpl : Ls.getD pl [] = seg := by kernel_rfl) (hlt : Nat.blt pl Ls.length = true := by kernel_rfl)
    (hok : okAll ops n S o = true := by kernel_rfl) (hs : evalO S s = some (.slice p xs.length c) := by kernel_rfl) (hy : evalO S y = some (.slice q ys.length cy) := by kernel_rfl)
    (hi : sliceInfo P t = some (E.k, bytes, zsv) := by kernel_rfl) (hz : Nat.beq zsv.length E.k = true := by kernel_rfl) (hk : Nat.blt 0 E.k = true := by kernel_rfl) (hbp : Nat.blt 0 bytes = true := by kernel_rfl) : W P ops n Q S w (o :: rest) := W_append t s y bytes zsv pl cy hM hown hpl hlt hok ho hs hy hi hz hk hbp hrd hm kk
theorem wL (xs : List α) (ln : Nat) (ob : List Value) (e : TypeId) (hM : Mem F w0 w Ls) (kk : ∀ p' c' seg' w', ownS E xs p' c' seg' → Mem F w0 w' (Ls ++ [seg']) → W P ops n Q (putS S o.dst (.slice p' xs.length c')) w' rest) (hok : okAll ops n S o = true := by kernel_rfl)
    (hr : (execOp (rho S) o).run P w = .ok (.value (.slice (some ⟨w.heap.size, 0, none⟩) ln ln)) (w.alloc (.cells ⟨ob⟩ e (0, 0))) := by kernel_rfl) (hcs : ob = flat E xs := by kernel_rfl) (hln : xs.length = ln := by kernel_rfl) (hmax : Nat.ble ln 1000000 = true := by kernel_rfl) : W P ops n Q S w (o :: rest) := W_lit xs ln ob e hM hok hr hcs hln hmax kk
theorem wX (k : Nat) (v v' : Value) (he : v = v') (h : W P ops n Q ((k, v') :: S) w l) (hk : look S k = some v := by kernel_rfl) : W P ops n Q S w l := W_conv k v v' hk he h
theorem Mem.pk (h : Mem F w0 w Ls) (is : List Nat) (hd : distinct is = true := by kernel_rfl) : Mem F w0 w (Gx.pick Ls is) := Mem.pick h is hd
theorem Sat.s {a : Act} (h : Sat n S a) (hs : Gx.sub S' S = some S' := by kernel_rfl) : Sat n S' a := Sat.sub h hs
theorem a1 {id : Nat} {y : Code} (h : W P l.toArray n (Exit.then (y.wp P Q) Q) S w l) : G P n (.seq (.region id l.toArray false) y) Q S w := G_seq (G_region h)
theorem a2 {y : Code} (h : G P n y Q S w) : W P ops n (Exit.then (y.wp P Q) Q) S w [] := W_nil (N_then h)
end
end Go.Gx
