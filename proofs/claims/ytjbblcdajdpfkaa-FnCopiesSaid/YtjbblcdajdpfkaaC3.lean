/- The walks, printed by program: whenever the model gives r, the call returns r. Part 3. -/
import Derived.Test.YtjbblcdajdpfkaaM
import Derived.Test.YtjbblcdajdpfkaaGxZ
import Derived.Test.YtjbblcdajdpfkaaProg
import Derived.Test.YtjbblcdajdpfkaaC2
set_option linter.unusedVariables false
set_option maxRecDepth 100000
set_option maxHeartbeats 4000000
namespace Go.Proofs.Ytjbblcdajdpfkaa
open Go.Gx
theorem c_s_l19Write (w : World) (d : Copying) (z : Option Addr) (u : Nat) (ak : rdS Gx.encI w d.Memory z u) (A : Option Addr) (x : Nat) (al : rdS Gx.encI w d.Copy A x) (B : Option Addr) (y : Nat) (am : rdS Gx.encB w d.Dirty B y) (a : Store) {r : Copying} (hm : M.s_l19Write d a = some r) :
  Calls Try.prog 69 #[.agg #[.slice z d.Memory.length u, .slice A d.Copy.length x, .slice B d.Dirty.length y], .agg #[iv a.Word, iv a.Value]] w fun e w' => ∃ (U : Option Addr) (N : Nat) (X : Seg), ∃ (V : Option Addr) (O : Nat) (Y : Seg), ∃ (W : Option Addr) (P : Nat) (Z : Seg), e = .returned (.agg #[.slice U r.Memory.length N, .slice V r.Copy.length O, .slice W r.Dirty.length P]) ∧ ownS Gx.encI r.Memory U N X ∧ ownS Gx.encI r.Copy V O Y ∧ ownS Gx.encB r.Dirty W P Z ∧ Mem [] w w' [X, Y, Z] := by
 unfold M.s_l19Write at hm
 refine cE Try.func69 ?_
 have M0 := Mem.refl [] w
 refine G_seq (G_region (wN (.cells ⟨[.slice z d.Memory.length u, .slice A d.Copy.length x, .slice B d.Dirty.length y]⟩ 28 (0, 0)) M0 ?_))
 intro L ax ae
 refine wN (.cells ⟨[iv a.Word, iv a.Value]⟩ 46 (0, 0)) ae ?_
 intro n ay af
 refine wN (.cells ⟨[.slice none 0 0, .slice none 0 0, .slice none 0 0]⟩ 28 (0, 0)) af ?_
 intro q ab E
 refine W_nil (N_then (G_seq (G_region (wV (.agg #[.slice z d.Memory.length u, .slice A d.Copy.length x, .slice B d.Dirty.length y]) ab (eL true 3 0 (E.blk 0 rfl)) ?_))))
 obtain ⟨c, aq, hm⟩ := gx_bind hm
 refine wC 96 #[.agg #[.slice z d.Memory.length u, .slice A d.Copy.length x, .slice B d.Dirty.length y]] ((c_s_l19Own ab d z u (ak.mem0 E) A x (al.mem0 E) B y (am.mem0 E) aq).mono ?_)
 rintro e_ az ⟨f, h, aw, m, l, H, i, j, ar, rfl, Q, an, R, ad⟩
 have ag := E.call ad
 refine ⟨_, rfl, ?_⟩
 refine wN (.cells ⟨[.slice none 0 0, .slice none 0 0, .slice none 0 0]⟩ 28 (0, 0)) ag ?_
 intro t a0 ah
 refine wS true 3 0 (.agg #[.slice f c.Memory.length h, .slice m c.Copy.length l, .slice i c.Dirty.length j]) 6 [.slice f c.Memory.length h, .slice m c.Copy.length l, .slice i c.Dirty.length j] ah rfl ?_
 intro C F
 refine W_nil (N_then (G_seq (G_region (wR 1 [(3, pB n 0), (4, pB q 0), (5, pB t 0), (8, pB t 0)] C (wV (.slice f c.Memory.length h) C (eL false 1 0 (F.blk 6 rfl)) (wR 1 [(3, pB n 0), (4, pB q 0), (5, pB t 0), (9, .slice f c.Memory.length h), (10, pB n 0)] C (wV (iv a.Word) C (eL false 1 0 (F.blk 1 rfl)) (wR 1 [(3, pB n 0), (4, pB q 0), (5, pB t 0), (9, .slice f c.Memory.length h), (11, iv a.Word), (12, pB n 1)] C (wV (iv a.Value) C (eL false 1 1 (F.blk 1 rfl)) ?_)))))))))
 obtain ⟨au, S, hm⟩ := gx_bind hm
 refine wV (elemP f (a.Word.toNat * 1)) C (eI (Q.rd F 3 (by kernel_rfl)) rfl S) (wE false 1 a.Word.toNat 0 (a.Word.toNat * 1) au a.Value (iv a.Value) 3 F Q (gxIdx_spec S).2 ?_)
 intro D I ao ai
 refine wX 9 (.slice f c.Memory.length h) (.slice f (c.Memory.set a.Word.toNat a.Value).length h) (by rw [@List.length_set _ c.Memory a.Word.toNat a.Value]) ?_
 have G : Mem [] w D [[(L, .cells ⟨[.slice z d.Memory.length u, .slice A d.Copy.length x, .slice B d.Dirty.length y]⟩ 28 (0, 0))], [(n, .cells ⟨[iv a.Word, iv a.Value]⟩ 46 (0, 0))], [(q, .cells ⟨[.slice none 0 0, .slice none 0 0, .slice none 0 0]⟩ 28 (0, 0))], I, H, ar, [(t, .cells ⟨[.slice f (c.Memory.set a.Word.toNat a.Value).length h, .slice m c.Copy.length l, .slice i c.Dirty.length j]⟩ 28 (0, 0))]] := by rw [@List.length_set _ c.Memory a.Word.toNat a.Value]; exact ai
 refine W_nil (N_then (G_seq (G_region (wR 1 [(3, pB n 0), (4, pB q 0), (5, pB t 0), (15, pB t 2)] D (wV (.slice i c.Dirty.length j) D (eL false 1 2 (G.blk 6 rfl)) (wR 1 [(4, pB q 0), (5, pB t 0), (16, .slice i c.Dirty.length j), (17, pB n 0)] D (wV (iv a.Word) D (eL false 1 0 (G.blk 1 rfl)) ?_)))))))
 obtain ⟨av, T, hm⟩ := gx_bind hm
 refine wV (elemP i (a.Word.toNat * 1)) D (eI (R.rd G 5 (by kernel_rfl)) rfl T) (wE false 1 a.Word.toNat 0 (a.Word.toNat * 1) av true (.bool true) 5 G R (gxIdx_spec T).2 ?_)
 intro ac aa ap aj
 refine wX 16 (.slice i c.Dirty.length j) (.slice i (c.Dirty.set a.Word.toNat true).length j) (by rw [@List.length_set _ c.Dirty a.Word.toNat true]) ?_
 have J : Mem [] w ac [[(L, .cells ⟨[.slice z d.Memory.length u, .slice A d.Copy.length x, .slice B d.Dirty.length y]⟩ 28 (0, 0))], [(n, .cells ⟨[iv a.Word, iv a.Value]⟩ 46 (0, 0))], [(q, .cells ⟨[.slice none 0 0, .slice none 0 0, .slice none 0 0]⟩ 28 (0, 0))], I, H, aa, [(t, .cells ⟨[.slice f (c.Memory.set a.Word.toNat a.Value).length h, .slice m c.Copy.length l, .slice i (c.Dirty.set a.Word.toNat true).length j]⟩ 28 (0, 0))]] := by rw [@List.length_set _ c.Dirty a.Word.toNat true]; exact aj
 refine W_nil (N_then (G_seq (G_region (wV (.agg #[.slice f (c.Memory.set a.Word.toNat a.Value).length h, .slice m c.Copy.length l, .slice i (c.Dirty.set a.Word.toNat true).length j]) ac (eL true 3 0 (J.blk 6 rfl)) (wS true 3 0 (.agg #[.slice f (c.Memory.set a.Word.toNat a.Value).length h, .slice m c.Copy.length l, .slice i (c.Dirty.set a.Word.toNat true).length j]) 2 [.slice f (c.Memory.set a.Word.toNat a.Value).length h, .slice m c.Copy.length l, .slice i (c.Dirty.set a.Word.toNat true).length j] J rfl ?_)))))
 intro a3 K
 refine W_nil (N_then (G_ret ?_))
 obtain rfl := Option.some.inj hm
 exact N_ret [.agg #[.slice f (c.Memory.set a.Word.toNat a.Value).length h, .slice m c.Copy.length l, .slice i (c.Dirty.set a.Word.toNat true).length j]] (RVs_cons (RV_cell (g := true) (k := 3) (b := q) (off := 0) (cs := [.slice f (c.Memory.set a.Word.toNat a.Value).length h, .slice m c.Copy.length l, .slice i (c.Dirty.set a.Word.toNat true).length j]) (e := 28) (fr := (0, 0)) (v := .agg #[.slice f (c.Memory.set a.Word.toNat a.Value).length h, .slice m c.Copy.length l, .slice i (c.Dirty.set a.Word.toNat true).length j]) (K.blk 2 (b := q) (o := .cells ⟨[.slice f (c.Memory.set a.Word.toNat a.Value).length h, .slice m c.Copy.length l, .slice i (c.Dirty.set a.Word.toNat true).length j]⟩ 28 (0, 0)) (by kernel_rfl)) (by kernel_rfl) (by kernel_rfl) (by kernel_rfl)) RVs_nil) (⟨f, h, I, m, l, H, i, j, aa, rfl, ao, an, ap, K.pk [3, 4, 5]⟩)
theorem c_s_StoreWord (w : World) (c : Copying) (m : Option Addr) (i : Nat) (I : rdS Gx.encI w c.Memory m i) (n : Option Addr) (j : Nat) (J : rdS Gx.encI w c.Copy n j) (q : Option Addr) (l : Nat) (K : rdS Gx.encB w c.Dirty q l) (f : Store) {r : Copying × Bool} (hm : M.s_StoreWord c f = some r) :
  Calls Try.prog 30 #[.agg #[.slice m c.Memory.length i, .slice n c.Copy.length j, .slice q c.Dirty.length l], .agg #[iv f.Word, iv f.Value]] w fun e w' => ∃ (U : Option Addr) (R : Nat) (X : Seg), ∃ (V : Option Addr) (S : Nat) (Y : Seg), ∃ (W : Option Addr) (T : Nat) (Z : Seg), e = .returned (.tuple #[.agg #[.slice U r.1.Memory.length R, .slice V r.1.Copy.length S, .slice W r.1.Dirty.length T], .bool r.2]) ∧ ownS Gx.encI r.1.Memory U R X ∧ ownS Gx.encI r.1.Copy V S Y ∧ ownS Gx.encB r.1.Dirty W T Z ∧ Mem [] w w' [X, Y, Z] := by
 unfold M.s_StoreWord at hm
 refine cE Try.func30 ?_
 have M0 := Mem.refl [] w
 refine G_seq (G_region (wN (.cells ⟨[.slice m c.Memory.length i, .slice n c.Copy.length j, .slice q c.Dirty.length l]⟩ 28 (0, 0)) M0 ?_))
 intro D a4 ad
 refine wN (.cells ⟨[iv f.Word, iv f.Value]⟩ 46 (0, 0)) ad ?_
 intro E a5 ae
 refine wN (.cells ⟨[.slice none 0 0, .slice none 0 0, .slice none 0 0]⟩ 28 (0, 0)) ae ?_
 intro h O F
 refine wR 1 [(2, pB D 0), (3, pB E 0), (4, pB h 0)] O (W_nil (N_then (G_seq (G_seq ?_))))
 obtain ⟨aq, aj, ai⟩ := gx_bind hm
 refine G_meet (fun a w' => Mem [] w w' [[(D, .cells ⟨[.slice m c.Memory.length i, .slice n c.Copy.length j, .slice q c.Dirty.length l]⟩ 28 (0, 0))], [(E, .cells ⟨[iv f.Word, iv f.Value]⟩ 46 (0, 0))], [(h, .cells ⟨[.slice none 0 0, .slice none 0 0, .slice none 0 0]⟩ 28 (0, 0))]] ∧ Sat Try.f30.ntmps [(2, pB D 0), (3, pB E 0), (4, pB h 0), (14, .bool aq)] a) ?_ ?_
 ·have hm := aj
  refine G_region (wV (.agg #[.slice m c.Memory.length i, .slice n c.Copy.length j, .slice q c.Dirty.length l]) O (eL true 3 0 (F.blk 0 rfl)) ?_)
  obtain ⟨ar, an, hm⟩ := gx_bind hm
  refine wC 56 #[.agg #[.slice m c.Memory.length i, .slice n c.Copy.length j, .slice q c.Dirty.length l]] ((c_s_l19Good O c m i (I.mem0 F) n j (J.mem0 F) q l (K.mem0 F) an).mono ?_)
  rintro e_ G ⟨rfl, aa⟩
  have t := F.call0 aa
  refine ⟨_, rfl, ?_⟩
  refine wR 2 [(2, pB D 0), (3, pB E 0), (4, pB h 0), (9, .bool (!ar))] G ?_
  rcases gx_bif hm with ⟨L, hm⟩ | ⟨L, hm⟩
  ·refine wK 9 true L (wR 5 [(2, pB D 0), (3, pB E 0), (4, pB h 0), (14, .bool true)] G (W_nil ?_))
   obtain rfl := Option.some.inj hm
   exact N_meet fun a ha => ⟨t.pk [0, 1, 2], ha.s⟩
  refine wK 9 false L (wV (.agg #[.slice m c.Memory.length i, .slice n c.Copy.length j, .slice q c.Dirty.length l]) G (eL true 3 0 (t.blk 0 rfl)) (wV (.agg #[iv f.Word, iv f.Value]) G (eL true 2 0 (t.blk 1 rfl)) ?_))
  obtain ⟨au, ao, hm⟩ := gx_bind hm
  refine wC 68 #[.agg #[.slice m c.Memory.length i, .slice n c.Copy.length j, .slice q c.Dirty.length l], .agg #[iv f.Word, iv f.Value]] ((c_s_l19Store G c m i (I.mem0 t) n j (J.mem0 t) q l (K.mem0 t) f ao).mono ?_)
  rintro e_ ay ⟨rfl, ab⟩
  have af := t.call0 ab
  refine ⟨_, rfl, ?_⟩
  refine wR 2 [(2, pB D 0), (3, pB E 0), (4, pB h 0), (14, .bool (!au))] ay (W_nil ?_)
  obtain rfl := Option.some.inj hm
  exact N_meet fun a ha => ⟨af.pk [0, 1, 2], ha.s⟩
 intro a3 H ⟨u, ah⟩
 refine N_use ah ?_
 have hm := ai
 refine N_then ?_
 rcases gx_bif hm with ⟨N, hm⟩ | ⟨N, hm⟩
 ·refine gT N (G_seq (G_region (wR 1 [(4, pB h 0), (15, .agg #[.slice none 0 0, .slice none 0 0, .slice none 0 0])] H (wS true 3 0 (.agg #[.slice none 0 0, .slice none 0 0, .slice none 0 0]) 2 [.slice none 0 0, .slice none 0 0, .slice none 0 0] u rfl ?_))))
  intro az P
  refine wR 1 [(4, pB h 0), (5, .bool false)] az (W_nil (N_then (G_ret (N_then_ret ?_))))
  obtain rfl := Option.some.inj hm
  exact N_ret [.agg #[.slice none 0 0, .slice none 0 0, .slice none 0 0], .bool false] (RVs_cons (RV_cell (g := true) (k := 3) (b := h) (off := 0) (cs := [.slice none 0 0, .slice none 0 0, .slice none 0 0]) (e := 28) (fr := (0, 0)) (v := .agg #[.slice none 0 0, .slice none 0 0, .slice none 0 0]) (P.blk 2 (b := h) (o := .cells ⟨[.slice none 0 0, .slice none 0 0, .slice none 0 0]⟩ 28 (0, 0)) (by kernel_rfl)) (by kernel_rfl) (by kernel_rfl) (by kernel_rfl)) (rC RVs_nil)) (⟨none, 0, [], none, 0, [], none, 0, [], rfl, ownS_nil, ownS_nil, ownS_nil, P.pk [100000, 100001, 100002]⟩)
 refine gF N (G_skip (N_then (G_seq (G_region (wV (.agg #[.slice m c.Memory.length i, .slice n c.Copy.length j, .slice q c.Dirty.length l]) H (eL true 3 0 (u.blk 0 rfl)) (wV (.agg #[iv f.Word, iv f.Value]) H (eL true 2 0 (u.blk 1 rfl)) ?_))))))
 obtain ⟨d, ap, hm⟩ := gx_bind hm
 refine wC 69 #[.agg #[.slice m c.Memory.length i, .slice n c.Copy.length j, .slice q c.Dirty.length l], .agg #[iv f.Word, iv f.Value]] ((c_s_l19Write H c m i (I.mem0 u) n j (J.mem0 u) q l (K.mem0 u) f ap).mono ?_)
 rintro e_ a6 ⟨A, x, av, B, y, aw, C, z, ax, rfl, ak, al, am, ac⟩
 have ag := u.call ac
 refine ⟨_, rfl, ?_⟩
 refine wS true 3 0 (.agg #[.slice A d.Memory.length x, .slice B d.Copy.length y, .slice C d.Dirty.length z]) 2 [.slice A d.Memory.length x, .slice B d.Copy.length y, .slice C d.Dirty.length z] ag rfl ?_
 intro a0 Q
 refine wR 1 [(4, pB h 0), (5, .bool true)] a0 (W_nil (N_then (G_ret ?_)))
 obtain rfl := Option.some.inj hm
 exact N_ret [.agg #[.slice A d.Memory.length x, .slice B d.Copy.length y, .slice C d.Dirty.length z], .bool true] (RVs_cons (RV_cell (g := true) (k := 3) (b := h) (off := 0) (cs := [.slice A d.Memory.length x, .slice B d.Copy.length y, .slice C d.Dirty.length z]) (e := 28) (fr := (0, 0)) (v := .agg #[.slice A d.Memory.length x, .slice B d.Copy.length y, .slice C d.Dirty.length z]) (Q.blk 2 (b := h) (o := .cells ⟨[.slice A d.Memory.length x, .slice B d.Copy.length y, .slice C d.Dirty.length z]⟩ 28 (0, 0)) (by kernel_rfl)) (by kernel_rfl) (by kernel_rfl) (by kernel_rfl)) (rC RVs_nil)) (⟨A, x, av, B, y, aw, C, z, ax, rfl, ak, al, am, Q.pk [3, 4, 5]⟩)
theorem c_i_isStore (w : World) (b : Copying) (i : Option Addr) (h : Nat) (K : rdS Gx.encI w b.Memory i h) (q : Option Addr) (m : Nat) (L : rdS Gx.encI w b.Copy q m) (t : Option Addr) (n : Nat) (N : rdS Gx.encB w b.Dirty t n) (c : Store) {r : Bool} (hm : M.i_isStore b c = some r) :
  Calls Try.prog 70 #[.agg #[.slice i b.Memory.length h, .slice q b.Copy.length m, .slice t b.Dirty.length n], .agg #[iv c.Word, iv c.Value]] w fun e w' => e = .returned (.bool r) ∧ Mem [] w w' [] := by
 unfold M.i_isStore at hm
 refine cE Try.func70 ?_
 have M0 := Mem.refl [] w
 refine G_seq (G_region (wN (.cells ⟨[.slice i b.Memory.length h, .slice q b.Copy.length m, .slice t b.Dirty.length n]⟩ 28 (0, 0)) M0 ?_))
 intro l O y
 refine wN (.cells ⟨[iv c.Word, iv c.Value]⟩ 46 (0, 0)) y ?_
 intro d f j
 refine wR 1 [(2, pB l 0), (3, pB d 0)] f (W_nil (N_then (G_seq ?_)))
 obtain ⟨u, D, C⟩ := gx_bind hm
 refine G_meet (fun a w' => Mem [] w w' [] ∧ Sat Try.f70.ntmps [(4, .bool u)] a) ?_ ?_
 ·have hm := D
  refine G_region (wR 1 [(2, pB l 0), (3, pB d 0), (5, pB d 0)] f (wV (iv c.Word) f (eL false 1 0 (j.blk 1 rfl)) (wR 1 [(3, pB d 0), (6, iv c.Word), (7, pB l 0)] f (wV (.slice i b.Memory.length h) f (eL false 1 0 (j.blk 0 rfl)) (wR 2 [(3, pB d 0), (6, iv c.Word), (10, iv (w64 ((b.Memory.length : Int) - 1)))] f ?_)))))
  obtain ⟨G, E, hm⟩ := gx_bind hm
  refine wC 74 #[iv c.Word, iv 0, iv (w64 ((b.Memory.length : Int) - 1))] ((c_i_inside f c.Word 0 (w64 ((b.Memory.length : Int) - 1)) E).mono ?_)
  rintro e_ g ⟨rfl, v⟩
  have k := j.call0 v
  refine ⟨_, rfl, ?_⟩
  refine wR 1 [(3, pB d 0), (12, .bool G)] g ?_
  rcases gx_bif hm with ⟨o, hm⟩ | ⟨o, hm⟩
  ·refine wK 12 true o (wR 1 [(12, .bool true), (13, pB d 1)] g (wV (iv c.Value) g (eL false 1 1 (k.blk 1 rfl)) ?_))
   obtain ⟨H, F, hm⟩ := gx_bind hm
   refine wC 94 #[iv c.Value] ((c_i_isWord16 g c.Value F).mono ?_)
   rintro e_ I ⟨rfl, x⟩
   have z := k.call0 x
   refine ⟨_, rfl, ?_⟩
   refine wR 2 [(4, .bool H)] I (W_nil ?_)
   obtain rfl := Option.some.inj hm
   exact N_meet fun a ha => ⟨z.pk [], ha.s⟩
  refine wK 12 false o (wR 5 [(4, .bool false)] g (W_nil ?_))
  obtain rfl := Option.some.inj hm
  exact N_meet fun a ha => ⟨k.pk [], ha.s⟩
 intro J P ⟨A, B⟩
 refine N_use B ?_
 have hm := C
 refine N_then (G_ret ?_)
 obtain rfl := Option.some.inj hm
 exact N_ret [.bool u] (rC RVs_nil) (⟨rfl, A.pk []⟩)
theorem c_i_newCopying (w : World) (a : Copying) (z : Option Addr) (x : Nat) (ar : rdS Gx.encI w a.Memory z x) (A : Option Addr) (y : Nat) (au : rdS Gx.encI w a.Copy A y) (F : Option Addr) (B : Nat) (av : rdS Gx.encB w a.Dirty F B) {r : Copying} (hm : M.i_newCopying a = some r) :
  Calls Try.prog 71 #[.agg #[.slice z a.Memory.length x, .slice A a.Copy.length y, .slice F a.Dirty.length B]] w fun e w' => ∃ (aa : Option Addr) (X : Nat) (ad : Seg), ∃ (ab : Option Addr) (Y : Nat) (ae : Seg), ∃ (ac : Option Addr) (Z : Nat) (af : Seg), e = .returned (.agg #[.slice aa r.Memory.length X, .slice ab r.Copy.length Y, .slice ac r.Dirty.length Z]) ∧ ownS Gx.encI r.Memory aa X ad ∧ ownS Gx.encI r.Copy ab Y ae ∧ ownS Gx.encB r.Dirty ac Z af ∧ Mem [] w w' [ad, ae, af] := by
 unfold M.i_newCopying at hm
 refine cE Try.func71 ?_
 have M0 := Mem.refl [] w
 refine G_seq (G_region (wN (.cells ⟨[.slice z a.Memory.length x, .slice A a.Copy.length y, .slice F a.Dirty.length B]⟩ 28 (0, 0)) M0 ?_))
 intro n bg ai
 refine wN (.cells ⟨[.slice none 0 0, .slice none 0 0, .slice none 0 0]⟩ 28 (0, 0)) ai ?_
 intro K bh aj
 refine W_nil (N_then (G_seq ?_))
 obtain ⟨t, ay, hm⟩ := gx_bind hm
 obtain ⟨u, az, hm⟩ := gx_bind hm
 refine G_sub [(0, .agg #[.slice z a.Memory.length x, .slice A a.Copy.length y, .slice F a.Dirty.length B]), (1, pB n 0), (2, pB K 0)] (by kernel_rfl) (G_dagL 9 [[], [0], [1], [], [3], [4], [], [], [7]] [[], [], [], [], [], [], [], [], []] [[], [], [], [], [], [], [], [], []] [[], [], [], [], [], [], [], [], []] [[], [], [], [], [], [], [], [], []] [[], [], [], [], [], [], [], [], []] (fun _ => []) (fun i => ([fun f v s => v = (pB n 0 : Value) ∧ s = [], fun f v s => v = (.slice z a.Memory.length x : Value) ∧ s = [], fun f v s => ∃ (l : Option Addr) (c : Nat), v = (.slice l t.length c : Value) ∧ ownS Gx.encI t l c s, fun f v s => v = (pB n 1 : Value) ∧ s = [], fun f v s => v = (.slice A a.Copy.length y : Value) ∧ s = [], fun f v s => ∃ (m : Option Addr) (d : Nat), v = (.slice m u.length d : Value) ∧ ownS Gx.encI u m d s, fun f v s => ∃ (G : Option Addr) (C : Nat), v = (.slice G ([] : List Bool).length C : Value) ∧ ownS Gx.encB ([] : List Bool) G C s, fun f v s => v = (pB n 2 : Value) ∧ s = [], fun f v s => v = (.slice F a.Dirty.length B : Value) ∧ s = []] : List ((Nat → Value) → Value → Seg → Prop)).getD i (fun _ _ _ => False)) (fun j f v => ∃ s, (fun i => ([fun f v s => v = (pB n 0 : Value) ∧ s = [], fun f v s => v = (.slice z a.Memory.length x : Value) ∧ s = [], fun f v s => ∃ (l : Option Addr) (c : Nat), v = (.slice l t.length c : Value) ∧ ownS Gx.encI t l c s, fun f v s => v = (pB n 1 : Value) ∧ s = [], fun f v s => v = (.slice A a.Copy.length y : Value) ∧ s = [], fun f v s => ∃ (m : Option Addr) (d : Nat), v = (.slice m u.length d : Value) ∧ ownS Gx.encI u m d s, fun f v s => ∃ (G : Option Addr) (C : Nat), v = (.slice G ([] : List Bool).length C : Value) ∧ ownS Gx.encB ([] : List Bool) G C s, fun f v s => v = (pB n 2 : Value) ∧ s = [], fun f v s => v = (.slice F a.Dirty.length B : Value) ∧ s = []] : List ((Nat → Value) → Value → Seg → Prop)).getD i (fun _ _ _ => False)) j f v s) [] [2, 5, 6, 8] [2, 5, 6] (fun _ _ _ s h => ⟨s, h⟩) (by kernel_rfl) (by kernel_rfl) (aj.preNil 9) (by kernel_rfl) (by kernel_rfl) (by kernel_rfl) (by kernel_rfl) (allOb_cons ?_ (allOb_cons ?_ (allOb_cons ?_ (allOb_cons ?_ (allOb_cons ?_ (allOb_cons ?_ (allOb_cons ?_ (allOb_cons ?_ (allOb_cons ?_ allOb_nil))))))))) ?_)
 ·intro q D
  intro R a6 ak
  exact wR 1 [(3, pB n 0)] a6 (W_nil (oE (pB n 0) [] ⟨by kernel_rfl, rfl⟩ ak))
 ·intro q D
  intro v0_ hb0_
  obtain ⟨rfl, _⟩ := hb0_
  intro R a7 P
  exact wV (.slice z a.Memory.length x) a7 (eL false 1 0 (P.blk 0 rfl)) (W_nil (oE (.slice z a.Memory.length x) [] ⟨by kernel_rfl, rfl⟩ P))
 ·intro q D
  intro v1_ hb1_
  obtain ⟨rfl, _⟩ := hb1_
  intro R a8 Q
  refine wC 62 #[.slice z a.Memory.length x] ((c_i_copyInts a8 a.Memory z x (ar.mem0 Q) ay).mono ?_)
  rintro e_ bi ⟨l, c, a0, rfl, L, ag⟩
  refine ⟨_, rfl, ?_⟩
  exact W_nil (oE (.slice l t.length c) a0 ⟨l, c, rfl, L⟩ (Mem.callMid Q ag))
 ·intro q D
  intro R a9 al
  exact wR 1 [(6, pB n 1)] a9 (W_nil (oE (pB n 1) [] ⟨by kernel_rfl, rfl⟩ al))
 ·intro q D
  intro v3_ hb3_
  obtain ⟨rfl, _⟩ := hb3_
  intro R ba S
  exact wV (.slice A a.Copy.length y) ba (eL false 1 1 (S.blk 0 rfl)) (W_nil (oE (.slice A a.Copy.length y) [] ⟨by kernel_rfl, rfl⟩ S))
 ·intro q D
  intro v4_ hb4_
  obtain ⟨rfl, _⟩ := hb4_
  intro R bb T
  refine wC 62 #[.slice A a.Copy.length y] ((c_i_copyInts bb a.Copy A y (au.mem0 T) az).mono ?_)
  rintro e_ bj ⟨m, d, a3, rfl, N, ah⟩
  refine ⟨_, rfl, ?_⟩
  exact W_nil (oE (.slice m u.length d) a3 ⟨m, d, rfl, N⟩ (Mem.callMid T ah))
 ·intro q D
  intro R bk am
  refine wL (E := Gx.encB) ([] : List Bool) 0 [] 4 am ?_
  intro G C a4 bl O an
  exact W_nil (oE (.slice G ([] : List Bool).length C) a4 ⟨G, C, rfl, O⟩ (Mem.mid an))
 ·intro q D
  intro R bc ao
  exact wR 1 [(10, pB n 2)] bc (W_nil (oE (pB n 2) [] ⟨by kernel_rfl, rfl⟩ ao))
 ·intro q D
  intro v7_ hb7_
  obtain ⟨rfl, _⟩ := hb7_
  intro R bd U
  exact wV (.slice F a.Dirty.length B) bd (eL false 1 2 (U.blk 0 rfl)) (W_nil (oE (.slice F a.Dirty.length B) [] ⟨by kernel_rfl, rfl⟩ U))
 intro q D
 intro v2_ hb2_
 obtain ⟨l, c, rfl, L⟩ := hb2_
 intro v5_ hb5_
 obtain ⟨m, d, rfl, N⟩ := hb5_
 intro v6_ hb6_
 obtain ⟨G, C, rfl, O⟩ := hb6_
 intro v8_ hb8_
 obtain ⟨rfl, _⟩ := hb8_
 intro be ap
 have V : Mem [] w be [[(n, .cells ⟨[.slice z a.Memory.length x, .slice A a.Copy.length y, .slice F a.Dirty.length B]⟩ 28 (0, 0))], [(K, .cells ⟨[.slice none 0 0, .slice none 0 0, .slice none 0 0]⟩ 28 (0, 0))], (q 2), (q 5), (q 6)] := ap
 obtain ⟨J, aw, hm⟩ := gx_bind hm
 refine wA 1 [.bool false] 4 V O (av.mem0 V) aw ?_
 intro I H a5 bf ax aq
 refine wR 1 [(2, pB K 0), (13, .agg #[.slice l t.length c, .slice m u.length d, .slice I J.length H])] bf (wS true 3 0 (.agg #[.slice l t.length c, .slice m u.length d, .slice I J.length H]) 1 [.slice l t.length c, .slice m u.length d, .slice I J.length H] aq rfl ?_)
 intro bm W
 refine W_nil (N_then (G_ret ?_))
 obtain rfl := Option.some.inj hm
 exact N_ret [.agg #[.slice l t.length c, .slice m u.length d, .slice I J.length H]] (RVs_cons (RV_cell (g := true) (k := 3) (b := K) (off := 0) (cs := [.slice l t.length c, .slice m u.length d, .slice I J.length H]) (e := 28) (fr := (0, 0)) (v := .agg #[.slice l t.length c, .slice m u.length d, .slice I J.length H]) (W.blk 1 (b := K) (o := .cells ⟨[.slice l t.length c, .slice m u.length d, .slice I J.length H]⟩ 28 (0, 0)) (by kernel_rfl)) (by kernel_rfl) (by kernel_rfl) (by kernel_rfl)) RVs_nil) (⟨l, c, (q 2), m, d, (q 5), I, H, a5, rfl, L, N, ax, W.pk [2, 3, 4]⟩)
theorem c_i_Copying_store (w : World) (a : Copying) (d : Option Addr) (k : Nat) (z : Seg) (L : ownS Gx.encI a.Memory d k z) (u : Option Addr) (t : Nat) (x : Seg) (ap : ownS Gx.encI a.Copy u t x) (g : Option Addr) (l : Nat) (y : Seg) (N : ownS Gx.encB a.Dirty g l y) (c : Nat) (b : Store) (hA : ∀ q ∈ List.flatten [[(c, .cells ⟨[.slice d a.Memory.length k, .slice u a.Copy.length t, .slice g a.Dirty.length l]⟩ 28 (0, 0))], z, x, y], w.heap[q.1]? = some q.2) (hN : (idsOf [[(c, .cells ⟨[.slice d a.Memory.length k, .slice u a.Copy.length t, .slice g a.Dirty.length l]⟩ 28 (0, 0))], z, x, y]).Nodup) {r : (List Int) × (List Int) × (List Bool)} (hm : M.i_Copying_store a b = some r) :
  Calls Try.prog 72 #[pB c 0, .agg #[iv b.Word, iv b.Value]] w fun e w' => ∃ (Q : Option Addr) (I : Nat) (U : Seg), ∃ (S : Option Addr) (J : Nat) (V : Seg), ∃ (T : Option Addr) (K : Nat) (W : Seg), e = .returned (.tuple #[]) ∧ ownS Gx.encI r.1 Q I U ∧ ownS Gx.encI r.2.1 S J V ∧ ownS Gx.encB r.2.2 T K W ∧ Mem (idsOf [[(c, .cells ⟨[.slice d a.Memory.length k, .slice u a.Copy.length t, .slice g a.Dirty.length l]⟩ 28 (0, 0))], z, x, y]) w w' [[(c, .cells ⟨[.slice Q r.1.length I, .slice S r.2.1.length J, .slice T r.2.2.length K]⟩ 28 (0, 0))], U, V, W] := by
 unfold M.i_Copying_store at hm
 refine cE Try.func72 ?_
 have M0 := Mem.start' w [[(c, .cells ⟨[.slice d a.Memory.length k, .slice u a.Copy.length t, .slice g a.Dirty.length l]⟩ 28 (0, 0))], z, x, y] hA hN
 refine G_seq (G_region (wN (.cells ⟨[iv b.Word, iv b.Value]⟩ 46 (0, 0)) M0 ?_))
 intro n aw Y
 refine W_nil (N_then ?_)
 obtain ⟨bf, O, hm⟩ := gx_bind hm
 have Z : Mem (idsOf [[(c, .cells ⟨[.slice d a.Memory.length k, .slice u a.Copy.length t, .slice g a.Dirty.length l]⟩ 28 (0, 0))], z, x, y]) w aw ([[(c, .cells ⟨[.slice d a.Memory.length k, .slice u a.Copy.length t, .slice g a.Dirty.length l]⟩ 28 (0, 0))], x, y, [(n, .cells ⟨[iv b.Word, iv b.Value]⟩ 46 (0, 0))]] ++ (List.range 16).map (fun i => ([[], [], [], [], [], [], [], [], [], [], [], [], [], [], [], z] : List Seg).getD i [])) := Y.pk [0, 2, 3, 4, 300000, 300001, 300002, 300003, 300004, 300005, 300006, 300007, 300008, 300009, 300010, 300011, 300012, 300013, 300014, 1]
 refine G_sub [(0, pB c 0), (1, .agg #[iv b.Word, iv b.Value]), (3, pB n 0)] (by kernel_rfl) (G_dagL 16 [[], [0], [1], [2], [], [4], [], [6], [7], [8], [], [10], [], [12], [3, 5], [13, 14]] [[], [], [], [], [], [], [], [], [], [], [], [], [], [], [], []] [[], [], [], [], [], [], [], [], [], [], [], [], [], [], [], []] [[], [], [], [], [], [], [], [], [], [], [], [], [], [], [], []] [[], [], [], [], [], [], [], [], [], [], [], [], [], [], [], []] [[], [], [], [], [], [], [], [], [], [], [], [], [], [], [15], []] (fun i => ([[], [], [], [], [], [], [], [], [], [], [], [], [], [], [], z] : List Seg).getD i []) (fun i => ([fun f v s => v = (pB c 0 : Value) ∧ s = [], fun f v s => v = (pB c 0 : Value) ∧ s = [], fun f v s => v = (pB c 0 : Value) ∧ s = [], fun f v s => v = (.slice d a.Memory.length k : Value) ∧ s = [], fun f v s => v = (pB n 0 : Value) ∧ s = [], fun f v s => v = (iv b.Word : Value) ∧ s = [], fun f v s => v = (pB c 0 : Value) ∧ s = [], fun f v s => v = (pB c 0 : Value) ∧ s = [], fun f v s => v = (pB c 2 : Value) ∧ s = [], fun f v s => v = (.slice g a.Dirty.length l : Value) ∧ s = [], fun f v s => v = (pB n 0 : Value) ∧ s = [], fun f v s => v = (iv b.Word : Value) ∧ s = [], fun f v s => v = (pB n 1 : Value) ∧ s = [], fun f v s => v = (iv b.Value : Value) ∧ s = [], fun f v s => v = (elemP d (b.Word.toNat * 1) : Value) ∧ s = [], fun f v s => v = undef ∧ ownS Gx.encI (a.Memory.set b.Word.toNat b.Value) d k s] : List ((Nat → Value) → Value → Seg → Prop)).getD i (fun _ _ _ => False)) (fun j f v => ∃ s, (fun i => ([fun f v s => v = (pB c 0 : Value) ∧ s = [], fun f v s => v = (pB c 0 : Value) ∧ s = [], fun f v s => v = (pB c 0 : Value) ∧ s = [], fun f v s => v = (.slice d a.Memory.length k : Value) ∧ s = [], fun f v s => v = (pB n 0 : Value) ∧ s = [], fun f v s => v = (iv b.Word : Value) ∧ s = [], fun f v s => v = (pB c 0 : Value) ∧ s = [], fun f v s => v = (pB c 0 : Value) ∧ s = [], fun f v s => v = (pB c 2 : Value) ∧ s = [], fun f v s => v = (.slice g a.Dirty.length l : Value) ∧ s = [], fun f v s => v = (pB n 0 : Value) ∧ s = [], fun f v s => v = (iv b.Word : Value) ∧ s = [], fun f v s => v = (pB n 1 : Value) ∧ s = [], fun f v s => v = (iv b.Value : Value) ∧ s = [], fun f v s => v = (elemP d (b.Word.toNat * 1) : Value) ∧ s = [], fun f v s => v = undef ∧ ownS Gx.encI (a.Memory.set b.Word.toNat b.Value) d k s] : List ((Nat → Value) → Value → Seg → Prop)).getD i (fun _ _ _ => False)) j f v s) [] [9, 11, 15] [15] (fun _ _ _ s h => ⟨s, h⟩) (by kernel_rfl) (by kernel_rfl) Z (by kernel_rfl) (by kernel_rfl) (by kernel_rfl) (by kernel_rfl) (allOb_cons ?_ (allOb_cons ?_ (allOb_cons ?_ (allOb_cons ?_ (allOb_cons ?_ (allOb_cons ?_ (allOb_cons ?_ (allOb_cons ?_ (allOb_cons ?_ (allOb_cons ?_ (allOb_cons ?_ (allOb_cons ?_ (allOb_cons ?_ (allOb_cons ?_ (allOb_cons ?_ (allOb_cons ?_ allOb_nil)))))))))))))))) ?_)
 ·intro m o
  intro R ax aa
  exact wR 1 [(4, pB c 0)] ax (W_nil (oE (pB c 0) [] ⟨by kernel_rfl, rfl⟩ aa))
 ·intro m o
  intro v0_ hb0_
  obtain ⟨rfl, _⟩ := hb0_
  intro R ay ab
  exact wR 1 [(5, pB c 0)] ay (W_nil (oE (pB c 0) [] ⟨by kernel_rfl, rfl⟩ ab))
 ·intro m o
  intro v1_ hb1_
  obtain ⟨rfl, _⟩ := hb1_
  intro R az ac
  exact wR 1 [(6, pB c 0)] az (W_nil (oE (pB c 0) [] ⟨by kernel_rfl, rfl⟩ ac))
 ·intro m o
  intro v2_ hb2_
  obtain ⟨rfl, _⟩ := hb2_
  intro R a0 B
  exact wV (.slice d a.Memory.length k) a0 (eL false 1 0 (B.blk 0 rfl)) (W_nil (oE (.slice d a.Memory.length k) [] ⟨by kernel_rfl, rfl⟩ B))
 ·intro m o
  intro R a3 ad
  exact wR 1 [(8, pB n 0)] a3 (W_nil (oE (pB n 0) [] ⟨by kernel_rfl, rfl⟩ ad))
 ·intro m o
  intro v4_ hb4_
  obtain ⟨rfl, _⟩ := hb4_
  intro R a4 C
  exact wV (iv b.Word) a4 (eL false 1 0 (C.blk 3 rfl)) (W_nil (oE (iv b.Word) [] ⟨by kernel_rfl, rfl⟩ C))
 ·intro m o
  intro R a5 ae
  exact wR 1 [(10, pB c 0)] a5 (W_nil (oE (pB c 0) [] ⟨by kernel_rfl, rfl⟩ ae))
 ·intro m o
  intro v6_ hb6_
  obtain ⟨rfl, _⟩ := hb6_
  intro R a6 af
  exact wR 1 [(11, pB c 0)] a6 (W_nil (oE (pB c 0) [] ⟨by kernel_rfl, rfl⟩ af))
 ·intro m o
  intro v7_ hb7_
  obtain ⟨rfl, _⟩ := hb7_
  intro R a7 ag
  exact wR 1 [(12, pB c 2)] a7 (W_nil (oE (pB c 2) [] ⟨by kernel_rfl, rfl⟩ ag))
 ·intro m o
  intro v8_ hb8_
  obtain ⟨rfl, _⟩ := hb8_
  intro R a8 D
  exact wV (.slice g a.Dirty.length l) a8 (eL false 1 2 (D.blk 0 rfl)) (W_nil (oE (.slice g a.Dirty.length l) [] ⟨by kernel_rfl, rfl⟩ D))
 ·intro m o
  intro R a9 ah
  exact wR 1 [(14, pB n 0)] a9 (W_nil (oE (pB n 0) [] ⟨by kernel_rfl, rfl⟩ ah))
 ·intro m o
  intro v10_ hb10_
  obtain ⟨rfl, _⟩ := hb10_
  intro R ba E
  exact wV (iv b.Word) ba (eL false 1 0 (E.blk 3 rfl)) (W_nil (oE (iv b.Word) [] ⟨by kernel_rfl, rfl⟩ E))
 ·intro m o
  intro R bb ai
  exact wR 1 [(16, pB n 1)] bb (W_nil (oE (pB n 1) [] ⟨by kernel_rfl, rfl⟩ ai))
 ·intro m o
  intro v12_ hb12_
  obtain ⟨rfl, _⟩ := hb12_
  intro R bc F
  exact wV (iv b.Value) bc (eL false 1 1 (F.blk 3 rfl)) (W_nil (oE (iv b.Value) [] ⟨by kernel_rfl, rfl⟩ F))
 ·intro m o
  intro v3_ hb3_
  obtain ⟨rfl, _⟩ := hb3_
  intro v5_ hb5_
  obtain ⟨rfl, _⟩ := hb5_
  intro R bd G
  exact wV (elemP d (b.Word.toNat * 1)) bd (eI (L.rd G 5 (by kernel_rfl)) rfl O) (W_nil (oE (elemP d (b.Word.toNat * 1)) [] ⟨by kernel_rfl, rfl⟩ G))
 ·intro m o
  intro v13_ hb13_
  obtain ⟨rfl, _⟩ := hb13_
  intro v14_ hb14_
  obtain ⟨rfl, _⟩ := hb14_
  intro R bh aj
  refine wE false 1 b.Word.toNat 0 (b.Word.toNat * 1) bf b.Value (iv b.Value) 4 aj L (gxIdx_spec O).2 ?_
  intro bi av ar ak
  exact W_nil (ob_none av rfl ⟨rfl, ar⟩ ak)
 intro m o
 intro v9_ hb9_
 obtain ⟨rfl, _⟩ := hb9_
 intro v11_ hb11_
 obtain ⟨rfl, _⟩ := hb11_
 intro v15_ hb15_
 obtain ⟨rfl, aq⟩ := hb15_
 intro A al
 have am : Mem (idsOf [[(c, .cells ⟨[.slice d a.Memory.length k, .slice u a.Copy.length t, .slice g a.Dirty.length l]⟩ 28 (0, 0))], z, x, y]) w A [[(c, .cells ⟨[.slice d a.Memory.length k, .slice u a.Copy.length t, .slice g a.Dirty.length l]⟩ 28 (0, 0))], x, y, [(n, .cells ⟨[iv b.Word, iv b.Value]⟩ 46 (0, 0))], (m 15)] := al
 have H : Mem (idsOf [[(c, .cells ⟨[.slice d a.Memory.length k, .slice u a.Copy.length t, .slice g a.Dirty.length l]⟩ 28 (0, 0))], z, x, y]) w A [[(c, .cells ⟨[.slice d (a.Memory.set b.Word.toNat b.Value).length k, .slice u a.Copy.length t, .slice g a.Dirty.length l]⟩ 28 (0, 0))], x, y, [(n, .cells ⟨[iv b.Word, iv b.Value]⟩ 46 (0, 0))], (m 15)] := by rw [@List.length_set _ a.Memory b.Word.toNat b.Value]; exact am
 obtain ⟨bg, P, hm⟩ := gx_bind hm
 refine wV (elemP g (b.Word.toNat * 1)) A (eI (N.rd H 2 (by kernel_rfl)) rfl P) (wE false 1 b.Word.toNat 0 (b.Word.toNat * 1) bg true (.bool true) 2 H N (gxIdx_spec P).2 ?_)
 intro be X au an
 refine wX 13 (.slice g a.Dirty.length l) (.slice g (a.Dirty.set b.Word.toNat true).length l) (by rw [@List.length_set _ a.Dirty b.Word.toNat true]) ?_
 have ao : Mem (idsOf [[(c, .cells ⟨[.slice d a.Memory.length k, .slice u a.Copy.length t, .slice g a.Dirty.length l]⟩ 28 (0, 0))], z, x, y]) w be [[(c, .cells ⟨[.slice d (a.Memory.set b.Word.toNat b.Value).length k, .slice u a.Copy.length t, .slice g (a.Dirty.set b.Word.toNat true).length l]⟩ 28 (0, 0))], x, X, [(n, .cells ⟨[iv b.Word, iv b.Value]⟩ 46 (0, 0))], (m 15)] := by rw [@List.length_set _ a.Dirty b.Word.toNat true]; exact an
 refine W_nil ?_
 obtain rfl := Option.some.inj hm
 exact N_end [] (RVs_nil) (⟨d, k, (m 15), u, t, x, g, l, X, rfl, aq, ap, au, ao.pk [0, 4, 1, 2]⟩)
theorem c_i_StoreWord (w : World) (c : Copying) (m : Option Addr) (i : Nat) (N : rdS Gx.encI w c.Memory m i) (n : Option Addr) (j : Nat) (O : rdS Gx.encI w c.Copy n j) (q : Option Addr) (l : Nat) (P : rdS Gx.encB w c.Dirty q l) (f : Store) {r : Copying × Bool} (hm : M.i_StoreWord c f = some r) :
  Calls Try.prog 32 #[.agg #[.slice m c.Memory.length i, .slice n c.Copy.length j, .slice q c.Dirty.length l], .agg #[iv f.Word, iv f.Value]] w fun e w' => ∃ (ae : Option Addr) (ab : Nat) (ah : Seg), ∃ (af : Option Addr) (ac : Nat) (ai : Seg), ∃ (ag : Option Addr) (ad : Nat) (aj : Seg), e = .returned (.tuple #[.agg #[.slice ae r.1.Memory.length ab, .slice af r.1.Copy.length ac, .slice ag r.1.Dirty.length ad], .bool r.2]) ∧ ownS Gx.encI r.1.Memory ae ab ah ∧ ownS Gx.encI r.1.Copy af ac ai ∧ ownS Gx.encB r.1.Dirty ag ad aj ∧ Mem [] w w' [ah, ai, aj] := by
 unfold M.i_StoreWord at hm
 refine cE Try.func32 ?_
 have M0 := Mem.refl [] w
 refine G_seq (G_region (wN (.cells ⟨[.slice m c.Memory.length i, .slice n c.Copy.length j, .slice q c.Dirty.length l]⟩ 28 (0, 0)) M0 ?_))
 intro E bp ap
 refine wN (.cells ⟨[iv f.Word, iv f.Value]⟩ 46 (0, 0)) ap ?_
 intro F bq aq
 refine wN (.cells ⟨[.slice none 0 0, .slice none 0 0, .slice none 0 0]⟩ 28 (0, 0)) aq ?_
 intro h V G
 refine wR 1 [(2, pB E 0), (3, pB F 0), (4, pB h 0)] V (W_nil (N_then (G_seq (G_seq ?_))))
 obtain ⟨bb, ay, ax⟩ := gx_bind hm
 refine G_meet (fun a w' => Mem [] w w' [[(E, .cells ⟨[.slice m c.Memory.length i, .slice n c.Copy.length j, .slice q c.Dirty.length l]⟩ 28 (0, 0))], [(F, .cells ⟨[iv f.Word, iv f.Value]⟩ 46 (0, 0))], [(h, .cells ⟨[.slice none 0 0, .slice none 0 0, .slice none 0 0]⟩ 28 (0, 0))]] ∧ Sat Try.f32.ntmps [(2, pB E 0), (3, pB F 0), (4, pB h 0), (15, .bool bb)] a) ?_ ?_
 ·have hm := ay
  refine G_region (wV (.agg #[.slice m c.Memory.length i, .slice n c.Copy.length j, .slice q c.Dirty.length l]) V (eL true 3 0 (G.blk 0 rfl)) ?_)
  obtain ⟨bc, a7, hm⟩ := gx_bind hm
  refine wC 16 #[.agg #[.slice m c.Memory.length i, .slice n c.Copy.length j, .slice q c.Dirty.length l]] ((c_i_IsCopying V c m i (N.mem0 G) n j (O.mem0 G) q l (P.mem0 G) a7).mono ?_)
  rintro e_ H ⟨rfl, al⟩
  have B := G.call0 al
  refine ⟨_, rfl, ?_⟩
  refine wR 2 [(2, pB E 0), (3, pB F 0), (4, pB h 0), (10, .bool (!bc))] H ?_
  rcases gx_bif hm with ⟨Q, hm⟩ | ⟨Q, hm⟩
  ·refine wK 10 true Q (wR 5 [(2, pB E 0), (3, pB F 0), (4, pB h 0), (15, .bool true)] H (W_nil ?_))
   obtain rfl := Option.some.inj hm
   exact N_meet fun a ha => ⟨B.pk [0, 1, 2], ha.s⟩
  refine wK 10 false Q (wV (.agg #[.slice m c.Memory.length i, .slice n c.Copy.length j, .slice q c.Dirty.length l]) H (eL true 3 0 (B.blk 0 rfl)) (wV (.agg #[iv f.Word, iv f.Value]) H (eL true 2 0 (B.blk 1 rfl)) ?_))
  obtain ⟨bd, a8, hm⟩ := gx_bind hm
  refine wC 70 #[.agg #[.slice m c.Memory.length i, .slice n c.Copy.length j, .slice q c.Dirty.length l], .agg #[iv f.Word, iv f.Value]] ((c_i_isStore H c m i (N.mem0 B) n j (O.mem0 B) q l (P.mem0 B) f a8).mono ?_)
  rintro e_ bk ⟨rfl, am⟩
  have ar := B.call0 am
  refine ⟨_, rfl, ?_⟩
  refine wR 2 [(2, pB E 0), (3, pB F 0), (4, pB h 0), (15, .bool (!bd))] bk (W_nil ?_)
  obtain rfl := Option.some.inj hm
  exact N_meet fun a ha => ⟨ar.pk [0, 1, 2], ha.s⟩
 intro bo W ⟨D, aw⟩
 refine N_use aw ?_
 have hm := ax
 refine N_then ?_
 rcases gx_bif hm with ⟨R, hm⟩ | ⟨R, hm⟩
 ·refine gT R (G_seq (G_region (wR 1 [(4, pB h 0), (16, .agg #[.slice none 0 0, .slice none 0 0, .slice none 0 0])] W (wS true 3 0 (.agg #[.slice none 0 0, .slice none 0 0, .slice none 0 0]) 2 [.slice none 0 0, .slice none 0 0, .slice none 0 0] D rfl ?_))))
  intro bl X
  refine wR 1 [(4, pB h 0), (5, .bool false)] bl (W_nil (N_then (G_ret (N_then_ret ?_))))
  obtain rfl := Option.some.inj hm
  exact N_ret [.agg #[.slice none 0 0, .slice none 0 0, .slice none 0 0], .bool false] (RVs_cons (RV_cell (g := true) (k := 3) (b := h) (off := 0) (cs := [.slice none 0 0, .slice none 0 0, .slice none 0 0]) (e := 28) (fr := (0, 0)) (v := .agg #[.slice none 0 0, .slice none 0 0, .slice none 0 0]) (X.blk 2 (b := h) (o := .cells ⟨[.slice none 0 0, .slice none 0 0, .slice none 0 0]⟩ 28 (0, 0)) (by kernel_rfl)) (by kernel_rfl) (by kernel_rfl) (by kernel_rfl)) (rC RVs_nil)) (⟨none, 0, [], none, 0, [], none, 0, [], rfl, ownS_nil, ownS_nil, ownS_nil, X.pk [100000, 100001, 100002]⟩)
 refine gF R (G_skip (N_then (G_seq (G_region (wV (.agg #[.slice m c.Memory.length i, .slice n c.Copy.length j, .slice q c.Dirty.length l]) W (eL true 3 0 (D.blk 0 rfl)) ?_)))))
 obtain ⟨C, a9, hm⟩ := gx_bind hm
 refine wC 71 #[.agg #[.slice m c.Memory.length i, .slice n c.Copy.length j, .slice q c.Dirty.length l]] ((c_i_newCopying W c m i (N.mem0 D) n j (O.mem0 D) q l (P.mem0 D) a9).mono ?_)
 rintro e_ br ⟨S, J, be, T, K, bf, U, L, bg, rfl, az, a0, a3, an⟩
 have au := D.call an
 refine ⟨_, rfl, ?_⟩
 refine wN (.cells ⟨[.slice none 0 0, .slice none 0 0, .slice none 0 0]⟩ 28 (0, 0)) au ?_
 intro aa bs av
 refine wS true 3 0 (.agg #[.slice S C.Memory.length J, .slice T C.Copy.length K, .slice U C.Dirty.length L]) 6 [.slice S C.Memory.length J, .slice T C.Copy.length K, .slice U C.Dirty.length L] av rfl ?_
 intro ak I
 refine W_nil (N_then (G_seq (G_region (wV (.agg #[iv f.Word, iv f.Value]) ak (eL true 2 0 (I.blk 1 rfl)) ?_))))
 obtain ⟨d, ba, hm⟩ := gx_bind hm
 refine wC 72 #[pB aa 0, .agg #[iv f.Word, iv f.Value]] ((c_i_Copying_store ak C S J be az T K bf a0 U L bg a3 aa f (I.hasPick [6, 3, 4, 5]) (I.nodupPick [6, 3, 4, 5] (by kernel_rfl)) ba).mono ?_)
 rintro e_ bm ⟨y, t, bh, z, u, bi, A, x, bj, rfl, a4, a5, a6, ao⟩
 have Y := I.callF' [6, 3, 4, 5] [0, 1, 2] (by kernel_rfl) ao
 refine ⟨_, rfl, ?_⟩
 refine W_nil (N_then (G_seq (G_region (wV (.agg #[.slice y d.1.length t, .slice z d.2.1.length u, .slice A d.2.2.length x]) bm (eL true 3 0 (Y.blk 3 rfl)) (wS true 3 0 (.agg #[.slice y d.1.length t, .slice z d.2.1.length u, .slice A d.2.2.length x]) 2 [.slice y d.1.length t, .slice z d.2.1.length u, .slice A d.2.2.length x] Y rfl ?_)))))
 intro bn Z
 refine wR 1 [(4, pB h 0), (5, .bool true)] bn (W_nil (N_then (G_ret ?_)))
 obtain rfl := Option.some.inj hm
 exact N_ret [.agg #[.slice y d.1.length t, .slice z d.2.1.length u, .slice A d.2.2.length x], .bool true] (RVs_cons (RV_cell (g := true) (k := 3) (b := h) (off := 0) (cs := [.slice y d.1.length t, .slice z d.2.1.length u, .slice A d.2.2.length x]) (e := 28) (fr := (0, 0)) (v := .agg #[.slice y d.1.length t, .slice z d.2.1.length u, .slice A d.2.2.length x]) (Z.blk 2 (b := h) (o := .cells ⟨[.slice y d.1.length t, .slice z d.2.1.length u, .slice A d.2.2.length x]⟩ 28 (0, 0)) (by kernel_rfl)) (by kernel_rfl) (by kernel_rfl) (by kernel_rfl)) (rC RVs_nil)) (⟨y, t, bh, z, u, bi, A, x, bj, rfl, a4, a5, a6, Z.pk [4, 5, 6]⟩)
theorem c_l_FnExactStoreWord (w : World) (c : Copying) (F : Option Addr) (C : Nat) (ck : rdS Gx.encI w c.Memory F C) (G : Option Addr) (D : Nat) (cl : rdS Gx.encI w c.Copy G D) (H : Option Addr) (E : Nat) (cm : rdS Gx.encB w c.Dirty H E) (g : Store) {r : Bool} (hm : M.l_FnExactStoreWord c g = some r) :
  Calls Try.prog 7 #[.agg #[.slice F c.Memory.length C, .slice G c.Copy.length D, .slice H c.Dirty.length E], .agg #[iv g.Word, iv g.Value]] w fun e w' => e = .returned (.bool r) ∧ Mem [] w w' [] := by
 unfold M.l_FnExactStoreWord at hm
 refine cE Try.func7 ?_
 have M0 := Mem.refl [] w
 refine G_seq (G_region (wN (.cells ⟨[.slice F c.Memory.length C, .slice G c.Copy.length D, .slice H c.Dirty.length E]⟩ 25 (0, 0)) M0 ?_))
 intro A io fo
 refine wN (.cells ⟨[iv g.Word, iv g.Value]⟩ 44 (0, 0)) fo ?_
 intro B cu cg
 refine wR 1 [(2, pB A 0), (3, pB B 0)] cu (W_nil (N_then (G_seq (G_region (wR 1 [(2, pB A 0), (3, pB B 0), (5, iv 1048576)] cu (W_nil (N_then (G_seq (G_region (wV (.agg #[.slice F c.Memory.length C, .slice G c.Copy.length D, .slice H c.Dirty.length E]) cu (eL true 3 0 (cg.blk 0 rfl)) (wR 1 [(2, pB A 0), (3, pB B 0), (5, iv 1048576), (16, .agg #[.slice F c.Memory.length C, .slice G c.Copy.length D, .slice H c.Dirty.length E]), (17, iv 1048576)] cu ?_)))))))))))
 obtain ⟨ea, gw, hm⟩ := gx_bind hm
 refine wC 13 #[.agg #[.slice F c.Memory.length C, .slice G c.Copy.length D, .slice H c.Dirty.length E], iv 1048576] ((c_l_szCopying cu c F C (ck.mem0 cg) G D (cl.mem0 cg) H E (cm.mem0 cg) 1048576 gw).mono ?_)
 rintro e_ eb ⟨rfl, e5⟩
 have ei := cg.call0 e5
 refine ⟨_, rfl, ?_⟩
 refine wR 1 [(2, pB A 0), (3, pB B 0), (5, iv ea)] eb (W_nil (N_then (G_seq (G_seq (G_region (wR 2 [(2, pB A 0), (3, pB B 0), (20, .bool (decide (ea < 0)))] eb (W_nil (N_then ?_))))))))
 rcases gx_bif hm with ⟨dh, hm⟩ | ⟨dh, hm⟩
 ·refine gT dh (G_seq (G_region (wR 1 [(4, .bool true)] eb (W_nil (N_then (G_ret (N_then_ret ?_)))))))
  obtain rfl := Option.some.inj hm
  exact N_ret [.bool true] (rC RVs_nil) (⟨rfl, ei.pk []⟩)
 refine gF dh (G_skip (N_then (G_seq ?_)))
 obtain ⟨af, gx, hm⟩ := gx_bind hm
 obtain ⟨bw, gy, hm⟩ := gx_bind hm
 obtain ⟨b, gz, hm⟩ := gx_bind hm
 refine G_sub [(2, pB A 0), (3, pB B 0), (20, .bool (decide (ea < 0)))] (by kernel_rfl) (G_dagL 10 [[], [0], [], [2], [1, 3], [], [5], [5], [], [6, 8]] [[], [], [], [], [], [], [], [], [], [8]] [[], [], [], [], [1], [], [], [], [], []] [[], [], [], [], [], [4], [4], [4], [], [4]] [[], [], [], [], [], [4], [4], [], [], [4, 8]] [[], [], [], [], [], [], [], [], [], []] (fun _ => []) (fun i => ([fun f v s => v = (.agg #[.slice F c.Memory.length C, .slice G c.Copy.length D, .slice H c.Dirty.length E] : Value) ∧ s = [], fun f v s => ∃ (a5 : Option Addr) (aw : Nat) (ak : Seg), ∃ (a6 : Option Addr) (ax : Nat) (al : Seg), ∃ (a7 : Option Addr) (ay : Nat) (am : Seg), v = (.agg #[.slice a5 af.Memory.length aw, .slice a6 af.Copy.length ax, .slice a7 af.Dirty.length ay] : Value) ∧ s = (ak ++ (al ++ am)) ∧ ownS Gx.encI af.Memory a5 aw ak ∧ ownS Gx.encI af.Copy a6 ax al ∧ ownS Gx.encB af.Dirty a7 ay am, fun f v s => v = (.agg #[iv g.Word, iv g.Value] : Value) ∧ s = [], fun f v s => v = (.agg #[iv bw.Word, iv bw.Value] : Value) ∧ s = [], fun f v s => ∃ (L : Option Addr) (I : Nat) (ac : Seg), ∃ (N : Option Addr) (J : Nat) (ad : Seg), ∃ (O : Option Addr) (K : Nat) (ae : Seg), v = (.tuple #[.agg #[.slice L b.1.Memory.length I, .slice N b.1.Copy.length J, .slice O b.1.Dirty.length K], .bool b.2] : Value) ∧ s = (ac ++ (ad ++ ae)) ∧ ownS Gx.encI b.1.Memory L I ac ∧ ownS Gx.encI b.1.Copy N J ad ∧ ownS Gx.encB b.1.Dirty O K ae, fun f v s => v = (.tuple #[.agg #[(atPath (f 4) [0, 0]), (atPath (f 4) [0, 1]), (atPath (f 4) [0, 2])], .bool b.2] : Value) ∧ s = [], fun f v s => v = (.agg #[(atPath (f 4) [0, 0]), (atPath (f 4) [0, 1]), (atPath (f 4) [0, 2])] : Value) ∧ s = [], fun f v s => v = (.bool b.2 : Value) ∧ s = [], fun f v s => ∃ (n : Nat), v = (pB n 0 : Value) ∧ s = [(n, .cells ⟨[.slice none 0 0, .slice none 0 0, .slice none 0 0]⟩ 28 (0, 0))], fun f v s => v = undef ∧ s = [((blkOf (f 8)), .cells ⟨[(atPath (f 4) [0, 0]), (atPath (f 4) [0, 1]), (atPath (f 4) [0, 2])]⟩ 28 (0, 0))]] : List ((Nat → Value) → Value → Seg → Prop)).getD i (fun _ _ _ => False)) (fun j f v => ∃ s, (fun i => ([fun f v s => v = (.agg #[.slice F c.Memory.length C, .slice G c.Copy.length D, .slice H c.Dirty.length E] : Value) ∧ s = [], fun f v s => ∃ (a5 : Option Addr) (aw : Nat) (ak : Seg), ∃ (a6 : Option Addr) (ax : Nat) (al : Seg), ∃ (a7 : Option Addr) (ay : Nat) (am : Seg), v = (.agg #[.slice a5 af.Memory.length aw, .slice a6 af.Copy.length ax, .slice a7 af.Dirty.length ay] : Value) ∧ s = (ak ++ (al ++ am)) ∧ ownS Gx.encI af.Memory a5 aw ak ∧ ownS Gx.encI af.Copy a6 ax al ∧ ownS Gx.encB af.Dirty a7 ay am, fun f v s => v = (.agg #[iv g.Word, iv g.Value] : Value) ∧ s = [], fun f v s => v = (.agg #[iv bw.Word, iv bw.Value] : Value) ∧ s = [], fun f v s => ∃ (L : Option Addr) (I : Nat) (ac : Seg), ∃ (N : Option Addr) (J : Nat) (ad : Seg), ∃ (O : Option Addr) (K : Nat) (ae : Seg), v = (.tuple #[.agg #[.slice L b.1.Memory.length I, .slice N b.1.Copy.length J, .slice O b.1.Dirty.length K], .bool b.2] : Value) ∧ s = (ac ++ (ad ++ ae)) ∧ ownS Gx.encI b.1.Memory L I ac ∧ ownS Gx.encI b.1.Copy N J ad ∧ ownS Gx.encB b.1.Dirty O K ae, fun f v s => v = (.tuple #[.agg #[(atPath (f 4) [0, 0]), (atPath (f 4) [0, 1]), (atPath (f 4) [0, 2])], .bool b.2] : Value) ∧ s = [], fun f v s => v = (.agg #[(atPath (f 4) [0, 0]), (atPath (f 4) [0, 1]), (atPath (f 4) [0, 2])] : Value) ∧ s = [], fun f v s => v = (.bool b.2 : Value) ∧ s = [], fun f v s => ∃ (n : Nat), v = (pB n 0 : Value) ∧ s = [(n, .cells ⟨[.slice none 0 0, .slice none 0 0, .slice none 0 0]⟩ 28 (0, 0))], fun f v s => v = undef ∧ s = [((blkOf (f 8)), .cells ⟨[(atPath (f 4) [0, 0]), (atPath (f 4) [0, 1]), (atPath (f 4) [0, 2])]⟩ 28 (0, 0))]] : List ((Nat → Value) → Value → Seg → Prop)).getD i (fun _ _ _ => False)) j f v s) [8] [1, 4, 7, 9] [1, 4, 9] (fun _ _ _ s h => ⟨s, h⟩) (by kernel_rfl) (by kernel_rfl) (ei.preNil 10) (by kernel_rfl) (by kernel_rfl) (by kernel_rfl) (by kernel_rfl) (allOb_cons ?_ (allOb_cons ?_ (allOb_cons ?_ (allOb_cons ?_ (allOb_cons ?_ (allOb_cons ?_ (allOb_cons ?_ (allOb_cons ?_ (allOb_cons ?_ (allOb_cons ?_ allOb_nil)))))))))) ?_)
 ·intro aq bq
  intro R hq ej
  exact wV (.agg #[.slice F c.Memory.length C, .slice G c.Copy.length D, .slice H c.Dirty.length E]) hq (eL true 3 0 (ej.blk 0 rfl)) (W_nil (oE (.agg #[.slice F c.Memory.length C, .slice G c.Copy.length D, .slice H c.Dirty.length E]) [] ⟨by kernel_rfl, rfl⟩ ej))
 ·intro aq bq
  intro v0_ hb0_
  obtain ⟨rfl, _⟩ := hb0_
  intro R hr cz
  refine wC 15 #[.agg #[.slice F c.Memory.length C, .slice G c.Copy.length D, .slice H c.Dirty.length E]] ((c_l_toCopying hr c F C (ck.mem0 cz) G D (cl.mem0 cz) H E (cm.mem0 cz) gx).mono ?_)
  rintro e_ ip ⟨a5, aw, ak, a6, ax, al, a7, ay, am, rfl, c7, c8, c9, e6⟩
  refine ⟨_, rfl, ?_⟩
  exact W_nil (oE (.agg #[.slice a5 af.Memory.length aw, .slice a6 af.Copy.length ax, .slice a7 af.Dirty.length ay]) (ak ++ (al ++ am)) ⟨a5, aw, ak, a6, ax, al, a7, ay, am, rfl, rfl, c7, c8, c9⟩ (Mem.callMid cz (e6.permF (by simp))))
 ·intro aq bq
  intro R hs ek
  exact wV (.agg #[iv g.Word, iv g.Value]) hs (eL true 2 0 (ek.blk 1 rfl)) (W_nil (oE (.agg #[iv g.Word, iv g.Value]) [] ⟨by kernel_rfl, rfl⟩ ek))
 ·intro aq bq
  intro v2_ hb2_
  obtain ⟨rfl, _⟩ := hb2_
  intro R ht fp
  refine wC 31 #[.agg #[iv g.Word, iv g.Value]] ((c_l_toStore ht g gy).mono ?_)
  rintro e_ iq ⟨rfl, e7⟩
  refine ⟨_, rfl, ?_⟩
  exact W_nil (oE (.agg #[iv bw.Word, iv bw.Value]) [] ⟨rfl, rfl⟩ (fp.call0 e7))
 ·intro aq bq
  intro v1_ hb1_
  obtain ⟨a5, aw, ak, a6, ax, al, a7, ay, am, rfl, hs1_, c7, c8, c9⟩ := hb1_
  intro v3_ hb3_
  obtain ⟨rfl, _⟩ := hb3_
  intro R ec el
  have b8 : Mem [] w ec ([[(A, .cells ⟨[.slice F c.Memory.length C, .slice G c.Copy.length D, .slice H c.Dirty.length E]⟩ 25 (0, 0))], [(B, .cells ⟨[iv g.Word, iv g.Value]⟩ 44 (0, 0))]] ++ ([[]] ++ ([(aq 1)] ++ ([] ++ R)))) := el
  rw [hs1_] at b8
  replace b8 : Mem [] w ec ([[(A, .cells ⟨[.slice F c.Memory.length C, .slice G c.Copy.length D, .slice H c.Dirty.length E]⟩ 25 (0, 0))], [(B, .cells ⟨[iv g.Word, iv g.Value]⟩ 44 (0, 0))]] ++ ([[]] ++ ([ak, al, am] ++ ([] ++ R)))) := b8.permF (by simp)
  refine wC 30 #[.agg #[.slice a5 af.Memory.length aw, .slice a6 af.Copy.length ax, .slice a7 af.Dirty.length ay], .agg #[iv bw.Word, iv bw.Value]] ((c_s_StoreWord ec af a5 aw (c7.rd b8 3 (by kernel_rfl)) a6 ax (c8.rd b8 4 (by kernel_rfl)) a7 ay (c9.rd b8 5 (by kernel_rfl)) bw gz).mono ?_)
  rintro e_ ir ⟨L, I, ac, N, J, ad, O, K, ae, rfl, cn, co, cp, e8⟩
  refine ⟨_, rfl, ?_⟩
  exact W_nil (oE (.tuple #[.agg #[.slice L b.1.Memory.length I, .slice N b.1.Copy.length J, .slice O b.1.Dirty.length K], .bool b.2]) (ac ++ (ad ++ ae)) ⟨L, I, ac, N, J, ad, O, K, ae, rfl, rfl, cn, co, cp⟩ (Mem.callMid el (e8.permF (by simp))))
 ·intro aq bq
  intro v4_ hb4_
  obtain ⟨_, L, I, _, N, J, _, O, K, _, rfl, _⟩ := hb4_
  intro R hu fq
  exact wR 1 [(21, .tuple #[.agg #[.slice L b.1.Memory.length I, .slice N b.1.Copy.length J, .slice O b.1.Dirty.length K], .bool b.2])] hu (W_nil (oE (.tuple #[.agg #[.slice L b.1.Memory.length I, .slice N b.1.Copy.length J, .slice O b.1.Dirty.length K], .bool b.2]) [] ⟨by kernel_rfl, rfl⟩ fq))
 ·intro aq bq
  intro v4_ hb4_
  obtain ⟨_, L, I, _, N, J, _, O, K, _, rfl, _⟩ := hb4_
  intro v5_ hb5_
  obtain ⟨hv5_, _⟩ := hb5_
  obtain rfl : v5_ = (.tuple #[.agg #[.slice L b.1.Memory.length I, .slice N b.1.Copy.length J, .slice O b.1.Dirty.length K], .bool b.2] : Value) := hv5_.trans (by kernel_rfl)
  intro R hv fr
  exact wR 1 [(27, .agg #[.slice L b.1.Memory.length I, .slice N b.1.Copy.length J, .slice O b.1.Dirty.length K])] hv (W_nil (oE (.agg #[.slice L b.1.Memory.length I, .slice N b.1.Copy.length J, .slice O b.1.Dirty.length K]) [] ⟨by kernel_rfl, rfl⟩ fr))
 ·intro aq bq
  intro v4_ hb4_
  obtain ⟨_, L, I, _, N, J, _, O, K, _, rfl, _⟩ := hb4_
  intro v5_ hb5_
  obtain ⟨hv5_, _⟩ := hb5_
  obtain rfl : v5_ = (.tuple #[.agg #[.slice L b.1.Memory.length I, .slice N b.1.Copy.length J, .slice O b.1.Dirty.length K], .bool b.2] : Value) := hv5_.trans (by kernel_rfl)
  intro R hw fs
  exact wR 1 [(28, .bool b.2)] hw (W_nil (oE (.bool b.2) [] ⟨by kernel_rfl, rfl⟩ fs))
 ·intro aq bq
  intro R it ft
  refine wN (.cells ⟨[.slice none 0 0, .slice none 0 0, .slice none 0 0]⟩ 28 (0, 0)) ft ?_
  intro n iu fu
  exact W_nil (oE (pB n 0) [(n, .cells ⟨[.slice none 0 0, .slice none 0 0, .slice none 0 0]⟩ 28 (0, 0))] ⟨n, rfl, rfl⟩ (Mem.mid fu))
 ·intro aq bq
  intro v4_ hb4_
  obtain ⟨_, L, I, _, N, J, _, O, K, _, rfl, _⟩ := hb4_
  intro v6_ hb6_
  obtain ⟨hv6_, _⟩ := hb6_
  obtain rfl : v6_ = (.agg #[.slice L b.1.Memory.length I, .slice N b.1.Copy.length J, .slice O b.1.Dirty.length K] : Value) := hv6_.trans (by kernel_rfl)
  intro v8_ hb8_
  obtain ⟨n, rfl, hs8_⟩ := hb8_
  intro R e2 fv
  have c0 : Mem [] w e2 ([[(A, .cells ⟨[.slice F c.Memory.length C, .slice G c.Copy.length D, .slice H c.Dirty.length E]⟩ 25 (0, 0))], [(B, .cells ⟨[iv g.Word, iv g.Value]⟩ 44 (0, 0))]] ++ ([[]] ++ ([(aq 8)] ++ ([] ++ R)))) := fv
  rw [hs8_] at c0
  replace c0 : Mem [] w e2 ([[(A, .cells ⟨[.slice F c.Memory.length C, .slice G c.Copy.length D, .slice H c.Dirty.length E]⟩ 25 (0, 0))], [(B, .cells ⟨[iv g.Word, iv g.Value]⟩ 44 (0, 0))]] ++ ([[]] ++ ([[(n, .cells ⟨[.slice none 0 0, .slice none 0 0, .slice none 0 0]⟩ 28 (0, 0))]] ++ ([] ++ R)))) := c0.permF (by simp)
  refine wS true 3 0 (.agg #[.slice L b.1.Memory.length I, .slice N b.1.Copy.length J, .slice O b.1.Dirty.length K]) 3 [.slice L b.1.Memory.length I, .slice N b.1.Copy.length J, .slice O b.1.Dirty.length K] c0 rfl ?_
  intro iw fw
  exact W_nil (ob_none [(n, .cells ⟨[.slice L b.1.Memory.length I, .slice N b.1.Copy.length J, .slice O b.1.Dirty.length K]⟩ 28 (0, 0))] rfl ⟨rfl, by kernel_rfl⟩ (Mem.takeOver fw))
 intro aq bq
 intro v8_ hb8_
 obtain ⟨_, n, rfl, hs8_⟩ := hb8_
 intro v1_ hb1_
 obtain ⟨a5, aw, ak, a6, ax, al, a7, ay, am, rfl, hs1_, c7, c8, c9⟩ := hb1_
 intro v4_ hb4_
 obtain ⟨L, I, ac, N, J, ad, O, K, ae, rfl, hs4_, cn, co, cp⟩ := hb4_
 intro v7_ hb7_
 obtain ⟨rfl, _⟩ := hb7_
 intro v9_ hb9_
 obtain ⟨rfl, hs9_⟩ := hb9_
 replace hs9_ := hs9_.trans (show _ = [(n, .cells ⟨[.slice L b.1.Memory.length I, .slice N b.1.Copy.length J, .slice O b.1.Dirty.length K]⟩ 28 (0, 0))] by kernel_rfl)
 intro cv fx
 have bn : Mem [] w cv [[(A, .cells ⟨[.slice F c.Memory.length C, .slice G c.Copy.length D, .slice H c.Dirty.length E]⟩ 25 (0, 0))], [(B, .cells ⟨[iv g.Word, iv g.Value]⟩ 44 (0, 0))], (aq 1), (aq 4), (aq 9)] := fx
 rw [hs1_] at bn
 rw [hs4_] at bn
 rw [hs9_] at bn
 replace bn : Mem [] w cv [[(A, .cells ⟨[.slice F c.Memory.length C, .slice G c.Copy.length D, .slice H c.Dirty.length E]⟩ 25 (0, 0))], [(B, .cells ⟨[iv g.Word, iv g.Value]⟩ 44 (0, 0))], ak, al, am, ac, ad, ae, [(n, .cells ⟨[.slice L b.1.Memory.length I, .slice N b.1.Copy.length J, .slice O b.1.Dirty.length K]⟩ 28 (0, 0))]] := bn.permF (by simp)
 refine wR 1 [(2, pB A 0), (3, pB B 0), (6, pB n 0), (7, .bool b.2)] cv (W_nil (N_then (G_seq (G_region (wV (.agg #[.slice F c.Memory.length C, .slice G c.Copy.length D, .slice H c.Dirty.length E]) cv (eL true 3 0 (bn.blk 0 rfl)) ?_)))))
 obtain ⟨k, g0, hm⟩ := gx_bind hm
 refine wC 15 #[.agg #[.slice F c.Memory.length C, .slice G c.Copy.length D, .slice H c.Dirty.length E]] ((c_l_toCopying cv c F C (ck.mem0 bn) G D (cl.mem0 bn) H E (cm.mem0 bn) g0).mono ?_)
 rintro e_ ix ⟨T, P, b1, U, Q, b2, V, S, b3, rfl, d1, d2, d3, e9⟩
 have fy := bn.call e9
 refine ⟨_, rfl, ?_⟩
 refine wN (.cells ⟨[.slice none 0 0, .slice none 0 0, .slice none 0 0]⟩ 28 (0, 0)) fy ?_
 intro ai iy fz
 refine wS true 3 0 (.agg #[.slice T k.Memory.length P, .slice U k.Copy.length Q, .slice V k.Dirty.length S]) 12 [.slice T k.Memory.length P, .slice U k.Copy.length Q, .slice V k.Dirty.length S] fz rfl ?_
 intro iz f0
 refine W_nil (N_then (G_seq ?_))
 obtain ⟨bx, g1, hm⟩ := gx_bind hm
 obtain ⟨d, g2, hm⟩ := gx_bind hm
 refine G_sub [(2, pB A 0), (3, pB B 0), (6, pB n 0), (7, .bool b.2), (8, pB ai 0), (29, .agg #[.slice F c.Memory.length C, .slice G c.Copy.length D, .slice H c.Dirty.length E]), (30, .agg #[.slice T k.Memory.length P, .slice U k.Copy.length Q, .slice V k.Dirty.length S])] (by kernel_rfl) (G_dagL 9 [[], [], [1], [0, 2], [], [4], [4], [], [5, 7]] [[], [], [], [], [], [], [], [], [7]] [[], [], [], [], [], [], [], [], []] [[], [], [], [], [3], [3], [3], [], [3]] [[], [], [], [], [3], [3], [], [], [3, 7]] [[], [], [], [], [], [], [], [], []] (fun _ => []) (fun i => ([fun f v s => v = (.agg #[.slice T k.Memory.length P, .slice U k.Copy.length Q, .slice V k.Dirty.length S] : Value) ∧ s = [], fun f v s => v = (.agg #[iv g.Word, iv g.Value] : Value) ∧ s = [], fun f v s => v = (.agg #[iv bx.Word, iv bx.Value] : Value) ∧ s = [], fun f v s => ∃ (x : Option Addr) (q : Nat) (an : Seg), ∃ (y : Option Addr) (t : Nat) (ao : Seg), ∃ (z : Option Addr) (u : Nat) (ap : Seg), v = (.tuple #[.agg #[.slice x d.1.Memory.length q, .slice y d.1.Copy.length t, .slice z d.1.Dirty.length u], .bool d.2] : Value) ∧ s = (an ++ (ao ++ ap)) ∧ ownS Gx.encI d.1.Memory x q an ∧ ownS Gx.encI d.1.Copy y t ao ∧ ownS Gx.encB d.1.Dirty z u ap, fun f v s => v = (.tuple #[.agg #[(atPath (f 3) [0, 0]), (atPath (f 3) [0, 1]), (atPath (f 3) [0, 2])], .bool d.2] : Value) ∧ s = [], fun f v s => v = (.agg #[(atPath (f 3) [0, 0]), (atPath (f 3) [0, 1]), (atPath (f 3) [0, 2])] : Value) ∧ s = [], fun f v s => v = (.bool d.2 : Value) ∧ s = [], fun f v s => ∃ (o : Nat), v = (pB o 0 : Value) ∧ s = [(o, .cells ⟨[.slice none 0 0, .slice none 0 0, .slice none 0 0]⟩ 28 (0, 0))], fun f v s => v = undef ∧ s = [((blkOf (f 7)), .cells ⟨[(atPath (f 3) [0, 0]), (atPath (f 3) [0, 1]), (atPath (f 3) [0, 2])]⟩ 28 (0, 0))]] : List ((Nat → Value) → Value → Seg → Prop)).getD i (fun _ _ _ => False)) (fun j f v => ∃ s, (fun i => ([fun f v s => v = (.agg #[.slice T k.Memory.length P, .slice U k.Copy.length Q, .slice V k.Dirty.length S] : Value) ∧ s = [], fun f v s => v = (.agg #[iv g.Word, iv g.Value] : Value) ∧ s = [], fun f v s => v = (.agg #[iv bx.Word, iv bx.Value] : Value) ∧ s = [], fun f v s => ∃ (x : Option Addr) (q : Nat) (an : Seg), ∃ (y : Option Addr) (t : Nat) (ao : Seg), ∃ (z : Option Addr) (u : Nat) (ap : Seg), v = (.tuple #[.agg #[.slice x d.1.Memory.length q, .slice y d.1.Copy.length t, .slice z d.1.Dirty.length u], .bool d.2] : Value) ∧ s = (an ++ (ao ++ ap)) ∧ ownS Gx.encI d.1.Memory x q an ∧ ownS Gx.encI d.1.Copy y t ao ∧ ownS Gx.encB d.1.Dirty z u ap, fun f v s => v = (.tuple #[.agg #[(atPath (f 3) [0, 0]), (atPath (f 3) [0, 1]), (atPath (f 3) [0, 2])], .bool d.2] : Value) ∧ s = [], fun f v s => v = (.agg #[(atPath (f 3) [0, 0]), (atPath (f 3) [0, 1]), (atPath (f 3) [0, 2])] : Value) ∧ s = [], fun f v s => v = (.bool d.2 : Value) ∧ s = [], fun f v s => ∃ (o : Nat), v = (pB o 0 : Value) ∧ s = [(o, .cells ⟨[.slice none 0 0, .slice none 0 0, .slice none 0 0]⟩ 28 (0, 0))], fun f v s => v = undef ∧ s = [((blkOf (f 7)), .cells ⟨[(atPath (f 3) [0, 0]), (atPath (f 3) [0, 1]), (atPath (f 3) [0, 2])]⟩ 28 (0, 0))]] : List ((Nat → Value) → Value → Seg → Prop)).getD i (fun _ _ _ => False)) j f v s) [7] [3, 6, 8] [3, 8] (fun _ _ _ s h => ⟨s, h⟩) (by kernel_rfl) (by kernel_rfl) (f0.preNil 9) (by kernel_rfl) (by kernel_rfl) (by kernel_rfl) (by kernel_rfl) (allOb_cons ?_ (allOb_cons ?_ (allOb_cons ?_ (allOb_cons ?_ (allOb_cons ?_ (allOb_cons ?_ (allOb_cons ?_ (allOb_cons ?_ (allOb_cons ?_ allOb_nil))))))))) ?_)
 ·intro a4 bv
  intro R hx em
  exact wV (.agg #[.slice T k.Memory.length P, .slice U k.Copy.length Q, .slice V k.Dirty.length S]) hx (eL true 3 0 (em.blk 12 rfl)) (W_nil (oE (.agg #[.slice T k.Memory.length P, .slice U k.Copy.length Q, .slice V k.Dirty.length S]) [] ⟨by kernel_rfl, rfl⟩ em))
 ·intro a4 bv
  intro R hy en
  exact wV (.agg #[iv g.Word, iv g.Value]) hy (eL true 2 0 (en.blk 1 rfl)) (W_nil (oE (.agg #[iv g.Word, iv g.Value]) [] ⟨by kernel_rfl, rfl⟩ en))
 ·intro a4 bv
  intro v1_ hb1_
  obtain ⟨rfl, _⟩ := hb1_
  intro R hz f1
  refine wC 31 #[.agg #[iv g.Word, iv g.Value]] ((c_l_toStore hz g g1).mono ?_)
  rintro e_ i0 ⟨rfl, fa⟩
  refine ⟨_, rfl, ?_⟩
  exact W_nil (oE (.agg #[iv bx.Word, iv bx.Value]) [] ⟨rfl, rfl⟩ (f1.call0 fa))
 ·intro a4 bv
  intro v0_ hb0_
  obtain ⟨rfl, _⟩ := hb0_
  intro v2_ hb2_
  obtain ⟨rfl, _⟩ := hb2_
  intro R h0 c1
  refine wC 32 #[.agg #[.slice T k.Memory.length P, .slice U k.Copy.length Q, .slice V k.Dirty.length S], .agg #[iv bx.Word, iv bx.Value]] ((c_i_StoreWord h0 k T P (d1.rd c1 9 (by kernel_rfl)) U Q (d2.rd c1 10 (by kernel_rfl)) V S (d3.rd c1 11 (by kernel_rfl)) bx g2).mono ?_)
  rintro e_ i1 ⟨x, q, an, y, t, ao, z, u, ap, rfl, cq, cr, cs, fb⟩
  refine ⟨_, rfl, ?_⟩
  exact W_nil (oE (.tuple #[.agg #[.slice x d.1.Memory.length q, .slice y d.1.Copy.length t, .slice z d.1.Dirty.length u], .bool d.2]) (an ++ (ao ++ ap)) ⟨x, q, an, y, t, ao, z, u, ap, rfl, rfl, cq, cr, cs⟩ (Mem.callMid c1 (fb.permF (by simp))))
 ·intro a4 bv
  intro v3_ hb3_
  obtain ⟨_, x, q, _, y, t, _, z, u, _, rfl, _⟩ := hb3_
  intro R h1 f2
  exact wR 1 [(31, .tuple #[.agg #[.slice x d.1.Memory.length q, .slice y d.1.Copy.length t, .slice z d.1.Dirty.length u], .bool d.2])] h1 (W_nil (oE (.tuple #[.agg #[.slice x d.1.Memory.length q, .slice y d.1.Copy.length t, .slice z d.1.Dirty.length u], .bool d.2]) [] ⟨by kernel_rfl, rfl⟩ f2))
 ·intro a4 bv
  intro v3_ hb3_
  obtain ⟨_, x, q, _, y, t, _, z, u, _, rfl, _⟩ := hb3_
  intro v4_ hb4_
  obtain ⟨hv4_, _⟩ := hb4_
  obtain rfl : v4_ = (.tuple #[.agg #[.slice x d.1.Memory.length q, .slice y d.1.Copy.length t, .slice z d.1.Dirty.length u], .bool d.2] : Value) := hv4_.trans (by kernel_rfl)
  intro R h2 f3
  exact wR 1 [(36, .agg #[.slice x d.1.Memory.length q, .slice y d.1.Copy.length t, .slice z d.1.Dirty.length u])] h2 (W_nil (oE (.agg #[.slice x d.1.Memory.length q, .slice y d.1.Copy.length t, .slice z d.1.Dirty.length u]) [] ⟨by kernel_rfl, rfl⟩ f3))
 ·intro a4 bv
  intro v3_ hb3_
  obtain ⟨_, x, q, _, y, t, _, z, u, _, rfl, _⟩ := hb3_
  intro v4_ hb4_
  obtain ⟨hv4_, _⟩ := hb4_
  obtain rfl : v4_ = (.tuple #[.agg #[.slice x d.1.Memory.length q, .slice y d.1.Copy.length t, .slice z d.1.Dirty.length u], .bool d.2] : Value) := hv4_.trans (by kernel_rfl)
  intro R h3 f4
  exact wR 1 [(37, .bool d.2)] h3 (W_nil (oE (.bool d.2) [] ⟨by kernel_rfl, rfl⟩ f4))
 ·intro a4 bv
  intro R i2 f5
  refine wN (.cells ⟨[.slice none 0 0, .slice none 0 0, .slice none 0 0]⟩ 28 (0, 0)) f5 ?_
  intro o i3 f6
  exact W_nil (oE (pB o 0) [(o, .cells ⟨[.slice none 0 0, .slice none 0 0, .slice none 0 0]⟩ 28 (0, 0))] ⟨o, rfl, rfl⟩ (Mem.mid f6))
 ·intro a4 bv
  intro v3_ hb3_
  obtain ⟨_, x, q, _, y, t, _, z, u, _, rfl, _⟩ := hb3_
  intro v5_ hb5_
  obtain ⟨hv5_, _⟩ := hb5_
  obtain rfl : v5_ = (.agg #[.slice x d.1.Memory.length q, .slice y d.1.Copy.length t, .slice z d.1.Dirty.length u] : Value) := hv5_.trans (by kernel_rfl)
  intro v7_ hb7_
  obtain ⟨o, rfl, hs7_⟩ := hb7_
  intro R e3 f8
  have c2 : Mem [] w e3 ([[(A, .cells ⟨[.slice F c.Memory.length C, .slice G c.Copy.length D, .slice H c.Dirty.length E]⟩ 25 (0, 0))], [(B, .cells ⟨[iv g.Word, iv g.Value]⟩ 44 (0, 0))], ak, al, am, ac, ad, ae, [(n, .cells ⟨[.slice L b.1.Memory.length I, .slice N b.1.Copy.length J, .slice O b.1.Dirty.length K]⟩ 28 (0, 0))], b1, b2, b3, [(ai, .cells ⟨[.slice T k.Memory.length P, .slice U k.Copy.length Q, .slice V k.Dirty.length S]⟩ 28 (0, 0))]] ++ ([[]] ++ ([(a4 7)] ++ ([] ++ R)))) := f8
  rw [hs7_] at c2
  replace c2 : Mem [] w e3 ([[(A, .cells ⟨[.slice F c.Memory.length C, .slice G c.Copy.length D, .slice H c.Dirty.length E]⟩ 25 (0, 0))], [(B, .cells ⟨[iv g.Word, iv g.Value]⟩ 44 (0, 0))], ak, al, am, ac, ad, ae, [(n, .cells ⟨[.slice L b.1.Memory.length I, .slice N b.1.Copy.length J, .slice O b.1.Dirty.length K]⟩ 28 (0, 0))], b1, b2, b3, [(ai, .cells ⟨[.slice T k.Memory.length P, .slice U k.Copy.length Q, .slice V k.Dirty.length S]⟩ 28 (0, 0))]] ++ ([[]] ++ ([[(o, .cells ⟨[.slice none 0 0, .slice none 0 0, .slice none 0 0]⟩ 28 (0, 0))]] ++ ([] ++ R)))) := c2.permF (by simp)
  refine wS true 3 0 (.agg #[.slice x d.1.Memory.length q, .slice y d.1.Copy.length t, .slice z d.1.Dirty.length u]) 14 [.slice x d.1.Memory.length q, .slice y d.1.Copy.length t, .slice z d.1.Dirty.length u] c2 rfl ?_
  intro i4 f9
  exact W_nil (ob_none [(o, .cells ⟨[.slice x d.1.Memory.length q, .slice y d.1.Copy.length t, .slice z d.1.Dirty.length u]⟩ 28 (0, 0))] rfl ⟨rfl, by kernel_rfl⟩ (Mem.takeOver f9))
 intro a4 bv
 intro v7_ hb7_
 obtain ⟨_, o, rfl, hs7_⟩ := hb7_
 intro v3_ hb3_
 obtain ⟨x, q, an, y, t, ao, z, u, ap, rfl, hs3_, cq, cr, cs⟩ := hb3_
 intro v6_ hb6_
 obtain ⟨rfl, _⟩ := hb6_
 intro v8_ hb8_
 obtain ⟨rfl, hs8_⟩ := hb8_
 replace hs8_ := hs8_.trans (show _ = [(o, .cells ⟨[.slice x d.1.Memory.length q, .slice y d.1.Copy.length t, .slice z d.1.Dirty.length u]⟩ 28 (0, 0))] by kernel_rfl)
 intro cb ga
 have av : Mem [] w cb [[(A, .cells ⟨[.slice F c.Memory.length C, .slice G c.Copy.length D, .slice H c.Dirty.length E]⟩ 25 (0, 0))], [(B, .cells ⟨[iv g.Word, iv g.Value]⟩ 44 (0, 0))], ak, al, am, ac, ad, ae, [(n, .cells ⟨[.slice L b.1.Memory.length I, .slice N b.1.Copy.length J, .slice O b.1.Dirty.length K]⟩ 28 (0, 0))], b1, b2, b3, [(ai, .cells ⟨[.slice T k.Memory.length P, .slice U k.Copy.length Q, .slice V k.Dirty.length S]⟩ 28 (0, 0))], (a4 3), (a4 8)] := ga
 rw [hs3_] at av
 rw [hs8_] at av
 replace av : Mem [] w cb [[(A, .cells ⟨[.slice F c.Memory.length C, .slice G c.Copy.length D, .slice H c.Dirty.length E]⟩ 25 (0, 0))], [(B, .cells ⟨[iv g.Word, iv g.Value]⟩ 44 (0, 0))], ak, al, am, ac, ad, ae, [(n, .cells ⟨[.slice L b.1.Memory.length I, .slice N b.1.Copy.length J, .slice O b.1.Dirty.length K]⟩ 28 (0, 0))], b1, b2, b3, [(ai, .cells ⟨[.slice T k.Memory.length P, .slice U k.Copy.length Q, .slice V k.Dirty.length S]⟩ 28 (0, 0))], an, ao, ap, [(o, .cells ⟨[.slice x d.1.Memory.length q, .slice y d.1.Copy.length t, .slice z d.1.Dirty.length u]⟩ 28 (0, 0))]] := av.permF (by simp)
 refine wR 1 [(2, pB A 0), (3, pB B 0), (6, pB n 0), (7, .bool b.2), (8, pB ai 0), (9, pB o 0), (10, .bool d.2)] cb (W_nil (N_then (G_seq (G_seq ?_))))
 obtain ⟨e1, gt, gq⟩ := gx_bind hm
 refine G_meet (fun a w' => Mem [] w w' [[(A, .cells ⟨[.slice F c.Memory.length C, .slice G c.Copy.length D, .slice H c.Dirty.length E]⟩ 25 (0, 0))], [(B, .cells ⟨[iv g.Word, iv g.Value]⟩ 44 (0, 0))], ac, ad, ae, [(n, .cells ⟨[.slice L b.1.Memory.length I, .slice N b.1.Copy.length J, .slice O b.1.Dirty.length K]⟩ 28 (0, 0))], b1, b2, b3, [(ai, .cells ⟨[.slice T k.Memory.length P, .slice U k.Copy.length Q, .slice V k.Dirty.length S]⟩ 28 (0, 0))], an, ao, ap, [(o, .cells ⟨[.slice x d.1.Memory.length q, .slice y d.1.Copy.length t, .slice z d.1.Dirty.length u]⟩ 28 (0, 0))]] ∧ Sat Try.f7.ntmps [(2, pB A 0), (3, pB B 0), (6, pB n 0), (7, .bool b.2), (8, pB ai 0), (9, pB o 0), (10, .bool d.2), (46, .bool e1)] a) ?_ ?_
 ·have hm := gt
  refine G_region (wV (.agg #[.slice x d.1.Memory.length q, .slice y d.1.Copy.length t, .slice z d.1.Dirty.length u]) cb (eL true 3 0 (av.blk 16 rfl)) (wV (.agg #[.slice L b.1.Memory.length I, .slice N b.1.Copy.length J, .slice O b.1.Dirty.length K]) cb (eL true 3 0 (av.blk 8 rfl)) ?_))
  obtain ⟨hi, g3, hm⟩ := gx_bind hm
  refine wC 17 #[.agg #[.slice x d.1.Memory.length q, .slice y d.1.Copy.length t, .slice z d.1.Dirty.length u], .agg #[.slice L b.1.Memory.length I, .slice N b.1.Copy.length J, .slice O b.1.Dirty.length K]] ((c_l_eqCopying cb d.1 x q (cq.rd av 13 (by kernel_rfl)) y t (cr.rd av 14 (by kernel_rfl)) z u (cs.rd av 15 (by kernel_rfl)) b.1 L I (cn.rd av 5 (by kernel_rfl)) N J (co.rd av 6 (by kernel_rfl)) O K (cp.rd av 7 (by kernel_rfl)) g3).mono ?_)
  rintro e_ ed ⟨rfl, fc⟩
  have eo := av.call0 fc
  refine ⟨_, rfl, ?_⟩
  refine wR 2 [(2, pB A 0), (3, pB B 0), (6, pB n 0), (7, .bool b.2), (8, pB ai 0), (9, pB o 0), (10, .bool d.2), (42, .bool (!hi))] ed ?_
  rcases gx_bif hm with ⟨di, hm⟩ | ⟨di, hm⟩
  ·refine wK 42 true di (wR 4 [(2, pB A 0), (3, pB B 0), (6, pB n 0), (7, .bool b.2), (8, pB ai 0), (9, pB o 0), (10, .bool d.2), (46, .bool true)] ed (W_nil ?_))
   obtain rfl := Option.some.inj hm
   exact N_meet fun a ha => ⟨eo.pk [0, 1, 5, 6, 7, 8, 9, 10, 11, 12, 13, 14, 15, 16], ha.s⟩
  refine wK 42 false di (wR 4 [(2, pB A 0), (3, pB B 0), (6, pB n 0), (7, .bool b.2), (8, pB ai 0), (9, pB o 0), (10, .bool d.2), (46, .bool (!(d.2 == b.2)))] ed (W_nil ?_))
  obtain rfl := Option.some.inj hm
  exact N_meet fun a ha => ⟨eo.pk [0, 1, 5, 6, 7, 8, 9, 10, 11, 12, 13, 14, 15, 16], ha.s⟩
 intro ih h4 ⟨ep, gn⟩
 refine N_use gn ?_
 have hm := gq
 refine N_then ?_
 rcases gx_bif hm with ⟨dj, hm⟩ | ⟨dj, hm⟩
 ·refine gT dj (G_seq (G_region (wR 1 [(4, .bool false)] h4 (W_nil (N_then (G_ret (N_then_ret ?_)))))))
  obtain rfl := Option.some.inj hm
  exact N_ret [.bool false] (rC RVs_nil) (⟨rfl, ep.pk []⟩)
 refine gF dj (G_skip (N_then (G_seq (G_seq ?_))))
 obtain ⟨ag, g4, hm⟩ := gx_bind hm
 refine G_sub [(2, pB A 0), (3, pB B 0), (6, pB n 0), (7, .bool b.2), (8, pB ai 0), (9, pB o 0), (10, .bool d.2), (46, .bool e1)] (by kernel_rfl) (G_dagL 3 [[], [], [1]] [[], [], []] [[], [], []] [[], [], []] [[], [], []] [[], [], []] (fun _ => []) (fun i => ([fun f v s => v = (.agg #[.slice T k.Memory.length P, .slice U k.Copy.length Q, .slice V k.Dirty.length S] : Value) ∧ s = [], fun f v s => v = (.agg #[.slice F c.Memory.length C, .slice G c.Copy.length D, .slice H c.Dirty.length E] : Value) ∧ s = [], fun f v s => ∃ (bh : Option Addr) (be : Nat) (bk : Seg), ∃ (bi : Option Addr) (bf : Nat) (bl : Seg), ∃ (bj : Option Addr) (bg : Nat) (bm : Seg), v = (.agg #[.slice bh ag.Memory.length be, .slice bi ag.Copy.length bf, .slice bj ag.Dirty.length bg] : Value) ∧ s = (bk ++ (bl ++ bm)) ∧ ownS Gx.encI ag.Memory bh be bk ∧ ownS Gx.encI ag.Copy bi bf bl ∧ ownS Gx.encB ag.Dirty bj bg bm] : List ((Nat → Value) → Value → Seg → Prop)).getD i (fun _ _ _ => False)) (fun j f v => ∃ s, (fun i => ([fun f v s => v = (.agg #[.slice T k.Memory.length P, .slice U k.Copy.length Q, .slice V k.Dirty.length S] : Value) ∧ s = [], fun f v s => v = (.agg #[.slice F c.Memory.length C, .slice G c.Copy.length D, .slice H c.Dirty.length E] : Value) ∧ s = [], fun f v s => ∃ (bh : Option Addr) (be : Nat) (bk : Seg), ∃ (bi : Option Addr) (bf : Nat) (bl : Seg), ∃ (bj : Option Addr) (bg : Nat) (bm : Seg), v = (.agg #[.slice bh ag.Memory.length be, .slice bi ag.Copy.length bf, .slice bj ag.Dirty.length bg] : Value) ∧ s = (bk ++ (bl ++ bm)) ∧ ownS Gx.encI ag.Memory bh be bk ∧ ownS Gx.encI ag.Copy bi bf bl ∧ ownS Gx.encB ag.Dirty bj bg bm] : List ((Nat → Value) → Value → Seg → Prop)).getD i (fun _ _ _ => False)) j f v s) [] [0, 2] [2] (fun _ _ _ s h => ⟨s, h⟩) (by kernel_rfl) (by kernel_rfl) (ep.preNil 3) (by kernel_rfl) (by kernel_rfl) (by kernel_rfl) (by kernel_rfl) (allOb_cons ?_ (allOb_cons ?_ (allOb_cons ?_ allOb_nil))) ?_)
 ·intro c6 dg
  intro R h5 er
  exact wV (.agg #[.slice T k.Memory.length P, .slice U k.Copy.length Q, .slice V k.Dirty.length S]) h5 (eL true 3 0 (er.blk 9 rfl)) (W_nil (oE (.agg #[.slice T k.Memory.length P, .slice U k.Copy.length Q, .slice V k.Dirty.length S]) [] ⟨by kernel_rfl, rfl⟩ er))
 ·intro c6 dg
  intro R h6 es
  exact wV (.agg #[.slice F c.Memory.length C, .slice G c.Copy.length D, .slice H c.Dirty.length E]) h6 (eL true 3 0 (es.blk 0 rfl)) (W_nil (oE (.agg #[.slice F c.Memory.length C, .slice G c.Copy.length D, .slice H c.Dirty.length E]) [] ⟨by kernel_rfl, rfl⟩ es))
 ·intro c6 dg
  intro v1_ hb1_
  obtain ⟨rfl, _⟩ := hb1_
  intro R h7 c3
  refine wC 15 #[.agg #[.slice F c.Memory.length C, .slice G c.Copy.length D, .slice H c.Dirty.length E]] ((c_l_toCopying h7 c F C (ck.mem0 c3) G D (cl.mem0 c3) H E (cm.mem0 c3) g4).mono ?_)
  rintro e_ i5 ⟨bh, be, bk, bi, bf, bl, bj, bg, bm, rfl, d4, d5, d6, fd⟩
  refine ⟨_, rfl, ?_⟩
  exact W_nil (oE (.agg #[.slice bh ag.Memory.length be, .slice bi ag.Copy.length bf, .slice bj ag.Dirty.length bg]) (bk ++ (bl ++ bm)) ⟨bh, be, bk, bi, bf, bl, bj, bg, bm, rfl, rfl, d4, d5, d6⟩ (Mem.callMid c3 (fd.permF (by simp))))
 intro c6 dg
 intro v0_ hb0_
 obtain ⟨rfl, _⟩ := hb0_
 intro v2_ hb2_
 obtain ⟨bh, be, bk, bi, bf, bl, bj, bg, bm, rfl, hs2_, d4, d5, d6⟩ := hb2_
 intro ee gb
 have bo : Mem [] w ee [[(A, .cells ⟨[.slice F c.Memory.length C, .slice G c.Copy.length D, .slice H c.Dirty.length E]⟩ 25 (0, 0))], [(B, .cells ⟨[iv g.Word, iv g.Value]⟩ 44 (0, 0))], ac, ad, ae, [(n, .cells ⟨[.slice L b.1.Memory.length I, .slice N b.1.Copy.length J, .slice O b.1.Dirty.length K]⟩ 28 (0, 0))], b1, b2, b3, [(ai, .cells ⟨[.slice T k.Memory.length P, .slice U k.Copy.length Q, .slice V k.Dirty.length S]⟩ 28 (0, 0))], an, ao, ap, [(o, .cells ⟨[.slice x d.1.Memory.length q, .slice y d.1.Copy.length t, .slice z d.1.Dirty.length u]⟩ 28 (0, 0))], (c6 2)] := gb
 rw [hs2_] at bo
 replace bo : Mem [] w ee [[(A, .cells ⟨[.slice F c.Memory.length C, .slice G c.Copy.length D, .slice H c.Dirty.length E]⟩ 25 (0, 0))], [(B, .cells ⟨[iv g.Word, iv g.Value]⟩ 44 (0, 0))], ac, ad, ae, [(n, .cells ⟨[.slice L b.1.Memory.length I, .slice N b.1.Copy.length J, .slice O b.1.Dirty.length K]⟩ 28 (0, 0))], b1, b2, b3, [(ai, .cells ⟨[.slice T k.Memory.length P, .slice U k.Copy.length Q, .slice V k.Dirty.length S]⟩ 28 (0, 0))], an, ao, ap, [(o, .cells ⟨[.slice x d.1.Memory.length q, .slice y d.1.Copy.length t, .slice z d.1.Dirty.length u]⟩ 28 (0, 0))], bk, bl, bm] := bo.permF (by simp)
 obtain ⟨hj, g5, hm⟩ := gx_bind hm
 refine wC 17 #[.agg #[.slice T k.Memory.length P, .slice U k.Copy.length Q, .slice V k.Dirty.length S], .agg #[.slice bh ag.Memory.length be, .slice bi ag.Copy.length bf, .slice bj ag.Dirty.length bg]] ((c_l_eqCopying ee k T P (d1.rd bo 6 (by kernel_rfl)) U Q (d2.rd bo 7 (by kernel_rfl)) V S (d3.rd bo 8 (by kernel_rfl)) ag bh be (d4.rd bo 14 (by kernel_rfl)) bi bf (d5.rd bo 15 (by kernel_rfl)) bj bg (d6.rd bo 16 (by kernel_rfl)) g5).mono ?_)
 rintro e_ cc ⟨rfl, fe⟩
 have ch := bo.call0 fe
 refine ⟨_, rfl, ?_⟩
 refine wR 1 [(2, pB A 0), (3, pB B 0), (6, pB n 0), (7, .bool b.2), (8, pB ai 0), (9, pB o 0), (10, .bool d.2), (51, .bool (!hj))] cc (W_nil (N_then ?_))
 rcases gx_bif hm with ⟨dk, hm⟩ | ⟨dk, hm⟩
 ·refine gT dk (G_seq (G_region (wR 1 [(4, .bool false)] cc (W_nil (N_then (G_ret (N_then_ret ?_)))))))
  obtain rfl := Option.some.inj hm
  exact N_ret [.bool false] (rC RVs_nil) (⟨rfl, ch.pk []⟩)
 refine gF dk (G_skip (N_then (G_seq (G_region (wR 1 [(2, pB A 0), (3, pB B 0), (6, pB n 0), (7, .bool b.2), (8, pB ai 0), (9, pB o 0), (10, .bool d.2), (11, iv 1)] cc (W_nil (N_then (G_seq (G_region (wV (.agg #[.slice T k.Memory.length P, .slice U k.Copy.length Q, .slice V k.Dirty.length S]) cc (eL true 3 0 (ch.blk 9 rfl)) (wR 1 [(2, pB A 0), (3, pB B 0), (6, pB n 0), (7, .bool b.2), (9, pB o 0), (10, .bool d.2), (11, iv 1), (52, .agg #[.slice T k.Memory.length P, .slice U k.Copy.length Q, .slice V k.Dirty.length S]), (53, iv 1)] cc ?_)))))))))))
 obtain ⟨b0, g6, hm⟩ := gx_bind hm
 refine wC 23 #[.agg #[.slice T k.Memory.length P, .slice U k.Copy.length Q, .slice V k.Dirty.length S], iv 1] ((c_l_markCopying cc k T P b1 d1 U Q b2 d2 V S b3 d3 1 (ch.hasPick [6, 7, 8]) (ch.nodupPick [6, 7, 8] (by kernel_rfl)) g6).mono ?_)
 rintro e_ b7 ⟨hn, ho, hp, rfl, ik, dv, il, dw, im, dx, ff⟩
 have gc := ch.callF' [6, 7, 8] [0, 1, 2, 3, 4, 5, 9, 10, 11, 12, 13, 14, 15, 16] (by kernel_rfl) ff
 refine ⟨_, rfl, ?_⟩
 refine wX 52 (.agg #[.slice T k.Memory.length P, .slice U k.Copy.length Q, .slice V k.Dirty.length S]) (.agg #[.slice T b0.2.1.length P, .slice U b0.2.2.1.length Q, .slice V b0.2.2.2.length S]) (by first | rw [dv, dw, dx] | rw [dv] | rw [dw] | rw [dx]) ?_
 have bp : Mem [] w b7 [[(A, .cells ⟨[.slice F c.Memory.length C, .slice G c.Copy.length D, .slice H c.Dirty.length E]⟩ 25 (0, 0))], [(B, .cells ⟨[iv g.Word, iv g.Value]⟩ 44 (0, 0))], ac, ad, ae, [(n, .cells ⟨[.slice L b.1.Memory.length I, .slice N b.1.Copy.length J, .slice O b.1.Dirty.length K]⟩ 28 (0, 0))], [(ai, .cells ⟨[.slice T b0.2.1.length P, .slice U b0.2.2.1.length Q, .slice V b0.2.2.2.length S]⟩ 28 (0, 0))], an, ao, ap, [(o, .cells ⟨[.slice x d.1.Memory.length q, .slice y d.1.Copy.length t, .slice z d.1.Dirty.length u]⟩ 28 (0, 0))], bk, bl, bm, hn, ho, hp] := by rw [dv, dw, dx]; exact gc
 refine wR 1 [(2, pB A 0), (3, pB B 0), (6, pB n 0), (7, .bool b.2), (9, pB o 0), (10, .bool d.2), (11, iv b0.1)] b7 (W_nil (N_then (G_seq (G_seq ?_))))
 obtain ⟨hg, gu, gr⟩ := gx_bind hm
 refine G_meet (fun a w' => Mem [] w w' [[(A, .cells ⟨[.slice F c.Memory.length C, .slice G c.Copy.length D, .slice H c.Dirty.length E]⟩ 25 (0, 0))], [(B, .cells ⟨[iv g.Word, iv g.Value]⟩ 44 (0, 0))], ac, ad, ae, [(n, .cells ⟨[.slice L b.1.Memory.length I, .slice N b.1.Copy.length J, .slice O b.1.Dirty.length K]⟩ 28 (0, 0))], an, ao, ap, [(o, .cells ⟨[.slice x d.1.Memory.length q, .slice y d.1.Copy.length t, .slice z d.1.Dirty.length u]⟩ 28 (0, 0))]] ∧ Sat Try.f7.ntmps [(2, pB A 0), (3, pB B 0), (6, pB n 0), (7, .bool b.2), (9, pB o 0), (67, .bool hg)] a) ?_ ?_
 ·have hm := gu
  refine G_region (wR 3 [(2, pB A 0), (3, pB B 0), (6, pB n 0), (7, .bool b.2), (9, pB o 0), (10, .bool d.2), (57, .bool (decide (b0.1 < 0)))] b7 ?_)
  rcases gx_bif hm with ⟨dl, hm⟩ | ⟨dl, hm⟩
  ·refine wK 57 true dl (wR 10 [(2, pB A 0), (3, pB B 0), (6, pB n 0), (7, .bool b.2), (9, pB o 0), (67, .bool true)] b7 (W_nil ?_))
   obtain rfl := Option.some.inj hm
   exact N_meet fun a ha => ⟨bp.pk [0, 1, 2, 3, 4, 5, 7, 8, 9, 10], ha.s⟩
  refine wK 57 false dl (wV (.agg #[.slice x d.1.Memory.length q, .slice y d.1.Copy.length t, .slice z d.1.Dirty.length u]) b7 (eL true 3 0 (bp.blk 10 rfl)) (wV (.agg #[.slice L b.1.Memory.length I, .slice N b.1.Copy.length J, .slice O b.1.Dirty.length K]) b7 (eL true 3 0 (bp.blk 5 rfl)) ?_))
  obtain ⟨hk, g7, hm⟩ := gx_bind hm
  refine wC 17 #[.agg #[.slice x d.1.Memory.length q, .slice y d.1.Copy.length t, .slice z d.1.Dirty.length u], .agg #[.slice L b.1.Memory.length I, .slice N b.1.Copy.length J, .slice O b.1.Dirty.length K]] ((c_l_eqCopying b7 d.1 x q (cq.rd bp 7 (by kernel_rfl)) y t (cr.rd bp 8 (by kernel_rfl)) z u (cs.rd bp 9 (by kernel_rfl)) b.1 L I (cn.rd bp 2 (by kernel_rfl)) N J (co.rd bp 3 (by kernel_rfl)) O K (cp.rd bp 4 (by kernel_rfl)) g7).mono ?_)
  rintro e_ ef ⟨rfl, fg⟩
  have et := bp.call0 fg
  refine ⟨_, rfl, ?_⟩
  refine wR 3 [(2, pB A 0), (3, pB B 0), (6, pB n 0), (7, .bool b.2), (9, pB o 0), (10, .bool d.2), (63, .bool (!hk))] ef ?_
  rcases gx_bif hm with ⟨dm, hm⟩ | ⟨dm, hm⟩
  ·refine wK 63 true dm (wR 4 [(2, pB A 0), (3, pB B 0), (6, pB n 0), (7, .bool b.2), (9, pB o 0), (67, .bool true)] ef (W_nil ?_))
   obtain rfl := Option.some.inj hm
   exact N_meet fun a ha => ⟨et.pk [0, 1, 2, 3, 4, 5, 7, 8, 9, 10], ha.s⟩
  refine wK 63 false dm (wR 4 [(2, pB A 0), (3, pB B 0), (6, pB n 0), (7, .bool b.2), (9, pB o 0), (67, .bool (!(d.2 == b.2)))] ef (W_nil ?_))
  obtain rfl := Option.some.inj hm
  exact N_meet fun a ha => ⟨et.pk [0, 1, 2, 3, 4, 5, 7, 8, 9, 10], ha.s⟩
 intro ii cw ⟨ci, go⟩
 refine N_use go ?_
 have hm := gr
 refine N_then ?_
 rcases gx_bif hm with ⟨dn, hm⟩ | ⟨dn, hm⟩
 ·refine gT dn (G_seq (G_region (wR 1 [(4, .bool false)] cw (W_nil (N_then (G_ret (N_then_ret ?_)))))))
  obtain rfl := Option.some.inj hm
  exact N_ret [.bool false] (rC RVs_nil) (⟨rfl, ci.pk []⟩)
 refine gF dn (G_skip (N_then (G_seq (G_region (wR 1 [(2, pB A 0), (3, pB B 0), (6, pB n 0), (7, .bool b.2), (9, pB o 0), (12, iv 1)] cw (W_nil (N_then (G_seq (G_region (wV (.agg #[.slice x d.1.Memory.length q, .slice y d.1.Copy.length t, .slice z d.1.Dirty.length u]) cw (eL true 3 0 (ci.blk 9 rfl)) (wR 1 [(2, pB A 0), (3, pB B 0), (6, pB n 0), (7, .bool b.2), (9, pB o 0), (12, iv 1), (68, .agg #[.slice x d.1.Memory.length q, .slice y d.1.Copy.length t, .slice z d.1.Dirty.length u]), (69, iv 1)] cw ?_)))))))))))
 obtain ⟨m, g8, hm⟩ := gx_bind hm
 refine wC 23 #[.agg #[.slice x d.1.Memory.length q, .slice y d.1.Copy.length t, .slice z d.1.Dirty.length u], iv 1] ((c_l_markCopying cw d.1 x q an cq y t ao cr z u ap cs 1 (ci.hasPick [6, 7, 8]) (ci.nodupPick [6, 7, 8] (by kernel_rfl)) g8).mono ?_)
 rintro e_ cd ⟨b4, b5, b6, rfl, ey, dy, ez, dz, e0, d0, fh⟩
 have gd := ci.callF' [6, 7, 8] [0, 1, 2, 3, 4, 5, 9] (by kernel_rfl) fh
 refine ⟨_, rfl, ?_⟩
 refine wX 68 (.agg #[.slice x d.1.Memory.length q, .slice y d.1.Copy.length t, .slice z d.1.Dirty.length u]) (.agg #[.slice x m.2.1.length q, .slice y m.2.2.1.length t, .slice z m.2.2.2.length u]) (by first | rw [dy, dz, d0] | rw [dy] | rw [dz] | rw [d0]) ?_
 have cj : Mem [] w cd [[(A, .cells ⟨[.slice F c.Memory.length C, .slice G c.Copy.length D, .slice H c.Dirty.length E]⟩ 25 (0, 0))], [(B, .cells ⟨[iv g.Word, iv g.Value]⟩ 44 (0, 0))], ac, ad, ae, [(n, .cells ⟨[.slice L b.1.Memory.length I, .slice N b.1.Copy.length J, .slice O b.1.Dirty.length K]⟩ 28 (0, 0))], [(o, .cells ⟨[.slice x m.2.1.length q, .slice y m.2.2.1.length t, .slice z m.2.2.2.length u]⟩ 28 (0, 0))], b4, b5, b6] := by rw [dy, dz, d0]; exact gd
 refine wR 1 [(2, pB A 0), (3, pB B 0), (6, pB n 0), (7, .bool b.2), (9, pB o 0), (12, iv m.1)] cd (W_nil (N_then (G_seq (G_region (wR 1 [(2, pB A 0), (3, pB B 0), (6, pB n 0), (7, .bool b.2), (9, pB o 0), (12, iv m.1), (13, iv 1)] cd (W_nil (N_then (G_seq (G_region (wV (.agg #[.slice x m.2.1.length q, .slice y m.2.2.1.length t, .slice z m.2.2.2.length u]) cd (eL true 3 0 (cj.blk 6 rfl)) (wR 1 [(2, pB A 0), (3, pB B 0), (6, pB n 0), (7, .bool b.2), (9, pB o 0), (12, iv m.1), (13, iv 1), (71, .agg #[.slice x m.2.1.length q, .slice y m.2.2.1.length t, .slice z m.2.2.2.length u]), (72, iv 1)] cd ?_)))))))))))
 obtain ⟨ct, g9, hm⟩ := gx_bind hm
 refine wC 24 #[.agg #[.slice x m.2.1.length q, .slice y m.2.2.1.length t, .slice z m.2.2.2.length u], iv 1] ((c_l_heldCopying cd (⟨m.2.1, m.2.2.1, m.2.2.2⟩ : Copying) x q (ey.rd cj 7 (by kernel_rfl)) y t (ez.rd cj 8 (by kernel_rfl)) z u (e0.rd cj 9 (by kernel_rfl)) 1 g9).mono ?_)
 rintro e_ cx ⟨rfl, fi⟩
 have de := cj.call0 fi
 refine ⟨_, rfl, ?_⟩
 refine wR 1 [(2, pB A 0), (3, pB B 0), (6, pB n 0), (7, .bool b.2), (9, pB o 0), (12, iv m.1), (13, iv ct)] cx (W_nil (N_then (G_seq (G_seq (G_region (wR 2 [(2, pB A 0), (3, pB B 0), (6, pB n 0), (7, .bool b.2), (9, pB o 0), (12, iv m.1), (13, iv ct), (75, .bool (decide (ct < 0)))] cx (W_nil (N_then ?_))))))))
 rcases gx_bif hm with ⟨dp, hm⟩ | ⟨dp, hm⟩
 ·refine gT dp (G_seq (G_region (wR 1 [(4, .bool false)] cx (W_nil (N_then (G_ret (N_then_ret ?_)))))))
  obtain rfl := Option.some.inj hm
  exact N_ret [.bool false] (rC RVs_nil) (⟨rfl, de.pk []⟩)
 refine gF dp (G_skip (N_then (G_seq (G_seq (G_region (wR 3 [(2, pB A 0), (3, pB B 0), (6, pB n 0), (7, .bool b.2), (9, pB o 0), (12, iv m.1), (78, .bool (ct != m.1))] cx (W_nil (N_then ?_))))))))
 rcases gx_bif hm with ⟨dq, hm⟩ | ⟨dq, hm⟩
 ·refine gT dq (G_seq (G_region (wR 1 [(4, .bool false)] cx (W_nil (N_then (G_ret (N_then_ret ?_)))))))
  obtain rfl := Option.some.inj hm
  exact N_ret [.bool false] (rC RVs_nil) (⟨rfl, de.pk []⟩)
 refine gF dq (G_skip (N_then (G_seq ?_)))
 obtain ⟨ah, hb, hm⟩ := gx_bind hm
 obtain ⟨bz, hc, hm⟩ := gx_bind hm
 obtain ⟨l, hd, hm⟩ := gx_bind hm
 refine G_sub [(2, pB A 0), (3, pB B 0), (6, pB n 0), (7, .bool b.2), (9, pB o 0), (12, iv m.1), (78, .bool (ct != m.1))] (by kernel_rfl) (G_dagL 10 [[], [0], [], [2], [1, 3], [], [5], [5], [], [6, 8]] [[], [], [], [], [], [], [], [], [], [8]] [[], [], [], [], [1], [], [], [], [], []] [[], [], [], [], [], [4], [4], [4], [], [4]] [[], [], [], [], [], [4], [4], [], [], [4, 8]] [[], [], [], [], [], [], [], [], [], []] (fun _ => []) (fun i => ([fun f v s => v = (.agg #[.slice F c.Memory.length C, .slice G c.Copy.length D, .slice H c.Dirty.length E] : Value) ∧ s = [], fun f v s => ∃ (a8 : Option Addr) (az : Nat) (bb : Seg), ∃ (a9 : Option Addr) (a0 : Nat) (bc : Seg), ∃ (ba : Option Addr) (a3 : Nat) (bd : Seg), v = (.agg #[.slice a8 ah.Memory.length az, .slice a9 ah.Copy.length a0, .slice ba ah.Dirty.length a3] : Value) ∧ s = (bb ++ (bc ++ bd)) ∧ ownS Gx.encI ah.Memory a8 az bb ∧ ownS Gx.encI ah.Copy a9 a0 bc ∧ ownS Gx.encB ah.Dirty ba a3 bd, fun f v s => v = (.agg #[iv g.Word, iv g.Value] : Value) ∧ s = [], fun f v s => v = (.agg #[iv bz.Word, iv bz.Value] : Value) ∧ s = [], fun f v s => ∃ (Z : Option Addr) (W : Nat) (bs : Seg), ∃ (aa : Option Addr) (X : Nat) (bt : Seg), ∃ (ab : Option Addr) (Y : Nat) (bu : Seg), v = (.tuple #[.agg #[.slice Z l.1.Memory.length W, .slice aa l.1.Copy.length X, .slice ab l.1.Dirty.length Y], .bool l.2] : Value) ∧ s = (bs ++ (bt ++ bu)) ∧ ownS Gx.encI l.1.Memory Z W bs ∧ ownS Gx.encI l.1.Copy aa X bt ∧ ownS Gx.encB l.1.Dirty ab Y bu, fun f v s => v = (.tuple #[.agg #[(atPath (f 4) [0, 0]), (atPath (f 4) [0, 1]), (atPath (f 4) [0, 2])], .bool l.2] : Value) ∧ s = [], fun f v s => v = (.agg #[(atPath (f 4) [0, 0]), (atPath (f 4) [0, 1]), (atPath (f 4) [0, 2])] : Value) ∧ s = [], fun f v s => v = (.bool l.2 : Value) ∧ s = [], fun f v s => ∃ (aj : Nat), v = (pB aj 0 : Value) ∧ s = [(aj, .cells ⟨[.slice none 0 0, .slice none 0 0, .slice none 0 0]⟩ 28 (0, 0))], fun f v s => v = undef ∧ s = [((blkOf (f 8)), .cells ⟨[(atPath (f 4) [0, 0]), (atPath (f 4) [0, 1]), (atPath (f 4) [0, 2])]⟩ 28 (0, 0))]] : List ((Nat → Value) → Value → Seg → Prop)).getD i (fun _ _ _ => False)) (fun j f v => ∃ s, (fun i => ([fun f v s => v = (.agg #[.slice F c.Memory.length C, .slice G c.Copy.length D, .slice H c.Dirty.length E] : Value) ∧ s = [], fun f v s => ∃ (a8 : Option Addr) (az : Nat) (bb : Seg), ∃ (a9 : Option Addr) (a0 : Nat) (bc : Seg), ∃ (ba : Option Addr) (a3 : Nat) (bd : Seg), v = (.agg #[.slice a8 ah.Memory.length az, .slice a9 ah.Copy.length a0, .slice ba ah.Dirty.length a3] : Value) ∧ s = (bb ++ (bc ++ bd)) ∧ ownS Gx.encI ah.Memory a8 az bb ∧ ownS Gx.encI ah.Copy a9 a0 bc ∧ ownS Gx.encB ah.Dirty ba a3 bd, fun f v s => v = (.agg #[iv g.Word, iv g.Value] : Value) ∧ s = [], fun f v s => v = (.agg #[iv bz.Word, iv bz.Value] : Value) ∧ s = [], fun f v s => ∃ (Z : Option Addr) (W : Nat) (bs : Seg), ∃ (aa : Option Addr) (X : Nat) (bt : Seg), ∃ (ab : Option Addr) (Y : Nat) (bu : Seg), v = (.tuple #[.agg #[.slice Z l.1.Memory.length W, .slice aa l.1.Copy.length X, .slice ab l.1.Dirty.length Y], .bool l.2] : Value) ∧ s = (bs ++ (bt ++ bu)) ∧ ownS Gx.encI l.1.Memory Z W bs ∧ ownS Gx.encI l.1.Copy aa X bt ∧ ownS Gx.encB l.1.Dirty ab Y bu, fun f v s => v = (.tuple #[.agg #[(atPath (f 4) [0, 0]), (atPath (f 4) [0, 1]), (atPath (f 4) [0, 2])], .bool l.2] : Value) ∧ s = [], fun f v s => v = (.agg #[(atPath (f 4) [0, 0]), (atPath (f 4) [0, 1]), (atPath (f 4) [0, 2])] : Value) ∧ s = [], fun f v s => v = (.bool l.2 : Value) ∧ s = [], fun f v s => ∃ (aj : Nat), v = (pB aj 0 : Value) ∧ s = [(aj, .cells ⟨[.slice none 0 0, .slice none 0 0, .slice none 0 0]⟩ 28 (0, 0))], fun f v s => v = undef ∧ s = [((blkOf (f 8)), .cells ⟨[(atPath (f 4) [0, 0]), (atPath (f 4) [0, 1]), (atPath (f 4) [0, 2])]⟩ 28 (0, 0))]] : List ((Nat → Value) → Value → Seg → Prop)).getD i (fun _ _ _ => False)) j f v s) [8] [1, 4, 7, 9] [1, 4, 9] (fun _ _ _ s h => ⟨s, h⟩) (by kernel_rfl) (by kernel_rfl) (de.preNil 10) (by kernel_rfl) (by kernel_rfl) (by kernel_rfl) (by kernel_rfl) (allOb_cons ?_ (allOb_cons ?_ (allOb_cons ?_ (allOb_cons ?_ (allOb_cons ?_ (allOb_cons ?_ (allOb_cons ?_ (allOb_cons ?_ (allOb_cons ?_ (allOb_cons ?_ allOb_nil)))))))))) ?_)
 ·intro ar br
  intro R h8 eu
  exact wV (.agg #[.slice F c.Memory.length C, .slice G c.Copy.length D, .slice H c.Dirty.length E]) h8 (eL true 3 0 (eu.blk 0 rfl)) (W_nil (oE (.agg #[.slice F c.Memory.length C, .slice G c.Copy.length D, .slice H c.Dirty.length E]) [] ⟨by kernel_rfl, rfl⟩ eu))
 ·intro ar br
  intro v0_ hb0_
  obtain ⟨rfl, _⟩ := hb0_
  intro R h9 c4
  refine wC 15 #[.agg #[.slice F c.Memory.length C, .slice G c.Copy.length D, .slice H c.Dirty.length E]] ((c_l_toCopying h9 c F C (ck.mem0 c4) G D (cl.mem0 c4) H E (cm.mem0 c4) hb).mono ?_)
  rintro e_ i6 ⟨a8, az, bb, a9, a0, bc, ba, a3, bd, rfl, da, db, dc, fj⟩
  refine ⟨_, rfl, ?_⟩
  exact W_nil (oE (.agg #[.slice a8 ah.Memory.length az, .slice a9 ah.Copy.length a0, .slice ba ah.Dirty.length a3]) (bb ++ (bc ++ bd)) ⟨a8, az, bb, a9, a0, bc, ba, a3, bd, rfl, rfl, da, db, dc⟩ (Mem.callMid c4 (fj.permF (by simp))))
 ·intro ar br
  intro R ia ev
  exact wV (.agg #[iv g.Word, iv g.Value]) ia (eL true 2 0 (ev.blk 1 rfl)) (W_nil (oE (.agg #[iv g.Word, iv g.Value]) [] ⟨by kernel_rfl, rfl⟩ ev))
 ·intro ar br
  intro v2_ hb2_
  obtain ⟨rfl, _⟩ := hb2_
  intro R ib ge
  refine wC 31 #[.agg #[iv g.Word, iv g.Value]] ((c_l_toStore ib g hc).mono ?_)
  rintro e_ i7 ⟨rfl, fk⟩
  refine ⟨_, rfl, ?_⟩
  exact W_nil (oE (.agg #[iv bz.Word, iv bz.Value]) [] ⟨rfl, rfl⟩ (ge.call0 fk))
 ·intro ar br
  intro v1_ hb1_
  obtain ⟨a8, az, bb, a9, a0, bc, ba, a3, bd, rfl, hs1_, da, db, dc⟩ := hb1_
  intro v3_ hb3_
  obtain ⟨rfl, _⟩ := hb3_
  intro R eg ew
  have b9 : Mem [] w eg ([[(A, .cells ⟨[.slice F c.Memory.length C, .slice G c.Copy.length D, .slice H c.Dirty.length E]⟩ 25 (0, 0))], [(B, .cells ⟨[iv g.Word, iv g.Value]⟩ 44 (0, 0))], ac, ad, ae, [(n, .cells ⟨[.slice L b.1.Memory.length I, .slice N b.1.Copy.length J, .slice O b.1.Dirty.length K]⟩ 28 (0, 0))], [(o, .cells ⟨[.slice x m.2.1.length q, .slice y m.2.2.1.length t, .slice z m.2.2.2.length u]⟩ 28 (0, 0))], b4, b5, b6] ++ ([[]] ++ ([(ar 1)] ++ ([] ++ R)))) := ew
  rw [hs1_] at b9
  replace b9 : Mem [] w eg ([[(A, .cells ⟨[.slice F c.Memory.length C, .slice G c.Copy.length D, .slice H c.Dirty.length E]⟩ 25 (0, 0))], [(B, .cells ⟨[iv g.Word, iv g.Value]⟩ 44 (0, 0))], ac, ad, ae, [(n, .cells ⟨[.slice L b.1.Memory.length I, .slice N b.1.Copy.length J, .slice O b.1.Dirty.length K]⟩ 28 (0, 0))], [(o, .cells ⟨[.slice x m.2.1.length q, .slice y m.2.2.1.length t, .slice z m.2.2.2.length u]⟩ 28 (0, 0))], b4, b5, b6] ++ ([[]] ++ ([bb, bc, bd] ++ ([] ++ R)))) := b9.permF (by simp)
  refine wC 32 #[.agg #[.slice a8 ah.Memory.length az, .slice a9 ah.Copy.length a0, .slice ba ah.Dirty.length a3], .agg #[iv bz.Word, iv bz.Value]] ((c_i_StoreWord eg ah a8 az (da.rd b9 11 (by kernel_rfl)) a9 a0 (db.rd b9 12 (by kernel_rfl)) ba a3 (dc.rd b9 13 (by kernel_rfl)) bz hd).mono ?_)
  rintro e_ i8 ⟨Z, W, bs, aa, X, bt, ab, Y, bu, rfl, d7, d8, d9, fl⟩
  refine ⟨_, rfl, ?_⟩
  exact W_nil (oE (.tuple #[.agg #[.slice Z l.1.Memory.length W, .slice aa l.1.Copy.length X, .slice ab l.1.Dirty.length Y], .bool l.2]) (bs ++ (bt ++ bu)) ⟨Z, W, bs, aa, X, bt, ab, Y, bu, rfl, rfl, d7, d8, d9⟩ (Mem.callMid ew (fl.permF (by simp))))
 ·intro ar br
  intro v4_ hb4_
  obtain ⟨_, Z, W, _, aa, X, _, ab, Y, _, rfl, _⟩ := hb4_
  intro R ic gf
  exact wR 1 [(79, .tuple #[.agg #[.slice Z l.1.Memory.length W, .slice aa l.1.Copy.length X, .slice ab l.1.Dirty.length Y], .bool l.2])] ic (W_nil (oE (.tuple #[.agg #[.slice Z l.1.Memory.length W, .slice aa l.1.Copy.length X, .slice ab l.1.Dirty.length Y], .bool l.2]) [] ⟨by kernel_rfl, rfl⟩ gf))
 ·intro ar br
  intro v4_ hb4_
  obtain ⟨_, Z, W, _, aa, X, _, ab, Y, _, rfl, _⟩ := hb4_
  intro v5_ hb5_
  obtain ⟨hv5_, _⟩ := hb5_
  obtain rfl : v5_ = (.tuple #[.agg #[.slice Z l.1.Memory.length W, .slice aa l.1.Copy.length X, .slice ab l.1.Dirty.length Y], .bool l.2] : Value) := hv5_.trans (by kernel_rfl)
  intro R ie gg
  exact wR 1 [(85, .agg #[.slice Z l.1.Memory.length W, .slice aa l.1.Copy.length X, .slice ab l.1.Dirty.length Y])] ie (W_nil (oE (.agg #[.slice Z l.1.Memory.length W, .slice aa l.1.Copy.length X, .slice ab l.1.Dirty.length Y]) [] ⟨by kernel_rfl, rfl⟩ gg))
 ·intro ar br
  intro v4_ hb4_
  obtain ⟨_, Z, W, _, aa, X, _, ab, Y, _, rfl, _⟩ := hb4_
  intro v5_ hb5_
  obtain ⟨hv5_, _⟩ := hb5_
  obtain rfl : v5_ = (.tuple #[.agg #[.slice Z l.1.Memory.length W, .slice aa l.1.Copy.length X, .slice ab l.1.Dirty.length Y], .bool l.2] : Value) := hv5_.trans (by kernel_rfl)
  intro R ig gh
  exact wR 1 [(86, .bool l.2)] ig (W_nil (oE (.bool l.2) [] ⟨by kernel_rfl, rfl⟩ gh))
 ·intro ar br
  intro R i9 gi
  refine wN (.cells ⟨[.slice none 0 0, .slice none 0 0, .slice none 0 0]⟩ 28 (0, 0)) gi ?_
  intro aj ja gj
  exact W_nil (oE (pB aj 0) [(aj, .cells ⟨[.slice none 0 0, .slice none 0 0, .slice none 0 0]⟩ 28 (0, 0))] ⟨aj, rfl, rfl⟩ (Mem.mid gj))
 ·intro ar br
  intro v4_ hb4_
  obtain ⟨_, Z, W, _, aa, X, _, ab, Y, _, rfl, _⟩ := hb4_
  intro v6_ hb6_
  obtain ⟨hv6_, _⟩ := hb6_
  obtain rfl : v6_ = (.agg #[.slice Z l.1.Memory.length W, .slice aa l.1.Copy.length X, .slice ab l.1.Dirty.length Y] : Value) := hv6_.trans (by kernel_rfl)
  intro v8_ hb8_
  obtain ⟨aj, rfl, hs8_⟩ := hb8_
  intro R e4 gk
  have c5 : Mem [] w e4 ([[(A, .cells ⟨[.slice F c.Memory.length C, .slice G c.Copy.length D, .slice H c.Dirty.length E]⟩ 25 (0, 0))], [(B, .cells ⟨[iv g.Word, iv g.Value]⟩ 44 (0, 0))], ac, ad, ae, [(n, .cells ⟨[.slice L b.1.Memory.length I, .slice N b.1.Copy.length J, .slice O b.1.Dirty.length K]⟩ 28 (0, 0))], [(o, .cells ⟨[.slice x m.2.1.length q, .slice y m.2.2.1.length t, .slice z m.2.2.2.length u]⟩ 28 (0, 0))], b4, b5, b6] ++ ([[]] ++ ([(ar 8)] ++ ([] ++ R)))) := gk
  rw [hs8_] at c5
  replace c5 : Mem [] w e4 ([[(A, .cells ⟨[.slice F c.Memory.length C, .slice G c.Copy.length D, .slice H c.Dirty.length E]⟩ 25 (0, 0))], [(B, .cells ⟨[iv g.Word, iv g.Value]⟩ 44 (0, 0))], ac, ad, ae, [(n, .cells ⟨[.slice L b.1.Memory.length I, .slice N b.1.Copy.length J, .slice O b.1.Dirty.length K]⟩ 28 (0, 0))], [(o, .cells ⟨[.slice x m.2.1.length q, .slice y m.2.2.1.length t, .slice z m.2.2.2.length u]⟩ 28 (0, 0))], b4, b5, b6] ++ ([[]] ++ ([[(aj, .cells ⟨[.slice none 0 0, .slice none 0 0, .slice none 0 0]⟩ 28 (0, 0))]] ++ ([] ++ R)))) := c5.permF (by simp)
  refine wS true 3 0 (.agg #[.slice Z l.1.Memory.length W, .slice aa l.1.Copy.length X, .slice ab l.1.Dirty.length Y]) 11 [.slice Z l.1.Memory.length W, .slice aa l.1.Copy.length X, .slice ab l.1.Dirty.length Y] c5 rfl ?_
  intro jb gl
  exact W_nil (ob_none [(aj, .cells ⟨[.slice Z l.1.Memory.length W, .slice aa l.1.Copy.length X, .slice ab l.1.Dirty.length Y]⟩ 28 (0, 0))] rfl ⟨rfl, by kernel_rfl⟩ (Mem.takeOver gl))
 intro ar br
 intro v8_ hb8_
 obtain ⟨_, aj, rfl, hs8_⟩ := hb8_
 intro v1_ hb1_
 obtain ⟨a8, az, bb, a9, a0, bc, ba, a3, bd, rfl, hs1_, da, db, dc⟩ := hb1_
 intro v4_ hb4_
 obtain ⟨Z, W, bs, aa, X, bt, ab, Y, bu, rfl, hs4_, d7, d8, d9⟩ := hb4_
 intro v7_ hb7_
 obtain ⟨rfl, _⟩ := hb7_
 intro v9_ hb9_
 obtain ⟨rfl, hs9_⟩ := hb9_
 replace hs9_ := hs9_.trans (show _ = [(aj, .cells ⟨[.slice Z l.1.Memory.length W, .slice aa l.1.Copy.length X, .slice ab l.1.Dirty.length Y]⟩ 28 (0, 0))] by kernel_rfl)
 intro ce gm
 have au : Mem [] w ce [[(A, .cells ⟨[.slice F c.Memory.length C, .slice G c.Copy.length D, .slice H c.Dirty.length E]⟩ 25 (0, 0))], [(B, .cells ⟨[iv g.Word, iv g.Value]⟩ 44 (0, 0))], ac, ad, ae, [(n, .cells ⟨[.slice L b.1.Memory.length I, .slice N b.1.Copy.length J, .slice O b.1.Dirty.length K]⟩ 28 (0, 0))], [(o, .cells ⟨[.slice x m.2.1.length q, .slice y m.2.2.1.length t, .slice z m.2.2.2.length u]⟩ 28 (0, 0))], b4, b5, b6, (ar 1), (ar 4), (ar 9)] := gm
 rw [hs1_] at au
 rw [hs4_] at au
 rw [hs9_] at au
 replace au : Mem [] w ce [[(A, .cells ⟨[.slice F c.Memory.length C, .slice G c.Copy.length D, .slice H c.Dirty.length E]⟩ 25 (0, 0))], [(B, .cells ⟨[iv g.Word, iv g.Value]⟩ 44 (0, 0))], ac, ad, ae, [(n, .cells ⟨[.slice L b.1.Memory.length I, .slice N b.1.Copy.length J, .slice O b.1.Dirty.length K]⟩ 28 (0, 0))], [(o, .cells ⟨[.slice x m.2.1.length q, .slice y m.2.2.1.length t, .slice z m.2.2.2.length u]⟩ 28 (0, 0))], b4, b5, b6, bb, bc, bd, bs, bt, bu, [(aj, .cells ⟨[.slice Z l.1.Memory.length W, .slice aa l.1.Copy.length X, .slice ab l.1.Dirty.length Y]⟩ 28 (0, 0))]] := au.permF (by simp)
 refine wR 1 [(6, pB n 0), (7, .bool b.2), (9, pB o 0), (12, iv m.1), (14, pB aj 0), (15, .bool l.2)] ce (W_nil (N_then (G_seq (G_seq ?_))))
 obtain ⟨hh, gv, gs⟩ := gx_bind hm
 refine G_meet (fun a w' => Mem [] w w' [[(o, .cells ⟨[.slice x m.2.1.length q, .slice y m.2.2.1.length t, .slice z m.2.2.2.length u]⟩ 28 (0, 0))], b4, b5, b6] ∧ Sat Try.f7.ntmps [(9, pB o 0), (12, iv m.1), (95, .bool hh)] a) ?_ ?_
 ·have hm := gv
  refine G_region (wV (.agg #[.slice Z l.1.Memory.length W, .slice aa l.1.Copy.length X, .slice ab l.1.Dirty.length Y]) ce (eL true 3 0 (au.blk 16 rfl)) (wV (.agg #[.slice L b.1.Memory.length I, .slice N b.1.Copy.length J, .slice O b.1.Dirty.length K]) ce (eL true 3 0 (au.blk 5 rfl)) ?_))
  obtain ⟨hl, he, hm⟩ := gx_bind hm
  refine wC 17 #[.agg #[.slice Z l.1.Memory.length W, .slice aa l.1.Copy.length X, .slice ab l.1.Dirty.length Y], .agg #[.slice L b.1.Memory.length I, .slice N b.1.Copy.length J, .slice O b.1.Dirty.length K]] ((c_l_eqCopying ce l.1 Z W (d7.rd au 13 (by kernel_rfl)) aa X (d8.rd au 14 (by kernel_rfl)) ab Y (d9.rd au 15 (by kernel_rfl)) b.1 L I (cn.rd au 2 (by kernel_rfl)) N J (co.rd au 3 (by kernel_rfl)) O K (cp.rd au 4 (by kernel_rfl)) he).mono ?_)
  rintro e_ eh ⟨rfl, fm⟩
  have ex := au.call0 fm
  refine ⟨_, rfl, ?_⟩
  refine wR 2 [(7, .bool b.2), (9, pB o 0), (12, iv m.1), (15, .bool l.2), (91, .bool (!hl))] eh ?_
  rcases gx_bif hm with ⟨dr, hm⟩ | ⟨dr, hm⟩
  ·refine wK 91 true dr (wR 4 [(9, pB o 0), (12, iv m.1), (95, .bool true)] eh (W_nil ?_))
   obtain rfl := Option.some.inj hm
   exact N_meet fun a ha => ⟨ex.pk [6, 7, 8, 9], ha.s⟩
  refine wK 91 false dr (wR 4 [(9, pB o 0), (12, iv m.1), (95, .bool (!(l.2 == b.2)))] eh (W_nil ?_))
  obtain rfl := Option.some.inj hm
  exact N_meet fun a ha => ⟨ex.pk [6, 7, 8, 9], ha.s⟩
 intro ij cy ⟨ca, gp⟩
 refine N_use gp ?_
 have hm := gs
 refine N_then ?_
 rcases gx_bif hm with ⟨ds, hm⟩ | ⟨ds, hm⟩
 ·refine gT ds (G_seq (G_region (wR 1 [(4, .bool false)] cy (W_nil (N_then (G_ret (N_then_ret ?_)))))))
  obtain rfl := Option.some.inj hm
  exact N_ret [.bool false] (rC RVs_nil) (⟨rfl, ca.pk []⟩)
 refine gF ds (G_skip (N_then (G_seq (G_region (wR 1 [(9, pB o 0), (12, iv m.1), (13, iv 1)] cy (W_nil (N_then (G_seq (G_region (wV (.agg #[.slice x m.2.1.length q, .slice y m.2.2.1.length t, .slice z m.2.2.2.length u]) cy (eL true 3 0 (ca.blk 0 rfl)) (wR 1 [(12, iv m.1), (13, iv 1), (96, .agg #[.slice x m.2.1.length q, .slice y m.2.2.1.length t, .slice z m.2.2.2.length u]), (97, iv 1)] cy ?_)))))))))))
 obtain ⟨dd, hf, hm⟩ := gx_bind hm
 refine wC 24 #[.agg #[.slice x m.2.1.length q, .slice y m.2.2.1.length t, .slice z m.2.2.2.length u], iv 1] ((c_l_heldCopying cy (⟨m.2.1, m.2.2.1, m.2.2.2⟩ : Copying) x q (ey.rd ca 1 (by kernel_rfl)) y t (ez.rd ca 2 (by kernel_rfl)) z u (e0.rd ca 3 (by kernel_rfl)) 1 hf).mono ?_)
 rintro e_ cf ⟨rfl, fn⟩
 have df := ca.call0 fn
 refine ⟨_, rfl, ?_⟩
 refine wR 1 [(12, iv m.1), (13, iv dd)] cf (W_nil (N_then (G_seq (G_seq (G_region (wR 2 [(12, iv m.1), (13, iv dd), (100, .bool (decide (dd < 0)))] cf (W_nil (N_then ?_))))))))
 rcases gx_bif hm with ⟨dt, hm⟩ | ⟨dt, hm⟩
 ·refine gT dt (G_seq (G_region (wR 1 [(4, .bool false)] cf (W_nil (N_then (G_ret (N_then_ret ?_)))))))
  obtain rfl := Option.some.inj hm
  exact N_ret [.bool false] (rC RVs_nil) (⟨rfl, df.pk []⟩)
 refine gF dt (G_skip (N_then (G_seq (G_seq (G_region (wR 3 [(103, .bool (dd != m.1))] cf (W_nil (N_then ?_))))))))
 rcases gx_bif hm with ⟨du, hm⟩ | ⟨du, hm⟩
 ·refine gT du (G_seq (G_region (wR 1 [(4, .bool false)] cf (W_nil (N_then (G_ret (N_then_ret ?_)))))))
  obtain rfl := Option.some.inj hm
  exact N_ret [.bool false] (rC RVs_nil) (⟨rfl, df.pk []⟩)
 refine gF du (G_skip (N_then (G_seq (G_region (wR 1 [(4, .bool true)] cf (W_nil (N_then (G_ret ?_))))))))
 obtain rfl := Option.some.inj hm
 exact N_ret [.bool true] (rC RVs_nil) (⟨rfl, df.pk []⟩)
theorem c_s_CopyRound (w : World) (d : Copying) (y : Option Addr) (t : Nat) (S : rdS Gx.encI w d.Memory y t) (z : Option Addr) (u : Nat) (T : rdS Gx.encI w d.Copy z u) (A : Option Addr) (x : Nat) (U : rdS Gx.encB w d.Dirty A x) (h : Int) {r : Copying × Int × Bool} (hm : M.s_CopyRound d h = some r) :
  Calls Try.prog 33 #[.agg #[.slice y d.Memory.length t, .slice z d.Copy.length u, .slice A d.Dirty.length x], iv h] w fun e w' => ∃ (V : Option Addr) (P : Nat) (Y : Seg), ∃ (W : Option Addr) (Q : Nat) (Z : Seg), ∃ (X : Option Addr) (R : Nat) (aa : Seg), e = .returned (.tuple #[.agg #[.slice V r.1.Memory.length P, .slice W r.1.Copy.length Q, .slice X r.1.Dirty.length R], iv r.2.1, .bool r.2.2]) ∧ ownS Gx.encI r.1.Memory V P Y ∧ ownS Gx.encI r.1.Copy W Q Z ∧ ownS Gx.encB r.1.Dirty X R aa ∧ Mem [] w w' [Y, Z, aa] := by
 unfold M.s_CopyRound at hm
 refine cE Try.func33 ?_
 have M0 := Mem.refl [] w
 refine G_seq (G_region (wN (.cells ⟨[.slice y d.Memory.length t, .slice z d.Copy.length u, .slice A d.Dirty.length x]⟩ 28 (0, 0)) M0 ?_))
 intro B a7 ae
 refine wN (.cells ⟨[.slice none 0 0, .slice none 0 0, .slice none 0 0]⟩ 28 (0, 0)) ae ?_
 intro f I D
 refine wR 2 [(1, iv h), (2, pB B 0), (4, pB f 0)] I (W_nil (N_then (G_seq (G_seq ?_))))
 obtain ⟨au, al, ak⟩ := gx_bind hm
 refine G_meet (fun a w' => Mem [] w w' [[(B, .cells ⟨[.slice y d.Memory.length t, .slice z d.Copy.length u, .slice A d.Dirty.length x]⟩ 28 (0, 0))], [(f, .cells ⟨[.slice none 0 0, .slice none 0 0, .slice none 0 0]⟩ 28 (0, 0))]] ∧ Sat Try.f33.ntmps [(1, iv h), (2, pB B 0), (4, pB f 0), (16, .bool au)] a) ?_ ?_
 ·have hm := al
  refine G_region (wV (.agg #[.slice y d.Memory.length t, .slice z d.Copy.length u, .slice A d.Dirty.length x]) I (eL true 3 0 (D.blk 0 rfl)) ?_)
  obtain ⟨av, ap, hm⟩ := gx_bind hm
  refine wC 56 #[.agg #[.slice y d.Memory.length t, .slice z d.Copy.length u, .slice A d.Dirty.length x]] ((c_s_l19Good I d y t (S.mem0 D) z u (T.mem0 D) A x (U.mem0 D) ap).mono ?_)
  rintro e_ E ⟨rfl, ab⟩
  have K := D.call0 ab
  refine ⟨_, rfl, ?_⟩
  refine wR 2 [(1, iv h), (2, pB B 0), (4, pB f 0), (12, .bool (!av))] E ?_
  rcases gx_bif hm with ⟨G, hm⟩ | ⟨G, hm⟩
  ·refine wK 12 true G (wR 4 [(1, iv h), (2, pB B 0), (4, pB f 0), (16, .bool true)] E (W_nil ?_))
   obtain rfl := Option.some.inj hm
   exact N_meet fun a ha => ⟨K.pk [0, 1], ha.s⟩
  refine wK 12 false G (wR 1 [(1, iv h), (2, pB B 0), (4, pB f 0), (12, .bool false), (13, iv h)] E ?_)
  obtain ⟨aw, aq, hm⟩ := gx_bind hm
  refine wC 73 #[iv h, iv 0, iv 12] ((c_s_l1In E h 0 12 aq).mono ?_)
  rintro e_ a0 ⟨rfl, ac⟩
  have af := K.call0 ac
  refine ⟨_, rfl, ?_⟩
  refine wR 2 [(1, iv h), (2, pB B 0), (4, pB f 0), (16, .bool (!aw))] a0 (W_nil ?_)
  obtain rfl := Option.some.inj hm
  exact N_meet fun a ha => ⟨af.pk [0, 1], ha.s⟩
 intro a6 F ⟨C, aj⟩
 refine N_use aj ?_
 have hm := ak
 refine N_then ?_
 rcases gx_bif hm with ⟨H, hm⟩ | ⟨H, hm⟩
 ·refine gT H (G_seq (G_region (wR 1 [(4, pB f 0), (17, .agg #[.slice none 0 0, .slice none 0 0, .slice none 0 0])] F (wS true 3 0 (.agg #[.slice none 0 0, .slice none 0 0, .slice none 0 0]) 1 [.slice none 0 0, .slice none 0 0, .slice none 0 0] C rfl ?_))))
  intro a3 L
  refine wR 2 [(4, pB f 0), (5, iv 0), (6, .bool false)] a3 (W_nil (N_then (G_ret (N_then_ret ?_))))
  obtain rfl := Option.some.inj hm
  exact N_ret [.agg #[.slice none 0 0, .slice none 0 0, .slice none 0 0], iv 0, .bool false] (RVs_cons (RV_cell (g := true) (k := 3) (b := f) (off := 0) (cs := [.slice none 0 0, .slice none 0 0, .slice none 0 0]) (e := 28) (fr := (0, 0)) (v := .agg #[.slice none 0 0, .slice none 0 0, .slice none 0 0]) (L.blk 1 (b := f) (o := .cells ⟨[.slice none 0 0, .slice none 0 0, .slice none 0 0]⟩ 28 (0, 0)) (by kernel_rfl)) (by kernel_rfl) (by kernel_rfl) (by kernel_rfl)) (rC (rC RVs_nil))) (⟨none, 0, [], none, 0, [], none, 0, [], rfl, ownS_nil, ownS_nil, ownS_nil, L.pk [100000, 100001, 100002]⟩)
 refine gF H (G_skip (N_then (G_seq (G_region (wV (.agg #[.slice y d.Memory.length t, .slice z d.Copy.length u, .slice A d.Dirty.length x]) F (eL true 3 0 (C.blk 0 rfl)) (wR 1 [(4, pB f 0), (19, .agg #[.slice y d.Memory.length t, .slice z d.Copy.length u, .slice A d.Dirty.length x]), (20, iv h)] F ?_))))))
 obtain ⟨c, ar, hm⟩ := gx_bind hm
 refine wC 67 #[.agg #[.slice y d.Memory.length t, .slice z d.Copy.length u, .slice A d.Dirty.length x], iv h] ((c_s_l19Round F d y t (S.mem0 C) z u (T.mem0 C) A x (U.mem0 C) h ar).mono ?_)
 rintro e_ a4 ⟨m, i, ax, n, j, ay, q, l, az, rfl, am, an, ao, ad⟩
 have ag := C.call ad
 refine ⟨_, rfl, ?_⟩
 refine wR 3 [(4, pB f 0), (22, .agg #[.slice m c.1.Memory.length i, .slice n c.1.Copy.length j, .slice q c.1.Dirty.length l]), (23, iv c.2)] a4 (wN (.cells ⟨[.slice none 0 0, .slice none 0 0, .slice none 0 0]⟩ 28 (0, 0)) ag ?_)
 intro ai a8 ah
 refine wS true 3 0 (.agg #[.slice m c.1.Memory.length i, .slice n c.1.Copy.length j, .slice q c.1.Dirty.length l]) 5 [.slice m c.1.Memory.length i, .slice n c.1.Copy.length j, .slice q c.1.Dirty.length l] ah rfl ?_
 intro J N
 refine wR 1 [(4, pB f 0), (7, pB ai 0), (8, iv c.2)] J (W_nil (N_then (G_seq (G_region (wV (.agg #[.slice m c.1.Memory.length i, .slice n c.1.Copy.length j, .slice q c.1.Dirty.length l]) J (eL true 3 0 (N.blk 5 rfl)) (wR 1 [(4, pB f 0), (24, .agg #[.slice m c.1.Memory.length i, .slice n c.1.Copy.length j, .slice q c.1.Dirty.length l]), (25, iv c.2)] J (wS true 3 0 (.agg #[.slice m c.1.Memory.length i, .slice n c.1.Copy.length j, .slice q c.1.Dirty.length l]) 1 [.slice m c.1.Memory.length i, .slice n c.1.Copy.length j, .slice q c.1.Dirty.length l] N rfl ?_)))))))
 intro a5 O
 refine wR 2 [(4, pB f 0), (5, iv c.2), (6, .bool true)] a5 (W_nil (N_then (G_ret ?_)))
 obtain rfl := Option.some.inj hm
 exact N_ret [.agg #[.slice m c.1.Memory.length i, .slice n c.1.Copy.length j, .slice q c.1.Dirty.length l], iv c.2, .bool true] (RVs_cons (RV_cell (g := true) (k := 3) (b := f) (off := 0) (cs := [.slice m c.1.Memory.length i, .slice n c.1.Copy.length j, .slice q c.1.Dirty.length l]) (e := 28) (fr := (0, 0)) (v := .agg #[.slice m c.1.Memory.length i, .slice n c.1.Copy.length j, .slice q c.1.Dirty.length l]) (O.blk 1 (b := f) (o := .cells ⟨[.slice m c.1.Memory.length i, .slice n c.1.Copy.length j, .slice q c.1.Dirty.length l]⟩ 28 (0, 0)) (by kernel_rfl)) (by kernel_rfl) (by kernel_rfl) (by kernel_rfl)) (rC (rC RVs_nil))) (⟨m, i, ax, n, j, ay, q, l, az, rfl, am, an, ao, O.pk [2, 3, 4]⟩)
theorem c_i_Copying_round (w : World) (d : Copying) (n : Option Addr) (o : Nat) (u : Seg) (T : ownS Gx.encI d.Memory n o u) (l : Option Addr) (m : Nat) (z : Seg) (bq : ownS Gx.encI d.Copy l m z) (g : Option Addr) (k : Nat) (A : Seg) (br : ownS Gx.encB d.Dirty g k A) (c : Nat) (y : Int) (hA : ∀ q ∈ List.flatten [[(c, .cells ⟨[.slice n d.Memory.length o, .slice l d.Copy.length m, .slice g d.Dirty.length k]⟩ 28 (0, 0))], u, z, A], w.heap[q.1]? = some q.2) (hN : (idsOf [[(c, .cells ⟨[.slice n d.Memory.length o, .slice l d.Copy.length m, .slice g d.Dirty.length k]⟩ 28 (0, 0))], u, z, A]).Nodup) {r : Int × (List Int) × (List Int) × (List Bool)} (hm : M.i_Copying_round d y = some r) :
  Calls Try.prog 75 #[pB c 0, iv y] w fun e w' => ∃ (am : Option Addr) (ae : Nat) (ap : Seg), ∃ (an : Option Addr) (af : Nat) (aq : Seg), ∃ (ao : Option Addr) (ag : Nat) (ar : Seg), e = .returned (iv r.1) ∧ ownS Gx.encI r.2.1 am ae ap ∧ ownS Gx.encI r.2.2.1 an af aq ∧ ownS Gx.encB r.2.2.2 ao ag ar ∧ Mem (idsOf [[(c, .cells ⟨[.slice n d.Memory.length o, .slice l d.Copy.length m, .slice g d.Dirty.length k]⟩ 28 (0, 0))], u, z, A]) w w' [[(c, .cells ⟨[.slice am r.2.1.length ae, .slice an r.2.2.1.length af, .slice ao r.2.2.2.length ag]⟩ 28 (0, 0))], ap, aq, ar] := by
 unfold M.i_Copying_round at hm
 refine cE Try.func75 ?_
 have M0 := Mem.start' w [[(c, .cells ⟨[.slice n d.Memory.length o, .slice l d.Copy.length m, .slice g d.Dirty.length k]⟩ 28 (0, 0))], u, z, A] hA hN
 refine G_seq (G_region (wR 1 [(0, pB c 0), (1, iv y)] w (W_nil (N_then (G_seq (G_region (wR 1 [(0, pB c 0), (1, iv y), (5, iv 0)] w (W_nil (N_then (G_seq (G_seq (G_region (wR 3 [(0, pB c 0), (1, iv y), (5, iv 0), (10, pB c 2)] w (wV (.slice g d.Dirty.length k) w (eL false 1 2 (M0.blk 0 rfl)) (wR 2 [(0, pB c 0), (1, iv y), (5, iv 0), (11, .slice g d.Dirty.length k), (12, iv (d.Dirty.length : Int)), (13, iv 0)] w ?_)))))))))))))))
 refine W_nil (N_then ?_)
 obtain ⟨G, b3, bp⟩ := gx_bind hm
 refine G_meet (fun a w' => ∃ (K : Seg), ∃ (L : Seg), ownS Gx.encI G.2.1 l m K ∧ ownS Gx.encB G.2.2 g k L ∧ Mem (idsOf [[(c, .cells ⟨[.slice n d.Memory.length o, .slice l d.Copy.length m, .slice g d.Dirty.length k]⟩ 28 (0, 0))], u, z, A]) w w' [[(c, .cells ⟨[.slice n d.Memory.length o, .slice l G.2.1.length m, .slice g G.2.2.length k]⟩ 28 (0, 0))], u, K, L] ∧ Sat Try.f75.ntmps [(5, iv G.1)] a) ?_ ?_
 ·refine G_block (G_while (σ := Int × Int × List Int × List Bool) (ρ := Int × List Int × List Bool) (fun b a w' => ∃ (E : Seg), ∃ (C : Seg), ownS Gx.encI b.2.2.1 l m E ∧ ownS Gx.encB b.2.2.2 g k C ∧ Mem (idsOf [[(c, .cells ⟨[.slice n d.Memory.length o, .slice l d.Copy.length m, .slice g d.Dirty.length k]⟩ 28 (0, 0))], u, z, A]) w w' [[(c, .cells ⟨[.slice n d.Memory.length o, .slice l b.2.2.1.length m, .slice g b.2.2.2.length k]⟩ 28 (0, 0))], u, E, C] ∧ Sat Try.f75.ntmps [(0, pB c 0), (1, iv y), (5, iv b.1), (11, .slice g b.2.2.2.length k), (12, iv (d.Dirty.length : Int)), (13, iv b.2.1)] a) b3 (fun a ha => ⟨z, A, bq, br, M0.pk [0, 1, 2, 3], ha.s⟩) ?_)
  clear hm
  intro b cy hm b2 cs F ⟨E, C, J, H, I, bj⟩
  refine G_use bj (G_seq (G_region (wR 1 [(0, pB c 0), (1, iv y), (5, iv b.1), (11, .slice g b.2.2.2.length k), (12, iv (d.Dirty.length : Int)), (13, iv b.2.1), (14, .bool (decide (b.2.1 < (d.Dirty.length : Int))))] F (W_nil (N_then (G_seq ?_))))))
  rcases gx_bif hm with ⟨P, hm⟩ | ⟨P, hm⟩
  ·refine gT P (G_skip (N_then (G_seq (G_block (G_seq (G_region (wR 1 [(0, pB c 0), (1, iv y), (5, iv b.1), (11, .slice g b.2.2.2.length k), (12, iv (d.Dirty.length : Int)), (13, iv b.2.1), (15, iv b.2.1)] F ?_)))))))
   obtain ⟨V, ah, hm⟩ := gx_bind hm
   refine wV (elemP g (b.2.1.toNat * 1)) F (eI (H.rd I 3 (by kernel_rfl)) rfl ah) (wV (.bool V) F (eE false 1 0 (b.2.1.toNat * 1) (H.rd I 3 (by kernel_rfl)) ah) (wR 2 [(0, pB c 0), (1, iv y), (5, iv b.1), (6, iv b.2.1), (7, .bool V), (11, .slice g b.2.2.2.length k), (12, iv (d.Dirty.length : Int)), (13, iv b.2.1)] F (W_nil (N_then (G_seq ?_)))))
   obtain ⟨al, bu, bn⟩ := gx_bind hm
   refine G_meet (fun a w' => Mem (idsOf [[(c, .cells ⟨[.slice n d.Memory.length o, .slice l d.Copy.length m, .slice g d.Dirty.length k]⟩ 28 (0, 0))], u, z, A]) w w' [[(c, .cells ⟨[.slice n d.Memory.length o, .slice l b.2.2.1.length m, .slice g b.2.2.2.length k]⟩ 28 (0, 0))], u, E, C] ∧ Sat Try.f75.ntmps [(0, pB c 0), (1, iv y), (5, iv b.1), (6, iv b.2.1), (11, .slice g b.2.2.2.length k), (12, iv (d.Dirty.length : Int)), (13, iv b.2.1), (23, .bool al)] a) ?_ ?_
   ·have hm := bu
    refine G_region (wR 2 [(0, pB c 0), (1, iv y), (5, iv b.1), (6, iv b.2.1), (11, .slice g b.2.2.2.length k), (12, iv (d.Dirty.length : Int)), (13, iv b.2.1), (19, .bool V)] F ?_)
    rcases gx_bif hm with ⟨Q, hm⟩ | ⟨Q, hm⟩
    ·refine wK 19 true Q (wR 4 [(0, pB c 0), (1, iv y), (5, iv b.1), (6, iv b.2.1), (11, .slice g b.2.2.2.length k), (12, iv (d.Dirty.length : Int)), (13, iv b.2.1), (23, .bool (decide (b.1 < y)))] F (W_nil ?_))
     obtain rfl := Option.some.inj hm
     exact N_meet fun a ha => ⟨I.pk [0, 1, 2, 3], ha.s⟩
    refine wK 19 false Q (wR 4 [(0, pB c 0), (1, iv y), (5, iv b.1), (6, iv b.2.1), (11, .slice g b.2.2.2.length k), (12, iv (d.Dirty.length : Int)), (13, iv b.2.1), (23, .bool false)] F (W_nil ?_))
    obtain rfl := Option.some.inj hm
    exact N_meet fun a ha => ⟨I.pk [0, 1, 2, 3], ha.s⟩
   intro ct b5 ⟨W, bk⟩
   refine N_use bk ?_
   have hm := bn
   refine N_then ?_
   obtain ⟨D, bv, bo⟩ := gx_bind hm
   refine G_meet (fun a w' => ∃ (N : Seg), ∃ (O : Seg), ownS Gx.encI D.2.1 l m N ∧ ownS Gx.encB D.2.2 g k O ∧ Mem (idsOf [[(c, .cells ⟨[.slice n d.Memory.length o, .slice l d.Copy.length m, .slice g d.Dirty.length k]⟩ 28 (0, 0))], u, z, A]) w w' [[(c, .cells ⟨[.slice n d.Memory.length o, .slice l D.2.1.length m, .slice g D.2.2.length k]⟩ 28 (0, 0))], u, N, O] ∧ Sat Try.f75.ntmps [(0, pB c 0), (1, iv y), (5, iv D.1), (11, .slice g D.2.2.length k), (12, iv (d.Dirty.length : Int)), (13, iv b.2.1)] a) ?_ ?_
   ·have hm := bv
    rcases gx_bif hm with ⟨S, hm⟩ | ⟨S, hm⟩
    ·refine gT S (G_seq ?_)
     obtain ⟨B, ai, hm⟩ := gx_bind hm
     obtain ⟨cq, aj, hm⟩ := gx_bind hm
     have aw : Mem (idsOf [[(c, .cells ⟨[.slice n d.Memory.length o, .slice l d.Copy.length m, .slice g d.Dirty.length k]⟩ 28 (0, 0))], u, z, A]) w b5 ([[(c, .cells ⟨[.slice n d.Memory.length o, .slice l b.2.2.1.length m, .slice g b.2.2.2.length k]⟩ 28 (0, 0))], u, C] ++ (List.range 19).map (fun i => ([[], [], [], [], [], [], [], [], [], [], [], [], [], [], [], [], [], [], E] : List Seg).getD i [])) := W.pk [0, 1, 3, 300000, 300001, 300002, 300003, 300004, 300005, 300006, 300007, 300008, 300009, 300010, 300011, 300012, 300013, 300014, 300015, 300016, 300017, 2]
     refine G_sub [(0, pB c 0), (1, iv y), (5, iv b.1), (6, iv b.2.1), (11, .slice g b.2.2.2.length k), (12, iv (d.Dirty.length : Int)), (13, iv b.2.1), (23, .bool al)] (by kernel_rfl) (G_dagL 19 [[], [0], [1], [2], [], [], [5], [6], [7], [], [], [10], [11], [12], [], [13, 14], [15], [3, 4], [16, 17]] [[], [], [], [], [], [], [], [], [], [], [], [], [], [], [], [], [], [], []] [[], [], [], [], [], [], [], [], [], [], [], [], [], [], [], [], [], [], []] [[], [], [], [], [], [], [], [], [], [], [], [], [], [], [], [], [], [], []] [[], [], [], [], [], [], [], [], [], [], [], [], [], [], [], [], [], [], []] [[], [], [], [], [], [], [], [], [], [], [], [], [], [], [], [], [], [18], []] (fun i => ([[], [], [], [], [], [], [], [], [], [], [], [], [], [], [], [], [], [], E] : List Seg).getD i []) (fun i => ([fun f v s => v = (pB c 0 : Value) ∧ s = [], fun f v s => v = (pB c 0 : Value) ∧ s = [], fun f v s => v = (pB c 1 : Value) ∧ s = [], fun f v s => v = (.slice l b.2.2.1.length m : Value) ∧ s = [], fun f v s => v = (iv b.2.1 : Value) ∧ s = [], fun f v s => v = (pB c 0 : Value) ∧ s = [], fun f v s => v = (pB c 0 : Value) ∧ s = [], fun f v s => v = (pB c 2 : Value) ∧ s = [], fun f v s => v = (.slice g b.2.2.2.length k : Value) ∧ s = [], fun f v s => v = (iv b.2.1 : Value) ∧ s = [], fun f v s => v = (pB c 0 : Value) ∧ s = [], fun f v s => v = (pB c 0 : Value) ∧ s = [], fun f v s => v = (pB c 0 : Value) ∧ s = [], fun f v s => v = (.slice n d.Memory.length o : Value) ∧ s = [], fun f v s => v = (iv b.2.1 : Value) ∧ s = [], fun f v s => v = (elemP n (b.2.1.toNat * 1) : Value) ∧ s = [], fun f v s => v = (iv B : Value) ∧ s = [], fun f v s => v = (elemP l (b.2.1.toNat * 1) : Value) ∧ s = [], fun f v s => v = undef ∧ ownS Gx.encI (b.2.2.1.set b.2.1.toNat B) l m s] : List ((Nat → Value) → Value → Seg → Prop)).getD i (fun _ _ _ => False)) (fun j f v => ∃ s, (fun i => ([fun f v s => v = (pB c 0 : Value) ∧ s = [], fun f v s => v = (pB c 0 : Value) ∧ s = [], fun f v s => v = (pB c 1 : Value) ∧ s = [], fun f v s => v = (.slice l b.2.2.1.length m : Value) ∧ s = [], fun f v s => v = (iv b.2.1 : Value) ∧ s = [], fun f v s => v = (pB c 0 : Value) ∧ s = [], fun f v s => v = (pB c 0 : Value) ∧ s = [], fun f v s => v = (pB c 2 : Value) ∧ s = [], fun f v s => v = (.slice g b.2.2.2.length k : Value) ∧ s = [], fun f v s => v = (iv b.2.1 : Value) ∧ s = [], fun f v s => v = (pB c 0 : Value) ∧ s = [], fun f v s => v = (pB c 0 : Value) ∧ s = [], fun f v s => v = (pB c 0 : Value) ∧ s = [], fun f v s => v = (.slice n d.Memory.length o : Value) ∧ s = [], fun f v s => v = (iv b.2.1 : Value) ∧ s = [], fun f v s => v = (elemP n (b.2.1.toNat * 1) : Value) ∧ s = [], fun f v s => v = (iv B : Value) ∧ s = [], fun f v s => v = (elemP l (b.2.1.toNat * 1) : Value) ∧ s = [], fun f v s => v = undef ∧ ownS Gx.encI (b.2.2.1.set b.2.1.toNat B) l m s] : List ((Nat → Value) → Value → Seg → Prop)).getD i (fun _ _ _ => False)) j f v s) [] [8, 9, 18] [18] (fun _ _ _ s h => ⟨s, h⟩) (by kernel_rfl) (by kernel_rfl) aw (by kernel_rfl) (by kernel_rfl) (by kernel_rfl) (by kernel_rfl) (allOb_cons ?_ (allOb_cons ?_ (allOb_cons ?_ (allOb_cons ?_ (allOb_cons ?_ (allOb_cons ?_ (allOb_cons ?_ (allOb_cons ?_ (allOb_cons ?_ (allOb_cons ?_ (allOb_cons ?_ (allOb_cons ?_ (allOb_cons ?_ (allOb_cons ?_ (allOb_cons ?_ (allOb_cons ?_ (allOb_cons ?_ (allOb_cons ?_ (allOb_cons ?_ allOb_nil))))))))))))))))))) ?_)
     ·intro t x
      intro R b6 ax
      exact wR 1 [(24, pB c 0)] b6 (W_nil (oE (pB c 0) [] ⟨by kernel_rfl, rfl⟩ ax))
     ·intro t x
      intro v0_ hb0_
      obtain ⟨rfl, _⟩ := hb0_
      intro R b7 ay
      exact wR 1 [(25, pB c 0)] b7 (W_nil (oE (pB c 0) [] ⟨by kernel_rfl, rfl⟩ ay))
     ·intro t x
      intro v1_ hb1_
      obtain ⟨rfl, _⟩ := hb1_
      intro R b8 az
      exact wR 1 [(26, pB c 1)] b8 (W_nil (oE (pB c 1) [] ⟨by kernel_rfl, rfl⟩ az))
     ·intro t x
      intro v2_ hb2_
      obtain ⟨rfl, _⟩ := hb2_
      intro R b9 X
      exact wV (.slice l b.2.2.1.length m) b9 (eL false 1 1 (X.blk 0 rfl)) (W_nil (oE (.slice l b.2.2.1.length m) [] ⟨by kernel_rfl, rfl⟩ X))
     ·intro t x
      intro R ca a0
      exact wR 1 [(28, iv b.2.1)] ca (W_nil (oE (iv b.2.1) [] ⟨by kernel_rfl, rfl⟩ a0))
     ·intro t x
      intro R cb a3
      exact wR 1 [(29, pB c 0)] cb (W_nil (oE (pB c 0) [] ⟨by kernel_rfl, rfl⟩ a3))
     ·intro t x
      intro v5_ hb5_
      obtain ⟨rfl, _⟩ := hb5_
      intro R cc a4
      exact wR 1 [(30, pB c 0)] cc (W_nil (oE (pB c 0) [] ⟨by kernel_rfl, rfl⟩ a4))
     ·intro t x
      intro v6_ hb6_
      obtain ⟨rfl, _⟩ := hb6_
      intro R cd a5
      exact wR 1 [(31, pB c 2)] cd (W_nil (oE (pB c 2) [] ⟨by kernel_rfl, rfl⟩ a5))
     ·intro t x
      intro v7_ hb7_
      obtain ⟨rfl, _⟩ := hb7_
      intro R ce Y
      exact wV (.slice g b.2.2.2.length k) ce (eL false 1 2 (Y.blk 0 rfl)) (W_nil (oE (.slice g b.2.2.2.length k) [] ⟨by kernel_rfl, rfl⟩ Y))
     ·intro t x
      intro R cf a6
      exact wR 1 [(33, iv b.2.1)] cf (W_nil (oE (iv b.2.1) [] ⟨by kernel_rfl, rfl⟩ a6))
     ·intro t x
      intro R cg a7
      exact wR 1 [(34, pB c 0)] cg (W_nil (oE (pB c 0) [] ⟨by kernel_rfl, rfl⟩ a7))
     ·intro t x
      intro v10_ hb10_
      obtain ⟨rfl, _⟩ := hb10_
      intro R ch a8
      exact wR 1 [(35, pB c 0)] ch (W_nil (oE (pB c 0) [] ⟨by kernel_rfl, rfl⟩ a8))
     ·intro t x
      intro v11_ hb11_
      obtain ⟨rfl, _⟩ := hb11_
      intro R ci a9
      exact wR 1 [(36, pB c 0)] ci (W_nil (oE (pB c 0) [] ⟨by kernel_rfl, rfl⟩ a9))
     ·intro t x
      intro v12_ hb12_
      obtain ⟨rfl, _⟩ := hb12_
      intro R cj Z
      exact wV (.slice n d.Memory.length o) cj (eL false 1 0 (Z.blk 0 rfl)) (W_nil (oE (.slice n d.Memory.length o) [] ⟨by kernel_rfl, rfl⟩ Z))
     ·intro t x
      intro R ck ba
      exact wR 1 [(38, iv b.2.1)] ck (W_nil (oE (iv b.2.1) [] ⟨by kernel_rfl, rfl⟩ ba))
     ·intro t x
      intro v13_ hb13_
      obtain ⟨rfl, _⟩ := hb13_
      intro v14_ hb14_
      obtain ⟨rfl, _⟩ := hb14_
      intro R cl aa
      exact wV (elemP n (b.2.1.toNat * 1)) cl (eI (T.rd aa 1 (by kernel_rfl)) rfl ai) (W_nil (oE (elemP n (b.2.1.toNat * 1)) [] ⟨by kernel_rfl, rfl⟩ aa))
     ·intro t x
      intro v15_ hb15_
      obtain ⟨rfl, _⟩ := hb15_
      intro R cm ab
      exact wV (iv B) cm (eE false 1 0 (b.2.1.toNat * 1) (T.rd ab 1 (by kernel_rfl)) ai) (W_nil (oE (iv B) [] ⟨by kernel_rfl, rfl⟩ ab))
     ·intro t x
      intro v3_ hb3_
      obtain ⟨rfl, _⟩ := hb3_
      intro v4_ hb4_
      obtain ⟨rfl, _⟩ := hb4_
      intro R cn ac
      exact wV (elemP l (b.2.1.toNat * 1)) cn (eI (J.rd ac 4 (by kernel_rfl)) rfl aj) (W_nil (oE (elemP l (b.2.1.toNat * 1)) [] ⟨by kernel_rfl, rfl⟩ ac))
     ·intro t x
      intro v16_ hb16_
      obtain ⟨rfl, _⟩ := hb16_
      intro v17_ hb17_
      obtain ⟨rfl, _⟩ := hb17_
      intro R cw bb
      refine wE false 1 b.2.1.toNat 0 (b.2.1.toNat * 1) cq B (iv B) 3 bb J (gxIdx_spec aj).2 ?_
      intro cx b4 b0 bc
      exact W_nil (ob_none b4 rfl ⟨rfl, b0⟩ bc)
     intro t x
     intro v8_ hb8_
     obtain ⟨rfl, _⟩ := hb8_
     intro v9_ hb9_
     obtain ⟨rfl, _⟩ := hb9_
     intro v18_ hb18_
     obtain ⟨rfl, bz⟩ := hb18_
     intro U bd
     have be : Mem (idsOf [[(c, .cells ⟨[.slice n d.Memory.length o, .slice l d.Copy.length m, .slice g d.Dirty.length k]⟩ 28 (0, 0))], u, z, A]) w U [[(c, .cells ⟨[.slice n d.Memory.length o, .slice l b.2.2.1.length m, .slice g b.2.2.2.length k]⟩ 28 (0, 0))], u, C, (t 18)] := bd
     have ad : Mem (idsOf [[(c, .cells ⟨[.slice n d.Memory.length o, .slice l d.Copy.length m, .slice g d.Dirty.length k]⟩ 28 (0, 0))], u, z, A]) w U [[(c, .cells ⟨[.slice n d.Memory.length o, .slice l (b.2.2.1.set b.2.1.toNat B).length m, .slice g b.2.2.2.length k]⟩ 28 (0, 0))], u, C, (t 18)] := by rw [@List.length_set _ b.2.2.1 b.2.1.toNat B]; exact be
     obtain ⟨cr, ak, hm⟩ := gx_bind hm
     refine wV (elemP g (b.2.1.toNat * 1)) U (eI (H.rd ad 2 (by kernel_rfl)) rfl ak) (wE false 1 b.2.1.toNat 0 (b.2.1.toNat * 1) cr false (.bool false) 2 ad H (gxIdx_spec ak).2 ?_)
     intro av au b1 bf
     refine wX 11 (.slice g b.2.2.2.length k) (.slice g (b.2.2.2.set b.2.1.toNat false).length k) (by rw [@List.length_set _ b.2.2.2 b.2.1.toNat false]) (wX 32 (.slice g b.2.2.2.length k) (.slice g (b.2.2.2.set b.2.1.toNat false).length k) (by rw [@List.length_set _ b.2.2.2 b.2.1.toNat false]) ?_)
     have bg : Mem (idsOf [[(c, .cells ⟨[.slice n d.Memory.length o, .slice l d.Copy.length m, .slice g d.Dirty.length k]⟩ 28 (0, 0))], u, z, A]) w av [[(c, .cells ⟨[.slice n d.Memory.length o, .slice l (b.2.2.1.set b.2.1.toNat B).length m, .slice g (b.2.2.2.set b.2.1.toNat false).length k]⟩ 28 (0, 0))], u, au, (t 18)] := by rw [@List.length_set _ b.2.2.2 b.2.1.toNat false]; exact bf
     refine W_nil (N_then (G_region (wR 3 [(0, pB c 0), (1, iv y), (5, iv (w64 (b.1 + 1))), (11, .slice g (b.2.2.2.set b.2.1.toNat false).length k), (12, iv (d.Dirty.length : Int)), (13, iv b.2.1)] av (W_nil ?_))))
     obtain rfl := Option.some.inj hm
     exact N_meet fun a ha => ⟨(t 18), au, bz, b1, bg.pk [0, 1, 3, 2], ha.s⟩
    refine gF S (G_skip ?_)
    obtain rfl := Option.some.inj hm
    exact N_meet fun a ha => ⟨E, C, J, H, W.pk [0, 1, 2, 3], ha.s⟩
   intro cu co ⟨N, O, bw, bx, bh, bl⟩
   refine N_use bl ?_
   have hm := bo
   refine N_block (N_then (G_region (wR 2 [(0, pB c 0), (1, iv y), (5, iv D.1), (11, .slice g D.2.2.length k), (12, iv (d.Dirty.length : Int)), (13, iv (w64 (b.2.1 + 1)))] co (W_nil ?_))))
   obtain rfl := Option.some.inj hm
   exact N_loop fun a ha => ⟨_, rfl, N, O, bw, bx, bh.pk [0, 1, 2, 3], ha.s⟩
  refine gF P (G_exit (N_then_exit (N_then_exit (N_block_eq ?_))))
  obtain rfl := Option.some.inj hm
  obtain rfl := b2 _ rfl
  exact N_meet fun a ha => ⟨E, C, J, H, I.pk [0, 1, 2, 3], ha.s⟩
 intro cv cp ⟨K, L, bs, bt, bi, bm⟩
 refine N_use bm ?_
 have hm := bp
 refine N_then (G_seq (G_region (wR 2 [(4, iv G.1)] cp (W_nil (N_then (G_ret ?_))))))
 obtain rfl := Option.some.inj hm
 exact N_ret [iv G.1] (rC RVs_nil) (⟨n, o, u, l, m, K, g, k, L, rfl, T, bs, bt, bi.pk [0, 1, 2, 3]⟩)
theorem c_i_CopyRound (w : World) (d : Copying) (m : Option Addr) (i : Nat) (ab : rdS Gx.encI w d.Memory m i) (n : Option Addr) (j : Nat) (ac : rdS Gx.encI w d.Copy n j) (q : Option Addr) (l : Nat) (ad : rdS Gx.encB w d.Dirty q l) (h : Int) {r : Copying × Int × Bool} (hm : M.i_CopyRound d h = some r) :
  Calls Try.prog 34 #[.agg #[.slice m d.Memory.length i, .slice n d.Copy.length j, .slice q d.Dirty.length l], iv h] w fun e w' => ∃ (ae : Option Addr) (Y : Nat) (ah : Seg), ∃ (af : Option Addr) (Z : Nat) (ai : Seg), ∃ (ag : Option Addr) (aa : Nat) (aj : Seg), e = .returned (.tuple #[.agg #[.slice ae r.1.Memory.length Y, .slice af r.1.Copy.length Z, .slice ag r.1.Dirty.length aa], iv r.2.1, .bool r.2.2]) ∧ ownS Gx.encI r.1.Memory ae Y ah ∧ ownS Gx.encI r.1.Copy af Z ai ∧ ownS Gx.encB r.1.Dirty ag aa aj ∧ Mem [] w w' [ah, ai, aj] := by
 unfold M.i_CopyRound at hm
 refine cE Try.func34 ?_
 have M0 := Mem.refl [] w
 refine G_seq (G_region (wN (.cells ⟨[.slice m d.Memory.length i, .slice n d.Copy.length j, .slice q d.Dirty.length l]⟩ 28 (0, 0)) M0 ?_))
 intro B bn ap
 refine wN (.cells ⟨[.slice none 0 0, .slice none 0 0, .slice none 0 0]⟩ 28 (0, 0)) ap ?_
 intro f R E
 refine wR 2 [(1, iv h), (2, pB B 0), (4, pB f 0)] R (W_nil (N_then (G_seq (G_seq ?_))))
 obtain ⟨ba, ax, aw⟩ := gx_bind hm
 refine G_meet (fun a w' => Mem [] w w' [[(B, .cells ⟨[.slice m d.Memory.length i, .slice n d.Copy.length j, .slice q d.Dirty.length l]⟩ 28 (0, 0))], [(f, .cells ⟨[.slice none 0 0, .slice none 0 0, .slice none 0 0]⟩ 28 (0, 0))]] ∧ Sat Try.f34.ntmps [(1, iv h), (2, pB B 0), (4, pB f 0), (16, .bool ba)] a) ?_ ?_
 ·have hm := ax
  refine G_region (wV (.agg #[.slice m d.Memory.length i, .slice n d.Copy.length j, .slice q d.Dirty.length l]) R (eL true 3 0 (E.blk 0 rfl)) ?_)
  obtain ⟨bb, a6, hm⟩ := gx_bind hm
  refine wC 16 #[.agg #[.slice m d.Memory.length i, .slice n d.Copy.length j, .slice q d.Dirty.length l]] ((c_i_IsCopying R d m i (ab.mem0 E) n j (ac.mem0 E) q l (ad.mem0 E) a6).mono ?_)
  rintro e_ G ⟨rfl, al⟩
  have U := E.call0 al
  refine ⟨_, rfl, ?_⟩
  refine wR 2 [(1, iv h), (2, pB B 0), (4, pB f 0), (12, .bool (!bb))] G ?_
  rcases gx_bif hm with ⟨L, hm⟩ | ⟨L, hm⟩
  ·refine wK 12 true L (wR 4 [(1, iv h), (2, pB B 0), (4, pB f 0), (16, .bool true)] G (W_nil ?_))
   obtain rfl := Option.some.inj hm
   exact N_meet fun a ha => ⟨U.pk [0, 1], ha.s⟩
  refine wK 12 false L (wR 1 [(1, iv h), (2, pB B 0), (4, pB f 0), (12, .bool false), (13, iv h)] G ?_)
  obtain ⟨bc, a7, hm⟩ := gx_bind hm
  refine wC 74 #[iv h, iv 0, iv 12] ((c_i_inside G h 0 12 a7).mono ?_)
  rintro e_ bj ⟨rfl, am⟩
  have aq := U.call0 am
  refine ⟨_, rfl, ?_⟩
  refine wR 2 [(1, iv h), (2, pB B 0), (4, pB f 0), (16, .bool (!bc))] bj (W_nil ?_)
  obtain rfl := Option.some.inj hm
  exact N_meet fun a ha => ⟨aq.pk [0, 1], ha.s⟩
 intro bm S ⟨D, av⟩
 refine N_use av ?_
 have hm := aw
 refine N_then ?_
 rcases gx_bif hm with ⟨N, hm⟩ | ⟨N, hm⟩
 ·refine gT N (G_seq (G_region (wR 1 [(4, pB f 0), (17, .agg #[.slice none 0 0, .slice none 0 0, .slice none 0 0])] S (wS true 3 0 (.agg #[.slice none 0 0, .slice none 0 0, .slice none 0 0]) 1 [.slice none 0 0, .slice none 0 0, .slice none 0 0] D rfl ?_))))
  intro bk V
  refine wR 2 [(4, pB f 0), (5, iv 0), (6, .bool false)] bk (W_nil (N_then (G_ret (N_then_ret ?_))))
  obtain rfl := Option.some.inj hm
  exact N_ret [.agg #[.slice none 0 0, .slice none 0 0, .slice none 0 0], iv 0, .bool false] (RVs_cons (RV_cell (g := true) (k := 3) (b := f) (off := 0) (cs := [.slice none 0 0, .slice none 0 0, .slice none 0 0]) (e := 28) (fr := (0, 0)) (v := .agg #[.slice none 0 0, .slice none 0 0, .slice none 0 0]) (V.blk 1 (b := f) (o := .cells ⟨[.slice none 0 0, .slice none 0 0, .slice none 0 0]⟩ 28 (0, 0)) (by kernel_rfl)) (by kernel_rfl) (by kernel_rfl) (by kernel_rfl)) (rC (rC RVs_nil))) (⟨none, 0, [], none, 0, [], none, 0, [], rfl, ownS_nil, ownS_nil, ownS_nil, V.pk [100000, 100001, 100002]⟩)
 refine gF N (G_skip (N_then (G_seq (G_region (wV (.agg #[.slice m d.Memory.length i, .slice n d.Copy.length j, .slice q d.Dirty.length l]) S (eL true 3 0 (D.blk 0 rfl)) ?_)))))
 obtain ⟨C, a8, hm⟩ := gx_bind hm
 refine wC 71 #[.agg #[.slice m d.Memory.length i, .slice n d.Copy.length j, .slice q d.Dirty.length l]] ((c_i_newCopying S d m i (ab.mem0 D) n j (ac.mem0 D) q l (ad.mem0 D) a8).mono ?_)
 rintro e_ bo ⟨O, I, bd, P, J, be, Q, K, bf, rfl, ay, az, a0, an⟩
 have ar := D.call an
 refine ⟨_, rfl, ?_⟩
 refine wN (.cells ⟨[.slice none 0 0, .slice none 0 0, .slice none 0 0]⟩ 28 (0, 0)) ar ?_
 intro F bp au
 refine wS true 3 0 (.agg #[.slice O C.Memory.length I, .slice P C.Copy.length J, .slice Q C.Dirty.length K]) 5 [.slice O C.Memory.length I, .slice P C.Copy.length J, .slice Q C.Dirty.length K] au rfl ?_
 intro ak H
 refine W_nil (N_then (G_seq (G_region (wR 1 [(4, pB f 0), (7, pB F 0), (20, iv h)] ak ?_))))
 obtain ⟨c, a9, hm⟩ := gx_bind hm
 refine wC 75 #[pB F 0, iv h] ((c_i_Copying_round ak C O I bd ay P J be az Q K bf a0 F h (H.hasPick [5, 2, 3, 4]) (H.nodupPick [5, 2, 3, 4] (by kernel_rfl)) a9).mono ?_)
 rintro e_ T ⟨y, t, bg, z, u, bh, A, x, bi, rfl, a3, a4, a5, ao⟩
 have W := H.callF' [5, 2, 3, 4] [0, 1] (by kernel_rfl) ao
 refine ⟨_, rfl, ?_⟩
 refine wR 1 [(4, pB f 0), (7, pB F 0), (8, iv c.1)] T (W_nil (N_then (G_seq (G_region (wV (.agg #[.slice y c.2.1.length t, .slice z c.2.2.1.length u, .slice A c.2.2.2.length x]) T (eL true 3 0 (W.blk 2 rfl)) (wR 1 [(4, pB f 0), (22, .agg #[.slice y c.2.1.length t, .slice z c.2.2.1.length u, .slice A c.2.2.2.length x]), (23, iv c.1)] T (wS true 3 0 (.agg #[.slice y c.2.1.length t, .slice z c.2.2.1.length u, .slice A c.2.2.2.length x]) 1 [.slice y c.2.1.length t, .slice z c.2.2.1.length u, .slice A c.2.2.2.length x] W rfl ?_)))))))
 intro bl X
 refine wR 2 [(4, pB f 0), (5, iv c.1), (6, .bool true)] bl (W_nil (N_then (G_ret ?_)))
 obtain rfl := Option.some.inj hm
 exact N_ret [.agg #[.slice y c.2.1.length t, .slice z c.2.2.1.length u, .slice A c.2.2.2.length x], iv c.1, .bool true] (RVs_cons (RV_cell (g := true) (k := 3) (b := f) (off := 0) (cs := [.slice y c.2.1.length t, .slice z c.2.2.1.length u, .slice A c.2.2.2.length x]) (e := 28) (fr := (0, 0)) (v := .agg #[.slice y c.2.1.length t, .slice z c.2.2.1.length u, .slice A c.2.2.2.length x]) (X.blk 1 (b := f) (o := .cells ⟨[.slice y c.2.1.length t, .slice z c.2.2.1.length u, .slice A c.2.2.2.length x]⟩ 28 (0, 0)) (by kernel_rfl)) (by kernel_rfl) (by kernel_rfl) (by kernel_rfl)) (rC (rC RVs_nil))) (⟨y, t, bg, z, u, bh, A, x, bi, rfl, a3, a4, a5, X.pk [3, 4, 5]⟩)
end Go.Proofs.Ytjbblcdajdpfkaa
