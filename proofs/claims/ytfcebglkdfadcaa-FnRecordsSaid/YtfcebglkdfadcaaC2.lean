/- The walks, printed by program: whenever the model gives r, the call returns r. Part 2. -/
import Derived.Test.YtfcebglkdfadcaaM
import Derived.Test.YtfcebglkdfadcaaGxZ
import Derived.Test.YtfcebglkdfadcaaProg
import Derived.Test.YtfcebglkdfadcaaSh
import Derived.Test.YtfcebglkdfadcaaC1
set_option linter.unusedVariables false
set_option maxRecDepth 100000
set_option maxHeartbeats 4000000
namespace Go.Proofs.Ytfcebglkdfadcaa
open Go.Gx
theorem c_i_EventsOf (w : World) (c : List Event) (f : Option Addr) (d : Nat) (y : rdS encEvent w c f d) (h : Int) {r : (List Event) × Bool} (hm : M.i_EventsOf c h = some r) :
  Calls Try.prog 27 #[.slice f c.length d, iv h] w fun e w' => ∃ (z : Option Addr) (x : Nat) (B : Seg), e = .returned (.tuple #[.slice z r.1.length x, .bool r.2]) ∧ ownS encEvent r.1 z x B ∧ Mem [] w w' [B] := by
 unfold M.i_EventsOf at hm
 refine cE Try.func27 ?_
 have M0 := Mem.refl [] w
 refine G_seq (G_region (wN (.cells ⟨[iv h]⟩ 3 (0, 0)) M0 ?_))
 intro g t v
 refine wR 2 [(0, .slice f c.length d), (3, pB g 0)] t (W_nil (N_then (G_seq (G_seq ?_))))
 obtain ⟨P, J, I⟩ := gx_bind hm
 refine G_meet (fun a w' => Mem [] w w' [[(g, .cells ⟨[iv h]⟩ 3 (0, 0))]] ∧ Sat Try.f27.ntmps [(0, .slice f c.length d), (3, pB g 0), (13, .bool P)] a) ?_ ?_
 ·have hm := J
  refine G_region (wR 1 [(0, .slice f c.length d), (3, pB g 0), (6, .slice f c.length d)] t ?_)
  obtain ⟨Q, L, hm⟩ := gx_bind hm
  refine wC 20 #[.slice f c.length d] ((c_i_IsRecord t c f d (y.mem0 v) L).mono ?_)
  rintro e_ j ⟨rfl, C⟩
  have k := v.call0 C
  refine ⟨_, rfl, ?_⟩
  refine wR 2 [(0, .slice f c.length d), (3, pB g 0), (9, .bool (!Q))] j ?_
  rcases gx_bif hm with ⟨m, hm⟩ | ⟨m, hm⟩
  ·refine wK 9 true m (wR 4 [(0, .slice f c.length d), (3, pB g 0), (13, .bool true)] j (W_nil ?_))
   obtain rfl := Option.some.inj hm
   exact N_meet fun a ha => ⟨k.pk [0], ha.s⟩
  refine wK 9 false m (wV (iv h) j (eL false 1 0 (k.blk 0 rfl)) ?_)
  obtain ⟨R, N, hm⟩ := gx_bind hm
  refine wC 53 #[iv h] ((c_i_isParty j h N).mono ?_)
  rintro e_ T ⟨rfl, D⟩
  have F := k.call0 D
  refine ⟨_, rfl, ?_⟩
  refine wR 2 [(0, .slice f c.length d), (3, pB g 0), (13, .bool (!R))] T (W_nil ?_)
  obtain rfl := Option.some.inj hm
  exact N_meet fun a ha => ⟨F.pk [0], ha.s⟩
 intro V u ⟨i, H⟩
 refine N_use H ?_
 have hm := I
 refine N_then ?_
 rcases gx_bif hm with ⟨n, hm⟩ | ⟨n, hm⟩
 ·refine gT n (G_seq (G_region (wR 2 [(4, .slice none 0 0), (5, .bool false)] u (W_nil (N_then (G_ret (N_then_ret ?_)))))))
  obtain rfl := Option.some.inj hm
  exact N_ret [.slice none 0 0, .bool false] (rC (rC RVs_nil)) (⟨none, 0, [], rfl, ownS_nil, i.pk [100000]⟩)
 refine gF n (G_skip (N_then (G_seq (G_region (wR 2 [(14, .slice f c.length d), (15, .func (.func 63) #[] #[pB g 0])] u ?_)))))
 obtain ⟨A, O, hm⟩ := gx_bind hm
 refine wC 62 #[.slice f c.length d, .func (.func 63) #[] #[pB g 0]] ((c_i_eventsWhere__i_EventsOf_1 u c f d (y.mem0 i) h g (i.blk 0 (b := g) (o := .cells ⟨[iv h]⟩ 3 (0, 0)) (by kernel_rfl)) O).mono ?_)
 rintro e_ U ⟨q, l, S, rfl, K, E⟩
 have G := i.call E
 refine ⟨_, rfl, ?_⟩
 refine wR 2 [(4, .slice q A.length l), (5, .bool true)] U (W_nil (N_then (G_ret ?_)))
 obtain rfl := Option.some.inj hm
 exact N_ret [.slice q A.length l, .bool true] (rC (rC RVs_nil)) (⟨q, l, S, rfl, K, G.pk [1]⟩)
theorem c_l_markText (w : World) (c : Int) {r : ByteArray} (hm : M.l_markText c = some r) :
  Calls Try.prog 64 #[iv c] w fun e w' => e = .returned (.string r) ∧ Mem [] w w' [] := by
 unfold M.l_markText at hm
 refine cE Try.func64 ?_
 have M0 := Mem.refl [] w
 refine G_seq (G_region (wR 1 [(0, iv c)] w (W_nil (N_then (G_seq (G_seq (G_region (wR 2 [(0, iv c), (5, .bool (decide (c ≤ 0)))] w (W_nil (N_then ?_))))))))))
 rcases gx_bif hm with ⟨h, hm⟩ | ⟨h, hm⟩
 ·refine gT h (G_seq (G_region (wR 1 [(2, .string (ByteArray.mk #[109, 48]))] w (W_nil (N_then (G_ret (N_then_ret ?_)))))))
  obtain rfl := Option.some.inj hm
  exact N_ret [.string (ByteArray.mk #[109, 48])] (rC RVs_nil) (⟨rfl, M0.pk []⟩)
 refine gF h (G_skip (N_then (G_seq (G_region (wR 1 [(0, iv c), (3, .string (ByteArray.mk #[]))] w (W_nil (N_then (G_seq ?_))))))))
 obtain ⟨j, A, u⟩ := gx_bind hm
 refine G_meet (fun a w' => Mem [] w w' [] ∧ Sat Try.f64.ntmps [(3, .string j)] a) ?_ ?_
 ·refine G_block (G_while (σ := Int × ByteArray) (ρ := ByteArray) (fun b a w' => Mem [] w w' [] ∧ Sat Try.f64.ntmps [(0, iv b.1), (3, .string b.2)] a) A (fun a ha => ⟨M0.pk [], ha.s⟩) ?_)
  clear hm
  intro b H hm x B n ⟨l, q⟩
  refine G_use q (G_seq (G_seq (G_region (wR 2 [(0, iv b.1), (3, .string b.2), (7, .bool (decide (b.1 > 0)))] n (W_nil (N_then ?_))))))
  rcases gx_bif hm with ⟨i, hm⟩ | ⟨i, hm⟩
  ·refine gT i (G_skip (N_then (G_block (G_seq (G_region (wR 4 [(0, iv b.1), (3, .string b.2), (11, .int .u8 (IntKind.u8.wrap (w64 (48 + (b.1.tmod 10)))))] n (wL (E := Gx.encU8) [IntKind.u8.wrap (w64 (48 + (b.1.tmod 10)))] 1 [.int .u8 (IntKind.u8.wrap (w64 (48 + (b.1.tmod 10))))] 5 l ?_)))))))
   intro F D G d v m
   refine wV (.string (gxStr [IntKind.u8.wrap (w64 (48 + (b.1.tmod 10)))])) d (E_bytesStr _ _ 5 _ [IntKind.u8.wrap (w64 (48 + (b.1.tmod 10)))] rfl (by kernel_rfl) (by kernel_rfl) (by kernel_rfl) (by kernel_rfl) (v.rd m 0 (by kernel_rfl))) (wR 1 [(0, iv b.1), (3, .string b.2), (13, .string (gxStr [IntKind.u8.wrap (w64 (48 + (b.1.tmod 10)))])), (14, .string b.2)] d ?_)
   obtain ⟨f, y, hm⟩ := gx_bind hm
   refine wV (.string f) d (E_strCat _ _ _ _ (gxStr [IntKind.u8.wrap (w64 (48 + (b.1.tmod 10)))]) b.2 f rfl (by kernel_rfl) (by kernel_rfl) y) (wR 1 [(0, iv b.1), (3, .string f)] d (W_nil (N_then (G_region (wR 3 [(0, iv (w64 (b.1.tdiv 10))), (3, .string f)] d (W_nil (N_block ?_)))))))
   obtain rfl := Option.some.inj hm
   exact N_loop fun a ha => ⟨_, rfl, m.pk [], ha.s⟩
  refine gF i (G_exit (N_then_exit (N_then_exit (N_block_eq ?_))))
  obtain rfl := Option.some.inj hm
  obtain rfl := x _ rfl
  exact N_meet fun a ha => ⟨l.pk [], ha.s⟩
 intro C k ⟨o, t⟩
 refine N_use t ?_
 have hm := u
 refine N_then (G_seq (G_region (wR 1 [(18, .string j)] k ?_)))
 obtain ⟨g, z, hm⟩ := gx_bind hm
 refine wV (.string g) k (E_strCat _ _ _ _ (ByteArray.mk #[109]) j g rfl (by kernel_rfl) (by kernel_rfl) z) (wR 1 [(2, .string g)] k (W_nil (N_then (G_ret ?_))))
 obtain rfl := Option.some.inj hm
 exact N_ret [.string g] (rC RVs_nil) (⟨rfl, o.pk []⟩)
theorem c_l_markEventS (w : World) (i : List Event) (d : Option Addr) (g : Nat) (h : Seg) (W : ownS encEvent i d g h) (x : Int) (hA : ∀ q ∈ List.flatten [h], w.heap[q.1]? = some q.2) (hN : (idsOf [h]).Nodup) {r : Int × (List Event)} (hm : M.l_markEventS i x = some r) :
  Calls Try.prog 28 #[.slice d i.length g, iv x] w fun e w' => ∃ (K : Seg), e = .returned (iv r.1) ∧ ownS encEvent r.2 d g K ∧ r.2.length = i.length ∧ Mem (idsOf [h]) w w' [K] := by
 unfold M.l_markEventS at hm
 refine cE Try.func28 ?_
 have M0 := Mem.start' w [h] hA hN
 refine G_seq (G_region (wR 1 [(0, .slice d i.length g), (1, iv x)] w (W_nil (N_then (G_seq (G_seq (G_region (wR 1 [(0, .slice d i.length g), (1, iv x), (5, iv 0)] w (W_nil (N_then ?_))))))))))
 obtain ⟨j, ab, V⟩ := gx_bind hm
 refine G_meet (fun a w' => ∃ (o : Seg), ownS encEvent j.2 d g o ∧ j.2.length = i.length ∧ Mem (idsOf [h]) w w' [o] ∧ Sat Try.f28.ntmps [(1, iv j.1)] a) ?_ ?_
 ·refine G_block (G_while (σ := Int × Int × List Event) (ρ := Int × List Event) (fun c a w' => ∃ (n : Seg), ownS encEvent c.2.2 d g n ∧ c.2.2.length = i.length ∧ Mem (idsOf [h]) w w' [n] ∧ Sat Try.f28.ntmps [(0, .slice d c.2.2.length g), (1, iv c.1), (5, iv c.2.1)] a) ab (fun a ha => ⟨h, W, rfl, M0.pk [0], ha.s⟩) ?_)
  clear hm
  intro c an hm Z ah t ⟨n, l, J, k, S⟩
  refine G_use S (G_seq (G_seq (G_region (wR 4 [(0, .slice d c.2.2.length g), (1, iv c.1), (5, iv c.2.1), (9, .bool (decide (c.2.1 < (c.2.2.length : Int))))] t (W_nil (N_then ?_))))))
  rcases gx_bif hm with ⟨B, hm⟩ | ⟨B, hm⟩
  ·refine gT B (G_skip (N_then (G_seq (G_block (G_seq (G_region (wR 3 [(0, .slice d c.2.2.length g), (1, iv c.1), (5, iv c.2.1), (12, .slice d c.2.2.length g), (13, iv c.2.1), (14, iv c.1)] t ?_)))))))
   obtain ⟨b, m, hm⟩ := gx_bind hm
   refine wV (elemP d (c.2.1.toNat * 4)) t (eI (l.rd k 0 (by kernel_rfl)) rfl m) (wV (elemP d (c.2.1.toNat * 4 + 0)) t (eF 0 (c.2.1.toNat * 4) 0 (l.rd k 0 (by kernel_rfl)) m) (wE false 1 c.2.1.toNat 0 (c.2.1.toNat * 4 + 0) b (⟨c.1, b.Guest, b.Kind, b.Value⟩ : Event) (iv c.1) 0 k l (gxIdx_spec m).2 ?_))
   intro u ak C y
   have F := gxIdx_put (⟨c.1, b.Guest, b.Kind, b.Value⟩ : Event) m
   refine wX 0 (.slice d c.2.2.length g) (.slice d (c.2.2.set c.2.1.toNat (⟨c.1, b.Guest, b.Kind, b.Value⟩ : Event)).length g) (by rw [@List.length_set _ c.2.2 c.2.1.toNat (⟨c.1, b.Guest, b.Kind, b.Value⟩ : Event)]) (wX 12 (.slice d c.2.2.length g) (.slice d (c.2.2.set c.2.1.toNat (⟨c.1, b.Guest, b.Kind, b.Value⟩ : Event)).length g) (by rw [@List.length_set _ c.2.2 c.2.1.toNat (⟨c.1, b.Guest, b.Kind, b.Value⟩ : Event)]) (W_nil (N_then (G_seq (G_region (wR 3 [(0, .slice d (c.2.2.set c.2.1.toNat (⟨c.1, b.Guest, b.Kind, b.Value⟩ : Event)).length g), (1, iv (w64 (c.1 + 1))), (5, iv c.2.1)] u (W_nil (N_then (G_seq (G_region (wR 3 [(0, .slice d (c.2.2.set c.2.1.toNat (⟨c.1, b.Guest, b.Kind, b.Value⟩ : Event)).length g), (1, iv (w64 (c.1 + 1))), (5, iv c.2.1), (19, .slice d (c.2.2.set c.2.1.toNat (⟨c.1, b.Guest, b.Kind, b.Value⟩ : Event)).length g), (20, iv c.2.1), (21, iv (w64 (c.1 + 1)))] u ?_)))))))))))
   obtain ⟨ao, ac, hm⟩ := gx_bind hm
   refine wV (elemP d (c.2.1.toNat * 4)) u (eI (C.rd y 0 (by kernel_rfl)) rfl ac) (wV (elemP d (c.2.1.toNat * 4 + 1)) u (eF 1 (c.2.1.toNat * 4) 1 (C.rd y 0 (by kernel_rfl)) F) (wE false 1 c.2.1.toNat 1 (c.2.1.toNat * 4 + 1) (⟨c.1, b.Guest, b.Kind, b.Value⟩ : Event) (⟨(⟨c.1, b.Guest, b.Kind, b.Value⟩ : Event).Tick, w64 (c.1 + 1), (⟨c.1, b.Guest, b.Kind, b.Value⟩ : Event).Kind, (⟨c.1, b.Guest, b.Kind, b.Value⟩ : Event).Value⟩ : Event) (iv (w64 (c.1 + 1))) 0 y C (gxIdx_spec F).2 ?_))
   intro I al D P
   have G := gxIdx_put (⟨(⟨c.1, b.Guest, b.Kind, b.Value⟩ : Event).Tick, w64 (c.1 + 1), (⟨c.1, b.Guest, b.Kind, b.Value⟩ : Event).Kind, (⟨c.1, b.Guest, b.Kind, b.Value⟩ : Event).Value⟩ : Event) F
   refine wX 0 (.slice d (c.2.2.set c.2.1.toNat (⟨c.1, b.Guest, b.Kind, b.Value⟩ : Event)).length g) (.slice d ((c.2.2.set c.2.1.toNat (⟨c.1, b.Guest, b.Kind, b.Value⟩ : Event)).set c.2.1.toNat (⟨(⟨c.1, b.Guest, b.Kind, b.Value⟩ : Event).Tick, w64 (c.1 + 1), (⟨c.1, b.Guest, b.Kind, b.Value⟩ : Event).Kind, (⟨c.1, b.Guest, b.Kind, b.Value⟩ : Event).Value⟩ : Event)).length g) (by rw [@List.length_set _ (c.2.2.set c.2.1.toNat (⟨c.1, b.Guest, b.Kind, b.Value⟩ : Event)) c.2.1.toNat (⟨(⟨c.1, b.Guest, b.Kind, b.Value⟩ : Event).Tick, w64 (c.1 + 1), (⟨c.1, b.Guest, b.Kind, b.Value⟩ : Event).Kind, (⟨c.1, b.Guest, b.Kind, b.Value⟩ : Event).Value⟩ : Event)]) (wX 19 (.slice d (c.2.2.set c.2.1.toNat (⟨c.1, b.Guest, b.Kind, b.Value⟩ : Event)).length g) (.slice d ((c.2.2.set c.2.1.toNat (⟨c.1, b.Guest, b.Kind, b.Value⟩ : Event)).set c.2.1.toNat (⟨(⟨c.1, b.Guest, b.Kind, b.Value⟩ : Event).Tick, w64 (c.1 + 1), (⟨c.1, b.Guest, b.Kind, b.Value⟩ : Event).Kind, (⟨c.1, b.Guest, b.Kind, b.Value⟩ : Event).Value⟩ : Event)).length g) (by rw [@List.length_set _ (c.2.2.set c.2.1.toNat (⟨c.1, b.Guest, b.Kind, b.Value⟩ : Event)) c.2.1.toNat (⟨(⟨c.1, b.Guest, b.Kind, b.Value⟩ : Event).Tick, w64 (c.1 + 1), (⟨c.1, b.Guest, b.Kind, b.Value⟩ : Event).Kind, (⟨c.1, b.Guest, b.Kind, b.Value⟩ : Event).Value⟩ : Event)]) (W_nil (N_then (G_seq (G_region (wR 3 [(0, .slice d ((c.2.2.set c.2.1.toNat (⟨c.1, b.Guest, b.Kind, b.Value⟩ : Event)).set c.2.1.toNat (⟨(⟨c.1, b.Guest, b.Kind, b.Value⟩ : Event).Tick, w64 (c.1 + 1), (⟨c.1, b.Guest, b.Kind, b.Value⟩ : Event).Kind, (⟨c.1, b.Guest, b.Kind, b.Value⟩ : Event).Value⟩ : Event)).length g), (1, iv (w64 ((w64 (c.1 + 1)) + 1))), (5, iv c.2.1)] I (W_nil (N_then (G_seq (G_region (wR 3 [(0, .slice d ((c.2.2.set c.2.1.toNat (⟨c.1, b.Guest, b.Kind, b.Value⟩ : Event)).set c.2.1.toNat (⟨(⟨c.1, b.Guest, b.Kind, b.Value⟩ : Event).Tick, w64 (c.1 + 1), (⟨c.1, b.Guest, b.Kind, b.Value⟩ : Event).Kind, (⟨c.1, b.Guest, b.Kind, b.Value⟩ : Event).Value⟩ : Event)).length g), (1, iv (w64 ((w64 (c.1 + 1)) + 1))), (5, iv c.2.1), (26, .slice d ((c.2.2.set c.2.1.toNat (⟨c.1, b.Guest, b.Kind, b.Value⟩ : Event)).set c.2.1.toNat (⟨(⟨c.1, b.Guest, b.Kind, b.Value⟩ : Event).Tick, w64 (c.1 + 1), (⟨c.1, b.Guest, b.Kind, b.Value⟩ : Event).Kind, (⟨c.1, b.Guest, b.Kind, b.Value⟩ : Event).Value⟩ : Event)).length g), (27, iv c.2.1), (28, iv (w64 ((w64 (c.1 + 1)) + 1)))] I ?_)))))))))))
   obtain ⟨f, aa, hm⟩ := gx_bind hm
   refine wC 64 #[iv (w64 ((w64 (c.1 + 1)) + 1))] ((c_l_markText I (w64 ((w64 (c.1 + 1)) + 1)) aa).mono ?_)
   rintro e_ L ⟨rfl, O⟩
   have z := P.call0 O
   refine ⟨_, rfl, ?_⟩
   obtain ⟨ap, ad, hm⟩ := gx_bind hm
   refine wV (elemP d (c.2.1.toNat * 4)) L (eI (D.rd z 0 (by kernel_rfl)) rfl ad) (wV (elemP d (c.2.1.toNat * 4 + 2)) L (eF 2 (c.2.1.toNat * 4) 2 (D.rd z 0 (by kernel_rfl)) G) (wE false 1 c.2.1.toNat 2 (c.2.1.toNat * 4 + 2) (⟨(⟨c.1, b.Guest, b.Kind, b.Value⟩ : Event).Tick, w64 (c.1 + 1), (⟨c.1, b.Guest, b.Kind, b.Value⟩ : Event).Kind, (⟨c.1, b.Guest, b.Kind, b.Value⟩ : Event).Value⟩ : Event) (⟨(⟨(⟨c.1, b.Guest, b.Kind, b.Value⟩ : Event).Tick, w64 (c.1 + 1), (⟨c.1, b.Guest, b.Kind, b.Value⟩ : Event).Kind, (⟨c.1, b.Guest, b.Kind, b.Value⟩ : Event).Value⟩ : Event).Tick, (⟨(⟨c.1, b.Guest, b.Kind, b.Value⟩ : Event).Tick, w64 (c.1 + 1), (⟨c.1, b.Guest, b.Kind, b.Value⟩ : Event).Kind, (⟨c.1, b.Guest, b.Kind, b.Value⟩ : Event).Value⟩ : Event).Guest, f, (⟨(⟨c.1, b.Guest, b.Kind, b.Value⟩ : Event).Tick, w64 (c.1 + 1), (⟨c.1, b.Guest, b.Kind, b.Value⟩ : Event).Kind, (⟨c.1, b.Guest, b.Kind, b.Value⟩ : Event).Value⟩ : Event).Value⟩ : Event) (.string f) 0 z D (gxIdx_spec G).2 ?_))
   intro v am E A
   have H := gxIdx_put (⟨(⟨(⟨c.1, b.Guest, b.Kind, b.Value⟩ : Event).Tick, w64 (c.1 + 1), (⟨c.1, b.Guest, b.Kind, b.Value⟩ : Event).Kind, (⟨c.1, b.Guest, b.Kind, b.Value⟩ : Event).Value⟩ : Event).Tick, (⟨(⟨c.1, b.Guest, b.Kind, b.Value⟩ : Event).Tick, w64 (c.1 + 1), (⟨c.1, b.Guest, b.Kind, b.Value⟩ : Event).Kind, (⟨c.1, b.Guest, b.Kind, b.Value⟩ : Event).Value⟩ : Event).Guest, f, (⟨(⟨c.1, b.Guest, b.Kind, b.Value⟩ : Event).Tick, w64 (c.1 + 1), (⟨c.1, b.Guest, b.Kind, b.Value⟩ : Event).Kind, (⟨c.1, b.Guest, b.Kind, b.Value⟩ : Event).Value⟩ : Event).Value⟩ : Event) G
   refine wX 0 (.slice d ((c.2.2.set c.2.1.toNat (⟨c.1, b.Guest, b.Kind, b.Value⟩ : Event)).set c.2.1.toNat (⟨(⟨c.1, b.Guest, b.Kind, b.Value⟩ : Event).Tick, w64 (c.1 + 1), (⟨c.1, b.Guest, b.Kind, b.Value⟩ : Event).Kind, (⟨c.1, b.Guest, b.Kind, b.Value⟩ : Event).Value⟩ : Event)).length g) (.slice d (((c.2.2.set c.2.1.toNat (⟨c.1, b.Guest, b.Kind, b.Value⟩ : Event)).set c.2.1.toNat (⟨(⟨c.1, b.Guest, b.Kind, b.Value⟩ : Event).Tick, w64 (c.1 + 1), (⟨c.1, b.Guest, b.Kind, b.Value⟩ : Event).Kind, (⟨c.1, b.Guest, b.Kind, b.Value⟩ : Event).Value⟩ : Event)).set c.2.1.toNat (⟨(⟨(⟨c.1, b.Guest, b.Kind, b.Value⟩ : Event).Tick, w64 (c.1 + 1), (⟨c.1, b.Guest, b.Kind, b.Value⟩ : Event).Kind, (⟨c.1, b.Guest, b.Kind, b.Value⟩ : Event).Value⟩ : Event).Tick, (⟨(⟨c.1, b.Guest, b.Kind, b.Value⟩ : Event).Tick, w64 (c.1 + 1), (⟨c.1, b.Guest, b.Kind, b.Value⟩ : Event).Kind, (⟨c.1, b.Guest, b.Kind, b.Value⟩ : Event).Value⟩ : Event).Guest, f, (⟨(⟨c.1, b.Guest, b.Kind, b.Value⟩ : Event).Tick, w64 (c.1 + 1), (⟨c.1, b.Guest, b.Kind, b.Value⟩ : Event).Kind, (⟨c.1, b.Guest, b.Kind, b.Value⟩ : Event).Value⟩ : Event).Value⟩ : Event)).length g) (by rw [@List.length_set _ ((c.2.2.set c.2.1.toNat (⟨c.1, b.Guest, b.Kind, b.Value⟩ : Event)).set c.2.1.toNat (⟨(⟨c.1, b.Guest, b.Kind, b.Value⟩ : Event).Tick, w64 (c.1 + 1), (⟨c.1, b.Guest, b.Kind, b.Value⟩ : Event).Kind, (⟨c.1, b.Guest, b.Kind, b.Value⟩ : Event).Value⟩ : Event)) c.2.1.toNat (⟨(⟨(⟨c.1, b.Guest, b.Kind, b.Value⟩ : Event).Tick, w64 (c.1 + 1), (⟨c.1, b.Guest, b.Kind, b.Value⟩ : Event).Kind, (⟨c.1, b.Guest, b.Kind, b.Value⟩ : Event).Value⟩ : Event).Tick, (⟨(⟨c.1, b.Guest, b.Kind, b.Value⟩ : Event).Tick, w64 (c.1 + 1), (⟨c.1, b.Guest, b.Kind, b.Value⟩ : Event).Kind, (⟨c.1, b.Guest, b.Kind, b.Value⟩ : Event).Value⟩ : Event).Guest, f, (⟨(⟨c.1, b.Guest, b.Kind, b.Value⟩ : Event).Tick, w64 (c.1 + 1), (⟨c.1, b.Guest, b.Kind, b.Value⟩ : Event).Kind, (⟨c.1, b.Guest, b.Kind, b.Value⟩ : Event).Value⟩ : Event).Value⟩ : Event)]) (wX 26 (.slice d ((c.2.2.set c.2.1.toNat (⟨c.1, b.Guest, b.Kind, b.Value⟩ : Event)).set c.2.1.toNat (⟨(⟨c.1, b.Guest, b.Kind, b.Value⟩ : Event).Tick, w64 (c.1 + 1), (⟨c.1, b.Guest, b.Kind, b.Value⟩ : Event).Kind, (⟨c.1, b.Guest, b.Kind, b.Value⟩ : Event).Value⟩ : Event)).length g) (.slice d (((c.2.2.set c.2.1.toNat (⟨c.1, b.Guest, b.Kind, b.Value⟩ : Event)).set c.2.1.toNat (⟨(⟨c.1, b.Guest, b.Kind, b.Value⟩ : Event).Tick, w64 (c.1 + 1), (⟨c.1, b.Guest, b.Kind, b.Value⟩ : Event).Kind, (⟨c.1, b.Guest, b.Kind, b.Value⟩ : Event).Value⟩ : Event)).set c.2.1.toNat (⟨(⟨(⟨c.1, b.Guest, b.Kind, b.Value⟩ : Event).Tick, w64 (c.1 + 1), (⟨c.1, b.Guest, b.Kind, b.Value⟩ : Event).Kind, (⟨c.1, b.Guest, b.Kind, b.Value⟩ : Event).Value⟩ : Event).Tick, (⟨(⟨c.1, b.Guest, b.Kind, b.Value⟩ : Event).Tick, w64 (c.1 + 1), (⟨c.1, b.Guest, b.Kind, b.Value⟩ : Event).Kind, (⟨c.1, b.Guest, b.Kind, b.Value⟩ : Event).Value⟩ : Event).Guest, f, (⟨(⟨c.1, b.Guest, b.Kind, b.Value⟩ : Event).Tick, w64 (c.1 + 1), (⟨c.1, b.Guest, b.Kind, b.Value⟩ : Event).Kind, (⟨c.1, b.Guest, b.Kind, b.Value⟩ : Event).Value⟩ : Event).Value⟩ : Event)).length g) (by rw [@List.length_set _ ((c.2.2.set c.2.1.toNat (⟨c.1, b.Guest, b.Kind, b.Value⟩ : Event)).set c.2.1.toNat (⟨(⟨c.1, b.Guest, b.Kind, b.Value⟩ : Event).Tick, w64 (c.1 + 1), (⟨c.1, b.Guest, b.Kind, b.Value⟩ : Event).Kind, (⟨c.1, b.Guest, b.Kind, b.Value⟩ : Event).Value⟩ : Event)) c.2.1.toNat (⟨(⟨(⟨c.1, b.Guest, b.Kind, b.Value⟩ : Event).Tick, w64 (c.1 + 1), (⟨c.1, b.Guest, b.Kind, b.Value⟩ : Event).Kind, (⟨c.1, b.Guest, b.Kind, b.Value⟩ : Event).Value⟩ : Event).Tick, (⟨(⟨c.1, b.Guest, b.Kind, b.Value⟩ : Event).Tick, w64 (c.1 + 1), (⟨c.1, b.Guest, b.Kind, b.Value⟩ : Event).Kind, (⟨c.1, b.Guest, b.Kind, b.Value⟩ : Event).Value⟩ : Event).Guest, f, (⟨(⟨c.1, b.Guest, b.Kind, b.Value⟩ : Event).Tick, w64 (c.1 + 1), (⟨c.1, b.Guest, b.Kind, b.Value⟩ : Event).Kind, (⟨c.1, b.Guest, b.Kind, b.Value⟩ : Event).Value⟩ : Event).Value⟩ : Event)]) ?_)
   refine W_nil (N_then (G_seq (G_region (wR 3 [(0, .slice d (((c.2.2.set c.2.1.toNat (⟨c.1, b.Guest, b.Kind, b.Value⟩ : Event)).set c.2.1.toNat (⟨(⟨c.1, b.Guest, b.Kind, b.Value⟩ : Event).Tick, w64 (c.1 + 1), (⟨c.1, b.Guest, b.Kind, b.Value⟩ : Event).Kind, (⟨c.1, b.Guest, b.Kind, b.Value⟩ : Event).Value⟩ : Event)).set c.2.1.toNat (⟨(⟨(⟨c.1, b.Guest, b.Kind, b.Value⟩ : Event).Tick, w64 (c.1 + 1), (⟨c.1, b.Guest, b.Kind, b.Value⟩ : Event).Kind, (⟨c.1, b.Guest, b.Kind, b.Value⟩ : Event).Value⟩ : Event).Tick, (⟨(⟨c.1, b.Guest, b.Kind, b.Value⟩ : Event).Tick, w64 (c.1 + 1), (⟨c.1, b.Guest, b.Kind, b.Value⟩ : Event).Kind, (⟨c.1, b.Guest, b.Kind, b.Value⟩ : Event).Value⟩ : Event).Guest, f, (⟨(⟨c.1, b.Guest, b.Kind, b.Value⟩ : Event).Tick, w64 (c.1 + 1), (⟨c.1, b.Guest, b.Kind, b.Value⟩ : Event).Kind, (⟨c.1, b.Guest, b.Kind, b.Value⟩ : Event).Value⟩ : Event).Value⟩ : Event)).length g), (1, iv (w64 ((w64 ((w64 (c.1 + 1)) + 1)) + 1))), (5, iv c.2.1)] v (W_nil (N_then (G_seq (G_region (wR 3 [(0, .slice d (((c.2.2.set c.2.1.toNat (⟨c.1, b.Guest, b.Kind, b.Value⟩ : Event)).set c.2.1.toNat (⟨(⟨c.1, b.Guest, b.Kind, b.Value⟩ : Event).Tick, w64 (c.1 + 1), (⟨c.1, b.Guest, b.Kind, b.Value⟩ : Event).Kind, (⟨c.1, b.Guest, b.Kind, b.Value⟩ : Event).Value⟩ : Event)).set c.2.1.toNat (⟨(⟨(⟨c.1, b.Guest, b.Kind, b.Value⟩ : Event).Tick, w64 (c.1 + 1), (⟨c.1, b.Guest, b.Kind, b.Value⟩ : Event).Kind, (⟨c.1, b.Guest, b.Kind, b.Value⟩ : Event).Value⟩ : Event).Tick, (⟨(⟨c.1, b.Guest, b.Kind, b.Value⟩ : Event).Tick, w64 (c.1 + 1), (⟨c.1, b.Guest, b.Kind, b.Value⟩ : Event).Kind, (⟨c.1, b.Guest, b.Kind, b.Value⟩ : Event).Value⟩ : Event).Guest, f, (⟨(⟨c.1, b.Guest, b.Kind, b.Value⟩ : Event).Tick, w64 (c.1 + 1), (⟨c.1, b.Guest, b.Kind, b.Value⟩ : Event).Kind, (⟨c.1, b.Guest, b.Kind, b.Value⟩ : Event).Value⟩ : Event).Value⟩ : Event)).length g), (1, iv (w64 ((w64 ((w64 (c.1 + 1)) + 1)) + 1))), (5, iv c.2.1), (34, .slice d (((c.2.2.set c.2.1.toNat (⟨c.1, b.Guest, b.Kind, b.Value⟩ : Event)).set c.2.1.toNat (⟨(⟨c.1, b.Guest, b.Kind, b.Value⟩ : Event).Tick, w64 (c.1 + 1), (⟨c.1, b.Guest, b.Kind, b.Value⟩ : Event).Kind, (⟨c.1, b.Guest, b.Kind, b.Value⟩ : Event).Value⟩ : Event)).set c.2.1.toNat (⟨(⟨(⟨c.1, b.Guest, b.Kind, b.Value⟩ : Event).Tick, w64 (c.1 + 1), (⟨c.1, b.Guest, b.Kind, b.Value⟩ : Event).Kind, (⟨c.1, b.Guest, b.Kind, b.Value⟩ : Event).Value⟩ : Event).Tick, (⟨(⟨c.1, b.Guest, b.Kind, b.Value⟩ : Event).Tick, w64 (c.1 + 1), (⟨c.1, b.Guest, b.Kind, b.Value⟩ : Event).Kind, (⟨c.1, b.Guest, b.Kind, b.Value⟩ : Event).Value⟩ : Event).Guest, f, (⟨(⟨c.1, b.Guest, b.Kind, b.Value⟩ : Event).Tick, w64 (c.1 + 1), (⟨c.1, b.Guest, b.Kind, b.Value⟩ : Event).Kind, (⟨c.1, b.Guest, b.Kind, b.Value⟩ : Event).Value⟩ : Event).Value⟩ : Event)).length g), (35, iv c.2.1), (36, iv (w64 ((w64 ((w64 (c.1 + 1)) + 1)) + 1)))] v ?_)))))))))
   obtain ⟨aq, ae, hm⟩ := gx_bind hm
   refine wV (elemP d (c.2.1.toNat * 4)) v (eI (E.rd A 0 (by kernel_rfl)) rfl ae) (wV (elemP d (c.2.1.toNat * 4 + 3)) v (eF 3 (c.2.1.toNat * 4) 3 (E.rd A 0 (by kernel_rfl)) H) (wE false 1 c.2.1.toNat 3 (c.2.1.toNat * 4 + 3) (⟨(⟨(⟨c.1, b.Guest, b.Kind, b.Value⟩ : Event).Tick, w64 (c.1 + 1), (⟨c.1, b.Guest, b.Kind, b.Value⟩ : Event).Kind, (⟨c.1, b.Guest, b.Kind, b.Value⟩ : Event).Value⟩ : Event).Tick, (⟨(⟨c.1, b.Guest, b.Kind, b.Value⟩ : Event).Tick, w64 (c.1 + 1), (⟨c.1, b.Guest, b.Kind, b.Value⟩ : Event).Kind, (⟨c.1, b.Guest, b.Kind, b.Value⟩ : Event).Value⟩ : Event).Guest, f, (⟨(⟨c.1, b.Guest, b.Kind, b.Value⟩ : Event).Tick, w64 (c.1 + 1), (⟨c.1, b.Guest, b.Kind, b.Value⟩ : Event).Kind, (⟨c.1, b.Guest, b.Kind, b.Value⟩ : Event).Value⟩ : Event).Value⟩ : Event) (⟨(⟨(⟨(⟨c.1, b.Guest, b.Kind, b.Value⟩ : Event).Tick, w64 (c.1 + 1), (⟨c.1, b.Guest, b.Kind, b.Value⟩ : Event).Kind, (⟨c.1, b.Guest, b.Kind, b.Value⟩ : Event).Value⟩ : Event).Tick, (⟨(⟨c.1, b.Guest, b.Kind, b.Value⟩ : Event).Tick, w64 (c.1 + 1), (⟨c.1, b.Guest, b.Kind, b.Value⟩ : Event).Kind, (⟨c.1, b.Guest, b.Kind, b.Value⟩ : Event).Value⟩ : Event).Guest, f, (⟨(⟨c.1, b.Guest, b.Kind, b.Value⟩ : Event).Tick, w64 (c.1 + 1), (⟨c.1, b.Guest, b.Kind, b.Value⟩ : Event).Kind, (⟨c.1, b.Guest, b.Kind, b.Value⟩ : Event).Value⟩ : Event).Value⟩ : Event).Tick, (⟨(⟨(⟨c.1, b.Guest, b.Kind, b.Value⟩ : Event).Tick, w64 (c.1 + 1), (⟨c.1, b.Guest, b.Kind, b.Value⟩ : Event).Kind, (⟨c.1, b.Guest, b.Kind, b.Value⟩ : Event).Value⟩ : Event).Tick, (⟨(⟨c.1, b.Guest, b.Kind, b.Value⟩ : Event).Tick, w64 (c.1 + 1), (⟨c.1, b.Guest, b.Kind, b.Value⟩ : Event).Kind, (⟨c.1, b.Guest, b.Kind, b.Value⟩ : Event).Value⟩ : Event).Guest, f, (⟨(⟨c.1, b.Guest, b.Kind, b.Value⟩ : Event).Tick, w64 (c.1 + 1), (⟨c.1, b.Guest, b.Kind, b.Value⟩ : Event).Kind, (⟨c.1, b.Guest, b.Kind, b.Value⟩ : Event).Value⟩ : Event).Value⟩ : Event).Guest, (⟨(⟨(⟨c.1, b.Guest, b.Kind, b.Value⟩ : Event).Tick, w64 (c.1 + 1), (⟨c.1, b.Guest, b.Kind, b.Value⟩ : Event).Kind, (⟨c.1, b.Guest, b.Kind, b.Value⟩ : Event).Value⟩ : Event).Tick, (⟨(⟨c.1, b.Guest, b.Kind, b.Value⟩ : Event).Tick, w64 (c.1 + 1), (⟨c.1, b.Guest, b.Kind, b.Value⟩ : Event).Kind, (⟨c.1, b.Guest, b.Kind, b.Value⟩ : Event).Value⟩ : Event).Guest, f, (⟨(⟨c.1, b.Guest, b.Kind, b.Value⟩ : Event).Tick, w64 (c.1 + 1), (⟨c.1, b.Guest, b.Kind, b.Value⟩ : Event).Kind, (⟨c.1, b.Guest, b.Kind, b.Value⟩ : Event).Value⟩ : Event).Value⟩ : Event).Kind, w64 ((w64 ((w64 (c.1 + 1)) + 1)) + 1)⟩ : Event) (iv (w64 ((w64 ((w64 (c.1 + 1)) + 1)) + 1))) 0 A E (gxIdx_spec H).2 ?_))
   intro N af Y Q
   have aj := gxIdx_put (⟨(⟨(⟨(⟨c.1, b.Guest, b.Kind, b.Value⟩ : Event).Tick, w64 (c.1 + 1), (⟨c.1, b.Guest, b.Kind, b.Value⟩ : Event).Kind, (⟨c.1, b.Guest, b.Kind, b.Value⟩ : Event).Value⟩ : Event).Tick, (⟨(⟨c.1, b.Guest, b.Kind, b.Value⟩ : Event).Tick, w64 (c.1 + 1), (⟨c.1, b.Guest, b.Kind, b.Value⟩ : Event).Kind, (⟨c.1, b.Guest, b.Kind, b.Value⟩ : Event).Value⟩ : Event).Guest, f, (⟨(⟨c.1, b.Guest, b.Kind, b.Value⟩ : Event).Tick, w64 (c.1 + 1), (⟨c.1, b.Guest, b.Kind, b.Value⟩ : Event).Kind, (⟨c.1, b.Guest, b.Kind, b.Value⟩ : Event).Value⟩ : Event).Value⟩ : Event).Tick, (⟨(⟨(⟨c.1, b.Guest, b.Kind, b.Value⟩ : Event).Tick, w64 (c.1 + 1), (⟨c.1, b.Guest, b.Kind, b.Value⟩ : Event).Kind, (⟨c.1, b.Guest, b.Kind, b.Value⟩ : Event).Value⟩ : Event).Tick, (⟨(⟨c.1, b.Guest, b.Kind, b.Value⟩ : Event).Tick, w64 (c.1 + 1), (⟨c.1, b.Guest, b.Kind, b.Value⟩ : Event).Kind, (⟨c.1, b.Guest, b.Kind, b.Value⟩ : Event).Value⟩ : Event).Guest, f, (⟨(⟨c.1, b.Guest, b.Kind, b.Value⟩ : Event).Tick, w64 (c.1 + 1), (⟨c.1, b.Guest, b.Kind, b.Value⟩ : Event).Kind, (⟨c.1, b.Guest, b.Kind, b.Value⟩ : Event).Value⟩ : Event).Value⟩ : Event).Guest, (⟨(⟨(⟨c.1, b.Guest, b.Kind, b.Value⟩ : Event).Tick, w64 (c.1 + 1), (⟨c.1, b.Guest, b.Kind, b.Value⟩ : Event).Kind, (⟨c.1, b.Guest, b.Kind, b.Value⟩ : Event).Value⟩ : Event).Tick, (⟨(⟨c.1, b.Guest, b.Kind, b.Value⟩ : Event).Tick, w64 (c.1 + 1), (⟨c.1, b.Guest, b.Kind, b.Value⟩ : Event).Kind, (⟨c.1, b.Guest, b.Kind, b.Value⟩ : Event).Value⟩ : Event).Guest, f, (⟨(⟨c.1, b.Guest, b.Kind, b.Value⟩ : Event).Tick, w64 (c.1 + 1), (⟨c.1, b.Guest, b.Kind, b.Value⟩ : Event).Kind, (⟨c.1, b.Guest, b.Kind, b.Value⟩ : Event).Value⟩ : Event).Value⟩ : Event).Kind, w64 ((w64 ((w64 (c.1 + 1)) + 1)) + 1)⟩ : Event) H
   refine wX 0 (.slice d (((c.2.2.set c.2.1.toNat (⟨c.1, b.Guest, b.Kind, b.Value⟩ : Event)).set c.2.1.toNat (⟨(⟨c.1, b.Guest, b.Kind, b.Value⟩ : Event).Tick, w64 (c.1 + 1), (⟨c.1, b.Guest, b.Kind, b.Value⟩ : Event).Kind, (⟨c.1, b.Guest, b.Kind, b.Value⟩ : Event).Value⟩ : Event)).set c.2.1.toNat (⟨(⟨(⟨c.1, b.Guest, b.Kind, b.Value⟩ : Event).Tick, w64 (c.1 + 1), (⟨c.1, b.Guest, b.Kind, b.Value⟩ : Event).Kind, (⟨c.1, b.Guest, b.Kind, b.Value⟩ : Event).Value⟩ : Event).Tick, (⟨(⟨c.1, b.Guest, b.Kind, b.Value⟩ : Event).Tick, w64 (c.1 + 1), (⟨c.1, b.Guest, b.Kind, b.Value⟩ : Event).Kind, (⟨c.1, b.Guest, b.Kind, b.Value⟩ : Event).Value⟩ : Event).Guest, f, (⟨(⟨c.1, b.Guest, b.Kind, b.Value⟩ : Event).Tick, w64 (c.1 + 1), (⟨c.1, b.Guest, b.Kind, b.Value⟩ : Event).Kind, (⟨c.1, b.Guest, b.Kind, b.Value⟩ : Event).Value⟩ : Event).Value⟩ : Event)).length g) (.slice d ((((c.2.2.set c.2.1.toNat (⟨c.1, b.Guest, b.Kind, b.Value⟩ : Event)).set c.2.1.toNat (⟨(⟨c.1, b.Guest, b.Kind, b.Value⟩ : Event).Tick, w64 (c.1 + 1), (⟨c.1, b.Guest, b.Kind, b.Value⟩ : Event).Kind, (⟨c.1, b.Guest, b.Kind, b.Value⟩ : Event).Value⟩ : Event)).set c.2.1.toNat (⟨(⟨(⟨c.1, b.Guest, b.Kind, b.Value⟩ : Event).Tick, w64 (c.1 + 1), (⟨c.1, b.Guest, b.Kind, b.Value⟩ : Event).Kind, (⟨c.1, b.Guest, b.Kind, b.Value⟩ : Event).Value⟩ : Event).Tick, (⟨(⟨c.1, b.Guest, b.Kind, b.Value⟩ : Event).Tick, w64 (c.1 + 1), (⟨c.1, b.Guest, b.Kind, b.Value⟩ : Event).Kind, (⟨c.1, b.Guest, b.Kind, b.Value⟩ : Event).Value⟩ : Event).Guest, f, (⟨(⟨c.1, b.Guest, b.Kind, b.Value⟩ : Event).Tick, w64 (c.1 + 1), (⟨c.1, b.Guest, b.Kind, b.Value⟩ : Event).Kind, (⟨c.1, b.Guest, b.Kind, b.Value⟩ : Event).Value⟩ : Event).Value⟩ : Event)).set c.2.1.toNat (⟨(⟨(⟨(⟨c.1, b.Guest, b.Kind, b.Value⟩ : Event).Tick, w64 (c.1 + 1), (⟨c.1, b.Guest, b.Kind, b.Value⟩ : Event).Kind, (⟨c.1, b.Guest, b.Kind, b.Value⟩ : Event).Value⟩ : Event).Tick, (⟨(⟨c.1, b.Guest, b.Kind, b.Value⟩ : Event).Tick, w64 (c.1 + 1), (⟨c.1, b.Guest, b.Kind, b.Value⟩ : Event).Kind, (⟨c.1, b.Guest, b.Kind, b.Value⟩ : Event).Value⟩ : Event).Guest, f, (⟨(⟨c.1, b.Guest, b.Kind, b.Value⟩ : Event).Tick, w64 (c.1 + 1), (⟨c.1, b.Guest, b.Kind, b.Value⟩ : Event).Kind, (⟨c.1, b.Guest, b.Kind, b.Value⟩ : Event).Value⟩ : Event).Value⟩ : Event).Tick, (⟨(⟨(⟨c.1, b.Guest, b.Kind, b.Value⟩ : Event).Tick, w64 (c.1 + 1), (⟨c.1, b.Guest, b.Kind, b.Value⟩ : Event).Kind, (⟨c.1, b.Guest, b.Kind, b.Value⟩ : Event).Value⟩ : Event).Tick, (⟨(⟨c.1, b.Guest, b.Kind, b.Value⟩ : Event).Tick, w64 (c.1 + 1), (⟨c.1, b.Guest, b.Kind, b.Value⟩ : Event).Kind, (⟨c.1, b.Guest, b.Kind, b.Value⟩ : Event).Value⟩ : Event).Guest, f, (⟨(⟨c.1, b.Guest, b.Kind, b.Value⟩ : Event).Tick, w64 (c.1 + 1), (⟨c.1, b.Guest, b.Kind, b.Value⟩ : Event).Kind, (⟨c.1, b.Guest, b.Kind, b.Value⟩ : Event).Value⟩ : Event).Value⟩ : Event).Guest, (⟨(⟨(⟨c.1, b.Guest, b.Kind, b.Value⟩ : Event).Tick, w64 (c.1 + 1), (⟨c.1, b.Guest, b.Kind, b.Value⟩ : Event).Kind, (⟨c.1, b.Guest, b.Kind, b.Value⟩ : Event).Value⟩ : Event).Tick, (⟨(⟨c.1, b.Guest, b.Kind, b.Value⟩ : Event).Tick, w64 (c.1 + 1), (⟨c.1, b.Guest, b.Kind, b.Value⟩ : Event).Kind, (⟨c.1, b.Guest, b.Kind, b.Value⟩ : Event).Value⟩ : Event).Guest, f, (⟨(⟨c.1, b.Guest, b.Kind, b.Value⟩ : Event).Tick, w64 (c.1 + 1), (⟨c.1, b.Guest, b.Kind, b.Value⟩ : Event).Kind, (⟨c.1, b.Guest, b.Kind, b.Value⟩ : Event).Value⟩ : Event).Value⟩ : Event).Kind, w64 ((w64 ((w64 (c.1 + 1)) + 1)) + 1)⟩ : Event)).length g) (by rw [@List.length_set _ (((c.2.2.set c.2.1.toNat (⟨c.1, b.Guest, b.Kind, b.Value⟩ : Event)).set c.2.1.toNat (⟨(⟨c.1, b.Guest, b.Kind, b.Value⟩ : Event).Tick, w64 (c.1 + 1), (⟨c.1, b.Guest, b.Kind, b.Value⟩ : Event).Kind, (⟨c.1, b.Guest, b.Kind, b.Value⟩ : Event).Value⟩ : Event)).set c.2.1.toNat (⟨(⟨(⟨c.1, b.Guest, b.Kind, b.Value⟩ : Event).Tick, w64 (c.1 + 1), (⟨c.1, b.Guest, b.Kind, b.Value⟩ : Event).Kind, (⟨c.1, b.Guest, b.Kind, b.Value⟩ : Event).Value⟩ : Event).Tick, (⟨(⟨c.1, b.Guest, b.Kind, b.Value⟩ : Event).Tick, w64 (c.1 + 1), (⟨c.1, b.Guest, b.Kind, b.Value⟩ : Event).Kind, (⟨c.1, b.Guest, b.Kind, b.Value⟩ : Event).Value⟩ : Event).Guest, f, (⟨(⟨c.1, b.Guest, b.Kind, b.Value⟩ : Event).Tick, w64 (c.1 + 1), (⟨c.1, b.Guest, b.Kind, b.Value⟩ : Event).Kind, (⟨c.1, b.Guest, b.Kind, b.Value⟩ : Event).Value⟩ : Event).Value⟩ : Event)) c.2.1.toNat (⟨(⟨(⟨(⟨c.1, b.Guest, b.Kind, b.Value⟩ : Event).Tick, w64 (c.1 + 1), (⟨c.1, b.Guest, b.Kind, b.Value⟩ : Event).Kind, (⟨c.1, b.Guest, b.Kind, b.Value⟩ : Event).Value⟩ : Event).Tick, (⟨(⟨c.1, b.Guest, b.Kind, b.Value⟩ : Event).Tick, w64 (c.1 + 1), (⟨c.1, b.Guest, b.Kind, b.Value⟩ : Event).Kind, (⟨c.1, b.Guest, b.Kind, b.Value⟩ : Event).Value⟩ : Event).Guest, f, (⟨(⟨c.1, b.Guest, b.Kind, b.Value⟩ : Event).Tick, w64 (c.1 + 1), (⟨c.1, b.Guest, b.Kind, b.Value⟩ : Event).Kind, (⟨c.1, b.Guest, b.Kind, b.Value⟩ : Event).Value⟩ : Event).Value⟩ : Event).Tick, (⟨(⟨(⟨c.1, b.Guest, b.Kind, b.Value⟩ : Event).Tick, w64 (c.1 + 1), (⟨c.1, b.Guest, b.Kind, b.Value⟩ : Event).Kind, (⟨c.1, b.Guest, b.Kind, b.Value⟩ : Event).Value⟩ : Event).Tick, (⟨(⟨c.1, b.Guest, b.Kind, b.Value⟩ : Event).Tick, w64 (c.1 + 1), (⟨c.1, b.Guest, b.Kind, b.Value⟩ : Event).Kind, (⟨c.1, b.Guest, b.Kind, b.Value⟩ : Event).Value⟩ : Event).Guest, f, (⟨(⟨c.1, b.Guest, b.Kind, b.Value⟩ : Event).Tick, w64 (c.1 + 1), (⟨c.1, b.Guest, b.Kind, b.Value⟩ : Event).Kind, (⟨c.1, b.Guest, b.Kind, b.Value⟩ : Event).Value⟩ : Event).Value⟩ : Event).Guest, (⟨(⟨(⟨c.1, b.Guest, b.Kind, b.Value⟩ : Event).Tick, w64 (c.1 + 1), (⟨c.1, b.Guest, b.Kind, b.Value⟩ : Event).Kind, (⟨c.1, b.Guest, b.Kind, b.Value⟩ : Event).Value⟩ : Event).Tick, (⟨(⟨c.1, b.Guest, b.Kind, b.Value⟩ : Event).Tick, w64 (c.1 + 1), (⟨c.1, b.Guest, b.Kind, b.Value⟩ : Event).Kind, (⟨c.1, b.Guest, b.Kind, b.Value⟩ : Event).Value⟩ : Event).Guest, f, (⟨(⟨c.1, b.Guest, b.Kind, b.Value⟩ : Event).Tick, w64 (c.1 + 1), (⟨c.1, b.Guest, b.Kind, b.Value⟩ : Event).Kind, (⟨c.1, b.Guest, b.Kind, b.Value⟩ : Event).Value⟩ : Event).Value⟩ : Event).Kind, w64 ((w64 ((w64 (c.1 + 1)) + 1)) + 1)⟩ : Event)]) ?_
   refine wX 34 (.slice d (((c.2.2.set c.2.1.toNat (⟨c.1, b.Guest, b.Kind, b.Value⟩ : Event)).set c.2.1.toNat (⟨(⟨c.1, b.Guest, b.Kind, b.Value⟩ : Event).Tick, w64 (c.1 + 1), (⟨c.1, b.Guest, b.Kind, b.Value⟩ : Event).Kind, (⟨c.1, b.Guest, b.Kind, b.Value⟩ : Event).Value⟩ : Event)).set c.2.1.toNat (⟨(⟨(⟨c.1, b.Guest, b.Kind, b.Value⟩ : Event).Tick, w64 (c.1 + 1), (⟨c.1, b.Guest, b.Kind, b.Value⟩ : Event).Kind, (⟨c.1, b.Guest, b.Kind, b.Value⟩ : Event).Value⟩ : Event).Tick, (⟨(⟨c.1, b.Guest, b.Kind, b.Value⟩ : Event).Tick, w64 (c.1 + 1), (⟨c.1, b.Guest, b.Kind, b.Value⟩ : Event).Kind, (⟨c.1, b.Guest, b.Kind, b.Value⟩ : Event).Value⟩ : Event).Guest, f, (⟨(⟨c.1, b.Guest, b.Kind, b.Value⟩ : Event).Tick, w64 (c.1 + 1), (⟨c.1, b.Guest, b.Kind, b.Value⟩ : Event).Kind, (⟨c.1, b.Guest, b.Kind, b.Value⟩ : Event).Value⟩ : Event).Value⟩ : Event)).length g) (.slice d ((((c.2.2.set c.2.1.toNat (⟨c.1, b.Guest, b.Kind, b.Value⟩ : Event)).set c.2.1.toNat (⟨(⟨c.1, b.Guest, b.Kind, b.Value⟩ : Event).Tick, w64 (c.1 + 1), (⟨c.1, b.Guest, b.Kind, b.Value⟩ : Event).Kind, (⟨c.1, b.Guest, b.Kind, b.Value⟩ : Event).Value⟩ : Event)).set c.2.1.toNat (⟨(⟨(⟨c.1, b.Guest, b.Kind, b.Value⟩ : Event).Tick, w64 (c.1 + 1), (⟨c.1, b.Guest, b.Kind, b.Value⟩ : Event).Kind, (⟨c.1, b.Guest, b.Kind, b.Value⟩ : Event).Value⟩ : Event).Tick, (⟨(⟨c.1, b.Guest, b.Kind, b.Value⟩ : Event).Tick, w64 (c.1 + 1), (⟨c.1, b.Guest, b.Kind, b.Value⟩ : Event).Kind, (⟨c.1, b.Guest, b.Kind, b.Value⟩ : Event).Value⟩ : Event).Guest, f, (⟨(⟨c.1, b.Guest, b.Kind, b.Value⟩ : Event).Tick, w64 (c.1 + 1), (⟨c.1, b.Guest, b.Kind, b.Value⟩ : Event).Kind, (⟨c.1, b.Guest, b.Kind, b.Value⟩ : Event).Value⟩ : Event).Value⟩ : Event)).set c.2.1.toNat (⟨(⟨(⟨(⟨c.1, b.Guest, b.Kind, b.Value⟩ : Event).Tick, w64 (c.1 + 1), (⟨c.1, b.Guest, b.Kind, b.Value⟩ : Event).Kind, (⟨c.1, b.Guest, b.Kind, b.Value⟩ : Event).Value⟩ : Event).Tick, (⟨(⟨c.1, b.Guest, b.Kind, b.Value⟩ : Event).Tick, w64 (c.1 + 1), (⟨c.1, b.Guest, b.Kind, b.Value⟩ : Event).Kind, (⟨c.1, b.Guest, b.Kind, b.Value⟩ : Event).Value⟩ : Event).Guest, f, (⟨(⟨c.1, b.Guest, b.Kind, b.Value⟩ : Event).Tick, w64 (c.1 + 1), (⟨c.1, b.Guest, b.Kind, b.Value⟩ : Event).Kind, (⟨c.1, b.Guest, b.Kind, b.Value⟩ : Event).Value⟩ : Event).Value⟩ : Event).Tick, (⟨(⟨(⟨c.1, b.Guest, b.Kind, b.Value⟩ : Event).Tick, w64 (c.1 + 1), (⟨c.1, b.Guest, b.Kind, b.Value⟩ : Event).Kind, (⟨c.1, b.Guest, b.Kind, b.Value⟩ : Event).Value⟩ : Event).Tick, (⟨(⟨c.1, b.Guest, b.Kind, b.Value⟩ : Event).Tick, w64 (c.1 + 1), (⟨c.1, b.Guest, b.Kind, b.Value⟩ : Event).Kind, (⟨c.1, b.Guest, b.Kind, b.Value⟩ : Event).Value⟩ : Event).Guest, f, (⟨(⟨c.1, b.Guest, b.Kind, b.Value⟩ : Event).Tick, w64 (c.1 + 1), (⟨c.1, b.Guest, b.Kind, b.Value⟩ : Event).Kind, (⟨c.1, b.Guest, b.Kind, b.Value⟩ : Event).Value⟩ : Event).Value⟩ : Event).Guest, (⟨(⟨(⟨c.1, b.Guest, b.Kind, b.Value⟩ : Event).Tick, w64 (c.1 + 1), (⟨c.1, b.Guest, b.Kind, b.Value⟩ : Event).Kind, (⟨c.1, b.Guest, b.Kind, b.Value⟩ : Event).Value⟩ : Event).Tick, (⟨(⟨c.1, b.Guest, b.Kind, b.Value⟩ : Event).Tick, w64 (c.1 + 1), (⟨c.1, b.Guest, b.Kind, b.Value⟩ : Event).Kind, (⟨c.1, b.Guest, b.Kind, b.Value⟩ : Event).Value⟩ : Event).Guest, f, (⟨(⟨c.1, b.Guest, b.Kind, b.Value⟩ : Event).Tick, w64 (c.1 + 1), (⟨c.1, b.Guest, b.Kind, b.Value⟩ : Event).Kind, (⟨c.1, b.Guest, b.Kind, b.Value⟩ : Event).Value⟩ : Event).Value⟩ : Event).Kind, w64 ((w64 ((w64 (c.1 + 1)) + 1)) + 1)⟩ : Event)).length g) (by rw [@List.length_set _ (((c.2.2.set c.2.1.toNat (⟨c.1, b.Guest, b.Kind, b.Value⟩ : Event)).set c.2.1.toNat (⟨(⟨c.1, b.Guest, b.Kind, b.Value⟩ : Event).Tick, w64 (c.1 + 1), (⟨c.1, b.Guest, b.Kind, b.Value⟩ : Event).Kind, (⟨c.1, b.Guest, b.Kind, b.Value⟩ : Event).Value⟩ : Event)).set c.2.1.toNat (⟨(⟨(⟨c.1, b.Guest, b.Kind, b.Value⟩ : Event).Tick, w64 (c.1 + 1), (⟨c.1, b.Guest, b.Kind, b.Value⟩ : Event).Kind, (⟨c.1, b.Guest, b.Kind, b.Value⟩ : Event).Value⟩ : Event).Tick, (⟨(⟨c.1, b.Guest, b.Kind, b.Value⟩ : Event).Tick, w64 (c.1 + 1), (⟨c.1, b.Guest, b.Kind, b.Value⟩ : Event).Kind, (⟨c.1, b.Guest, b.Kind, b.Value⟩ : Event).Value⟩ : Event).Guest, f, (⟨(⟨c.1, b.Guest, b.Kind, b.Value⟩ : Event).Tick, w64 (c.1 + 1), (⟨c.1, b.Guest, b.Kind, b.Value⟩ : Event).Kind, (⟨c.1, b.Guest, b.Kind, b.Value⟩ : Event).Value⟩ : Event).Value⟩ : Event)) c.2.1.toNat (⟨(⟨(⟨(⟨c.1, b.Guest, b.Kind, b.Value⟩ : Event).Tick, w64 (c.1 + 1), (⟨c.1, b.Guest, b.Kind, b.Value⟩ : Event).Kind, (⟨c.1, b.Guest, b.Kind, b.Value⟩ : Event).Value⟩ : Event).Tick, (⟨(⟨c.1, b.Guest, b.Kind, b.Value⟩ : Event).Tick, w64 (c.1 + 1), (⟨c.1, b.Guest, b.Kind, b.Value⟩ : Event).Kind, (⟨c.1, b.Guest, b.Kind, b.Value⟩ : Event).Value⟩ : Event).Guest, f, (⟨(⟨c.1, b.Guest, b.Kind, b.Value⟩ : Event).Tick, w64 (c.1 + 1), (⟨c.1, b.Guest, b.Kind, b.Value⟩ : Event).Kind, (⟨c.1, b.Guest, b.Kind, b.Value⟩ : Event).Value⟩ : Event).Value⟩ : Event).Tick, (⟨(⟨(⟨c.1, b.Guest, b.Kind, b.Value⟩ : Event).Tick, w64 (c.1 + 1), (⟨c.1, b.Guest, b.Kind, b.Value⟩ : Event).Kind, (⟨c.1, b.Guest, b.Kind, b.Value⟩ : Event).Value⟩ : Event).Tick, (⟨(⟨c.1, b.Guest, b.Kind, b.Value⟩ : Event).Tick, w64 (c.1 + 1), (⟨c.1, b.Guest, b.Kind, b.Value⟩ : Event).Kind, (⟨c.1, b.Guest, b.Kind, b.Value⟩ : Event).Value⟩ : Event).Guest, f, (⟨(⟨c.1, b.Guest, b.Kind, b.Value⟩ : Event).Tick, w64 (c.1 + 1), (⟨c.1, b.Guest, b.Kind, b.Value⟩ : Event).Kind, (⟨c.1, b.Guest, b.Kind, b.Value⟩ : Event).Value⟩ : Event).Value⟩ : Event).Guest, (⟨(⟨(⟨c.1, b.Guest, b.Kind, b.Value⟩ : Event).Tick, w64 (c.1 + 1), (⟨c.1, b.Guest, b.Kind, b.Value⟩ : Event).Kind, (⟨c.1, b.Guest, b.Kind, b.Value⟩ : Event).Value⟩ : Event).Tick, (⟨(⟨c.1, b.Guest, b.Kind, b.Value⟩ : Event).Tick, w64 (c.1 + 1), (⟨c.1, b.Guest, b.Kind, b.Value⟩ : Event).Kind, (⟨c.1, b.Guest, b.Kind, b.Value⟩ : Event).Value⟩ : Event).Guest, f, (⟨(⟨c.1, b.Guest, b.Kind, b.Value⟩ : Event).Tick, w64 (c.1 + 1), (⟨c.1, b.Guest, b.Kind, b.Value⟩ : Event).Kind, (⟨c.1, b.Guest, b.Kind, b.Value⟩ : Event).Value⟩ : Event).Value⟩ : Event).Kind, w64 ((w64 ((w64 (c.1 + 1)) + 1)) + 1)⟩ : Event)]) ?_
   refine W_nil (N_then (G_region (wR 3 [(0, .slice d ((((c.2.2.set c.2.1.toNat (⟨c.1, b.Guest, b.Kind, b.Value⟩ : Event)).set c.2.1.toNat (⟨(⟨c.1, b.Guest, b.Kind, b.Value⟩ : Event).Tick, w64 (c.1 + 1), (⟨c.1, b.Guest, b.Kind, b.Value⟩ : Event).Kind, (⟨c.1, b.Guest, b.Kind, b.Value⟩ : Event).Value⟩ : Event)).set c.2.1.toNat (⟨(⟨(⟨c.1, b.Guest, b.Kind, b.Value⟩ : Event).Tick, w64 (c.1 + 1), (⟨c.1, b.Guest, b.Kind, b.Value⟩ : Event).Kind, (⟨c.1, b.Guest, b.Kind, b.Value⟩ : Event).Value⟩ : Event).Tick, (⟨(⟨c.1, b.Guest, b.Kind, b.Value⟩ : Event).Tick, w64 (c.1 + 1), (⟨c.1, b.Guest, b.Kind, b.Value⟩ : Event).Kind, (⟨c.1, b.Guest, b.Kind, b.Value⟩ : Event).Value⟩ : Event).Guest, f, (⟨(⟨c.1, b.Guest, b.Kind, b.Value⟩ : Event).Tick, w64 (c.1 + 1), (⟨c.1, b.Guest, b.Kind, b.Value⟩ : Event).Kind, (⟨c.1, b.Guest, b.Kind, b.Value⟩ : Event).Value⟩ : Event).Value⟩ : Event)).set c.2.1.toNat (⟨(⟨(⟨(⟨c.1, b.Guest, b.Kind, b.Value⟩ : Event).Tick, w64 (c.1 + 1), (⟨c.1, b.Guest, b.Kind, b.Value⟩ : Event).Kind, (⟨c.1, b.Guest, b.Kind, b.Value⟩ : Event).Value⟩ : Event).Tick, (⟨(⟨c.1, b.Guest, b.Kind, b.Value⟩ : Event).Tick, w64 (c.1 + 1), (⟨c.1, b.Guest, b.Kind, b.Value⟩ : Event).Kind, (⟨c.1, b.Guest, b.Kind, b.Value⟩ : Event).Value⟩ : Event).Guest, f, (⟨(⟨c.1, b.Guest, b.Kind, b.Value⟩ : Event).Tick, w64 (c.1 + 1), (⟨c.1, b.Guest, b.Kind, b.Value⟩ : Event).Kind, (⟨c.1, b.Guest, b.Kind, b.Value⟩ : Event).Value⟩ : Event).Value⟩ : Event).Tick, (⟨(⟨(⟨c.1, b.Guest, b.Kind, b.Value⟩ : Event).Tick, w64 (c.1 + 1), (⟨c.1, b.Guest, b.Kind, b.Value⟩ : Event).Kind, (⟨c.1, b.Guest, b.Kind, b.Value⟩ : Event).Value⟩ : Event).Tick, (⟨(⟨c.1, b.Guest, b.Kind, b.Value⟩ : Event).Tick, w64 (c.1 + 1), (⟨c.1, b.Guest, b.Kind, b.Value⟩ : Event).Kind, (⟨c.1, b.Guest, b.Kind, b.Value⟩ : Event).Value⟩ : Event).Guest, f, (⟨(⟨c.1, b.Guest, b.Kind, b.Value⟩ : Event).Tick, w64 (c.1 + 1), (⟨c.1, b.Guest, b.Kind, b.Value⟩ : Event).Kind, (⟨c.1, b.Guest, b.Kind, b.Value⟩ : Event).Value⟩ : Event).Value⟩ : Event).Guest, (⟨(⟨(⟨c.1, b.Guest, b.Kind, b.Value⟩ : Event).Tick, w64 (c.1 + 1), (⟨c.1, b.Guest, b.Kind, b.Value⟩ : Event).Kind, (⟨c.1, b.Guest, b.Kind, b.Value⟩ : Event).Value⟩ : Event).Tick, (⟨(⟨c.1, b.Guest, b.Kind, b.Value⟩ : Event).Tick, w64 (c.1 + 1), (⟨c.1, b.Guest, b.Kind, b.Value⟩ : Event).Kind, (⟨c.1, b.Guest, b.Kind, b.Value⟩ : Event).Value⟩ : Event).Guest, f, (⟨(⟨c.1, b.Guest, b.Kind, b.Value⟩ : Event).Tick, w64 (c.1 + 1), (⟨c.1, b.Guest, b.Kind, b.Value⟩ : Event).Kind, (⟨c.1, b.Guest, b.Kind, b.Value⟩ : Event).Value⟩ : Event).Value⟩ : Event).Kind, w64 ((w64 ((w64 (c.1 + 1)) + 1)) + 1)⟩ : Event)).length g), (1, iv (w64 ((w64 ((w64 ((w64 (c.1 + 1)) + 1)) + 1)) + 1))), (5, iv c.2.1)] N (W_nil (N_block (N_then (G_region (wR 3 [(0, .slice d ((((c.2.2.set c.2.1.toNat (⟨c.1, b.Guest, b.Kind, b.Value⟩ : Event)).set c.2.1.toNat (⟨(⟨c.1, b.Guest, b.Kind, b.Value⟩ : Event).Tick, w64 (c.1 + 1), (⟨c.1, b.Guest, b.Kind, b.Value⟩ : Event).Kind, (⟨c.1, b.Guest, b.Kind, b.Value⟩ : Event).Value⟩ : Event)).set c.2.1.toNat (⟨(⟨(⟨c.1, b.Guest, b.Kind, b.Value⟩ : Event).Tick, w64 (c.1 + 1), (⟨c.1, b.Guest, b.Kind, b.Value⟩ : Event).Kind, (⟨c.1, b.Guest, b.Kind, b.Value⟩ : Event).Value⟩ : Event).Tick, (⟨(⟨c.1, b.Guest, b.Kind, b.Value⟩ : Event).Tick, w64 (c.1 + 1), (⟨c.1, b.Guest, b.Kind, b.Value⟩ : Event).Kind, (⟨c.1, b.Guest, b.Kind, b.Value⟩ : Event).Value⟩ : Event).Guest, f, (⟨(⟨c.1, b.Guest, b.Kind, b.Value⟩ : Event).Tick, w64 (c.1 + 1), (⟨c.1, b.Guest, b.Kind, b.Value⟩ : Event).Kind, (⟨c.1, b.Guest, b.Kind, b.Value⟩ : Event).Value⟩ : Event).Value⟩ : Event)).set c.2.1.toNat (⟨(⟨(⟨(⟨c.1, b.Guest, b.Kind, b.Value⟩ : Event).Tick, w64 (c.1 + 1), (⟨c.1, b.Guest, b.Kind, b.Value⟩ : Event).Kind, (⟨c.1, b.Guest, b.Kind, b.Value⟩ : Event).Value⟩ : Event).Tick, (⟨(⟨c.1, b.Guest, b.Kind, b.Value⟩ : Event).Tick, w64 (c.1 + 1), (⟨c.1, b.Guest, b.Kind, b.Value⟩ : Event).Kind, (⟨c.1, b.Guest, b.Kind, b.Value⟩ : Event).Value⟩ : Event).Guest, f, (⟨(⟨c.1, b.Guest, b.Kind, b.Value⟩ : Event).Tick, w64 (c.1 + 1), (⟨c.1, b.Guest, b.Kind, b.Value⟩ : Event).Kind, (⟨c.1, b.Guest, b.Kind, b.Value⟩ : Event).Value⟩ : Event).Value⟩ : Event).Tick, (⟨(⟨(⟨c.1, b.Guest, b.Kind, b.Value⟩ : Event).Tick, w64 (c.1 + 1), (⟨c.1, b.Guest, b.Kind, b.Value⟩ : Event).Kind, (⟨c.1, b.Guest, b.Kind, b.Value⟩ : Event).Value⟩ : Event).Tick, (⟨(⟨c.1, b.Guest, b.Kind, b.Value⟩ : Event).Tick, w64 (c.1 + 1), (⟨c.1, b.Guest, b.Kind, b.Value⟩ : Event).Kind, (⟨c.1, b.Guest, b.Kind, b.Value⟩ : Event).Value⟩ : Event).Guest, f, (⟨(⟨c.1, b.Guest, b.Kind, b.Value⟩ : Event).Tick, w64 (c.1 + 1), (⟨c.1, b.Guest, b.Kind, b.Value⟩ : Event).Kind, (⟨c.1, b.Guest, b.Kind, b.Value⟩ : Event).Value⟩ : Event).Value⟩ : Event).Guest, (⟨(⟨(⟨c.1, b.Guest, b.Kind, b.Value⟩ : Event).Tick, w64 (c.1 + 1), (⟨c.1, b.Guest, b.Kind, b.Value⟩ : Event).Kind, (⟨c.1, b.Guest, b.Kind, b.Value⟩ : Event).Value⟩ : Event).Tick, (⟨(⟨c.1, b.Guest, b.Kind, b.Value⟩ : Event).Tick, w64 (c.1 + 1), (⟨c.1, b.Guest, b.Kind, b.Value⟩ : Event).Kind, (⟨c.1, b.Guest, b.Kind, b.Value⟩ : Event).Value⟩ : Event).Guest, f, (⟨(⟨c.1, b.Guest, b.Kind, b.Value⟩ : Event).Tick, w64 (c.1 + 1), (⟨c.1, b.Guest, b.Kind, b.Value⟩ : Event).Kind, (⟨c.1, b.Guest, b.Kind, b.Value⟩ : Event).Value⟩ : Event).Value⟩ : Event).Kind, w64 ((w64 ((w64 (c.1 + 1)) + 1)) + 1)⟩ : Event)).length g), (1, iv (w64 ((w64 ((w64 ((w64 (c.1 + 1)) + 1)) + 1)) + 1))), (5, iv (w64 (c.2.1 + 1)))] N ?_))))))))
   refine W_nil ?_
   obtain rfl := Option.some.inj hm
   exact N_loop fun a ha => ⟨_, rfl, af, Y, (List.length_set.trans (List.length_set.trans (List.length_set.trans (List.length_set.trans J)))), Q.pk [0], ha.s⟩
  refine gF B (G_exit (N_then_exit (N_then_exit (N_block_eq ?_))))
  obtain rfl := Option.some.inj hm
  obtain rfl := Z _ rfl
  exact N_meet fun a ha => ⟨n, l, J, k.pk [0], ha.s⟩
 intro ai ag ⟨o, X, U, R, T⟩
 refine N_use T ?_
 have hm := V
 refine N_then (G_seq (G_region (wR 2 [(4, iv j.1)] ag (W_nil (N_then (G_ret ?_))))))
 obtain rfl := Option.some.inj hm
 exact N_ret [iv j.1] (rC RVs_nil) (⟨o, rfl, X, U, R.pk [0]⟩)
theorem c_l_heldEventS (w : World) (d : List Event) (c : Option Addr) (f : Nat) (h : rdS encEvent w d c f) (o : Int) {r : Int} (hm : M.l_heldEventS d o = some r) :
  Calls Try.prog 29 #[.slice c d.length f, iv o] w fun e w' => e = .returned (iv r) ∧ Mem [] w w' [] := by
 unfold M.l_heldEventS at hm
 refine cE Try.func29 ?_
 have M0 := Mem.refl [] w
 refine G_seq (G_region (wR 1 [(0, .slice c d.length f), (1, iv o)] w (W_nil (N_then (G_seq (G_seq (G_region (wR 1 [(0, .slice c d.length f), (1, iv o), (5, iv 0)] w (W_nil (N_then ?_))))))))))
 obtain ⟨N, L, l⟩ := gx_bind hm
 refine G_meet (fun a w' => ∃ (n : Int), N = .inl n ∧ Mem [] w w' [] ∧ Sat Try.f29.ntmps [(1, iv n)] a) ?_ ?_
 ·refine G_block (G_while (σ := Int × Int) (ρ := (Int) ⊕ (Int)) (fun b a w' => Mem [] w w' [] ∧ Sat Try.f29.ntmps [(0, .slice c d.length f), (1, iv b.1), (5, iv b.2)] a) L (fun a ha => ⟨M0.pk [], ha.s⟩) ?_)
  clear hm
  intro b R hm m P g ⟨i, I⟩
  refine G_use I (G_seq (G_seq (G_region (wR 4 [(0, .slice c d.length f), (1, iv b.1), (5, iv b.2), (9, .bool (decide (b.2 < (d.length : Int))))] g (W_nil (N_then ?_))))))
  rcases gx_bif hm with ⟨t, hm⟩ | ⟨t, hm⟩
  ·refine gT t (G_skip (N_then (G_seq (G_block (G_seq (G_seq (G_region (wR 2 [(0, .slice c d.length f), (1, iv b.1), (5, iv b.2), (12, .slice c d.length f), (13, iv b.2)] g ?_))))))))
   obtain ⟨E, z, hm⟩ := gx_bind hm
   refine wV (elemP c (b.2.toNat * 4)) g (eI (h.mem0 i) rfl z) (wV (elemP c (b.2.toNat * 4 + 0)) g (eF 0 (b.2.toNat * 4) 0 (h.mem0 i) z) (wV (iv E.Tick) g (eE false 1 0 (b.2.toNat * 4 + 0) (h.mem0 i) z) (wR 2 [(0, .slice c d.length f), (1, iv b.1), (5, iv b.2), (18, .bool (E.Tick != b.1))] g (W_nil (N_then ?_)))))
   rcases gx_bif hm with ⟨u, hm⟩ | ⟨u, hm⟩
   ·refine gT u (G_seq (G_region (wR 1 [(4, iv (-1))] g (W_nil (N_then (G_ret (N_then_ret (N_block_ret (N_then_ret (N_then_ret ?_))))))))))
    obtain rfl := Option.some.inj hm
    obtain rfl := m _ rfl
    have hm := l; simp only [Sum.elim_inr] at hm
    refine N_block_ret (N_meet_ret (N_then_ret ?_))
    obtain rfl := Option.some.inj hm
    exact N_ret [iv (-1)] (rC RVs_nil) (⟨rfl, i.pk []⟩)
   refine gF u (G_skip (N_then (G_seq (G_region (wR 3 [(0, .slice c d.length f), (1, iv (w64 (b.1 + 1))), (5, iv b.2)] g (W_nil (N_then (G_seq (G_seq (G_region (wR 2 [(0, .slice c d.length f), (1, iv (w64 (b.1 + 1))), (5, iv b.2), (21, .slice c d.length f), (22, iv b.2)] g ?_)))))))))))
   obtain ⟨F, A, hm⟩ := gx_bind hm
   refine wV (elemP c (b.2.toNat * 4)) g (eI (h.mem0 i) rfl A) (wV (elemP c (b.2.toNat * 4 + 1)) g (eF 1 (b.2.toNat * 4) 1 (h.mem0 i) A) (wV (iv F.Guest) g (eE false 1 1 (b.2.toNat * 4 + 1) (h.mem0 i) A) (wR 2 [(0, .slice c d.length f), (1, iv (w64 (b.1 + 1))), (5, iv b.2), (27, .bool (F.Guest != (w64 (b.1 + 1))))] g (W_nil (N_then ?_)))))
   rcases gx_bif hm with ⟨v, hm⟩ | ⟨v, hm⟩
   ·refine gT v (G_seq (G_region (wR 1 [(4, iv (-1))] g (W_nil (N_then (G_ret (N_then_ret (N_block_ret (N_then_ret (N_then_ret ?_))))))))))
    obtain rfl := Option.some.inj hm
    obtain rfl := m _ rfl
    have hm := l; simp only [Sum.elim_inr] at hm
    refine N_block_ret (N_meet_ret (N_then_ret ?_))
    obtain rfl := Option.some.inj hm
    exact N_ret [iv (-1)] (rC RVs_nil) (⟨rfl, i.pk []⟩)
   refine gF v (G_skip (N_then (G_seq (G_region (wR 3 [(0, .slice c d.length f), (1, iv (w64 ((w64 (b.1 + 1)) + 1))), (5, iv b.2)] g (W_nil (N_then (G_seq (G_seq (G_quiet (by kernel_rfl) (by kernel_rfl) i (zR [.slice c d.length f, iv b.2] [(0, .slice c d.length f), (1, iv (w64 ((w64 (b.1 + 1)) + 1))), (5, iv b.2), (30, .slice c d.length f), (31, iv b.2)] ?_)))))))))))
   obtain ⟨q, B, hm⟩ := gx_bind hm
   refine zV (elemP c (b.2.toNat * 4)) (fun w_ M_ => (eI (h.mem0 M_) rfl B)) (zV (elemP c (b.2.toNat * 4 + 2)) (fun w_ M_ => (eF 2 (b.2.toNat * 4) 2 (h.mem0 M_) B)) (zV (.string q.Kind) (fun w_ M_ => (eE false 1 2 (b.2.toNat * 4 + 2) (h.mem0 M_) B)) (zR [iv (w64 ((w64 (b.1 + 1)) + 1))] [(0, .slice c d.length f), (1, iv (w64 ((w64 (b.1 + 1)) + 1))), (5, iv b.2), (34, .string q.Kind), (35, iv (w64 ((w64 (b.1 + 1)) + 1)))] ?_)))
   obtain ⟨D, K, hm⟩ := gx_bind hm
   refine Z_call 64 #[iv (w64 ((w64 (b.1 + 1)) + 1))] (.string D) (by kernel_rfl) (fun w_ => by kernel_rfl) (fun w_ M_ => (c_l_markText w_ (w64 ((w64 (b.1 + 1)) + 1)) K).mono fun e w2_ h_ => ⟨h_.1, M_.call0 h_.2⟩) (zR [.bool (!(q.Kind.toList == D.toList))] [(0, .slice c d.length f), (1, iv (w64 ((w64 (b.1 + 1)) + 1))), (5, iv b.2), (37, .bool (!(q.Kind.toList == D.toList)))] (Z_end fun j k => (N_then ?_)))
   rcases gx_bif hm with ⟨x, hm⟩ | ⟨x, hm⟩
   ·refine gT x (G_seq (G_region (wR 1 [(4, iv (-1))] j (W_nil (N_then (G_ret (N_then_ret (N_block_ret (N_then_ret (N_then_ret ?_))))))))))
    obtain rfl := Option.some.inj hm
    obtain rfl := m _ rfl
    have hm := l; simp only [Sum.elim_inr] at hm
    refine N_block_ret (N_meet_ret (N_then_ret ?_))
    obtain rfl := Option.some.inj hm
    exact N_ret [iv (-1)] (rC RVs_nil) (⟨rfl, k.pk []⟩)
   refine gF x (G_skip (N_then (G_seq (G_region (wR 3 [(0, .slice c d.length f), (1, iv (w64 ((w64 ((w64 (b.1 + 1)) + 1)) + 1))), (5, iv b.2)] j (W_nil (N_then (G_seq (G_seq (G_region (wR 2 [(0, .slice c d.length f), (1, iv (w64 ((w64 ((w64 (b.1 + 1)) + 1)) + 1))), (5, iv b.2), (40, .slice c d.length f), (41, iv b.2)] j ?_)))))))))))
   obtain ⟨G, C, hm⟩ := gx_bind hm
   refine wV (elemP c (b.2.toNat * 4)) j (eI (h.mem0 k) rfl C) (wV (elemP c (b.2.toNat * 4 + 3)) j (eF 3 (b.2.toNat * 4) 3 (h.mem0 k) C) (wV (iv G.Value) j (eE false 1 3 (b.2.toNat * 4 + 3) (h.mem0 k) C) (wR 2 [(0, .slice c d.length f), (1, iv (w64 ((w64 ((w64 (b.1 + 1)) + 1)) + 1))), (5, iv b.2), (46, .bool (G.Value != (w64 ((w64 ((w64 (b.1 + 1)) + 1)) + 1))))] j (W_nil (N_then ?_)))))
   rcases gx_bif hm with ⟨y, hm⟩ | ⟨y, hm⟩
   ·refine gT y (G_seq (G_region (wR 1 [(4, iv (-1))] j (W_nil (N_then (G_ret (N_then_ret (N_block_ret (N_then_ret (N_then_ret ?_))))))))))
    obtain rfl := Option.some.inj hm
    obtain rfl := m _ rfl
    have hm := l; simp only [Sum.elim_inr] at hm
    refine N_block_ret (N_meet_ret (N_then_ret ?_))
    obtain rfl := Option.some.inj hm
    exact N_ret [iv (-1)] (rC RVs_nil) (⟨rfl, k.pk []⟩)
   refine gF y (G_skip (N_then (G_region (wR 3 [(0, .slice c d.length f), (1, iv (w64 ((w64 ((w64 ((w64 (b.1 + 1)) + 1)) + 1)) + 1))), (5, iv b.2)] j (W_nil (N_block (N_then (G_region (wR 3 [(0, .slice c d.length f), (1, iv (w64 ((w64 ((w64 ((w64 (b.1 + 1)) + 1)) + 1)) + 1))), (5, iv (w64 (b.2 + 1)))] j (W_nil ?_))))))))))
   obtain rfl := Option.some.inj hm
   exact N_loop fun a ha => ⟨_, rfl, k.pk [], ha.s⟩
  refine gF t (G_exit (N_then_exit (N_then_exit (N_block_eq ?_))))
  obtain rfl := Option.some.inj hm
  obtain rfl := m _ rfl
  exact N_meet fun a ha => ⟨_, rfl, i.pk [], ha.s⟩
 intro Q O ⟨n, hout_, H, J⟩
 refine N_use J ?_
 subst hout_
 have hm := l; simp only [Sum.elim_inl] at hm
 refine N_then (G_seq (G_region (wR 2 [(4, iv n)] O (W_nil (N_then (G_ret ?_))))))
 obtain rfl := Option.some.inj hm
 exact N_ret [iv n] (rC RVs_nil) (⟨rfl, H.pk []⟩)
theorem c_l_FnExactEventsOf (w : World) (c : List Event) (g : Option Addr) (d : Nat) (x : rdS encEvent w c g d) (i : Int) {r : Bool} (hm : M.l_FnExactEventsOf c i = some r) :
  Calls Try.prog 7 #[.slice g c.length d, iv i] w fun e w' => e = .returned (.bool r) ∧ Mem [] w w' [] := by
 unfold M.l_FnExactEventsOf at hm
 refine cE Try.func7 ?_
 have M0 := Mem.refl [] w
 refine G_seq (G_region (wR 1 [(0, .slice g c.length d), (1, iv i)] w (W_nil (N_then (G_seq (G_region (wR 1 [(0, .slice g c.length d), (1, iv i), (5, iv 1048576)] w (W_nil (N_then (G_seq (G_region (wR 2 [(0, .slice g c.length d), (1, iv i), (5, iv 1048576), (16, .slice g c.length d), (17, iv 1048576)] w ?_))))))))))))
 obtain ⟨bh, ch, hm⟩ := gx_bind hm
 refine wC 17 #[.slice g c.length d, iv 1048576] ((c_l_szEventS w c g d (x.mem0 M0) 1048576 ch).mono ?_)
 rintro e_ y ⟨rfl, bn⟩
 have O := M0.call0 bn
 refine ⟨_, rfl, ?_⟩
 refine wR 1 [(0, .slice g c.length d), (1, iv i), (5, iv bh)] y (W_nil (N_then (G_seq (G_seq (G_region (wR 2 [(0, .slice g c.length d), (1, iv i), (20, .bool (decide (bh < 0)))] y (W_nil (N_then ?_))))))))
 rcases gx_bif hm with ⟨X, hm⟩ | ⟨X, hm⟩
 ·refine gT X (G_seq (G_region (wR 1 [(4, .bool true)] y (W_nil (N_then (G_ret (N_then_ret ?_)))))))
  obtain rfl := Option.some.inj hm
  exact N_ret [.bool true] (rC RVs_nil) (⟨rfl, O.pk []⟩)
 refine gF X (G_skip (N_then (G_seq (G_region (wR 1 [(0, .slice g c.length d), (1, iv i), (22, .slice g c.length d)] y ?_)))))
 obtain ⟨ap, ci, hm⟩ := gx_bind hm
 refine wC 19 #[.slice g c.length d] ((c_l_toEventS y c g d (x.mem0 O) ci).mono ?_)
 rintro e_ bl ⟨an, V, da, rfl, ca, bo⟩
 have a5 := O.call bo
 refine ⟨_, rfl, ?_⟩
 refine wR 1 [(0, .slice g c.length d), (1, iv i), (23, .slice an ap.length V), (24, iv i)] bl ?_
 obtain ⟨b, cj, hm⟩ := gx_bind hm
 refine wC 26 #[.slice an ap.length V, iv i] ((c_s_EventsOf bl ap an V (ca.rd a5 0 (by kernel_rfl)) i cj).mono ?_)
 rintro e_ av ⟨m, l, bj, rfl, ak, bp⟩
 have a6 := a5.call bp
 refine ⟨_, rfl, ?_⟩
 refine wR 5 [(0, .slice g c.length d), (1, iv i), (6, .slice m b.1.length l), (7, .bool b.2)] av (W_nil (N_then (G_seq (G_region (wR 1 [(0, .slice g c.length d), (1, iv i), (6, .slice m b.1.length l), (7, .bool b.2), (28, .slice g c.length d)] av ?_)))))
 obtain ⟨q, ck, hm⟩ := gx_bind hm
 refine wC 19 #[.slice g c.length d] ((c_l_toEventS av c g d (x.mem0 a6) ck).mono ?_)
 rintro e_ aw ⟨o, n, bk, rfl, al, bq⟩
 have a7 := a6.call bq
 refine ⟨_, rfl, ?_⟩
 refine wR 1 [(0, .slice g c.length d), (1, iv i), (6, .slice m b.1.length l), (7, .bool b.2), (8, .slice o q.length n)] aw (W_nil (N_then (G_seq (G_region (wR 2 [(0, .slice g c.length d), (1, iv i), (6, .slice m b.1.length l), (7, .bool b.2), (8, .slice o q.length n), (31, .slice o q.length n), (32, iv i)] aw ?_)))))
 obtain ⟨j, cl, hm⟩ := gx_bind hm
 refine wC 27 #[.slice o q.length n, iv i] ((c_i_EventsOf aw q o n (al.rd a7 2 (by kernel_rfl)) i cl).mono ?_)
 rintro e_ ax ⟨h, f, au, rfl, am, br⟩
 have P := a7.call br
 refine ⟨_, rfl, ?_⟩
 refine wR 5 [(0, .slice g c.length d), (1, iv i), (6, .slice m b.1.length l), (7, .bool b.2), (8, .slice o q.length n), (9, .slice h j.1.length f), (10, .bool j.2)] ax (W_nil (N_then (G_seq (G_seq ?_))))
 obtain ⟨cx, cb, b7⟩ := gx_bind hm
 refine G_meet (fun a w' => Mem [] w w' [bj, bk, au] ∧ Sat Try.f7.ntmps [(0, .slice g c.length d), (1, iv i), (6, .slice m b.1.length l), (7, .bool b.2), (8, .slice o q.length n), (9, .slice h j.1.length f), (10, .bool j.2), (44, .bool cx)] a) ?_ ?_
 ·have hm := cb
  refine G_region (wR 2 [(0, .slice g c.length d), (1, iv i), (6, .slice m b.1.length l), (7, .bool b.2), (8, .slice o q.length n), (9, .slice h j.1.length f), (10, .bool j.2), (36, .slice h j.1.length f), (37, .slice m b.1.length l)] ax ?_)
  obtain ⟨c0, cm, hm⟩ := gx_bind hm
  refine wC 21 #[.slice h j.1.length f, .slice m b.1.length l] ((c_l_eqEventS ax j.1 h f (am.rd P 3 (by kernel_rfl)) b.1 m l (ak.rd P 1 (by kernel_rfl)) cm).mono ?_)
  rintro e_ ay ⟨rfl, bs⟩
  have a8 := P.call0 bs
  refine ⟨_, rfl, ?_⟩
  refine wR 2 [(0, .slice g c.length d), (1, iv i), (6, .slice m b.1.length l), (7, .bool b.2), (8, .slice o q.length n), (9, .slice h j.1.length f), (10, .bool j.2), (40, .bool (!c0))] ay ?_
  rcases gx_bif hm with ⟨Y, hm⟩ | ⟨Y, hm⟩
  ·refine wK 40 true Y (wR 4 [(0, .slice g c.length d), (1, iv i), (6, .slice m b.1.length l), (7, .bool b.2), (8, .slice o q.length n), (9, .slice h j.1.length f), (10, .bool j.2), (44, .bool true)] ay (W_nil ?_))
   obtain rfl := Option.some.inj hm
   exact N_meet fun a ha => ⟨a8.pk [1, 2, 3], ha.s⟩
  refine wK 40 false Y (wR 4 [(0, .slice g c.length d), (1, iv i), (6, .slice m b.1.length l), (7, .bool b.2), (8, .slice o q.length n), (9, .slice h j.1.length f), (10, .bool j.2), (44, .bool (!(j.2 == b.2)))] ay (W_nil ?_))
  obtain rfl := Option.some.inj hm
  exact N_meet fun a ha => ⟨a8.pk [1, 2, 3], ha.s⟩
 intro c6 az ⟨Q, b4⟩
 refine N_use b4 ?_
 have hm := b7
 refine N_then ?_
 rcases gx_bif hm with ⟨Z, hm⟩ | ⟨Z, hm⟩
 ·refine gT Z (G_seq (G_region (wR 1 [(4, .bool false)] az (W_nil (N_then (G_ret (N_then_ret ?_)))))))
  obtain rfl := Option.some.inj hm
  exact N_ret [.bool false] (rC RVs_nil) (⟨rfl, Q.pk []⟩)
 refine gF Z (G_skip (N_then (G_seq (G_seq (G_region (wR 2 [(0, .slice g c.length d), (1, iv i), (6, .slice m b.1.length l), (7, .bool b.2), (8, .slice o q.length n), (9, .slice h j.1.length f), (10, .bool j.2), (45, .slice o q.length n), (46, .slice g c.length d)] az ?_))))))
 obtain ⟨bi, cn, hm⟩ := gx_bind hm
 refine wC 19 #[.slice g c.length d] ((c_l_toEventS az c g d (x.mem0 Q) cn).mono ?_)
 rintro e_ c5 ⟨bg, bd, db, rfl, cc, bt⟩
 have R := Q.call bt
 refine ⟨_, rfl, ?_⟩
 obtain ⟨c1, co, hm⟩ := gx_bind hm
 refine wC 21 #[.slice o q.length n, .slice bg bi.length bd] ((c_l_eqEventS c5 q o n (al.rd R 1 (by kernel_rfl)) bi bg bd (cc.rd R 3 (by kernel_rfl)) co).mono ?_)
 rintro e_ z ⟨rfl, bu⟩
 have B := R.call0 bu
 refine ⟨_, rfl, ?_⟩
 refine wR 1 [(0, .slice g c.length d), (1, iv i), (6, .slice m b.1.length l), (7, .bool b.2), (8, .slice o q.length n), (9, .slice h j.1.length f), (10, .bool j.2), (49, .bool (!c1))] z (W_nil (N_then ?_))
 rcases gx_bif hm with ⟨aa, hm⟩ | ⟨aa, hm⟩
 ·refine gT aa (G_seq (G_region (wR 1 [(4, .bool false)] z (W_nil (N_then (G_ret (N_then_ret ?_)))))))
  obtain rfl := Option.some.inj hm
  exact N_ret [.bool false] (rC RVs_nil) (⟨rfl, B.pk []⟩)
 refine gF aa (G_skip (N_then (G_seq (G_region (wR 1 [(0, .slice g c.length d), (1, iv i), (6, .slice m b.1.length l), (7, .bool b.2), (8, .slice o q.length n), (9, .slice h j.1.length f), (10, .bool j.2), (11, iv 1)] z (W_nil (N_then (G_seq (G_region (wR 2 [(0, .slice g c.length d), (1, iv i), (6, .slice m b.1.length l), (7, .bool b.2), (9, .slice h j.1.length f), (10, .bool j.2), (11, iv 1), (50, .slice o q.length n), (51, iv 1)] z ?_))))))))))
 obtain ⟨aq, cp, hm⟩ := gx_bind hm
 refine wC 28 #[.slice o q.length n, iv 1] ((c_l_markEventS z q o n bk al 1 (B.hasPick [1]) (B.nodupPick [1] (by kernel_rfl)) cp).mono ?_)
 rintro e_ A ⟨dc, rfl, c9, be, bv⟩
 have C := B.callF' [1] [0, 2, 3] (by kernel_rfl) bv
 refine ⟨_, rfl, ?_⟩
 refine wX 50 (.slice o q.length n) (.slice o aq.2.length n) (by first | rw [be] | rw [be]) (wR 1 [(0, .slice g c.length d), (1, iv i), (6, .slice m b.1.length l), (7, .bool b.2), (9, .slice h j.1.length f), (10, .bool j.2), (11, iv aq.1)] A (W_nil (N_then (G_seq (G_seq ?_)))))
 obtain ⟨cy, cd, b8⟩ := gx_bind hm
 refine G_meet (fun a w' => Mem [] w w' [bj, au] ∧ Sat Try.f7.ntmps [(0, .slice g c.length d), (1, iv i), (6, .slice m b.1.length l), (7, .bool b.2), (9, .slice h j.1.length f), (65, .bool cy)] a) ?_ ?_
 ·have hm := cd
  refine G_region (wR 3 [(0, .slice g c.length d), (1, iv i), (6, .slice m b.1.length l), (7, .bool b.2), (9, .slice h j.1.length f), (10, .bool j.2), (55, .bool (decide (aq.1 < 0)))] A ?_)
  rcases gx_bif hm with ⟨ab, hm⟩ | ⟨ab, hm⟩
  ·refine wK 55 true ab (wR 10 [(0, .slice g c.length d), (1, iv i), (6, .slice m b.1.length l), (7, .bool b.2), (9, .slice h j.1.length f), (65, .bool true)] A (W_nil ?_))
   obtain rfl := Option.some.inj hm
   exact N_meet fun a ha => ⟨C.pk [0, 1], ha.s⟩
  refine wK 55 false ab (wR 2 [(0, .slice g c.length d), (1, iv i), (6, .slice m b.1.length l), (7, .bool b.2), (9, .slice h j.1.length f), (10, .bool j.2), (55, .bool false), (56, .slice h j.1.length f), (57, .slice m b.1.length l)] A ?_)
  obtain ⟨c2, cq, hm⟩ := gx_bind hm
  refine wC 21 #[.slice h j.1.length f, .slice m b.1.length l] ((c_l_eqEventS A j.1 h f (am.rd C 1 (by kernel_rfl)) b.1 m l (ak.rd C 0 (by kernel_rfl)) cq).mono ?_)
  rintro e_ a0 ⟨rfl, bw⟩
  have a9 := C.call0 bw
  refine ⟨_, rfl, ?_⟩
  refine wR 3 [(0, .slice g c.length d), (1, iv i), (6, .slice m b.1.length l), (7, .bool b.2), (9, .slice h j.1.length f), (10, .bool j.2), (61, .bool (!c2))] a0 ?_
  rcases gx_bif hm with ⟨ac, hm⟩ | ⟨ac, hm⟩
  ·refine wK 61 true ac (wR 4 [(0, .slice g c.length d), (1, iv i), (6, .slice m b.1.length l), (7, .bool b.2), (9, .slice h j.1.length f), (65, .bool true)] a0 (W_nil ?_))
   obtain rfl := Option.some.inj hm
   exact N_meet fun a ha => ⟨a9.pk [0, 1], ha.s⟩
  refine wK 61 false ac (wR 4 [(0, .slice g c.length d), (1, iv i), (6, .slice m b.1.length l), (7, .bool b.2), (9, .slice h j.1.length f), (65, .bool (!(j.2 == b.2)))] a0 (W_nil ?_))
  obtain rfl := Option.some.inj hm
  exact N_meet fun a ha => ⟨a9.pk [0, 1], ha.s⟩
 intro c7 K ⟨D, b5⟩
 refine N_use b5 ?_
 have hm := b8
 refine N_then ?_
 rcases gx_bif hm with ⟨ad, hm⟩ | ⟨ad, hm⟩
 ·refine gT ad (G_seq (G_region (wR 1 [(4, .bool false)] K (W_nil (N_then (G_ret (N_then_ret ?_)))))))
  obtain rfl := Option.some.inj hm
  exact N_ret [.bool false] (rC RVs_nil) (⟨rfl, D.pk []⟩)
 refine gF ad (G_skip (N_then (G_seq (G_region (wR 1 [(0, .slice g c.length d), (1, iv i), (6, .slice m b.1.length l), (7, .bool b.2), (9, .slice h j.1.length f), (12, iv 1)] K (W_nil (N_then (G_seq (G_region (wR 2 [(0, .slice g c.length d), (1, iv i), (6, .slice m b.1.length l), (7, .bool b.2), (9, .slice h j.1.length f), (12, iv 1), (66, .slice h j.1.length f), (67, iv 1)] K ?_))))))))))
 obtain ⟨k, cr, hm⟩ := gx_bind hm
 refine wC 28 #[.slice h j.1.length f, iv 1] ((c_l_markEventS K j.1 h f au am 1 (D.hasPick [1]) (D.nodupPick [1] (by kernel_rfl)) cr).mono ?_)
 rintro e_ L ⟨c4, rfl, bf, G, bx⟩
 have ba := D.callF' [1] [0] (by kernel_rfl) bx
 refine ⟨_, rfl, ?_⟩
 refine wX 9 (.slice h j.1.length f) (.slice h k.2.length f) (by first | rw [G] | rw [G]) (wX 66 (.slice h j.1.length f) (.slice h k.2.length f) (by first | rw [G] | rw [G]) (wR 1 [(0, .slice g c.length d), (1, iv i), (6, .slice m b.1.length l), (7, .bool b.2), (9, .slice h k.2.length f), (12, iv k.1)] L (W_nil (N_then (G_seq (G_region (wR 1 [(0, .slice g c.length d), (1, iv i), (6, .slice m b.1.length l), (7, .bool b.2), (9, .slice h k.2.length f), (12, iv k.1), (13, iv 1)] L (W_nil (N_then (G_seq (G_region (wR 2 [(0, .slice g c.length d), (1, iv i), (6, .slice m b.1.length l), (7, .bool b.2), (9, .slice h k.2.length f), (12, iv k.1), (13, iv 1), (69, .slice h k.2.length f), (70, iv 1)] L ?_))))))))))))
 obtain ⟨I, cs, hm⟩ := gx_bind hm
 refine wC 29 #[.slice h k.2.length f, iv 1] ((c_l_heldEventS L k.2 h f (bf.rd ba 1 (by kernel_rfl)) 1 cs).mono ?_)
 rintro e_ u ⟨rfl, bz⟩
 have E := ba.call0 bz
 refine ⟨_, rfl, ?_⟩
 refine wR 1 [(0, .slice g c.length d), (1, iv i), (6, .slice m b.1.length l), (7, .bool b.2), (9, .slice h k.2.length f), (12, iv k.1), (13, iv I)] u (W_nil (N_then (G_seq (G_seq (G_region (wR 2 [(0, .slice g c.length d), (1, iv i), (6, .slice m b.1.length l), (7, .bool b.2), (9, .slice h k.2.length f), (12, iv k.1), (13, iv I), (73, .bool (decide (I < 0)))] u (W_nil (N_then ?_))))))))
 rcases gx_bif hm with ⟨ae, hm⟩ | ⟨ae, hm⟩
 ·refine gT ae (G_seq (G_region (wR 1 [(4, .bool false)] u (W_nil (N_then (G_ret (N_then_ret ?_)))))))
  obtain rfl := Option.some.inj hm
  exact N_ret [.bool false] (rC RVs_nil) (⟨rfl, E.pk []⟩)
 refine gF ae (G_skip (N_then (G_seq (G_seq (G_region (wR 3 [(0, .slice g c.length d), (1, iv i), (6, .slice m b.1.length l), (7, .bool b.2), (9, .slice h k.2.length f), (12, iv k.1), (76, .bool (I != k.1))] u (W_nil (N_then ?_))))))))
 rcases gx_bif hm with ⟨af, hm⟩ | ⟨af, hm⟩
 ·refine gT af (G_seq (G_region (wR 1 [(4, .bool false)] u (W_nil (N_then (G_ret (N_then_ret ?_)))))))
  obtain rfl := Option.some.inj hm
  exact N_ret [.bool false] (rC RVs_nil) (⟨rfl, E.pk []⟩)
 refine gF af (G_skip (N_then (G_seq (G_region (wR 1 [(1, iv i), (6, .slice m b.1.length l), (7, .bool b.2), (9, .slice h k.2.length f), (12, iv k.1), (78, .slice g c.length d)] u ?_)))))
 obtain ⟨ar, ct, hm⟩ := gx_bind hm
 refine wC 19 #[.slice g c.length d] ((c_l_toEventS u c g d (x.mem0 E) ct).mono ?_)
 rintro e_ bm ⟨ao, W, dd, rfl, ce, b0⟩
 have bb := E.call b0
 refine ⟨_, rfl, ?_⟩
 refine wR 1 [(6, .slice m b.1.length l), (7, .bool b.2), (9, .slice h k.2.length f), (12, iv k.1), (79, .slice ao ar.length W), (80, iv i)] bm ?_
 obtain ⟨t, cu, hm⟩ := gx_bind hm
 refine wC 27 #[.slice ao ar.length W, iv i] ((c_i_EventsOf bm ar ao W (ce.rd bb 2 (by kernel_rfl)) i cu).mono ?_)
 rintro e_ a3 ⟨H, F, de, rfl, cf, b1⟩
 have S := bb.call b1
 refine ⟨_, rfl, ?_⟩
 refine wR 5 [(6, .slice m b.1.length l), (7, .bool b.2), (9, .slice h k.2.length f), (12, iv k.1), (14, .slice H t.1.length F), (15, .bool t.2)] a3 (W_nil (N_then (G_seq (G_seq ?_))))
 obtain ⟨cz, cg, b9⟩ := gx_bind hm
 refine G_meet (fun a w' => Mem [] w w' [c4] ∧ Sat Try.f7.ntmps [(9, .slice h k.2.length f), (12, iv k.1), (92, .bool cz)] a) ?_ ?_
 ·have hm := cg
  refine G_region (wR 2 [(7, .bool b.2), (9, .slice h k.2.length f), (12, iv k.1), (15, .bool t.2), (84, .slice H t.1.length F), (85, .slice m b.1.length l)] a3 ?_)
  obtain ⟨c3, cv, hm⟩ := gx_bind hm
  refine wC 21 #[.slice H t.1.length F, .slice m b.1.length l] ((c_l_eqEventS a3 t.1 H F (cf.rd S 3 (by kernel_rfl)) b.1 m l (ak.rd S 0 (by kernel_rfl)) cv).mono ?_)
  rintro e_ a4 ⟨rfl, b2⟩
  have bc := S.call0 b2
  refine ⟨_, rfl, ?_⟩
  refine wR 2 [(7, .bool b.2), (9, .slice h k.2.length f), (12, iv k.1), (15, .bool t.2), (88, .bool (!c3))] a4 ?_
  rcases gx_bif hm with ⟨ag, hm⟩ | ⟨ag, hm⟩
  ·refine wK 88 true ag (wR 4 [(9, .slice h k.2.length f), (12, iv k.1), (92, .bool true)] a4 (W_nil ?_))
   obtain rfl := Option.some.inj hm
   exact N_meet fun a ha => ⟨bc.pk [1], ha.s⟩
  refine wK 88 false ag (wR 4 [(9, .slice h k.2.length f), (12, iv k.1), (92, .bool (!(t.2 == b.2)))] a4 (W_nil ?_))
  obtain rfl := Option.some.inj hm
  exact N_meet fun a ha => ⟨bc.pk [1], ha.s⟩
 intro c8 N ⟨T, b6⟩
 refine N_use b6 ?_
 have hm := b9
 refine N_then ?_
 rcases gx_bif hm with ⟨ah, hm⟩ | ⟨ah, hm⟩
 ·refine gT ah (G_seq (G_region (wR 1 [(4, .bool false)] N (W_nil (N_then (G_ret (N_then_ret ?_)))))))
  obtain rfl := Option.some.inj hm
  exact N_ret [.bool false] (rC RVs_nil) (⟨rfl, T.pk []⟩)
 refine gF ah (G_skip (N_then (G_seq (G_region (wR 1 [(9, .slice h k.2.length f), (12, iv k.1), (13, iv 1)] N (W_nil (N_then (G_seq (G_region (wR 2 [(12, iv k.1), (13, iv 1), (93, .slice h k.2.length f), (94, iv 1)] N ?_))))))))))
 obtain ⟨J, cw, hm⟩ := gx_bind hm
 refine wC 29 #[.slice h k.2.length f, iv 1] ((c_l_heldEventS N k.2 h f (bf.rd T 0 (by kernel_rfl)) 1 cw).mono ?_)
 rintro e_ v ⟨rfl, b3⟩
 have U := T.call0 b3
 refine ⟨_, rfl, ?_⟩
 refine wR 1 [(12, iv k.1), (13, iv J)] v (W_nil (N_then (G_seq (G_seq (G_region (wR 2 [(12, iv k.1), (13, iv J), (97, .bool (decide (J < 0)))] v (W_nil (N_then ?_))))))))
 rcases gx_bif hm with ⟨ai, hm⟩ | ⟨ai, hm⟩
 ·refine gT ai (G_seq (G_region (wR 1 [(4, .bool false)] v (W_nil (N_then (G_ret (N_then_ret ?_)))))))
  obtain rfl := Option.some.inj hm
  exact N_ret [.bool false] (rC RVs_nil) (⟨rfl, U.pk []⟩)
 refine gF ai (G_skip (N_then (G_seq (G_seq (G_region (wR 3 [(100, .bool (J != k.1))] v (W_nil (N_then ?_))))))))
 rcases gx_bif hm with ⟨aj, hm⟩ | ⟨aj, hm⟩
 ·refine gT aj (G_seq (G_region (wR 1 [(4, .bool false)] v (W_nil (N_then (G_ret (N_then_ret ?_)))))))
  obtain rfl := Option.some.inj hm
  exact N_ret [.bool false] (rC RVs_nil) (⟨rfl, U.pk []⟩)
 refine gF aj (G_skip (N_then (G_seq (G_region (wR 1 [(4, .bool true)] v (W_nil (N_then (G_ret ?_))))))))
 obtain rfl := Option.some.inj hm
 exact N_ret [.bool true] (rC RVs_nil) (⟨rfl, U.pk []⟩)
theorem c_s_EventsWithin (w : World) (c : List Event) (b : Option Addr) (g : Nat) (q : rdS encEvent w c b g) (d : Int) (f : Int) {r : (List Event) × Bool} (hm : M.s_EventsWithin c d f = some r) :
  Calls Try.prog 30 #[.slice b c.length g, iv d, iv f] w fun e w' => ∃ (af : Option Addr) (ab : Nat) (ah : Seg), e = .returned (.tuple #[.slice af r.1.length ab, .bool r.2]) ∧ ownS encEvent r.1 af ab ah ∧ Mem [] w w' [ah] := by
 unfold M.s_EventsWithin at hm
 refine cE Try.func30 ?_
 have M0 := Mem.refl [] w
 refine G_seq (G_region (wR 2 [(0, .slice b c.length g), (1, iv d), (2, iv f)] w (W_nil (N_then (G_seq (G_region (wL (E := encEvent) ([] : List Event) 0 [] 26 M0 ?_)))))))
 intro j i R S ad V
 refine wR 1 [(0, .slice b c.length g), (1, iv d), (2, iv f), (8, .slice j ([] : List Event).length i)] S (W_nil (N_then (G_seq (G_seq ?_))))
 obtain ⟨bf, a3, ay⟩ := gx_bind hm
 refine G_meet (fun a w' => Mem [] w w' [R] ∧ Sat Try.f30.ntmps [(0, .slice b c.length g), (1, iv d), (2, iv f), (8, .slice j ([] : List Event).length i), (28, .bool bf)] a) ?_ ?_
 ·have hm := a3
  refine G_region (wR 1 [(0, .slice b c.length g), (1, iv d), (2, iv f), (8, .slice j ([] : List Event).length i), (11, .slice b c.length g)] S ?_)
  obtain ⟨bg, ba, hm⟩ := gx_bind hm
  refine wC 56 #[.slice b c.length g] ((c_s_l22Good S c b g (q.mem0 V) ba).mono ?_)
  rintro e_ D ⟨rfl, aj⟩
  have W := V.call0 aj
  refine ⟨_, rfl, ?_⟩
  refine wR 2 [(0, .slice b c.length g), (1, iv d), (2, iv f), (8, .slice j ([] : List Event).length i), (14, .bool (!bg))] D ?_
  rcases gx_bif hm with ⟨H, hm⟩ | ⟨H, hm⟩
  ·refine wK 14 true H (wR 14 [(0, .slice b c.length g), (1, iv d), (2, iv f), (8, .slice j ([] : List Event).length i), (28, .bool true)] D (W_nil ?_))
   obtain rfl := Option.some.inj hm
   exact N_meet fun a ha => ⟨W.pk [0], ha.s⟩
  refine wK 14 false H (wR 1 [(0, .slice b c.length g), (1, iv d), (2, iv f), (8, .slice j ([] : List Event).length i), (14, .bool false), (15, iv d)] D ?_)
  obtain ⟨bh, bb, hm⟩ := gx_bind hm
  refine wC 65 #[iv d] ((c_s_l11Tick D d bb).mono ?_)
  rintro e_ F ⟨rfl, ak⟩
  have X := W.call0 ak
  refine ⟨_, rfl, ?_⟩
  refine wR 3 [(0, .slice b c.length g), (1, iv d), (2, iv f), (8, .slice j ([] : List Event).length i), (19, .bool (!bh))] F ?_
  rcases gx_bif hm with ⟨I, hm⟩ | ⟨I, hm⟩
  ·refine wK 19 true I (wR 9 [(0, .slice b c.length g), (1, iv d), (2, iv f), (8, .slice j ([] : List Event).length i), (28, .bool true)] F (W_nil ?_))
   obtain rfl := Option.some.inj hm
   exact N_meet fun a ha => ⟨X.pk [0], ha.s⟩
  refine wK 19 false I (wR 1 [(0, .slice b c.length g), (1, iv d), (2, iv f), (8, .slice j ([] : List Event).length i), (19, .bool false), (20, iv f)] F ?_)
  obtain ⟨bi, bc, hm⟩ := gx_bind hm
  refine wC 65 #[iv f] ((c_s_l11Tick F f bc).mono ?_)
  rintro e_ T ⟨rfl, al⟩
  have Y := X.call0 al
  refine ⟨_, rfl, ?_⟩
  refine wR 3 [(0, .slice b c.length g), (1, iv d), (2, iv f), (8, .slice j ([] : List Event).length i), (24, .bool (!bi))] T ?_
  rcases gx_bif hm with ⟨J, hm⟩ | ⟨J, hm⟩
  ·refine wK 24 true J (wR 4 [(0, .slice b c.length g), (1, iv d), (2, iv f), (8, .slice j ([] : List Event).length i), (28, .bool true)] T (W_nil ?_))
   obtain rfl := Option.some.inj hm
   exact N_meet fun a ha => ⟨Y.pk [0], ha.s⟩
  refine wK 24 false J (wR 4 [(0, .slice b c.length g), (1, iv d), (2, iv f), (8, .slice j ([] : List Event).length i), (28, .bool (decide (d > f)))] T (W_nil ?_))
  obtain rfl := Option.some.inj hm
  exact N_meet fun a ha => ⟨Y.pk [0], ha.s⟩
 intro bn ai ⟨Z, ar⟩
 refine N_use ar ?_
 have hm := ay
 refine N_then ?_
 rcases gx_bif hm with ⟨K, hm⟩ | ⟨K, hm⟩
 ·refine gT K (G_seq (G_region (wR 3 [(6, .slice j ([] : List Event).length i), (7, .bool false)] ai (W_nil (N_then (G_ret (N_then_ret ?_)))))))
  obtain rfl := Option.some.inj hm
  exact N_ret [.slice j ([] : List Event).length i, .bool false] (rC (rC RVs_nil)) (⟨j, i, R, rfl, ad, Z.pk [0]⟩)
 refine gF K (G_skip (N_then (G_seq (G_seq (G_region (wR 1 [(0, .slice b c.length g), (1, iv d), (2, iv f), (8, .slice j ([] : List Event).length i), (9, iv 0)] ai (W_nil (N_then ?_))))))))
 obtain ⟨A, be, a0⟩ := gx_bind hm
 refine G_meet (fun a w' => ∃ (t : Option Addr), ∃ (o : Nat), ∃ (B : Seg), ownS encEvent A t o B ∧ Mem [] w w' [B] ∧ Sat Try.f30.ntmps [(8, .slice t A.length o)] a) ?_ ?_
 ·refine G_block (G_while (σ := List Event × Int) (ρ := List Event) (fun h a w' => ∃ (l : Option Addr), ∃ (k : Nat), ∃ (y : Seg), ownS encEvent h.1 l k y ∧ Mem [] w w' [y] ∧ Sat Try.f30.ntmps [(0, .slice b c.length g), (1, iv d), (2, iv f), (8, .slice l h.1.length k), (9, iv h.2)] a) be (fun a ha => ⟨j, i, R, ad, Z.pk [0], ha.s⟩) ?_)
  clear hm
  intro h bw hm a9 bo n ⟨l, k, y, O, u, au⟩
  refine G_use au (G_seq (G_seq (G_region (wR 4 [(0, .slice b c.length g), (1, iv d), (2, iv f), (8, .slice l h.1.length k), (9, iv h.2), (33, .bool (decide (h.2 < (c.length : Int))))] n (W_nil (N_then ?_))))))
  rcases gx_bif hm with ⟨L, hm⟩ | ⟨L, hm⟩
  ·refine gT L (G_skip (N_then (G_seq (G_block (G_seq (G_region (wR 2 [(0, .slice b c.length g), (1, iv d), (2, iv f), (8, .slice l h.1.length k), (9, iv h.2), (36, .slice b c.length g), (37, iv h.2)] n ?_)))))))
   obtain ⟨G, P, hm⟩ := gx_bind hm
   refine wV (elemP b (h.2.toNat * 4)) n (eI (q.mem0 u) rfl P) (wV (elemP b (h.2.toNat * 4 + 0)) n (eF 0 (h.2.toNat * 4) 0 (q.mem0 u) P) (wV (iv G.Tick) n (eE false 1 0 (h.2.toNat * 4 + 0) (q.mem0 u) P) (wR 2 [(0, .slice b c.length g), (1, iv d), (2, iv f), (8, .slice l h.1.length k), (9, iv h.2), (40, iv G.Tick), (41, iv d), (42, iv f)] n ?_)))
   obtain ⟨bt, bd, hm⟩ := gx_bind hm
   refine wC 58 #[iv G.Tick, iv d, iv f] ((c_s_l1In n G.Tick d f bd).mono ?_)
   rintro e_ U ⟨rfl, am⟩
   have z := u.call0 am
   refine ⟨_, rfl, ?_⟩
   refine W_nil (N_then ?_)
   obtain ⟨Q, a5, az⟩ := gx_bind hm
   refine G_meet (fun a w' => ∃ (x : Option Addr), ∃ (v : Nat), ∃ (C : Seg), ownS encEvent Q x v C ∧ Mem [] w w' [C] ∧ Sat Try.f30.ntmps [(0, .slice b c.length g), (1, iv d), (2, iv f), (8, .slice x Q.length v), (9, iv h.2)] a) ?_ ?_
   ·have hm := a5
    rcases gx_bif hm with ⟨N, hm⟩ | ⟨N, hm⟩
    ·refine gT N (G_region (wR 3 [(0, .slice b c.length g), (1, iv d), (2, iv f), (8, .slice l h.1.length k), (9, iv h.2), (44, .slice l h.1.length k), (45, .slice b c.length g), (46, iv h.2)] U ?_))
     obtain ⟨m, ae, hm⟩ := gx_bind hm
     refine wV (elemP b (h.2.toNat * 4)) U (eI (q.mem0 z) rfl ae) (wV (.agg #[iv m.Tick, iv m.Guest, .string m.Kind, iv m.Value]) U (eE true 4 0 (h.2.toNat * 4) (q.mem0 z) ae) (wL (E := encEvent) [m] 1 [iv m.Tick, iv m.Guest, .string m.Kind, iv m.Value] 26 z ?_))
     intro bs br bu bv a7 aa
     obtain ⟨aq, ax, hm⟩ := gx_bind hm
     refine wA 40 [iv 0, iv 0, .string ByteArray.empty, iv 0] 0 aa O (a7.rd aa 1 (by kernel_rfl)) ax ?_
     intro ag ac bj bk a8 an
     refine wR 1 [(0, .slice b c.length g), (1, iv d), (2, iv f), (8, .slice ag aq.length ac), (9, iv h.2)] bk (W_nil ?_)
     obtain rfl := Option.some.inj hm
     exact N_meet fun a ha => ⟨ag, ac, bj, a8, an.pk [0], ha.s⟩
    refine gF N (G_skip ?_)
    obtain rfl := Option.some.inj hm
    exact N_meet fun a ha => ⟨l, k, y, O, z.pk [0], ha.s⟩
   intro bp bl ⟨x, v, C, a6, ao, av⟩
   refine N_use av ?_
   have hm := az
   refine N_block (N_then (G_region (wR 3 [(0, .slice b c.length g), (1, iv d), (2, iv f), (8, .slice x Q.length v), (9, iv (w64 (h.2 + 1)))] bl (W_nil ?_))))
   obtain rfl := Option.some.inj hm
   exact N_loop fun a ha => ⟨_, rfl, x, v, C, a6, ao.pk [0], ha.s⟩
  refine gF L (G_exit (N_then_exit (N_then_exit (N_block_eq ?_))))
  obtain rfl := Option.some.inj hm
  obtain rfl := a9 _ rfl
  exact N_meet fun a ha => ⟨l, k, y, O, u.pk [0], ha.s⟩
 intro bq bm ⟨t, o, B, a4, ap, aw⟩
 refine N_use aw ?_
 have hm := a0
 refine N_then (G_seq (G_region (wR 3 [(6, .slice t A.length o), (7, .bool true)] bm (W_nil (N_then (G_ret ?_))))))
 obtain rfl := Option.some.inj hm
 exact N_ret [.slice t A.length o, .bool true] (rC (rC RVs_nil)) (⟨t, o, B, rfl, a4, ap.pk [0]⟩)
theorem c_i_EventsWithin_1 (w : World) (a : Event) (c : Int) (g : Nat) (m : w.heap[g]? = some (.cells ⟨[iv c]⟩ 3 (0, 0))) (d : Int) (h : Nat) (n : w.heap[h]? = some (.cells ⟨[iv d]⟩ 3 (0, 0))) {r : Bool} (hm : M.i_EventsWithin_1 a c d = some r) :
  Calls Try.prog 66 #[.agg #[iv a.Tick, iv a.Guest, .string a.Kind, iv a.Value], pB g 0, pB h 0] w fun e w' => e = .returned (.bool r) ∧ Mem [] w w' [] := by
 unfold M.i_EventsWithin_1 at hm
 refine cE Try.func66 ?_
 have M0 := Mem.refl [] w
 refine G_seq (G_region (wN (.cells ⟨[iv a.Tick, iv a.Guest, .string a.Kind, iv a.Value]⟩ 26 (0, 0)) M0 ?_))
 intro i b f
 refine wR 1 [(1, pB g 0), (2, pB h 0), (3, pB i 0)] b (W_nil (N_then (G_seq (G_region (wR 1 [(1, pB g 0), (2, pB h 0), (5, pB i 0)] b (wV (iv a.Tick) b (eL false 1 0 (f.blk 0 rfl)) (wV (iv c) b (eL false 1 0 (f.ro m)) (wV (iv d) b (eL false 1 0 (f.ro n)) ?_))))))))
 obtain ⟨j, o, hm⟩ := gx_bind hm
 refine wC 67 #[iv a.Tick, iv c, iv d] ((c_i_inside b a.Tick c d o).mono ?_)
 rintro e_ q ⟨rfl, k⟩
 have l := f.call0 k
 refine ⟨_, rfl, ?_⟩
 refine wR 1 [(4, .bool j)] q (W_nil (N_then (G_ret ?_)))
 obtain rfl := Option.some.inj hm
 exact N_ret [.bool j] (rC RVs_nil) (⟨rfl, l.pk []⟩)
theorem c_i_eventsWhere_1__i_EventsWithin_1 (w : World) (a : Event) (h : Int) (c : Nat) (n : w.heap[c]? = some (.cells ⟨[iv h]⟩ 3 (0, 0))) (i : Int) (d : Nat) (o : w.heap[d]? = some (.cells ⟨[iv i]⟩ 3 (0, 0))) (g : Nat) (q : w.heap[g]? = some (.cells ⟨[.func (.func 66) #[] #[pB c 0, pB d 0]]⟩ 25 (0, 0))) {r : Bool} (hm : M.i_eventsWhere_1__i_EventsWithin_1 a h i = some r) :
  Calls Try.prog 82 #[.agg #[iv a.Tick, iv a.Guest, .string a.Kind, iv a.Value], pB g 0] w fun e w' => e = .returned (.bool r) ∧ Mem [] w w' [] := by
 unfold M.i_eventsWhere_1__i_EventsWithin_1 at hm
 refine cE Try.func82 ?_
 have M0 := Mem.refl [] w
 refine G_seq (G_region (wN (.cells ⟨[iv a.Tick, iv a.Guest, .string a.Kind, iv a.Value]⟩ 26 (0, 0)) M0 ?_))
 intro m f b
 refine wR 1 [(1, pB g 0), (2, pB m 0)] f (W_nil (N_then (G_seq (G_region (wV (.func (.func 66) #[] #[pB c 0, pB d 0]) f (eL false 1 0 (b.ro q)) (wV (.agg #[iv a.Tick, iv a.Guest, .string a.Kind, iv a.Value]) f (eL true 4 0 (b.blk 0 rfl)) ?_))))))
 obtain ⟨j, t, hm⟩ := gx_bind hm
 refine wC 66 #[.agg #[iv a.Tick, iv a.Guest, .string a.Kind, iv a.Value], pB c 0, pB d 0] ((c_i_EventsWithin_1 f a h c (b.ro n) i d (b.ro o) t).mono ?_)
 rintro e_ u ⟨rfl, k⟩
 have l := b.call0 k
 refine ⟨_, rfl, ?_⟩
 refine wR 2 [(3, .bool (!j))] u (W_nil (N_then (G_ret ?_)))
 obtain rfl := Option.some.inj hm
 exact N_ret [.bool (!j)] (rC RVs_nil) (⟨rfl, l.pk []⟩)
theorem c_slices_IndexFunc_59__i_eventsWhere_1__i_EventsWithin_1 (w : World) (b : List Event) (f : Option Addr) (g : Nat) (u : rdS encEvent w b f g) (o : Int) (k : Nat) (F : w.heap[k]? = some (.cells ⟨[iv o]⟩ 3 (0, 0))) (q : Int) (l : Nat) (G : w.heap[l]? = some (.cells ⟨[iv q]⟩ 3 (0, 0))) (d : Nat) (H : w.heap[d]? = some (.cells ⟨[.func (.func 66) #[] #[pB k 0, pB l 0]]⟩ 25 (0, 0))) {r : Int} (hm : M.slices_IndexFunc_59__i_eventsWhere_1__i_EventsWithin_1 b o q = some r) :
  Calls Try.prog 59 #[.slice f b.length g, .func (.func 82) #[] #[pB d 0]] w fun e w' => e = .returned (iv r) ∧ Mem [] w w' [] := by
 unfold M.slices_IndexFunc_59__i_eventsWhere_1__i_EventsWithin_1 at hm
 refine cE Try.func59 ?_
 have M0 := Mem.refl [] w
 refine G_seq (G_region (wR 1 [(0, .slice f b.length g), (1, .func (.func 82) #[] #[pB d 0])] w (W_nil (N_then (G_seq (G_seq (G_region (wR 3 [(0, .slice f b.length g), (1, .func (.func 82) #[] #[pB d 0]), (7, iv (b.length : Int)), (8, iv 0)] w (W_nil (N_then ?_))))))))))
 obtain ⟨K, J, v⟩ := gx_bind hm
 refine G_meet (fun a w' => ∃ (z : Unit), K = .inl z ∧ Mem [] w w' [] ∧ Sat Try.f59.ntmps [] a) ?_ ?_
 ·refine G_block (G_while (σ := Int) (ρ := (Unit) ⊕ (Int)) (fun c a w' => Mem [] w w' [] ∧ Sat Try.f59.ntmps [(0, .slice f b.length g), (1, .func (.func 82) #[] #[pB d 0]), (7, iv (b.length : Int)), (8, iv c)] a) J (fun a ha => ⟨M0.pk [], ha.s⟩) ?_)
  clear hm
  intro c Q hm x N j ⟨i, D⟩
  refine G_use D (G_seq (G_region (wR 1 [(0, .slice f b.length g), (1, .func (.func 82) #[] #[pB d 0]), (7, iv (b.length : Int)), (8, iv c), (9, .bool (decide (c < (b.length : Int))))] j (W_nil (N_then (G_seq ?_))))))
  rcases gx_bif hm with ⟨m, hm⟩ | ⟨m, hm⟩
  ·refine gT m (G_skip (N_then (G_seq (G_block (G_seq (G_region (wR 2 [(0, .slice f b.length g), (1, .func (.func 82) #[] #[pB d 0]), (5, iv c), (7, iv (b.length : Int)), (8, iv c)] j (W_nil (N_then (G_seq (G_region (wR 3 [(0, .slice f b.length g), (1, .func (.func 82) #[] #[pB d 0]), (5, iv c), (7, iv (b.length : Int)), (8, iv c), (11, .func (.func 82) #[] #[pB d 0]), (12, .slice f b.length g), (13, iv c)] j ?_))))))))))))
   obtain ⟨h, y, hm⟩ := gx_bind hm
   refine wV (elemP f (c.toNat * 4)) j (eI (u.mem0 i) rfl y) (wV (.agg #[iv h.Tick, iv h.Guest, .string h.Kind, iv h.Value]) j (eE true 4 0 (c.toNat * 4) (u.mem0 i) y) ?_)
   obtain ⟨P, I, hm⟩ := gx_bind hm
   refine wC 82 #[.agg #[iv h.Tick, iv h.Guest, .string h.Kind, iv h.Value], pB d 0] ((c_i_eventsWhere_1__i_EventsWithin_1 j h o k (i.ro F) q l (i.ro G) d (i.ro H) I).mono ?_)
   rintro e_ A ⟨rfl, B⟩
   have t := i.call0 B
   refine ⟨_, rfl, ?_⟩
   refine W_nil (N_then ?_)
   rcases gx_bif hm with ⟨n, hm⟩ | ⟨n, hm⟩
   ·refine gT n (G_seq (G_region (wR 2 [(4, iv c)] A (W_nil (N_then (G_ret (N_block_ret (N_then_ret (N_then_ret ?_)))))))))
    obtain rfl := Option.some.inj hm
    obtain rfl := x _ rfl
    have hm := v; simp only [Sum.elim_inr] at hm
    refine N_block_ret (N_meet_ret (N_then_ret ?_))
    obtain rfl := Option.some.inj hm
    exact N_ret [iv c] (rC RVs_nil) (⟨rfl, t.pk []⟩)
   refine gF n (G_skip (N_block (N_then (G_region (wR 2 [(0, .slice f b.length g), (1, .func (.func 82) #[] #[pB d 0]), (7, iv (b.length : Int)), (8, iv (w64 (c + 1)))] A (W_nil ?_))))))
   obtain rfl := Option.some.inj hm
   exact N_loop fun a ha => ⟨_, rfl, t.pk [], ha.s⟩
  refine gF m (G_exit (N_then_exit (N_then_exit (N_block_eq ?_))))
  obtain rfl := Option.some.inj hm
  obtain rfl := x _ rfl
  exact N_meet fun a ha => ⟨_, rfl, i.pk [], ha.s⟩
 intro O L ⟨z, hout_, C, E⟩
 refine N_use E ?_
 subst hout_
 have hm := v; simp only [Sum.elim_inl] at hm
 refine N_then (G_seq (G_region (wR 1 [(4, iv (-1))] L (W_nil (N_then (G_ret ?_))))))
 obtain rfl := Option.some.inj hm
 exact N_ret [iv (-1)] (rC RVs_nil) (⟨rfl, C.pk []⟩)
theorem c_slices_DeleteFunc_81__i_eventsWhere_1__i_EventsWithin_1 (w : World) (i : List Event) (c : Option Addr) (b : Nat) (j : Seg) (z : ownS encEvent i c b j) (F : Int) (n : Nat) (V : w.heap[n]? = some (.cells ⟨[iv F]⟩ 3 (0, 0))) (G : Int) (o : Nat) (W : w.heap[o]? = some (.cells ⟨[iv G]⟩ 3 (0, 0))) (h : Nat) (X : w.heap[h]? = some (.cells ⟨[.func (.func 66) #[] #[pB n 0, pB o 0]]⟩ 25 (0, 0))) (hA : ∀ q ∈ List.flatten [j], w.heap[q.1]? = some q.2) (hN : (idsOf [j]).Nodup) (ad : n ∉ (idsOf [j])) (ae : o ∉ (idsOf [j])) (af : h ∉ (idsOf [j])) {r : (List Event) × (List Event)} (hm : M.slices_DeleteFunc_81__i_eventsWhere_1__i_EventsWithin_1 i F G = some r) :
  Calls Try.prog 81 #[.slice c i.length b, .func (.func 82) #[] #[pB h 0]] w fun e w' => ∃ (ah : Seg), ∃ (ag : Option Addr) (U : Nat), e = .returned (.slice ag r.1.length U) ∧ ownS encEvent r.2 c b ah ∧ r.2.length = i.length ∧ viewS 4 r.2 c b ag U r.1 ∧ Mem (idsOf [j]) w w' [ah] := by
 unfold M.slices_DeleteFunc_81__i_eventsWhere_1__i_EventsWithin_1 at hm
 refine cE Try.func81 ?_
 have M0 := Mem.start' w [j] hA hN
 refine G_seq (G_region (wR 1 [(0, .slice c i.length b), (1, .func (.func 82) #[] #[pB h 0])] w (W_nil (N_then (G_seq (G_region (wR 2 [(0, .slice c i.length b), (1, .func (.func 82) #[] #[pB h 0]), (8, .slice c i.length b), (9, .func (.func 82) #[] #[pB h 0])] w ?_)))))))
 obtain ⟨u, a3, hm⟩ := gx_bind hm
 refine wC 59 #[.slice c i.length b, .func (.func 82) #[] #[pB h 0]] ((c_slices_IndexFunc_59__i_eventsWhere_1__i_EventsWithin_1 w i c b (z.rd M0 0 (by kernel_rfl)) F n (M0.roX V ad) G o (M0.roX W ae) h (M0.roX X af) a3).mono ?_)
 rintro e_ B ⟨rfl, aj⟩
 have R := M0.call0 aj
 refine ⟨_, rfl, ?_⟩
 refine wR 1 [(0, .slice c i.length b), (1, .func (.func 82) #[] #[pB h 0]), (5, iv u)] B (W_nil (N_then (G_seq (G_seq (G_region (wR 2 [(0, .slice c i.length b), (1, .func (.func 82) #[] #[pB h 0]), (5, iv u), (12, .bool (u == (-1)))] B (W_nil (N_then ?_))))))))
 rcases gx_bif hm with ⟨I, hm⟩ | ⟨I, hm⟩
 ·refine gT I (G_seq (G_region (wR 2 [(4, .slice c i.length b)] B (W_nil (N_then (G_ret (N_then_ret ?_)))))))
  obtain rfl := Option.some.inj hm
  exact N_ret [.slice c i.length b] (rC RVs_nil) (⟨j, c, b, rfl, z, rfl, (viewS_self z), R.pk [0]⟩)
 refine gF I (G_skip (N_then (G_seq (G_seq (G_region (wR 3 [(0, .slice c i.length b), (1, .func (.func 82) #[] #[pB h 0]), (5, iv u), (6, iv (w64 (u + 1)))] B (W_nil (N_then ?_))))))))
 obtain ⟨g, a5, aw⟩ := gx_bind hm
 refine G_meet (fun a w' => ∃ (N : Seg), ownS encEvent g.2 c b N ∧ g.2.length = i.length ∧ Mem (idsOf [j]) w w' [N] ∧ Sat Try.f81.ntmps [(0, .slice c g.2.length b), (5, iv g.1)] a) ?_ ?_
 ·refine G_block (G_while (σ := Int × Int × List Event) (ρ := Int × List Event) (fun d a w' => ∃ (v : Seg), ownS encEvent d.2.2 c b v ∧ d.2.2.length = i.length ∧ Mem (idsOf [j]) w w' [v] ∧ Sat Try.f81.ntmps [(0, .slice c d.2.2.length b), (1, .func (.func 82) #[] #[pB h 0]), (5, iv d.1), (6, iv d.2.1)] a) a5 (fun a ha => ⟨j, z, rfl, R.pk [0], ha.s⟩) ?_)
  clear hm
  intro d bh hm a0 bd C ⟨v, k, L, x, ao⟩
  refine G_use ao (G_seq (G_seq (G_region (wR 4 [(0, .slice c d.2.2.length b), (1, .func (.func 82) #[] #[pB h 0]), (5, iv d.1), (6, iv d.2.1), (19, .bool (decide (d.2.1 < (d.2.2.length : Int))))] C (W_nil (N_then ?_))))))
  rcases gx_bif hm with ⟨J, hm⟩ | ⟨J, hm⟩
  ·refine gT J (G_skip (N_then (G_seq (G_block (G_seq (G_region (wR 2 [(0, .slice c d.2.2.length b), (1, .func (.func 82) #[] #[pB h 0]), (5, iv d.1), (6, iv d.2.1), (22, .slice c d.2.2.length b), (23, iv d.2.1)] C ?_)))))))
   obtain ⟨f, aa, hm⟩ := gx_bind hm
   refine wV (elemP c (d.2.1.toNat * 4)) C (eI (k.rd x 0 (by kernel_rfl)) rfl aa) (wV (.agg #[iv f.Tick, iv f.Guest, .string f.Kind, iv f.Value]) C (eE true 4 0 (d.2.1.toNat * 4) (k.rd x 0 (by kernel_rfl)) aa) (wN (.cells ⟨[iv 0, iv 0, .string ByteArray.empty, iv 0]⟩ 26 (0, 0)) x ?_))
   intro H bg al
   refine wS true 4 0 (.agg #[iv f.Tick, iv f.Guest, .string f.Kind, iv f.Value]) 1 [iv f.Tick, iv f.Guest, .string f.Kind, iv f.Value] al rfl ?_
   intro O m
   refine W_nil (N_then (G_seq (G_region (wR 1 [(0, .slice c d.2.2.length b), (1, .func (.func 82) #[] #[pB h 0]), (5, iv d.1), (6, iv d.2.1), (7, pB H 0), (26, .func (.func 82) #[] #[pB h 0])] O (wV (.agg #[iv f.Tick, iv f.Guest, .string f.Kind, iv f.Value]) O (eL true 4 0 (m.blk 1 rfl)) ?_)))))
   obtain ⟨a6, a4, hm⟩ := gx_bind hm
   refine wC 82 #[.agg #[iv f.Tick, iv f.Guest, .string f.Kind, iv f.Value], pB h 0] ((c_i_eventsWhere_1__i_EventsWithin_1 O f F n (m.roX V ad) G o (m.roX W ae) h (m.roX X af) a4).mono ?_)
   rintro e_ D ⟨rfl, ak⟩
   have y := m.call0 ak
   refine ⟨_, rfl, ?_⟩
   refine wR 1 [(0, .slice c d.2.2.length b), (1, .func (.func 82) #[] #[pB h 0]), (5, iv d.1), (6, iv d.2.1), (7, pB H 0), (29, .bool (!a6))] D (W_nil (N_then ?_))
   obtain ⟨l, ax, av⟩ := gx_bind hm
   refine G_meet (fun a w' => ∃ (A : Seg), ownS encEvent l.2 c b A ∧ l.2.length = i.length ∧ Mem (idsOf [j]) w w' [A] ∧ Sat Try.f81.ntmps [(0, .slice c l.2.length b), (1, .func (.func 82) #[] #[pB h 0]), (5, iv l.1), (6, iv d.2.1)] a) ?_ ?_
   ·have hm := ax
    rcases gx_bif hm with ⟨K, hm⟩ | ⟨K, hm⟩
    ·refine gT K (G_seq (G_region (wR 2 [(0, .slice c d.2.2.length b), (1, .func (.func 82) #[] #[pB h 0]), (5, iv d.1), (6, iv d.2.1), (7, pB H 0), (30, .slice c d.2.2.length b), (31, iv d.1)] D (wV (.agg #[iv f.Tick, iv f.Guest, .string f.Kind, iv f.Value]) D (eL true 4 0 (y.blk 1 rfl)) ?_))))
     obtain ⟨bb, ab, hm⟩ := gx_bind hm
     refine wV (elemP c (d.1.toNat * 4)) D (eI (k.rd y 0 (by kernel_rfl)) rfl ab) (wE true 4 d.1.toNat 0 (d.1.toNat * 4) bb f (.agg #[iv f.Tick, iv f.Guest, .string f.Kind, iv f.Value]) 0 y k (gxIdx_spec ab).2 ?_)
     intro a9 a7 az am
     refine wX 0 (.slice c d.2.2.length b) (.slice c (d.2.2.set d.1.toNat f).length b) (by rw [@List.length_set _ d.2.2 d.1.toNat f]) (wX 30 (.slice c d.2.2.length b) (.slice c (d.2.2.set d.1.toNat f).length b) (by rw [@List.length_set _ d.2.2 d.1.toNat f]) (W_nil (N_then (G_region (wR 3 [(0, .slice c (d.2.2.set d.1.toNat f).length b), (1, .func (.func 82) #[] #[pB h 0]), (5, iv (w64 (d.1 + 1))), (6, iv d.2.1)] a9 (W_nil ?_))))))
     obtain rfl := Option.some.inj hm
     exact N_meet fun a ha => ⟨a7, az, (List.length_set.trans L), am.pk [0], ha.s⟩
    refine gF K (G_skip ?_)
    obtain rfl := Option.some.inj hm
    exact N_meet fun a ha => ⟨v, k, L, y.pk [0], ha.s⟩
   intro be ba ⟨A, ay, au, an, ap⟩
   refine N_use ap ?_
   have hm := av
   refine N_block (N_then (G_region (wR 3 [(0, .slice c l.2.length b), (1, .func (.func 82) #[] #[pB h 0]), (5, iv l.1), (6, iv (w64 (d.2.1 + 1)))] ba (W_nil ?_))))
   obtain rfl := Option.some.inj hm
   exact N_loop fun a ha => ⟨_, rfl, A, ay, au, an.pk [0], ha.s⟩
  refine gF J (G_exit (N_then_exit (N_then_exit (N_block_eq ?_))))
  obtain rfl := Option.some.inj hm
  obtain rfl := a0 _ rfl
  exact N_meet fun a ha => ⟨v, k, L, x.pk [0], ha.s⟩
 intro bf ai ⟨N, Y, ar, S, aq⟩
 refine N_use aq ?_
 have hm := aw
 refine N_then (G_seq (G_region (wR 2 [(0, .slice c g.2.length b), (5, iv g.1), (36, .slice c g.2.length b), (37, iv g.1)] ai ?_)))
 obtain ⟨bc, t, hm⟩ := gx_bind hm
 refine wV (.slice (subP c g.1.toNat b 4) bc.length (b - g.1.toNat)) ai (E_slice (E := encEvent) _ _ _ _ g.2.length g.1 (g.2.length : Int) rfl (by kernel_rfl) (Or.inr ⟨_, rfl, by kernel_rfl⟩) (Or.inl ⟨rfl, rfl⟩) (by kernel_rfl) (Y.rd S 0 (by kernel_rfl)) rfl t) (W_clear (E := encEvent) _ _ g.1 (g.2.length : Int) 40 [iv 0, iv 0, .string ByteArray.empty, iv 0] ((⟨0, 0, ByteArray.empty, 0⟩ : Event) : Event) 0 S Y (by kernel_rfl) (by kernel_rfl) (by kernel_rfl) rfl (by kernel_rfl) t (by kernel_rfl) (by kernel_rfl) ?_)
 intro P a8 Z T
 refine wX 0 (.slice c g.2.length b) (.slice c (gxClear g.2 g.1 (g.2.length : Int) ((⟨0, 0, ByteArray.empty, 0⟩ : Event) : Event)).length b) (by rw [gxClear_len ((⟨0, 0, ByteArray.empty, 0⟩ : Event) : Event) t]) (wX 36 (.slice c g.2.length b) (.slice c (gxClear g.2 g.1 (g.2.length : Int) ((⟨0, 0, ByteArray.empty, 0⟩ : Event) : Event)).length b) (by rw [gxClear_len ((⟨0, 0, ByteArray.empty, 0⟩ : Event) : Event) t]) (W_nil (N_then (G_seq (G_region (wR 2 [(39, .slice c (gxClear g.2 g.1 (g.2.length : Int) ((⟨0, 0, ByteArray.empty, 0⟩ : Event) : Event)).length b), (40, iv g.1)] P ?_))))))
 obtain ⟨Q, ac, hm⟩ := gx_bind hm
 refine wV (.slice (subP c (0 : Int).toNat b 4) Q.length (b - (0 : Int).toNat)) P (E_slice (E := encEvent) _ _ _ _ (gxClear g.2 g.1 (g.2.length : Int) ((⟨0, 0, ByteArray.empty, 0⟩ : Event) : Event)).length 0 g.1 rfl (by kernel_rfl) (Or.inl ⟨rfl, rfl⟩) (Or.inr ⟨_, rfl, by kernel_rfl⟩) (by kernel_rfl) (Z.rd T 0 (by kernel_rfl)) rfl ac) (wR 1 [(4, .slice (subP c (0 : Int).toNat b 4) Q.length (b - (0 : Int).toNat))] P (W_nil (N_then (G_ret ?_))))
 obtain rfl := Option.some.inj hm
 exact N_ret [.slice (subP c (0 : Int).toNat b 4) Q.length (b - (0 : Int).toNat)] (rC RVs_nil) (⟨a8, (subP c (0 : Int).toNat b 4), (b - (0 : Int).toNat), rfl, Z, ((gxClear_len ((⟨0, 0, ByteArray.empty, 0⟩ : Event) : Event) t).trans ar), ⟨0, g.1, rfl, rfl, ac⟩, T.pk [0]⟩)
theorem c_i_eventsWhere__i_EventsWithin_1 (w : World) (j : List Event) (m : Option Addr) (l : Nat) (I : rdS encEvent w j m l) (q : Int) (f : Nat) (x : w.heap[f]? = some (.cells ⟨[iv q]⟩ 3 (0, 0))) (t : Int) (g : Nat) (y : w.heap[g]? = some (.cells ⟨[iv t]⟩ 3 (0, 0))) {r : (List Event)} (hm : M.i_eventsWhere__i_EventsWithin_1 j q t = some r) :
  Calls Try.prog 62 #[.slice m j.length l, .func (.func 66) #[] #[pB f 0, pB g 0]] w fun e w' => ∃ (A : Option Addr) (v : Nat) (B : Seg), e = .returned (.slice A r.length v) ∧ ownS encEvent r A v B ∧ Mem [] w w' [B] := by
 unfold M.i_eventsWhere__i_EventsWithin_1 at hm
 refine cE Try.func62 ?_
 have M0 := Mem.refl [] w
 refine G_seq (G_region (wN (.cells ⟨[.func (.func 66) #[] #[pB f 0, pB g 0]]⟩ 25 (0, 0)) M0 ?_))
 intro h U F
 refine wR 1 [(0, .slice m j.length l), (3, pB h 0)] U (W_nil (N_then (G_seq (G_region (wL (E := encEvent) ([] : List Event) 0 [] 26 F ?_)))))
 intro R H aa V K u
 refine wR 1 [(3, pB h 0), (5, .slice R ([] : List Event).length H), (6, .slice m j.length l)] V ?_
 obtain ⟨k, J, hm⟩ := gx_bind hm
 refine wA 40 [iv 0, iv 0, .string ByteArray.empty, iv 0] 1 u K (I.mem0 u) J ?_
 intro d a S C L c
 refine wR 1 [(7, .slice d k.length a), (8, .func (.func 82) #[] #[pB h 0])] C ?_
 obtain ⟨n, O, hm⟩ := gx_bind hm
 refine wC 81 #[.slice d k.length a, .func (.func 82) #[] #[pB h 0]] ((c_slices_DeleteFunc_81__i_eventsWhere_1__i_EventsWithin_1 C k d a S L q f (c.ro x) t g (c.ro y) h (c.blk 0 (b := h) (o := .cells ⟨[.func (.func 66) #[] #[pB f 0, pB g 0]]⟩ 25 (0, 0)) (by kernel_rfl)) (c.hasPick [1]) (c.nodupPick [1] (by kernel_rfl)) (blkOld c x (by simp) [1]) (blkOld c y (by simp) [1]) (blkApart c 0 (o := .cells ⟨[.func (.func 66) #[] #[pB f 0, pB g 0]]⟩ 25 (0, 0)) (by kernel_rfl) [1] (by kernel_rfl)) O).mono ?_)
 rintro e_ W ⟨T, Z, X, rfl, N, z, Q, D⟩
 obtain ⟨i, Y, rfl, rfl, P⟩ := Q
 have G := c.callF' [1] [0] (by kernel_rfl) D
 refine ⟨_, rfl, ?_⟩
 refine wX 7 (.slice d k.length a) (.slice d n.2.length a) (by first | rw [z] | rw [z]) (wR 1 [(4, .slice (subP d i.toNat a 4) n.1.length (a - i.toNat))] W (W_nil (N_then (G_ret ?_))))
 obtain rfl := Option.some.inj hm
 exact N_ret [.slice (subP d i.toNat a 4) n.1.length (a - i.toNat)] (rC RVs_nil) (⟨(subP d i.toNat a 4), (a - i.toNat), T, rfl, (N.partM P), G.pk [1]⟩)
theorem c_i_EventsWithin (w : World) (c : List Event) (f : Option Addr) (d : Nat) (G : rdS encEvent w c f d) (i : Int) (j : Int) {r : (List Event) × Bool} (hm : M.i_EventsWithin c i j = some r) :
  Calls Try.prog 31 #[.slice f c.length d, iv i, iv j] w fun e w' => ∃ (H : Option Addr) (F : Nat) (J : Seg), e = .returned (.tuple #[.slice H r.1.length F, .bool r.2]) ∧ ownS encEvent r.1 H F J ∧ Mem [] w w' [J] := by
 unfold M.i_EventsWithin at hm
 refine cE Try.func31 ?_
 have M0 := Mem.refl [] w
 refine G_seq (G_region (wN (.cells ⟨[iv i]⟩ 3 (0, 0)) M0 ?_))
 intro g ag P
 refine wN (.cells ⟨[iv j]⟩ 3 (0, 0)) P ?_
 intro h C E
 refine wR 2 [(0, .slice f c.length d), (4, pB g 0), (5, pB h 0)] C (W_nil (N_then (G_seq (G_seq ?_))))
 obtain ⟨Z, T, S⟩ := gx_bind hm
 refine G_meet (fun a w' => Mem [] w w' [[(g, .cells ⟨[iv i]⟩ 3 (0, 0))], [(h, .cells ⟨[iv j]⟩ 3 (0, 0))]] ∧ Sat Try.f31.ntmps [(0, .slice f c.length d), (4, pB g 0), (5, pB h 0), (25, .bool Z)] a) ?_ ?_
 ·have hm := T
  refine G_region (wR 1 [(0, .slice f c.length d), (4, pB g 0), (5, pB h 0), (8, .slice f c.length d)] C ?_)
  obtain ⟨aa, V, hm⟩ := gx_bind hm
  refine wC 20 #[.slice f c.length d] ((c_i_IsRecord C c f d (G.mem0 E) V).mono ?_)
  rintro e_ n ⟨rfl, K⟩
  have t := E.call0 K
  refine ⟨_, rfl, ?_⟩
  refine wR 2 [(0, .slice f c.length d), (4, pB g 0), (5, pB h 0), (11, .bool (!aa))] n ?_
  rcases gx_bif hm with ⟨x, hm⟩ | ⟨x, hm⟩
  ·refine wK 11 true x (wR 14 [(0, .slice f c.length d), (4, pB g 0), (5, pB h 0), (25, .bool true)] n (W_nil ?_))
   obtain rfl := Option.some.inj hm
   exact N_meet fun a ha => ⟨t.pk [0, 1], ha.s⟩
  refine wK 11 false x (wV (iv i) n (eL false 1 0 (t.blk 0 rfl)) ?_)
  obtain ⟨ab, W, hm⟩ := gx_bind hm
  refine wC 52 #[iv i] ((c_i_isTick n i W).mono ?_)
  rintro e_ q ⟨rfl, L⟩
  have u := t.call0 L
  refine ⟨_, rfl, ?_⟩
  refine wR 3 [(0, .slice f c.length d), (4, pB g 0), (5, pB h 0), (16, .bool (!ab))] q ?_
  rcases gx_bif hm with ⟨y, hm⟩ | ⟨y, hm⟩
  ·refine wK 16 true y (wR 9 [(0, .slice f c.length d), (4, pB g 0), (5, pB h 0), (25, .bool true)] q (W_nil ?_))
   obtain rfl := Option.some.inj hm
   exact N_meet fun a ha => ⟨u.pk [0, 1], ha.s⟩
  refine wK 16 false y (wV (iv j) q (eL false 1 0 (u.blk 1 rfl)) ?_)
  obtain ⟨ac, X, hm⟩ := gx_bind hm
  refine wC 52 #[iv j] ((c_i_isTick q j X).mono ?_)
  rintro e_ l ⟨rfl, N⟩
  have m := u.call0 N
  refine ⟨_, rfl, ?_⟩
  refine wR 3 [(0, .slice f c.length d), (4, pB g 0), (5, pB h 0), (21, .bool (!ac))] l ?_
  rcases gx_bif hm with ⟨z, hm⟩ | ⟨z, hm⟩
  ·refine wK 21 true z (wR 4 [(0, .slice f c.length d), (4, pB g 0), (5, pB h 0), (25, .bool true)] l (W_nil ?_))
   obtain rfl := Option.some.inj hm
   exact N_meet fun a ha => ⟨m.pk [0, 1], ha.s⟩
  refine wK 21 false z (wV (iv i) l (eL false 1 0 (m.blk 0 rfl)) (wV (iv j) l (eL false 1 0 (m.blk 1 rfl)) (wR 2 [(0, .slice f c.length d), (4, pB g 0), (5, pB h 0), (25, .bool (decide (i > j)))] l (W_nil ?_))))
  obtain rfl := Option.some.inj hm
  exact N_meet fun a ha => ⟨m.pk [0, 1], ha.s⟩
 intro af D ⟨k, R⟩
 refine N_use R ?_
 have hm := S
 refine N_then ?_
 rcases gx_bif hm with ⟨A, hm⟩ | ⟨A, hm⟩
 ·refine gT A (G_seq (G_region (wR 2 [(6, .slice none 0 0), (7, .bool false)] D (W_nil (N_then (G_ret (N_then_ret ?_)))))))
  obtain rfl := Option.some.inj hm
  exact N_ret [.slice none 0 0, .bool false] (rC (rC RVs_nil)) (⟨none, 0, [], rfl, ownS_nil, k.pk [100000]⟩)
 refine gF A (G_skip (N_then (G_seq (G_region (wR 2 [(26, .slice f c.length d), (27, .func (.func 66) #[] #[pB g 0, pB h 0])] D ?_)))))
 obtain ⟨I, Y, hm⟩ := gx_bind hm
 refine wC 62 #[.slice f c.length d, .func (.func 66) #[] #[pB g 0, pB h 0]] ((c_i_eventsWhere__i_EventsWithin_1 D c f d (G.mem0 k) i g (k.blk 0 (b := g) (o := .cells ⟨[iv i]⟩ 3 (0, 0)) (by kernel_rfl)) j h (k.blk 1 (b := h) (o := .cells ⟨[iv j]⟩ 3 (0, 0)) (by kernel_rfl)) Y).mono ?_)
 rintro e_ ae ⟨B, v, ad, rfl, U, O⟩
 have Q := k.call O
 refine ⟨_, rfl, ?_⟩
 refine wR 2 [(6, .slice B I.length v), (7, .bool true)] ae (W_nil (N_then (G_ret ?_)))
 obtain rfl := Option.some.inj hm
 exact N_ret [.slice B I.length v, .bool true] (rC (rC RVs_nil)) (⟨B, v, ad, rfl, U, Q.pk [2]⟩)
theorem c_l_FnExactEventsWithin (w : World) (c : List Event) (g : Option Addr) (d : Nat) (y : rdS encEvent w c g d) (i : Int) (j : Int) {r : Bool} (hm : M.l_FnExactEventsWithin c i j = some r) :
  Calls Try.prog 8 #[.slice g c.length d, iv i, iv j] w fun e w' => e = .returned (.bool r) ∧ Mem [] w w' [] := by
 unfold M.l_FnExactEventsWithin at hm
 refine cE Try.func8 ?_
 have M0 := Mem.refl [] w
 refine G_seq (G_region (wR 1 [(0, .slice g c.length d), (1, iv i), (2, iv j)] w (W_nil (N_then (G_seq (G_region (wR 1 [(0, .slice g c.length d), (1, iv i), (2, iv j), (7, iv 1048576)] w (W_nil (N_then (G_seq (G_region (wR 2 [(0, .slice g c.length d), (1, iv i), (2, iv j), (7, iv 1048576), (18, .slice g c.length d), (19, iv 1048576)] w ?_))))))))))))
 obtain ⟨bi, ci, hm⟩ := gx_bind hm
 refine wC 17 #[.slice g c.length d, iv 1048576] ((c_l_szEventS w c g d (y.mem0 M0) 1048576 ci).mono ?_)
 rintro e_ z ⟨rfl, bo⟩
 have P := M0.call0 bo
 refine ⟨_, rfl, ?_⟩
 refine wR 1 [(0, .slice g c.length d), (1, iv i), (2, iv j), (7, iv bi)] z (W_nil (N_then (G_seq (G_seq (G_region (wR 2 [(0, .slice g c.length d), (1, iv i), (2, iv j), (22, .bool (decide (bi < 0)))] z (W_nil (N_then ?_))))))))
 rcases gx_bif hm with ⟨Y, hm⟩ | ⟨Y, hm⟩
 ·refine gT Y (G_seq (G_region (wR 1 [(6, .bool true)] z (W_nil (N_then (G_ret (N_then_ret ?_)))))))
  obtain rfl := Option.some.inj hm
  exact N_ret [.bool true] (rC RVs_nil) (⟨rfl, P.pk []⟩)
 refine gF Y (G_skip (N_then (G_seq (G_region (wR 1 [(0, .slice g c.length d), (1, iv i), (2, iv j), (24, .slice g c.length d)] z ?_)))))
 obtain ⟨aq, cj, hm⟩ := gx_bind hm
 refine wC 19 #[.slice g c.length d] ((c_l_toEventS z c g d (y.mem0 P) cj).mono ?_)
 rintro e_ bm ⟨ao, W, db, rfl, cb, bp⟩
 have a6 := P.call bp
 refine ⟨_, rfl, ?_⟩
 refine wR 2 [(0, .slice g c.length d), (1, iv i), (2, iv j), (25, .slice ao aq.length W), (26, iv i), (27, iv j)] bm ?_
 obtain ⟨b, ck, hm⟩ := gx_bind hm
 refine wC 30 #[.slice ao aq.length W, iv i, iv j] ((c_s_EventsWithin bm aq ao W (cb.rd a6 0 (by kernel_rfl)) i j ck).mono ?_)
 rintro e_ aw ⟨n, m, bk, rfl, al, bq⟩
 have a7 := a6.call bq
 refine ⟨_, rfl, ?_⟩
 refine wR 5 [(0, .slice g c.length d), (1, iv i), (2, iv j), (8, .slice n b.1.length m), (9, .bool b.2)] aw (W_nil (N_then (G_seq (G_region (wR 1 [(0, .slice g c.length d), (1, iv i), (2, iv j), (8, .slice n b.1.length m), (9, .bool b.2), (31, .slice g c.length d)] aw ?_)))))
 obtain ⟨t, cl, hm⟩ := gx_bind hm
 refine wC 19 #[.slice g c.length d] ((c_l_toEventS aw c g d (y.mem0 a7) cl).mono ?_)
 rintro e_ ax ⟨q, o, bl, rfl, am, br⟩
 have a8 := a7.call br
 refine ⟨_, rfl, ?_⟩
 refine wR 1 [(0, .slice g c.length d), (1, iv i), (2, iv j), (8, .slice n b.1.length m), (9, .bool b.2), (10, .slice q t.length o)] ax (W_nil (N_then (G_seq (G_region (wR 3 [(0, .slice g c.length d), (1, iv i), (2, iv j), (8, .slice n b.1.length m), (9, .bool b.2), (10, .slice q t.length o), (34, .slice q t.length o), (35, iv i), (36, iv j)] ax ?_)))))
 obtain ⟨k, cm, hm⟩ := gx_bind hm
 refine wC 31 #[.slice q t.length o, iv i, iv j] ((c_i_EventsWithin ax t q o (am.rd a8 2 (by kernel_rfl)) i j cm).mono ?_)
 rintro e_ ay ⟨h, f, av, rfl, an, bs⟩
 have Q := a8.call bs
 refine ⟨_, rfl, ?_⟩
 refine wR 5 [(0, .slice g c.length d), (1, iv i), (2, iv j), (8, .slice n b.1.length m), (9, .bool b.2), (10, .slice q t.length o), (11, .slice h k.1.length f), (12, .bool k.2)] ay (W_nil (N_then (G_seq (G_seq ?_))))
 obtain ⟨cy, cc, b8⟩ := gx_bind hm
 refine G_meet (fun a w' => Mem [] w w' [bk, bl, av] ∧ Sat Try.f8.ntmps [(0, .slice g c.length d), (1, iv i), (2, iv j), (8, .slice n b.1.length m), (9, .bool b.2), (10, .slice q t.length o), (11, .slice h k.1.length f), (12, .bool k.2), (48, .bool cy)] a) ?_ ?_
 ·have hm := cc
  refine G_region (wR 2 [(0, .slice g c.length d), (1, iv i), (2, iv j), (8, .slice n b.1.length m), (9, .bool b.2), (10, .slice q t.length o), (11, .slice h k.1.length f), (12, .bool k.2), (40, .slice h k.1.length f), (41, .slice n b.1.length m)] ay ?_)
  obtain ⟨c1, cn, hm⟩ := gx_bind hm
  refine wC 21 #[.slice h k.1.length f, .slice n b.1.length m] ((c_l_eqEventS ay k.1 h f (an.rd Q 3 (by kernel_rfl)) b.1 n m (al.rd Q 1 (by kernel_rfl)) cn).mono ?_)
  rintro e_ az ⟨rfl, bt⟩
  have a9 := Q.call0 bt
  refine ⟨_, rfl, ?_⟩
  refine wR 2 [(0, .slice g c.length d), (1, iv i), (2, iv j), (8, .slice n b.1.length m), (9, .bool b.2), (10, .slice q t.length o), (11, .slice h k.1.length f), (12, .bool k.2), (44, .bool (!c1))] az ?_
  rcases gx_bif hm with ⟨Z, hm⟩ | ⟨Z, hm⟩
  ·refine wK 44 true Z (wR 4 [(0, .slice g c.length d), (1, iv i), (2, iv j), (8, .slice n b.1.length m), (9, .bool b.2), (10, .slice q t.length o), (11, .slice h k.1.length f), (12, .bool k.2), (48, .bool true)] az (W_nil ?_))
   obtain rfl := Option.some.inj hm
   exact N_meet fun a ha => ⟨a9.pk [1, 2, 3], ha.s⟩
  refine wK 44 false Z (wR 4 [(0, .slice g c.length d), (1, iv i), (2, iv j), (8, .slice n b.1.length m), (9, .bool b.2), (10, .slice q t.length o), (11, .slice h k.1.length f), (12, .bool k.2), (48, .bool (!(k.2 == b.2)))] az (W_nil ?_))
  obtain rfl := Option.some.inj hm
  exact N_meet fun a ha => ⟨a9.pk [1, 2, 3], ha.s⟩
 intro c7 a0 ⟨R, b5⟩
 refine N_use b5 ?_
 have hm := b8
 refine N_then ?_
 rcases gx_bif hm with ⟨aa, hm⟩ | ⟨aa, hm⟩
 ·refine gT aa (G_seq (G_region (wR 1 [(6, .bool false)] a0 (W_nil (N_then (G_ret (N_then_ret ?_)))))))
  obtain rfl := Option.some.inj hm
  exact N_ret [.bool false] (rC RVs_nil) (⟨rfl, R.pk []⟩)
 refine gF aa (G_skip (N_then (G_seq (G_seq (G_region (wR 2 [(0, .slice g c.length d), (1, iv i), (2, iv j), (8, .slice n b.1.length m), (9, .bool b.2), (10, .slice q t.length o), (11, .slice h k.1.length f), (12, .bool k.2), (49, .slice q t.length o), (50, .slice g c.length d)] a0 ?_))))))
 obtain ⟨bj, co, hm⟩ := gx_bind hm
 refine wC 19 #[.slice g c.length d] ((c_l_toEventS a0 c g d (y.mem0 R) co).mono ?_)
 rintro e_ c6 ⟨bh, be, dc, rfl, cd, bu⟩
 have S := R.call bu
 refine ⟨_, rfl, ?_⟩
 obtain ⟨c2, cp, hm⟩ := gx_bind hm
 refine wC 21 #[.slice q t.length o, .slice bh bj.length be] ((c_l_eqEventS c6 t q o (am.rd S 1 (by kernel_rfl)) bj bh be (cd.rd S 3 (by kernel_rfl)) cp).mono ?_)
 rintro e_ A ⟨rfl, bv⟩
 have C := S.call0 bv
 refine ⟨_, rfl, ?_⟩
 refine wR 1 [(0, .slice g c.length d), (1, iv i), (2, iv j), (8, .slice n b.1.length m), (9, .bool b.2), (10, .slice q t.length o), (11, .slice h k.1.length f), (12, .bool k.2), (53, .bool (!c2))] A (W_nil (N_then ?_))
 rcases gx_bif hm with ⟨ab, hm⟩ | ⟨ab, hm⟩
 ·refine gT ab (G_seq (G_region (wR 1 [(6, .bool false)] A (W_nil (N_then (G_ret (N_then_ret ?_)))))))
  obtain rfl := Option.some.inj hm
  exact N_ret [.bool false] (rC RVs_nil) (⟨rfl, C.pk []⟩)
 refine gF ab (G_skip (N_then (G_seq (G_region (wR 1 [(0, .slice g c.length d), (1, iv i), (2, iv j), (8, .slice n b.1.length m), (9, .bool b.2), (10, .slice q t.length o), (11, .slice h k.1.length f), (12, .bool k.2), (13, iv 1)] A (W_nil (N_then (G_seq (G_region (wR 2 [(0, .slice g c.length d), (1, iv i), (2, iv j), (8, .slice n b.1.length m), (9, .bool b.2), (11, .slice h k.1.length f), (12, .bool k.2), (13, iv 1), (54, .slice q t.length o), (55, iv 1)] A ?_))))))))))
 obtain ⟨ar, cq, hm⟩ := gx_bind hm
 refine wC 28 #[.slice q t.length o, iv 1] ((c_l_markEventS A t q o bl am 1 (C.hasPick [1]) (C.nodupPick [1] (by kernel_rfl)) cq).mono ?_)
 rintro e_ B ⟨dd, rfl, da, bf, bw⟩
 have D := C.callF' [1] [0, 2, 3] (by kernel_rfl) bw
 refine ⟨_, rfl, ?_⟩
 refine wX 54 (.slice q t.length o) (.slice q ar.2.length o) (by first | rw [bf] | rw [bf]) (wR 1 [(0, .slice g c.length d), (1, iv i), (2, iv j), (8, .slice n b.1.length m), (9, .bool b.2), (11, .slice h k.1.length f), (12, .bool k.2), (13, iv ar.1)] B (W_nil (N_then (G_seq (G_seq ?_)))))
 obtain ⟨cz, ce, b9⟩ := gx_bind hm
 refine G_meet (fun a w' => Mem [] w w' [bk, av] ∧ Sat Try.f8.ntmps [(0, .slice g c.length d), (1, iv i), (2, iv j), (8, .slice n b.1.length m), (9, .bool b.2), (11, .slice h k.1.length f), (69, .bool cz)] a) ?_ ?_
 ·have hm := ce
  refine G_region (wR 3 [(0, .slice g c.length d), (1, iv i), (2, iv j), (8, .slice n b.1.length m), (9, .bool b.2), (11, .slice h k.1.length f), (12, .bool k.2), (59, .bool (decide (ar.1 < 0)))] B ?_)
  rcases gx_bif hm with ⟨ac, hm⟩ | ⟨ac, hm⟩
  ·refine wK 59 true ac (wR 10 [(0, .slice g c.length d), (1, iv i), (2, iv j), (8, .slice n b.1.length m), (9, .bool b.2), (11, .slice h k.1.length f), (69, .bool true)] B (W_nil ?_))
   obtain rfl := Option.some.inj hm
   exact N_meet fun a ha => ⟨D.pk [0, 1], ha.s⟩
  refine wK 59 false ac (wR 2 [(0, .slice g c.length d), (1, iv i), (2, iv j), (8, .slice n b.1.length m), (9, .bool b.2), (11, .slice h k.1.length f), (12, .bool k.2), (59, .bool false), (60, .slice h k.1.length f), (61, .slice n b.1.length m)] B ?_)
  obtain ⟨c3, cr, hm⟩ := gx_bind hm
  refine wC 21 #[.slice h k.1.length f, .slice n b.1.length m] ((c_l_eqEventS B k.1 h f (an.rd D 1 (by kernel_rfl)) b.1 n m (al.rd D 0 (by kernel_rfl)) cr).mono ?_)
  rintro e_ a3 ⟨rfl, bx⟩
  have ba := D.call0 bx
  refine ⟨_, rfl, ?_⟩
  refine wR 3 [(0, .slice g c.length d), (1, iv i), (2, iv j), (8, .slice n b.1.length m), (9, .bool b.2), (11, .slice h k.1.length f), (12, .bool k.2), (65, .bool (!c3))] a3 ?_
  rcases gx_bif hm with ⟨ad, hm⟩ | ⟨ad, hm⟩
  ·refine wK 65 true ad (wR 4 [(0, .slice g c.length d), (1, iv i), (2, iv j), (8, .slice n b.1.length m), (9, .bool b.2), (11, .slice h k.1.length f), (69, .bool true)] a3 (W_nil ?_))
   obtain rfl := Option.some.inj hm
   exact N_meet fun a ha => ⟨ba.pk [0, 1], ha.s⟩
  refine wK 65 false ad (wR 4 [(0, .slice g c.length d), (1, iv i), (2, iv j), (8, .slice n b.1.length m), (9, .bool b.2), (11, .slice h k.1.length f), (69, .bool (!(k.2 == b.2)))] a3 (W_nil ?_))
  obtain rfl := Option.some.inj hm
  exact N_meet fun a ha => ⟨ba.pk [0, 1], ha.s⟩
 intro c8 L ⟨E, b6⟩
 refine N_use b6 ?_
 have hm := b9
 refine N_then ?_
 rcases gx_bif hm with ⟨ae, hm⟩ | ⟨ae, hm⟩
 ·refine gT ae (G_seq (G_region (wR 1 [(6, .bool false)] L (W_nil (N_then (G_ret (N_then_ret ?_)))))))
  obtain rfl := Option.some.inj hm
  exact N_ret [.bool false] (rC RVs_nil) (⟨rfl, E.pk []⟩)
 refine gF ae (G_skip (N_then (G_seq (G_region (wR 1 [(0, .slice g c.length d), (1, iv i), (2, iv j), (8, .slice n b.1.length m), (9, .bool b.2), (11, .slice h k.1.length f), (14, iv 1)] L (W_nil (N_then (G_seq (G_region (wR 2 [(0, .slice g c.length d), (1, iv i), (2, iv j), (8, .slice n b.1.length m), (9, .bool b.2), (11, .slice h k.1.length f), (14, iv 1), (70, .slice h k.1.length f), (71, iv 1)] L ?_))))))))))
 obtain ⟨l, cs, hm⟩ := gx_bind hm
 refine wC 28 #[.slice h k.1.length f, iv 1] ((c_l_markEventS L k.1 h f av an 1 (E.hasPick [1]) (E.nodupPick [1] (by kernel_rfl)) cs).mono ?_)
 rintro e_ N ⟨c5, rfl, bg, H, bz⟩
 have bb := E.callF' [1] [0] (by kernel_rfl) bz
 refine ⟨_, rfl, ?_⟩
 refine wX 11 (.slice h k.1.length f) (.slice h l.2.length f) (by first | rw [H] | rw [H]) (wX 70 (.slice h k.1.length f) (.slice h l.2.length f) (by first | rw [H] | rw [H]) (wR 1 [(0, .slice g c.length d), (1, iv i), (2, iv j), (8, .slice n b.1.length m), (9, .bool b.2), (11, .slice h l.2.length f), (14, iv l.1)] N (W_nil (N_then (G_seq (G_region (wR 1 [(0, .slice g c.length d), (1, iv i), (2, iv j), (8, .slice n b.1.length m), (9, .bool b.2), (11, .slice h l.2.length f), (14, iv l.1), (15, iv 1)] N (W_nil (N_then (G_seq (G_region (wR 2 [(0, .slice g c.length d), (1, iv i), (2, iv j), (8, .slice n b.1.length m), (9, .bool b.2), (11, .slice h l.2.length f), (14, iv l.1), (15, iv 1), (73, .slice h l.2.length f), (74, iv 1)] N ?_))))))))))))
 obtain ⟨J, ct, hm⟩ := gx_bind hm
 refine wC 29 #[.slice h l.2.length f, iv 1] ((c_l_heldEventS N l.2 h f (bg.rd bb 1 (by kernel_rfl)) 1 ct).mono ?_)
 rintro e_ v ⟨rfl, b0⟩
 have F := bb.call0 b0
 refine ⟨_, rfl, ?_⟩
 refine wR 1 [(0, .slice g c.length d), (1, iv i), (2, iv j), (8, .slice n b.1.length m), (9, .bool b.2), (11, .slice h l.2.length f), (14, iv l.1), (15, iv J)] v (W_nil (N_then (G_seq (G_seq (G_region (wR 2 [(0, .slice g c.length d), (1, iv i), (2, iv j), (8, .slice n b.1.length m), (9, .bool b.2), (11, .slice h l.2.length f), (14, iv l.1), (15, iv J), (77, .bool (decide (J < 0)))] v (W_nil (N_then ?_))))))))
 rcases gx_bif hm with ⟨af, hm⟩ | ⟨af, hm⟩
 ·refine gT af (G_seq (G_region (wR 1 [(6, .bool false)] v (W_nil (N_then (G_ret (N_then_ret ?_)))))))
  obtain rfl := Option.some.inj hm
  exact N_ret [.bool false] (rC RVs_nil) (⟨rfl, F.pk []⟩)
 refine gF af (G_skip (N_then (G_seq (G_seq (G_region (wR 3 [(0, .slice g c.length d), (1, iv i), (2, iv j), (8, .slice n b.1.length m), (9, .bool b.2), (11, .slice h l.2.length f), (14, iv l.1), (80, .bool (J != l.1))] v (W_nil (N_then ?_))))))))
 rcases gx_bif hm with ⟨ag, hm⟩ | ⟨ag, hm⟩
 ·refine gT ag (G_seq (G_region (wR 1 [(6, .bool false)] v (W_nil (N_then (G_ret (N_then_ret ?_)))))))
  obtain rfl := Option.some.inj hm
  exact N_ret [.bool false] (rC RVs_nil) (⟨rfl, F.pk []⟩)
 refine gF ag (G_skip (N_then (G_seq (G_region (wR 1 [(1, iv i), (2, iv j), (8, .slice n b.1.length m), (9, .bool b.2), (11, .slice h l.2.length f), (14, iv l.1), (82, .slice g c.length d)] v ?_)))))
 obtain ⟨au, cu, hm⟩ := gx_bind hm
 refine wC 19 #[.slice g c.length d] ((c_l_toEventS v c g d (y.mem0 F) cu).mono ?_)
 rintro e_ bn ⟨ap, X, de, rfl, cf, b1⟩
 have bc := F.call b1
 refine ⟨_, rfl, ?_⟩
 refine wR 2 [(8, .slice n b.1.length m), (9, .bool b.2), (11, .slice h l.2.length f), (14, iv l.1), (83, .slice ap au.length X), (84, iv i), (85, iv j)] bn ?_
 obtain ⟨u, cv, hm⟩ := gx_bind hm
 refine wC 31 #[.slice ap au.length X, iv i, iv j] ((c_i_EventsWithin bn au ap X (cf.rd bc 2 (by kernel_rfl)) i j cv).mono ?_)
 rintro e_ a4 ⟨I, G, df, rfl, cg, b2⟩
 have T := bc.call b2
 refine ⟨_, rfl, ?_⟩
 refine wR 5 [(8, .slice n b.1.length m), (9, .bool b.2), (11, .slice h l.2.length f), (14, iv l.1), (16, .slice I u.1.length G), (17, .bool u.2)] a4 (W_nil (N_then (G_seq (G_seq ?_))))
 obtain ⟨c0, ch, ca⟩ := gx_bind hm
 refine G_meet (fun a w' => Mem [] w w' [c5] ∧ Sat Try.f8.ntmps [(11, .slice h l.2.length f), (14, iv l.1), (97, .bool c0)] a) ?_ ?_
 ·have hm := ch
  refine G_region (wR 2 [(9, .bool b.2), (11, .slice h l.2.length f), (14, iv l.1), (17, .bool u.2), (89, .slice I u.1.length G), (90, .slice n b.1.length m)] a4 ?_)
  obtain ⟨c4, cw, hm⟩ := gx_bind hm
  refine wC 21 #[.slice I u.1.length G, .slice n b.1.length m] ((c_l_eqEventS a4 u.1 I G (cg.rd T 3 (by kernel_rfl)) b.1 n m (al.rd T 0 (by kernel_rfl)) cw).mono ?_)
  rintro e_ a5 ⟨rfl, b3⟩
  have bd := T.call0 b3
  refine ⟨_, rfl, ?_⟩
  refine wR 2 [(9, .bool b.2), (11, .slice h l.2.length f), (14, iv l.1), (17, .bool u.2), (93, .bool (!c4))] a5 ?_
  rcases gx_bif hm with ⟨ah, hm⟩ | ⟨ah, hm⟩
  ·refine wK 93 true ah (wR 4 [(11, .slice h l.2.length f), (14, iv l.1), (97, .bool true)] a5 (W_nil ?_))
   obtain rfl := Option.some.inj hm
   exact N_meet fun a ha => ⟨bd.pk [1], ha.s⟩
  refine wK 93 false ah (wR 4 [(11, .slice h l.2.length f), (14, iv l.1), (97, .bool (!(u.2 == b.2)))] a5 (W_nil ?_))
  obtain rfl := Option.some.inj hm
  exact N_meet fun a ha => ⟨bd.pk [1], ha.s⟩
 intro c9 O ⟨U, b7⟩
 refine N_use b7 ?_
 have hm := ca
 refine N_then ?_
 rcases gx_bif hm with ⟨ai, hm⟩ | ⟨ai, hm⟩
 ·refine gT ai (G_seq (G_region (wR 1 [(6, .bool false)] O (W_nil (N_then (G_ret (N_then_ret ?_)))))))
  obtain rfl := Option.some.inj hm
  exact N_ret [.bool false] (rC RVs_nil) (⟨rfl, U.pk []⟩)
 refine gF ai (G_skip (N_then (G_seq (G_region (wR 1 [(11, .slice h l.2.length f), (14, iv l.1), (15, iv 1)] O (W_nil (N_then (G_seq (G_region (wR 2 [(14, iv l.1), (15, iv 1), (98, .slice h l.2.length f), (99, iv 1)] O ?_))))))))))
 obtain ⟨K, cx, hm⟩ := gx_bind hm
 refine wC 29 #[.slice h l.2.length f, iv 1] ((c_l_heldEventS O l.2 h f (bg.rd U 0 (by kernel_rfl)) 1 cx).mono ?_)
 rintro e_ x ⟨rfl, b4⟩
 have V := U.call0 b4
 refine ⟨_, rfl, ?_⟩
 refine wR 1 [(14, iv l.1), (15, iv K)] x (W_nil (N_then (G_seq (G_seq (G_region (wR 2 [(14, iv l.1), (15, iv K), (102, .bool (decide (K < 0)))] x (W_nil (N_then ?_))))))))
 rcases gx_bif hm with ⟨aj, hm⟩ | ⟨aj, hm⟩
 ·refine gT aj (G_seq (G_region (wR 1 [(6, .bool false)] x (W_nil (N_then (G_ret (N_then_ret ?_)))))))
  obtain rfl := Option.some.inj hm
  exact N_ret [.bool false] (rC RVs_nil) (⟨rfl, V.pk []⟩)
 refine gF aj (G_skip (N_then (G_seq (G_seq (G_region (wR 3 [(105, .bool (K != l.1))] x (W_nil (N_then ?_))))))))
 rcases gx_bif hm with ⟨ak, hm⟩ | ⟨ak, hm⟩
 ·refine gT ak (G_seq (G_region (wR 1 [(6, .bool false)] x (W_nil (N_then (G_ret (N_then_ret ?_)))))))
  obtain rfl := Option.some.inj hm
  exact N_ret [.bool false] (rC RVs_nil) (⟨rfl, V.pk []⟩)
 refine gF ak (G_skip (N_then (G_seq (G_region (wR 1 [(6, .bool true)] x (W_nil (N_then (G_ret ?_))))))))
 obtain rfl := Option.some.inj hm
 exact N_ret [.bool true] (rC RVs_nil) (⟨rfl, V.pk []⟩)
theorem c_s_l22Add (w : World) (g : List Event) (d : Option Addr) (c : Nat) (C : rdS encEvent w g d c) (b : Event) {r : (List Event)} (hm : M.s_l22Add g b = some r) :
  Calls Try.prog 68 #[.slice d g.length c, .agg #[iv b.Tick, iv b.Guest, .string b.Kind, iv b.Value]] w fun e w' => ∃ (af : Option Addr) (ac : Nat) (ag : Seg), e = .returned (.slice af r.length ac) ∧ ownS encEvent r af ac ag ∧ Mem [] w w' [ag] := by
 unfold M.s_l22Add at hm
 refine cE Try.func68 ?_
 have M0 := Mem.refl [] w
 refine G_seq (G_region (wN (.cells ⟨[iv b.Tick, iv b.Guest, .string b.Kind, iv b.Value]⟩ 26 (0, 0)) M0 ?_))
 intro m ah ai
 refine wR 1 [(0, .slice d g.length c), (3, pB m 0)] ah (W_nil (N_then (G_seq (G_region (wR 3 [(0, .slice d g.length c), (3, pB m 0), (5, iv (g.length : Int))] ah (W_nil (N_then (G_seq ?_))))))))
 obtain ⟨k, be, ba⟩ := gx_bind hm
 refine G_meet (fun a w' => Mem [] w w' [[(m, .cells ⟨[iv b.Tick, iv b.Guest, .string b.Kind, iv b.Value]⟩ 26 (0, 0))]] ∧ Sat Try.f68.ntmps [(0, .slice d g.length c), (3, pB m 0), (5, iv k)] a) ?_ ?_
 ·refine G_block (G_while (σ := Int) (ρ := Int) (fun l a w' => Mem [] w w' [[(m, .cells ⟨[iv b.Tick, iv b.Guest, .string b.Kind, iv b.Value]⟩ 26 (0, 0))]] ∧ Sat Try.f68.ntmps [(0, .slice d g.length c), (3, pB m 0), (5, iv l)] a) be (fun a ha => ⟨ai.pk [0], ha.s⟩) ?_)
  clear hm
  intro l cb hm bd bv bz ⟨aj, a3⟩
  refine G_use a3 (G_seq (G_seq ?_))
  obtain ⟨bf, bb, a9⟩ := gx_bind hm
  refine G_meet (fun a w' => Mem [] w w' [[(m, .cells ⟨[iv b.Tick, iv b.Guest, .string b.Kind, iv b.Value]⟩ 26 (0, 0))]] ∧ Sat Try.f68.ntmps [(0, .slice d g.length c), (3, pB m 0), (5, iv l), (20, .bool bf)] a) ?_ ?_
  ·have hm := bb
   refine G_quiet (by kernel_rfl) (by kernel_rfl) aj (zR [iv l, .bool (decide (l > 0)), .bool (decide (l > 0))] [(0, .slice d g.length c), (3, pB m 0), (5, iv l), (10, .bool (decide (l > 0)))] ?_)
   rcases gx_bif hm with ⟨L, hm⟩ | ⟨L, hm⟩
   ·refine zK 10 true L (zR [.slice d g.length c, iv l, iv (w64 (l - 1))] [(0, .slice d g.length c), (3, pB m 0), (5, iv l), (10, .bool true), (11, .slice d g.length c), (13, iv (w64 (l - 1)))] ?_)
    obtain ⟨G, S, hm⟩ := gx_bind hm
    refine zV (elemP d ((w64 (l - 1)).toNat * 4)) (fun w_ M_ => (eI (C.mem0 M_) rfl S)) (zV (elemP d ((w64 (l - 1)).toNat * 4 + 0)) (fun w_ M_ => (eF 0 ((w64 (l - 1)).toNat * 4) 0 (C.mem0 M_) S)) (zV (iv G.Tick) (fun w_ M_ => (eE false 1 0 ((w64 (l - 1)).toNat * 4 + 0) (C.mem0 M_) S)) (zR [pB m 0] [(0, .slice d g.length c), (3, pB m 0), (5, iv l), (10, .bool true), (16, iv G.Tick), (17, pB m 0)] (zV (iv b.Tick) (fun w_ M_ => (eL false 1 0 (M_.blk 0 rfl))) (zR [.bool (decide (G.Tick > b.Tick)), .bool (decide (G.Tick > b.Tick))] [(0, .slice d g.length c), (3, pB m 0), (5, iv l), (20, .bool (decide (G.Tick > b.Tick)))] (Z_end fun b0 ak => ?_))))))
    obtain rfl := Option.some.inj hm
    exact N_meet fun a ha => ⟨ak.pk [0], ha.s⟩
   refine zK 10 false L (zR [undef, undef, undef, undef, undef, undef, undef, undef, undef, .bool false] [(0, .slice d g.length c), (3, pB m 0), (5, iv l), (20, .bool false)] (Z_end fun b1 al => ?_))
   obtain rfl := Option.some.inj hm
   exact N_meet fun a ha => ⟨al.pk [0], ha.s⟩
  intro bw bl ⟨U, a4⟩
  refine N_use a4 ?_
  have hm := a9
  refine N_then ?_
  rcases gx_bif hm with ⟨N, hm⟩ | ⟨N, hm⟩
  ·refine gT N (G_skip (N_then (G_block (G_region (wR 3 [(0, .slice d g.length c), (3, pB m 0), (5, iv (w64 (l - 1)))] bl (W_nil (N_block ?_)))))))
   obtain rfl := Option.some.inj hm
   exact N_loop fun a ha => ⟨_, rfl, U.pk [0], ha.s⟩
  refine gF N (G_exit (N_then_exit (N_then_exit (N_block_eq ?_))))
  obtain rfl := Option.some.inj hm
  obtain rfl := bd _ rfl
  exact N_meet fun a ha => ⟨U.pk [0], ha.s⟩
 intro bx b2 ⟨am, a5⟩
 refine N_use a5 ?_
 have hm := ba
 refine N_then (G_seq ?_)
 obtain ⟨I, ad, hm⟩ := gx_bind hm
 obtain ⟨D, a6, hm⟩ := gx_bind hm
 obtain ⟨F, a7, hm⟩ := gx_bind hm
 obtain ⟨J, ae, hm⟩ := gx_bind hm
 refine G_sub [(0, .slice d g.length c), (3, pB m 0), (5, iv k)] (by kernel_rfl) (G_dagL 11 [[], [], [], [1, 2], [0, 3], [], [5], [4, 6], [], [], [8, 9]] [[], [], [], [], [0], [], [], [4], [], [], []] [[], [], [], [], [], [], [], [6], [], [], []] [[], [], [], [], [], [], [], [], [], [], []] [[], [], [], [], [], [], [], [], [], [], []] [[], [], [], [], [], [], [], [], [], [], []] (fun _ => []) (fun i => ([fun f v s => ∃ (z : Option Addr) (u : Nat), v = (.slice z ([] : List Event).length u : Value) ∧ ownS encEvent ([] : List Event) z u s, fun f v s => v = (.slice d g.length c : Value) ∧ s = [], fun f v s => v = (iv k : Value) ∧ s = [], fun f v s => v = (.slice (subP d (0 : Int).toNat c 4) I.length (c - (0 : Int).toNat) : Value) ∧ s = [], fun f v s => ∃ (A : Option Addr) (x : Nat), v = (.slice A D.length x : Value) ∧ ownS encEvent D A x s, fun f v s => v = (.agg #[iv b.Tick, iv b.Guest, .string b.Kind, iv b.Value] : Value) ∧ s = [], fun f v s => ∃ (t : Option Addr) (q : Nat), v = (.slice t [b].length q : Value) ∧ ownS encEvent [b] t q s, fun f v s => ∃ (B : Option Addr) (y : Nat), v = (.slice B F.length y : Value) ∧ ownS encEvent F B y s, fun f v s => v = (.slice d g.length c : Value) ∧ s = [], fun f v s => v = (iv k : Value) ∧ s = [], fun f v s => v = (.slice (subP d k.toNat c 4) J.length (c - k.toNat) : Value) ∧ s = []] : List ((Nat → Value) → Value → Seg → Prop)).getD i (fun _ _ _ => False)) (fun j f v => ∃ s, (fun i => ([fun f v s => ∃ (z : Option Addr) (u : Nat), v = (.slice z ([] : List Event).length u : Value) ∧ ownS encEvent ([] : List Event) z u s, fun f v s => v = (.slice d g.length c : Value) ∧ s = [], fun f v s => v = (iv k : Value) ∧ s = [], fun f v s => v = (.slice (subP d (0 : Int).toNat c 4) I.length (c - (0 : Int).toNat) : Value) ∧ s = [], fun f v s => ∃ (A : Option Addr) (x : Nat), v = (.slice A D.length x : Value) ∧ ownS encEvent D A x s, fun f v s => v = (.agg #[iv b.Tick, iv b.Guest, .string b.Kind, iv b.Value] : Value) ∧ s = [], fun f v s => ∃ (t : Option Addr) (q : Nat), v = (.slice t [b].length q : Value) ∧ ownS encEvent [b] t q s, fun f v s => ∃ (B : Option Addr) (y : Nat), v = (.slice B F.length y : Value) ∧ ownS encEvent F B y s, fun f v s => v = (.slice d g.length c : Value) ∧ s = [], fun f v s => v = (iv k : Value) ∧ s = [], fun f v s => v = (.slice (subP d k.toNat c 4) J.length (c - k.toNat) : Value) ∧ s = []] : List ((Nat → Value) → Value → Seg → Prop)).getD i (fun _ _ _ => False)) j f v s) [] [6, 7, 10] [6, 7] (fun _ _ _ s h => ⟨s, h⟩) (by kernel_rfl) (by kernel_rfl) (am.preNil 11) (by kernel_rfl) (by kernel_rfl) (by kernel_rfl) (by kernel_rfl) (allOb_cons ?_ (allOb_cons ?_ (allOb_cons ?_ (allOb_cons ?_ (allOb_cons ?_ (allOb_cons ?_ (allOb_cons ?_ (allOb_cons ?_ (allOb_cons ?_ (allOb_cons ?_ (allOb_cons ?_ allOb_nil))))))))))) ?_)
 ·intro n o
  intro R b3 an
  refine wL (E := encEvent) ([] : List Event) 0 [] 26 an ?_
  intro z u bg b4 O ao
  exact W_nil (oE (.slice z ([] : List Event).length u) bg ⟨z, u, rfl, O⟩ (Mem.mid ao))
 ·intro n o
  intro R bm ap
  exact wR 1 [(24, .slice d g.length c)] bm (W_nil (oE (.slice d g.length c) [] ⟨by kernel_rfl, rfl⟩ ap))
 ·intro n o
  intro R bn aq
  exact wR 1 [(25, iv k)] bn (W_nil (oE (iv k) [] ⟨by kernel_rfl, rfl⟩ aq))
 ·intro n o
  intro v1_ hb1_
  obtain ⟨rfl, _⟩ := hb1_
  intro v2_ hb2_
  obtain ⟨rfl, _⟩ := hb2_
  intro R bo V
  exact wV (.slice (subP d (0 : Int).toNat c 4) I.length (c - (0 : Int).toNat)) bo (E_slice (E := encEvent) _ _ _ _ g.length 0 k rfl (by kernel_rfl) (Or.inl ⟨rfl, rfl⟩) (Or.inr ⟨_, rfl, by kernel_rfl⟩) (by kernel_rfl) (C.mem0 V) rfl ad) (W_nil (oE (.slice (subP d (0 : Int).toNat c 4) I.length (c - (0 : Int).toNat)) [] ⟨by kernel_rfl, rfl⟩ V))
 ·intro n o
  intro v0_ hb0_
  obtain ⟨z, u, rfl, O⟩ := hb0_
  intro v3_ hb3_
  obtain ⟨rfl, _⟩ := hb3_
  intro R b5 W
  refine wA 40 [iv 0, iv 0, .string ByteArray.empty, iv 0] 2 W O ((C.mem0 W).sliceM ad) a6 ?_
  intro A x bh b6 P ar
  exact W_nil (oE (.slice A D.length x) bh ⟨A, x, rfl, P⟩ (Mem.takeOver ar))
 ·intro n o
  intro R bp X
  exact wV (.agg #[iv b.Tick, iv b.Guest, .string b.Kind, iv b.Value]) bp (eL true 4 0 (X.blk 0 rfl)) (W_nil (oE (.agg #[iv b.Tick, iv b.Guest, .string b.Kind, iv b.Value]) [] ⟨by kernel_rfl, rfl⟩ X))
 ·intro n o
  intro v5_ hb5_
  obtain ⟨rfl, _⟩ := hb5_
  intro R b7 au
  refine wL (E := encEvent) [b] 1 [iv b.Tick, iv b.Guest, .string b.Kind, iv b.Value] 26 au ?_
  intro t q bi b8 H av
  exact W_nil (oE (.slice t [b].length q) bi ⟨t, q, rfl, H⟩ (Mem.mid av))
 ·intro n o
  intro v4_ hb4_
  obtain ⟨A, x, rfl, P⟩ := hb4_
  intro v6_ hb6_
  obtain ⟨t, q, rfl, H⟩ := hb6_
  intro R b9 Y
  refine wA 40 [iv 0, iv 0, .string ByteArray.empty, iv 0] 2 Y P (H.rd Y 3 (by kernel_rfl)) a7 ?_
  intro B y bj ca Q aw
  exact W_nil (oE (.slice B F.length y) bj ⟨B, y, rfl, Q⟩ (Mem.takeOver aw))
 ·intro n o
  intro R bq ax
  exact wR 1 [(31, .slice d g.length c)] bq (W_nil (oE (.slice d g.length c) [] ⟨by kernel_rfl, rfl⟩ ax))
 ·intro n o
  intro R br ay
  exact wR 1 [(32, iv k)] br (W_nil (oE (iv k) [] ⟨by kernel_rfl, rfl⟩ ay))
 ·intro n o
  intro v8_ hb8_
  obtain ⟨rfl, _⟩ := hb8_
  intro v9_ hb9_
  obtain ⟨rfl, _⟩ := hb9_
  intro R bs Z
  exact wV (.slice (subP d k.toNat c 4) J.length (c - k.toNat)) bs (E_slice (E := encEvent) _ _ _ _ g.length k (g.length : Int) rfl (by kernel_rfl) (Or.inr ⟨_, rfl, by kernel_rfl⟩) (Or.inl ⟨rfl, rfl⟩) (by kernel_rfl) (C.mem0 Z) rfl ae) (W_nil (oE (.slice (subP d k.toNat c 4) J.length (c - k.toNat)) [] ⟨by kernel_rfl, rfl⟩ Z))
 intro n o
 intro v6_ hb6_
 obtain ⟨t, q, rfl, H⟩ := hb6_
 intro v7_ hb7_
 obtain ⟨B, y, rfl, Q⟩ := hb7_
 intro v10_ hb10_
 obtain ⟨rfl, _⟩ := hb10_
 intro bt az
 have aa : Mem [] w bt [[(m, .cells ⟨[iv b.Tick, iv b.Guest, .string b.Kind, iv b.Value]⟩ 26 (0, 0))], (n 6), (n 7)] := az
 obtain ⟨ab, a8, hm⟩ := gx_bind hm
 refine wA 40 [iv 0, iv 0, .string ByteArray.empty, iv 0] 2 aa Q ((C.mem0 aa).sliceM ae) a8 ?_
 intro T K bk bu bc a0
 refine wR 1 [(4, .slice T ab.length K)] bu (W_nil (N_then (G_ret ?_)))
 obtain rfl := Option.some.inj hm
 exact N_ret [.slice T ab.length K] (rC RVs_nil) (⟨T, K, bk, rfl, bc, a0.pk [2]⟩)
theorem c_s_AddEvent (w : World) (c : List Event) (f : Option Addr) (d : Nat) (m : rdS encEvent w c f d) (b : Event) {r : (List Event) × Bool} (hm : M.s_AddEvent c b = some r) :
  Calls Try.prog 32 #[.slice f c.length d, .agg #[iv b.Tick, iv b.Guest, .string b.Kind, iv b.Value]] w fun e w' => ∃ (B : Option Addr) (z : Nat) (G : Seg), e = .returned (.tuple #[.slice B r.1.length z, .bool r.2]) ∧ ownS encEvent r.1 B z G ∧ Mem [] w w' [G] := by
 unfold M.s_AddEvent at hm
 refine cE Try.func32 ?_
 have M0 := Mem.refl [] w
 refine G_seq (G_region (wN (.cells ⟨[iv b.Tick, iv b.Guest, .string b.Kind, iv b.Value]⟩ 26 (0, 0)) M0 ?_))
 intro g u x
 refine wR 2 [(0, .slice f c.length d), (3, pB g 0)] u (W_nil (N_then (G_seq (G_seq ?_))))
 obtain ⟨Z, R, Q⟩ := gx_bind hm
 refine G_meet (fun a w' => Mem [] w w' [[(g, .cells ⟨[iv b.Tick, iv b.Guest, .string b.Kind, iv b.Value]⟩ 26 (0, 0))]] ∧ Sat Try.f32.ntmps [(0, .slice f c.length d), (3, pB g 0), (15, .bool Z)] a) ?_ ?_
 ·have hm := R
  refine G_region (wR 1 [(0, .slice f c.length d), (3, pB g 0), (6, .slice f c.length d)] u ?_)
  obtain ⟨aa, V, hm⟩ := gx_bind hm
  refine wC 56 #[.slice f c.length d] ((c_s_l22Good u c f d (m.mem0 x) V).mono ?_)
  rintro e_ h ⟨rfl, H⟩
  have i := x.call0 H
  refine ⟨_, rfl, ?_⟩
  refine wR 2 [(0, .slice f c.length d), (3, pB g 0), (9, .bool (!aa))] h ?_
  rcases gx_bif hm with ⟨n, hm⟩ | ⟨n, hm⟩
  ·refine wK 9 true n (wR 6 [(0, .slice f c.length d), (3, pB g 0), (15, .bool true)] h (W_nil ?_))
   obtain rfl := Option.some.inj hm
   exact N_meet fun a ha => ⟨i.pk [0], ha.s⟩
  refine wK 9 false n (wR 1 [(0, .slice f c.length d), (3, pB g 0), (9, .bool false), (10, .slice f c.length d)] h (wV (.agg #[iv b.Tick, iv b.Guest, .string b.Kind, iv b.Value]) h (eL true 4 0 (i.blk 0 rfl)) ?_))
  obtain ⟨D, W, hm⟩ := gx_bind hm
  refine wC 68 #[.slice f c.length d, .agg #[iv b.Tick, iv b.Guest, .string b.Kind, iv b.Value]] ((c_s_l22Add h c f d (m.mem0 i) b W).mono ?_)
  rintro e_ ae ⟨C, A, aj, rfl, S, I⟩
  have y := i.call I
  refine ⟨_, rfl, ?_⟩
  obtain ⟨ab, X, hm⟩ := gx_bind hm
  refine wC 56 #[.slice C D.length A] ((c_s_l22Good ae D C A (S.rd y 1 (by kernel_rfl)) X).mono ?_)
  rintro e_ af ⟨rfl, J⟩
  have L := y.call0 J
  refine ⟨_, rfl, ?_⟩
  refine wR 2 [(0, .slice f c.length d), (3, pB g 0), (15, .bool (!ab))] af (W_nil ?_)
  obtain rfl := Option.some.inj hm
  exact N_meet fun a ha => ⟨L.pk [0], ha.s⟩
 intro ai v ⟨j, P⟩
 refine N_use P ?_
 have hm := Q
 refine N_then ?_
 rcases gx_bif hm with ⟨o, hm⟩ | ⟨o, hm⟩
 ·refine gT o (G_seq (G_region (wL (E := encEvent) ([] : List Event) 0 [] 26 j ?_)))
  intro q k ac ag T N
  refine wR 2 [(4, .slice q ([] : List Event).length k), (5, .bool false)] ag (W_nil (N_then (G_ret (N_then_ret ?_))))
  obtain rfl := Option.some.inj hm
  exact N_ret [.slice q ([] : List Event).length k, .bool false] (rC (rC RVs_nil)) (⟨q, k, ac, rfl, T, N.pk [1]⟩)
 refine gF o (G_skip (N_then (G_seq (G_region (wR 1 [(3, pB g 0), (17, .slice f c.length d)] v (wV (.agg #[iv b.Tick, iv b.Guest, .string b.Kind, iv b.Value]) v (eL true 4 0 (j.blk 0 rfl)) ?_))))))
 obtain ⟨F, Y, hm⟩ := gx_bind hm
 refine wC 68 #[.slice f c.length d, .agg #[iv b.Tick, iv b.Guest, .string b.Kind, iv b.Value]] ((c_s_l22Add v c f d (m.mem0 j) b Y).mono ?_)
 rintro e_ ah ⟨t, l, ad, rfl, U, K⟩
 have O := j.call K
 refine ⟨_, rfl, ?_⟩
 refine wR 2 [(4, .slice t F.length l), (5, .bool true)] ah (W_nil (N_then (G_ret ?_)))
 obtain rfl := Option.some.inj hm
 exact N_ret [.slice t F.length l, .bool true] (rC (rC RVs_nil)) (⟨t, l, ad, rfl, U, O.pk [1]⟩)
theorem c_slices_Grow_91__n0 (w : World) (x3606 : Int) {r : (List Event)} (hm : M.slices_Grow_91__n0 x3606 = some r) :
    Calls Try.prog 91 #[.slice none 0 0, .int .i64 x3606] w fun e w' => ∃ (p3608 : Option Addr) (c3609 : Nat) (sg3610 : Seg), e = .returned (.slice p3608 r.length c3609) ∧ ownS encEvent r p3608 c3609 sg3610 ∧ Mem [] w w' [sg3610] := by
  unfold M.slices_Grow_91__n0 at hm
  refine C_enter Try.func91 rfl (by kernel_rfl) ?_
  have M0 := Mem.refl [] w
  obtain ⟨rfl, h0, h1⟩ := gxGrow_spec hm
  have hbig : x3606 ≤ 140737488355328 := by omega
  refine G_seq ?_
  refine G_region ?_
  refine W_run 1 [(0, .slice none 0 0), (1, .int .i64 x3606)] w (by kernel_rfl) ?_
  refine W_nil ?_
  refine N_then ?_
  refine G_seq ?_
  refine G_seq ?_
  refine G_region ?_
  refine W_run 2 [(0, .slice none 0 0), (1, .int .i64 x3606), (6, .bool (decide (x3606 < 0)))] w (by kernel_rfl) ?_
  refine W_nil ?_
  refine N_then ?_
  refine G_cond_f (b := decide (x3606 < 0)) (decide_eq_false (by omega)) (by kernel_rfl) ?_
  refine G_skip ?_
  refine N_then ?_
  refine G_seq ?_
  refine G_seq ?_
  refine G_region ?_
  refine W_run 8 [(0, .slice none 0 0), (1, .int .i64 (w64 (x3606 - w64 (0 - 0))))] w (by kernel_rfl) ?_
  refine W_conv 1 (.int .i64 (w64 (x3606 - w64 (0 - 0)))) (.int .i64 x3606) (by kernel_rfl) (by rw [grow_sub h0 hbig]) ?_
  refine W_nil ?_
  refine N_then ?_
  refine G_seq ?_
  refine G_region ?_
  refine W_run 2 [(0, .slice none 0 0), (1, .int .i64 x3606), (16, .bool (decide (x3606 > 0)))] w (by kernel_rfl) ?_
  refine W_nil ?_
  refine N_then ?_
  by_cases hp : x3606 > 0
  · refine G_cond_t (b := decide (x3606 > 0)) (decide_eq_true hp) (by kernel_rfl) ?_
    refine G_region ?_
    refine W_run 5 [(0, .slice none 0 0), (20, .slice none 0 0), (21, .int .i64 x3606)] w (by kernel_rfl) ?_
    refine W_made encEvent _ _ _ _ 40 [.int .i64 0, .int .i64 0, .string ByteArray.empty, .int .i64 0] x3606 .i64 M0 (by kernel_rfl) rfl (by kernel_rfl) (by kernel_rfl) (by kernel_rfl) (by kernel_rfl) (by kernel_rfl) (by kernel_rfl) (by kernel_rfl) hp h1 ?_
    intro c' sg' w' hc' ho' M'
    refine W_run 2 [(22, .slice (some ⟨w.heap.size, 0, none⟩) x3606.toNat c'), (24, .int .i64 0)] w' (by kernel_rfl) ?_
    refine W_slice (p := some ⟨w.heap.size, 0, none⟩) (c := c') _ _ _ _ x3606.toNat 0 0 4 (by kernel_rfl) rfl (by kernel_rfl) (Or.inl ⟨rfl, rfl⟩) (Or.inr ⟨_, rfl, (by kernel_rfl)⟩) (by kernel_rfl) hc' (by omega) (by omega) (by omega) ?_
    obtain ⟨sg2, ho2, hs2⟩ := ho'.slice 0 0 (Nat.le_refl _) (Nat.zero_le _)
    refine W_run 1 [(0, .slice (subP (some ⟨w.heap.size, 0, none⟩) 0 c' 4) 0 (c' - 0))] w' (by kernel_rfl) ?_
    refine W_nil ?_
    refine N_then ?_
    refine G_seq ?_
    refine G_region ?_
    refine W_run 2 [(4, .slice (subP (some ⟨w.heap.size, 0, none⟩) 0 c' 4) 0 (c' - 0))] w' (by kernel_rfl) ?_
    refine W_nil ?_
    refine N_then ?_
    refine G_ret ?_
    refine N_ret [.slice (subP (some ⟨w.heap.size, 0, none⟩) 0 c' 4) 0 (c' - 0)] (RVs_cons (RV_tmp (by kernel_rfl)) RVs_nil) ?_
    exact ⟨_, _, sg2, rfl, ho2, (by rcases hs2 with rfl | rfl; exact M'; exact (M'.pick [] (by kernel_rfl)).addNil)⟩
  refine G_cond_f (b := decide (x3606 > 0)) (decide_eq_false hp) (by kernel_rfl) ?_
  refine G_skip ?_
  refine N_then ?_
  refine G_seq ?_
  refine G_region ?_
  refine W_run 2 [(4, .slice none 0 0)] w (by kernel_rfl) ?_
  refine W_nil ?_
  refine N_then ?_
  refine G_ret ?_
  refine N_ret [.slice none 0 0] (RVs_cons (RV_tmp (by kernel_rfl)) RVs_nil) ?_
  exact ⟨none, 0, [], rfl, ownS_nil, M0.addNil⟩
end Go.Proofs.Ytfcebglkdfadcaa
