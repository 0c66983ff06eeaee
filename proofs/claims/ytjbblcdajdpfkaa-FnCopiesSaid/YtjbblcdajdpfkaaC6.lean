/- The walks, printed by program: whenever the model gives r, the call returns r. Part 6. -/
import Derived.Test.YtjbblcdajdpfkaaM
import Derived.Test.YtjbblcdajdpfkaaGxZ
import Derived.Test.YtjbblcdajdpfkaaProg
import Derived.Test.YtjbblcdajdpfkaaC5
set_option linter.unusedVariables false
set_option maxRecDepth 100000
set_option maxHeartbeats 4000000
namespace Go.Proofs.Ytjbblcdajdpfkaa
open Go.Gx
theorem c_s_l1Cur_copying (w : World) (d : l1Cur) (u : Option Addr) (x : Nat) (X : rdS Gx.encU8 w d.code u x) (c : Nat) (hA : ∀ q ∈ List.flatten [[(c, .cells ⟨[.slice u d.code.length x, iv d.at_, .int .u64 d.seed]⟩ 99 (0, 0))]], w.heap[q.1]? = some q.2) (hN : (idsOf [[(c, .cells ⟨[.slice u d.code.length x, iv d.at_, .int .u64 d.seed]⟩ 99 (0, 0))]]).Nodup) (Y : apartX (idsOf [[(c, .cells ⟨[.slice u d.code.length x, iv d.at_, .int .u64 d.seed]⟩ 99 (0, 0))]]) d.code u) {r : Copying × Int × Int} (hm : M.s_l1Cur_copying d = some r) :
  Calls Try.prog 84 #[pB c 0] w fun e w' => ∃ (du : Option Addr) (dn : Nat) (dy : Seg), ∃ (dv : Option Addr) (dp : Nat) (dz : Seg), ∃ (dw : Option Addr) (dq : Nat) (d0 : Seg), e = .returned (.agg #[.slice du r.1.Memory.length dn, .slice dv r.1.Copy.length dp, .slice dw r.1.Dirty.length dq]) ∧ ownS Gx.encI r.1.Memory du dn dy ∧ ownS Gx.encI r.1.Copy dv dp dz ∧ ownS Gx.encB r.1.Dirty dw dq d0 ∧ Mem (idsOf [[(c, .cells ⟨[.slice u d.code.length x, iv d.at_, .int .u64 d.seed]⟩ 99 (0, 0))]]) w w' [[(c, .cells ⟨[.slice u d.code.length x, iv r.2.1, .int .u64 r.2.2]⟩ 99 (0, 0))], dy, dz, d0] := by
 unfold M.s_l1Cur_copying at hm
 refine cE Try.func84 ?_
 have M0 := Mem.start' w [[(c, .cells ⟨[.slice u d.code.length x, iv d.at_, .int .u64 d.seed]⟩ 99 (0, 0))]] hA hN
 refine G_seq (G_region (wN (.cells ⟨[.slice none 0 0, .slice none 0 0, .slice none 0 0]⟩ 28 (0, 0)) M0 ?_))
 intro y d7 bf
 refine W_nil (N_then (G_seq (G_region (wR 1 [(0, pB c 0), (2, pB y 0), (8, pB c 0)] d7 ?_))))
 obtain ⟨ce, gw, hm⟩ := gx_bind hm
 refine wC 91 #[pB c 0] ((c_s_l1Cur_memory d7 d u x (X.memX Y bf) c (bf.hasPick [0]) (bf.nodupPick [0] (by kernel_rfl)) (apartX.old X Y bf [0]) gw).mono ?_)
 rintro e_ hk ⟨dt, dm, io, rfl, f1, d8⟩
 have df := bf.callF' [0] [1] (by kernel_rfl) d8
 refine ⟨_, rfl, ?_⟩
 obtain ⟨al, gx, hm⟩ := gx_bind hm
 refine wC 18 #[.slice dt ce.1.length dm] ((c_s_StartCopy hk ce.1 dt dm (f1.rd df 2 (by kernel_rfl)) gx).mono ?_)
 rintro e_ hl ⟨b4, bs, hc, b5, bt, hd, b6, bu, he, rfl, f2, f3, f4, d9⟩
 have ek := df.call d9
 refine ⟨_, rfl, ?_⟩
 refine wR 3 [(0, pB c 0), (2, pB y 0), (11, .agg #[.slice b4 al.1.Memory.length bs, .slice b5 al.1.Copy.length bt, .slice b6 al.1.Dirty.length bu]), (12, .bool al.2)] hl (wN (.cells ⟨[.slice none 0 0, .slice none 0 0, .slice none 0 0]⟩ 28 (0, 0)) ek ?_)
 intro n iq el
 refine wS true 3 0 (.agg #[.slice b4 al.1.Memory.length bs, .slice b5 al.1.Copy.length bt, .slice b6 al.1.Dirty.length bu]) 6 [.slice b4 al.1.Memory.length bs, .slice b5 al.1.Copy.length bt, .slice b6 al.1.Dirty.length bu] el rfl ?_
 intro dc bb
 refine wR 1 [(0, pB c 0), (2, pB y 0), (3, pB n 0)] dc (W_nil (N_then (G_seq (G_seq (G_region (wR 1 [(0, pB c 0), (2, pB y 0), (3, pB n 0), (13, pB c 0)] dc ?_))))))
 obtain ⟨hb, gy, hm⟩ := gx_bind hm
 refine wC 88 #[pB c 0, iv 6] ((c_s_l1Cur_pick dc (⟨d.code, ce.2.1, ce.2.2⟩ : l1Cur) u x (X.memX Y bb) c 6 (bb.hasPick [1]) (bb.nodupPick [1] (by kernel_rfl)) (apartX.old X Y bb [1]) gy).mono ?_)
 rintro e_ hn ⟨rfl, ea⟩
 have em := bb.callF' [1] [0, 2, 3, 4, 5, 6] (by kernel_rfl) ea
 refine ⟨_, rfl, ?_⟩
 refine wR 1 [(0, pB c 0), (2, pB y 0), (3, pB n 0), (5, iv hb.1)] hn (W_nil (N_then ?_))
 obtain ⟨t, g8, f0⟩ := gx_bind hm
 refine G_meet (fun a w' => ∃ (P : Option Addr), ∃ (N : Nat), ∃ (ad : Seg), ∃ (z : Option Addr), ∃ (A : Nat), ∃ (aw : Seg), ∃ (L : Option Addr), ∃ (O : Nat), ∃ (am : Seg), ownS Gx.encI t.2.2.1 P N ad ∧ ownS Gx.encI t.2.2.2.1 z A aw ∧ ownS Gx.encB t.2.2.2.2 L O am ∧ Mem (idsOf [[(c, .cells ⟨[.slice u d.code.length x, iv d.at_, .int .u64 d.seed]⟩ 99 (0, 0))]]) w w' [[(y, .cells ⟨[.slice none 0 0, .slice none 0 0, .slice none 0 0]⟩ 28 (0, 0))], [(n, .cells ⟨[.slice P t.2.2.1.length N, .slice z t.2.2.2.1.length A, .slice L t.2.2.2.2.length O]⟩ 28 (0, 0))], [(c, .cells ⟨[.slice u d.code.length x, iv t.1, .int .u64 t.2.1]⟩ 99 (0, 0))], ad, aw, am] ∧ Sat Try.f84.ntmps [(0, pB c 0), (2, pB y 0), (3, pB n 0)] a) ?_ ?_
 ·refine G_block (G_while (σ := Int × Int × Int × List Int × List Int × List Bool) (ρ := Int × Int × List Int × List Int × List Bool) (fun l a w' => ∃ (K : Option Addr), ∃ (J : Nat), ∃ (ap : Seg), ∃ (U : Option Addr), ∃ (Q : Nat), ∃ (aq : Seg), ∃ (V : Option Addr), ∃ (S : Nat), ∃ (ar : Seg), ownS Gx.encI l.2.2.2.1 K J ap ∧ ownS Gx.encI l.2.2.2.2.1 U Q aq ∧ ownS Gx.encB l.2.2.2.2.2 V S ar ∧ Mem (idsOf [[(c, .cells ⟨[.slice u d.code.length x, iv d.at_, .int .u64 d.seed]⟩ 99 (0, 0))]]) w w' [[(y, .cells ⟨[.slice none 0 0, .slice none 0 0, .slice none 0 0]⟩ 28 (0, 0))], [(n, .cells ⟨[.slice K l.2.2.2.1.length J, .slice U l.2.2.2.2.1.length Q, .slice V l.2.2.2.2.2.length S]⟩ 28 (0, 0))], [(c, .cells ⟨[.slice u d.code.length x, iv l.2.1, .int .u64 l.2.2.1]⟩ 99 (0, 0))], ap, aq, ar] ∧ Sat Try.f84.ntmps [(0, pB c 0), (2, pB y 0), (3, pB n 0), (5, iv l.1)] a) g8 (fun a ha => ⟨b4, bs, hc, b5, bt, hd, b6, bu, he, f2, f3, f4, em.pk [0, 5, 6, 2, 3, 4], ha.s⟩) ?_)
  clear hm
  intro l jb hm gv h9 bp ⟨K, J, ap, U, Q, aq, V, S, ar, bi, bj, bk, cr, fk⟩
  refine G_use fk (G_seq (G_seq ?_))
  obtain ⟨g9, f6, fu⟩ := gx_bind hm
  refine G_meet (fun a w' => Mem (idsOf [[(c, .cells ⟨[.slice u d.code.length x, iv d.at_, .int .u64 d.seed]⟩ 99 (0, 0))]]) w w' [[(y, .cells ⟨[.slice none 0 0, .slice none 0 0, .slice none 0 0]⟩ 28 (0, 0))], [(n, .cells ⟨[.slice K l.2.2.2.1.length J, .slice U l.2.2.2.2.1.length Q, .slice V l.2.2.2.2.2.length S]⟩ 28 (0, 0))], [(c, .cells ⟨[.slice u d.code.length x, iv l.2.1, .int .u64 l.2.2.1]⟩ 99 (0, 0))], ap, aq, ar] ∧ Sat Try.f84.ntmps [(0, pB c 0), (2, pB y 0), (3, pB n 0), (5, iv l.1), (22, .bool g9)] a) ?_ ?_
  ·have hm := f6
   refine G_region (wR 3 [(0, pB c 0), (2, pB y 0), (3, pB n 0), (5, iv l.1), (17, .bool (decide (l.1 > 0)))] bp ?_)
   rcases gx_bif hm with ⟨cz, hm⟩ | ⟨cz, hm⟩
   ·refine wK 17 true cz (wR 1 [(0, pB c 0), (2, pB y 0), (3, pB n 0), (5, iv l.1), (17, .bool true), (18, pB n 0)] bp (wV (.slice K l.2.2.2.1.length J) bp (eL false 1 0 (cr.blk 1 rfl)) (wR 3 [(0, pB c 0), (2, pB y 0), (3, pB n 0), (5, iv l.1), (22, .bool (decide ((l.2.2.2.1.length : Int) > 0)))] bp (W_nil ?_))))
    obtain rfl := Option.some.inj hm
    exact N_meet fun a ha => ⟨cr.pk [0, 1, 2, 3, 4, 5], ha.s⟩
   refine wK 17 false cz (wR 5 [(0, pB c 0), (2, pB y 0), (3, pB n 0), (5, iv l.1), (22, .bool false)] bp (W_nil ?_))
   obtain rfl := Option.some.inj hm
   exact N_meet fun a ha => ⟨cr.pk [0, 1, 2, 3, 4, 5], ha.s⟩
  intro ia d1 ⟨a3, fl⟩
  refine N_use fl ?_
  have hm := fu
  refine N_then ?_
  rcases gx_bif hm with ⟨c0, hm⟩ | ⟨c0, hm⟩
  ·refine gT c0 (G_skip (N_then (G_seq (G_block (G_seq (G_region (wR 1 [(0, pB c 0), (2, pB y 0), (3, pB n 0), (5, iv l.1), (25, pB c 0)] d1 ?_)))))))
   obtain ⟨an, gz, hm⟩ := gx_bind hm
   refine wC 102 #[pB c 0, iv 2] ((c_s_l1Cur_one d1 (⟨d.code, l.2.1, l.2.2.1⟩ : l1Cur) u x (X.memX Y a3) c 2 (a3.hasPick [2]) (a3.nodupPick [2] (by kernel_rfl)) (apartX.old X Y a3 [2]) gz).mono ?_)
   rintro e_ bq ⟨rfl, eb⟩
   have ay := a3.callF' [2] [0, 1, 3, 4, 5] (by kernel_rfl) eb
   refine ⟨_, rfl, ?_⟩
   refine W_nil (N_then ?_)
   obtain ⟨av, f7, fv⟩ := gx_bind hm
   refine G_meet (fun a w' => ∃ (b7 : Option Addr), ∃ (bv : Nat), ∃ (cf : Seg), ∃ (b8 : Option Addr), ∃ (bw : Nat), ∃ (cg : Seg), ∃ (b9 : Option Addr), ∃ (bx : Nat), ∃ (ch : Seg), ownS Gx.encI av.2.2.1 b7 bv cf ∧ ownS Gx.encI av.2.2.2.1 b8 bw cg ∧ ownS Gx.encB av.2.2.2.2 b9 bx ch ∧ Mem (idsOf [[(c, .cells ⟨[.slice u d.code.length x, iv d.at_, .int .u64 d.seed]⟩ 99 (0, 0))]]) w w' [[(y, .cells ⟨[.slice none 0 0, .slice none 0 0, .slice none 0 0]⟩ 28 (0, 0))], [(n, .cells ⟨[.slice b7 av.2.2.1.length bv, .slice b8 av.2.2.2.1.length bw, .slice b9 av.2.2.2.2.length bx]⟩ 28 (0, 0))], [(c, .cells ⟨[.slice u d.code.length x, iv av.1, .int .u64 av.2.1]⟩ 99 (0, 0))], cf, cg, ch] ∧ Sat Try.f84.ntmps [(0, pB c 0), (2, pB y 0), (3, pB n 0), (5, iv l.1)] a) ?_ ?_
   ·have hm := f7
    rcases gx_bif hm with ⟨c1, hm⟩ | ⟨c1, hm⟩
    ·refine gT c1 ?_
     obtain ⟨ac, g0, hm⟩ := gx_bind hm
     obtain ⟨m, g1, hm⟩ := gx_bind hm
     have en : Mem (idsOf [[(c, .cells ⟨[.slice u d.code.length x, iv d.at_, .int .u64 d.seed]⟩ 99 (0, 0))]]) w bq ([[(y, .cells ⟨[.slice none 0 0, .slice none 0 0, .slice none 0 0]⟩ 28 (0, 0))], ap, aq, ar] ++ (List.range 8).map (fun i => ([[], [], [(c, .cells ⟨[.slice u d.code.length x, iv an.2.1, .int .u64 an.2.2]⟩ 99 (0, 0))], [], [], [], [], [(n, .cells ⟨[.slice K l.2.2.2.1.length J, .slice U l.2.2.2.2.1.length Q, .slice V l.2.2.2.2.2.length S]⟩ 28 (0, 0))]] : List Seg).getD i [])) := ay.pk [0, 2, 3, 4, 300000, 300001, 5, 300003, 300004, 300005, 300006, 1]
     refine G_sub [(0, pB c 0), (2, pB y 0), (3, pB n 0), (5, iv l.1), (25, pB c 0), (26, .bool an.1)] (by kernel_rfl) (G_dagL 8 [[], [], [1], [0], [], [4], [4], [5]] [[], [], [], [], [], [], [], []] [[], [], [], [], [], [], [], []] [[], [], [], [2], [3], [3], [3], [3]] [[], [], [], [], [3], [3], [], [3]] [[7], [], [], [], [], [], [], []] (fun i => ([[], [], [(c, .cells ⟨[.slice u d.code.length x, iv an.2.1, .int .u64 an.2.2]⟩ 99 (0, 0))], [], [], [], [], [(n, .cells ⟨[.slice K l.2.2.2.1.length J, .slice U l.2.2.2.2.1.length Q, .slice V l.2.2.2.2.2.length S]⟩ 28 (0, 0))]] : List Seg).getD i []) (fun i => ([fun f v s => v = (.agg #[.slice K l.2.2.2.1.length J, .slice U l.2.2.2.2.1.length Q, .slice V l.2.2.2.2.2.length S] : Value) ∧ s = [], fun f v s => v = (pB c 0 : Value) ∧ s = [], fun f v s => v = (iv ac.1 : Value) ∧ s = [(c, .cells ⟨[.slice u d.code.length x, iv ac.2.1, .int .u64 ac.2.2]⟩ 99 (0, 0))], fun f v s => ∃ (G : Option Addr) (C : Nat) (ai : Seg), ∃ (H : Option Addr) (D : Nat) (aj : Seg), ∃ (I : Option Addr) (F : Nat) (ak : Seg), v = (.tuple #[.agg #[.slice G m.1.Memory.length C, .slice H m.1.Copy.length D, .slice I m.1.Dirty.length F], iv m.2] : Value) ∧ s = (ai ++ (aj ++ ak)) ∧ ownS Gx.encI m.1.Memory G C ai ∧ ownS Gx.encI m.1.Copy H D aj ∧ ownS Gx.encB m.1.Dirty I F ak, fun f v s => v = (.tuple #[.agg #[(atPath (f 3) [0, 0]), (atPath (f 3) [0, 1]), (atPath (f 3) [0, 2])], iv m.2] : Value) ∧ s = [], fun f v s => v = (.agg #[(atPath (f 3) [0, 0]), (atPath (f 3) [0, 1]), (atPath (f 3) [0, 2])] : Value) ∧ s = [], fun f v s => v = (iv m.2 : Value) ∧ s = [], fun f v s => v = undef ∧ s = [(n, .cells ⟨[(atPath (f 3) [0, 0]), (atPath (f 3) [0, 1]), (atPath (f 3) [0, 2])]⟩ 28 (0, 0))]] : List ((Nat → Value) → Value → Seg → Prop)).getD i (fun _ _ _ => False)) (fun j f v => ∃ s, (fun i => ([fun f v s => v = (.agg #[.slice K l.2.2.2.1.length J, .slice U l.2.2.2.2.1.length Q, .slice V l.2.2.2.2.2.length S] : Value) ∧ s = [], fun f v s => v = (pB c 0 : Value) ∧ s = [], fun f v s => v = (iv ac.1 : Value) ∧ s = [(c, .cells ⟨[.slice u d.code.length x, iv ac.2.1, .int .u64 ac.2.2]⟩ 99 (0, 0))], fun f v s => ∃ (G : Option Addr) (C : Nat) (ai : Seg), ∃ (H : Option Addr) (D : Nat) (aj : Seg), ∃ (I : Option Addr) (F : Nat) (ak : Seg), v = (.tuple #[.agg #[.slice G m.1.Memory.length C, .slice H m.1.Copy.length D, .slice I m.1.Dirty.length F], iv m.2] : Value) ∧ s = (ai ++ (aj ++ ak)) ∧ ownS Gx.encI m.1.Memory G C ai ∧ ownS Gx.encI m.1.Copy H D aj ∧ ownS Gx.encB m.1.Dirty I F ak, fun f v s => v = (.tuple #[.agg #[(atPath (f 3) [0, 0]), (atPath (f 3) [0, 1]), (atPath (f 3) [0, 2])], iv m.2] : Value) ∧ s = [], fun f v s => v = (.agg #[(atPath (f 3) [0, 0]), (atPath (f 3) [0, 1]), (atPath (f 3) [0, 2])] : Value) ∧ s = [], fun f v s => v = (iv m.2 : Value) ∧ s = [], fun f v s => v = undef ∧ s = [(n, .cells ⟨[(atPath (f 3) [0, 0]), (atPath (f 3) [0, 1]), (atPath (f 3) [0, 2])]⟩ 28 (0, 0))]] : List ((Nat → Value) → Value → Seg → Prop)).getD i (fun _ _ _ => False)) j f v s) [] [2, 3, 7] [2, 3, 7] (fun _ _ _ s h => ⟨s, h⟩) (by kernel_rfl) (by kernel_rfl) en (by kernel_rfl) (by kernel_rfl) (by kernel_rfl) (by kernel_rfl) (allOb_cons ?_ (allOb_cons ?_ (allOb_cons ?_ (allOb_cons ?_ (allOb_cons ?_ (allOb_cons ?_ (allOb_cons ?_ (allOb_cons ?_ allOb_nil)))))))) ?_)
     ·intro af au
      intro R ho dg
      exact wV (.agg #[.slice K l.2.2.2.1.length J, .slice U l.2.2.2.2.1.length Q, .slice V l.2.2.2.2.2.length S]) ho (eL true 3 0 (dg.blk 5 rfl)) (W_nil (oE (.agg #[.slice K l.2.2.2.1.length J, .slice U l.2.2.2.2.1.length Q, .slice V l.2.2.2.2.2.length S]) [] ⟨by kernel_rfl, rfl⟩ dg))
     ·intro af au
      intro R hp eo
      exact wR 1 [(29, pB c 0)] hp (W_nil (oE (pB c 0) [] ⟨by kernel_rfl, rfl⟩ eo))
     ·intro af au
      intro v1_ hb1_
      obtain ⟨rfl, _⟩ := hb1_
      intro R hq bc
      refine wC 88 #[pB c 0, iv 6] ((c_s_l1Cur_pick hq (⟨d.code, an.2.1, an.2.2⟩ : l1Cur) u x (X.memX Y bc) c 6 (bc.hasPick [4]) (bc.nodupPick [4] (by kernel_rfl)) (apartX.old X Y bc [4]) g0).mono ?_)
      rintro e_ ir ⟨rfl, ec⟩
      refine ⟨_, rfl, ?_⟩
      exact W_nil (oE (iv ac.1) [(c, .cells ⟨[.slice u d.code.length x, iv ac.2.1, .int .u64 ac.2.2]⟩ 99 (0, 0))] ⟨rfl, rfl⟩ (Mem.callMidF bc ec))
     ·intro af au
      intro v2_ hb2_
      obtain ⟨_, rfl, _⟩ := hb2_
      intro v0_ hb0_
      obtain ⟨rfl, _⟩ := hb0_
      intro R hr br
      refine wC 67 #[.agg #[.slice K l.2.2.2.1.length J, .slice U l.2.2.2.2.1.length Q, .slice V l.2.2.2.2.2.length S], iv ac.1] ((c_s_l19Round hr (⟨l.2.2.2.1, l.2.2.2.2.1, l.2.2.2.2.2⟩ : Copying) K J (bi.rd br 1 (by kernel_rfl)) U Q (bj.rd br 2 (by kernel_rfl)) V S (bk.rd br 3 (by kernel_rfl)) ac.1 g1).mono ?_)
      rintro e_ it ⟨G, C, ai, H, D, aj, I, F, ak, rfl, c6, c7, c8, ed⟩
      refine ⟨_, rfl, ?_⟩
      exact W_nil (oE (.tuple #[.agg #[.slice G m.1.Memory.length C, .slice H m.1.Copy.length D, .slice I m.1.Dirty.length F], iv m.2]) (ai ++ (aj ++ ak)) ⟨G, C, ai, H, D, aj, I, F, ak, rfl, rfl, c6, c7, c8⟩ (Mem.callMid br (ed.permF (by simp))))
     ·intro af au
      intro v3_ hb3_
      obtain ⟨_, G, C, _, H, D, _, I, F, _, rfl, _⟩ := hb3_
      intro R hs ep
      exact wR 1 [(27, .tuple #[.agg #[.slice G m.1.Memory.length C, .slice H m.1.Copy.length D, .slice I m.1.Dirty.length F], iv m.2])] hs (W_nil (oE (.tuple #[.agg #[.slice G m.1.Memory.length C, .slice H m.1.Copy.length D, .slice I m.1.Dirty.length F], iv m.2]) [] ⟨by kernel_rfl, rfl⟩ ep))
     ·intro af au
      intro v3_ hb3_
      obtain ⟨_, G, C, _, H, D, _, I, F, _, rfl, _⟩ := hb3_
      intro v4_ hb4_
      obtain ⟨hv4_, _⟩ := hb4_
      obtain rfl : v4_ = (.tuple #[.agg #[.slice G m.1.Memory.length C, .slice H m.1.Copy.length D, .slice I m.1.Dirty.length F], iv m.2] : Value) := hv4_.trans (by kernel_rfl)
      intro R ht er
      exact wR 1 [(32, .agg #[.slice G m.1.Memory.length C, .slice H m.1.Copy.length D, .slice I m.1.Dirty.length F])] ht (W_nil (oE (.agg #[.slice G m.1.Memory.length C, .slice H m.1.Copy.length D, .slice I m.1.Dirty.length F]) [] ⟨by kernel_rfl, rfl⟩ er))
     ·intro af au
      intro v3_ hb3_
      obtain ⟨_, G, C, _, H, D, _, I, F, _, rfl, _⟩ := hb3_
      intro v4_ hb4_
      obtain ⟨hv4_, _⟩ := hb4_
      obtain rfl : v4_ = (.tuple #[.agg #[.slice G m.1.Memory.length C, .slice H m.1.Copy.length D, .slice I m.1.Dirty.length F], iv m.2] : Value) := hv4_.trans (by kernel_rfl)
      intro R hu es
      exact wR 1 [(33, iv m.2)] hu (W_nil (oE (iv m.2) [] ⟨by kernel_rfl, rfl⟩ es))
     ·intro af au
      intro v3_ hb3_
      obtain ⟨_, G, C, _, H, D, _, I, F, _, rfl, _⟩ := hb3_
      intro v5_ hb5_
      obtain ⟨hv5_, _⟩ := hb5_
      obtain rfl : v5_ = (.agg #[.slice G m.1.Memory.length C, .slice H m.1.Copy.length D, .slice I m.1.Dirty.length F] : Value) := hv5_.trans (by kernel_rfl)
      intro R iu et
      refine wS true 3 0 (.agg #[.slice G m.1.Memory.length C, .slice H m.1.Copy.length D, .slice I m.1.Dirty.length F]) 4 [.slice G m.1.Memory.length C, .slice H m.1.Copy.length D, .slice I m.1.Dirty.length F] et rfl ?_
      intro iw eu
      exact W_nil (ob_none [(n, .cells ⟨[.slice G m.1.Memory.length C, .slice H m.1.Copy.length D, .slice I m.1.Dirty.length F]⟩ 28 (0, 0))] rfl ⟨rfl, by kernel_rfl⟩ eu)
     intro af au
     intro v2_ hb2_
     obtain ⟨rfl, hs2_⟩ := hb2_
     intro v3_ hb3_
     obtain ⟨G, C, ai, H, D, aj, I, F, ak, rfl, hs3_, c6, c7, c8⟩ := hb3_
     intro v7_ hb7_
     obtain ⟨rfl, hs7_⟩ := hb7_
     replace hs7_ := hs7_.trans (show _ = [(n, .cells ⟨[.slice G m.1.Memory.length C, .slice H m.1.Copy.length D, .slice I m.1.Dirty.length F]⟩ 28 (0, 0))] by kernel_rfl)
     intro d2 ev
     have a4 : Mem (idsOf [[(c, .cells ⟨[.slice u d.code.length x, iv d.at_, .int .u64 d.seed]⟩ 99 (0, 0))]]) w d2 [[(y, .cells ⟨[.slice none 0 0, .slice none 0 0, .slice none 0 0]⟩ 28 (0, 0))], ap, aq, ar, (af 2), (af 3), (af 7)] := ev
     rw [hs2_] at a4
     rw [hs3_] at a4
     rw [hs7_] at a4
     replace a4 : Mem (idsOf [[(c, .cells ⟨[.slice u d.code.length x, iv d.at_, .int .u64 d.seed]⟩ 99 (0, 0))]]) w d2 [[(y, .cells ⟨[.slice none 0 0, .slice none 0 0, .slice none 0 0]⟩ 28 (0, 0))], ap, aq, ar, [(c, .cells ⟨[.slice u d.code.length x, iv ac.2.1, .int .u64 ac.2.2]⟩ 99 (0, 0))], ai, aj, ak, [(n, .cells ⟨[.slice G m.1.Memory.length C, .slice H m.1.Copy.length D, .slice I m.1.Dirty.length F]⟩ 28 (0, 0))]] := a4.permF (by simp)
     refine W_nil ?_
     obtain rfl := Option.some.inj hm
     exact N_meet fun a ha => ⟨G, C, ai, H, D, aj, I, F, ak, c6, c7, c8, a4.pk [0, 8, 4, 5, 6, 7], ha.s⟩
    refine gF c1 (G_seq (G_region (wR 2 [(0, pB c 0), (2, pB y 0), (3, pB n 0), (5, iv l.1), (34, pB c 0), (35, pB n 0)] bq (wV (.slice K l.2.2.2.1.length J) bq (eL false 1 0 (ay.blk 1 rfl)) (wR 1 [(0, pB c 0), (2, pB y 0), (3, pB n 0), (5, iv l.1), (34, pB c 0), (37, iv (l.2.2.2.1.length : Int))] bq ?_)))))
    obtain ⟨Z, g2, hm⟩ := gx_bind hm
    refine wC 90 #[pB c 0, iv (l.2.2.2.1.length : Int)] ((c_s_l1Cur_storeIn bq (⟨d.code, an.2.1, an.2.2⟩ : l1Cur) u x (X.memX Y ay) c (l.2.2.2.1.length : Int) (ay.hasPick [5]) (ay.nodupPick [5] (by kernel_rfl)) (apartX.old X Y ay [5]) g2).mono ?_)
    rintro e_ ix ⟨rfl, ee⟩
    have ew := ay.callF' [5] [0, 1, 2, 3, 4] (by kernel_rfl) ee
    refine ⟨_, rfl, ?_⟩
    refine wN (.cells ⟨[iv 0, iv 0]⟩ 46 (0, 0)) ew ?_
    intro ij iy ex
    refine wS true 2 0 (.agg #[iv Z.1.Word, iv Z.1.Value]) 6 [iv Z.1.Word, iv Z.1.Value] ex rfl ?_
    intro dd a5
    refine W_nil (N_then (G_seq (G_region (wV (.agg #[.slice K l.2.2.2.1.length J, .slice U l.2.2.2.2.1.length Q, .slice V l.2.2.2.2.2.length S]) dd (eL true 3 0 (a5.blk 1 rfl)) (wV (.agg #[iv Z.1.Word, iv Z.1.Value]) dd (eL true 2 0 (a5.blk 6 rfl)) ?_)))))
    obtain ⟨im, g3, hm⟩ := gx_bind hm
    refine wC 68 #[.agg #[.slice K l.2.2.2.1.length J, .slice U l.2.2.2.2.1.length Q, .slice V l.2.2.2.2.2.length S], .agg #[iv Z.1.Word, iv Z.1.Value]] ((c_s_l19Store dd (⟨l.2.2.2.1, l.2.2.2.2.1, l.2.2.2.2.2⟩ : Copying) K J (bi.rd a5 2 (by kernel_rfl)) U Q (bj.rd a5 3 (by kernel_rfl)) V S (bk.rd a5 4 (by kernel_rfl)) Z.1 g3).mono ?_)
    rintro e_ de ⟨rfl, ef⟩
    have az := a5.call0 ef
    refine ⟨_, rfl, ?_⟩
    refine W_nil (N_then ?_)
    obtain ⟨a7, gb, fw⟩ := gx_bind hm
    refine G_meet (fun a w' => ∃ (ca : Option Addr), ∃ (bz : Nat), ∃ (ci : Seg), ∃ (cb : Option Addr), ∃ (b0 : Nat), ∃ (cj : Seg), ∃ (cc : Option Addr), ∃ (b1 : Nat), ∃ (ck : Seg), ownS Gx.encI a7.1 ca bz ci ∧ ownS Gx.encI a7.2.1 cb b0 cj ∧ ownS Gx.encB a7.2.2 cc b1 ck ∧ Mem (idsOf [[(c, .cells ⟨[.slice u d.code.length x, iv d.at_, .int .u64 d.seed]⟩ 99 (0, 0))]]) w w' [[(y, .cells ⟨[.slice none 0 0, .slice none 0 0, .slice none 0 0]⟩ 28 (0, 0))], [(n, .cells ⟨[.slice ca a7.1.length bz, .slice cb a7.2.1.length b0, .slice cc a7.2.2.length b1]⟩ 28 (0, 0))], [(c, .cells ⟨[.slice u d.code.length x, iv Z.2.1, .int .u64 Z.2.2]⟩ 99 (0, 0))], ci, cj, ck] ∧ Sat Try.f84.ntmps [(0, pB c 0), (2, pB y 0), (3, pB n 0), (5, iv l.1)] a) ?_ ?_
    ·have hm := gb
     rcases gx_bif hm with ⟨c2, hm⟩ | ⟨c2, hm⟩
     ·refine gT c2 (G_region (wV (.agg #[.slice K l.2.2.2.1.length J, .slice U l.2.2.2.2.1.length Q, .slice V l.2.2.2.2.2.length S]) de (eL true 3 0 (az.blk 1 rfl)) (wV (.agg #[iv Z.1.Word, iv Z.1.Value]) de (eL true 2 0 (az.blk 6 rfl)) ?_)))
      obtain ⟨ba, g4, hm⟩ := gx_bind hm
      refine wC 69 #[.agg #[.slice K l.2.2.2.1.length J, .slice U l.2.2.2.2.1.length Q, .slice V l.2.2.2.2.2.length S], .agg #[iv Z.1.Word, iv Z.1.Value]] ((c_s_l19Write de (⟨l.2.2.2.1, l.2.2.2.2.1, l.2.2.2.2.2⟩ : Copying) K J (bi.rd az 2 (by kernel_rfl)) U Q (bj.rd az 3 (by kernel_rfl)) V S (bk.rd az 4 (by kernel_rfl)) Z.1 g4).mono ?_)
      rintro e_ iz ⟨c9, cw, hf, da, cx, hg, db, cy, hh, rfl, gf, gg, gh, eg⟩
      have ey := az.call eg
      refine ⟨_, rfl, ?_⟩
      refine wS true 3 0 (.agg #[.slice c9 ba.Memory.length cw, .slice da ba.Copy.length cx, .slice db ba.Dirty.length cy]) 1 [.slice c9 ba.Memory.length cw, .slice da ba.Copy.length cx, .slice db ba.Dirty.length cy] ey rfl ?_
      intro i0 ez
      refine W_nil ?_
      obtain rfl := Option.some.inj hm
      exact N_meet fun a ha => ⟨c9, cw, hf, da, cx, hg, db, cy, hh, gf, gg, gh, ez.pk [0, 1, 5, 7, 8, 9], ha.s⟩
     refine gF c2 (G_skip ?_)
     obtain rfl := Option.some.inj hm
     exact N_meet fun a ha => ⟨K, J, ap, U, Q, aq, V, S, ar, bi, bj, bk, az.pk [0, 1, 5, 2, 3, 4], ha.s⟩
    intro ib i1 ⟨ca, bz, ci, cb, b0, cj, cc, b1, ck, gc, gd, ge, e0, fm⟩
    refine N_use fm ?_
    have hm := fw
    obtain rfl := Option.some.inj hm
    exact N_meet fun a ha => ⟨ca, bz, ci, cb, b0, cj, cc, b1, ck, gc, gd, ge, e0.pk [0, 1, 2, 3, 4, 5], ha.s⟩
   intro ic hv ⟨b7, bv, cf, b8, bw, cg, b9, bx, ch, f8, f9, ga, e1, fn⟩
   refine N_use fn ?_
   have hm := fv
   refine N_block (N_then (G_region (wR 3 [(0, pB c 0), (2, pB y 0), (3, pB n 0), (5, iv (w64 (l.1 - 1)))] hv (W_nil ?_))))
   obtain rfl := Option.some.inj hm
   exact N_loop fun a ha => ⟨_, rfl, b7, bv, cf, b8, bw, cg, b9, bx, ch, f8, f9, ga, e1.pk [0, 1, 2, 3, 4, 5], ha.s⟩
  refine gF c0 (G_exit (N_then_exit (N_then_exit (N_block_eq ?_))))
  obtain rfl := Option.some.inj hm
  obtain rfl := gv _ rfl
  exact N_meet fun a ha => ⟨K, J, ap, U, Q, aq, V, S, ar, bi, bj, bk, a3.pk [0, 1, 2, 3, 4, 5], ha.s⟩
 intro ie d3 ⟨P, N, ad, z, A, aw, L, O, am, f5, bl, bm, bd, fo⟩
 refine N_use fo ?_
 have hm := f0
 refine N_then (G_seq (G_seq (G_region (wR 1 [(0, pB c 0), (2, pB y 0), (3, pB n 0), (45, pB c 0)] d3 ?_))))
 obtain ⟨ao, g5, hm⟩ := gx_bind hm
 refine wC 88 #[pB c 0, iv 24] ((c_s_l1Cur_pick d3 (⟨d.code, t.1, t.2.1⟩ : l1Cur) u x (X.memX Y bd) c 24 (bd.hasPick [2]) (bd.nodupPick [2] (by kernel_rfl)) (apartX.old X Y bd [2]) g5).mono ?_)
 rintro e_ ax ⟨rfl, eh⟩
 have a6 := bd.callF' [2] [0, 1, 3, 4, 5] (by kernel_rfl) eh
 refine ⟨_, rfl, ?_⟩
 refine W_nil (N_then (G_block (G_seq (G_region (wR 2 [(0, pB c 0), (2, pB y 0), (3, pB n 0), (46, iv ao.1), (47, .bool (ao.1 == 0))] ax (W_nil (N_then ?_)))))))
 obtain ⟨T, gi, fx⟩ := gx_bind hm
 refine G_meet (fun a w' => ∃ (ah : Option Addr), ∃ (ae : Nat), ∃ (cl : Seg), ∃ (cm : Seg), ownS Gx.encB T.2.2.1 ah ae cl ∧ ownS Gx.encI T.2.2.2 z A cm ∧ Mem (idsOf [[(c, .cells ⟨[.slice u d.code.length x, iv d.at_, .int .u64 d.seed]⟩ 99 (0, 0))]]) w w' [[(y, .cells ⟨[.slice none 0 0, .slice none 0 0, .slice none 0 0]⟩ 28 (0, 0))], [(n, .cells ⟨[.slice P t.2.2.1.length N, .slice z T.2.2.2.length A, .slice ah T.2.2.1.length ae]⟩ 28 (0, 0))], ad, [(c, .cells ⟨[.slice u d.code.length x, iv T.1, .int .u64 T.2.1]⟩ 99 (0, 0))], cl, cm] ∧ Sat Try.f84.ntmps [(2, pB y 0), (3, pB n 0)] a) ?_ ?_
 ·have hm := gi
  rcases gx_bif hm with ⟨c3, hm⟩ | ⟨c3, hm⟩
  ·refine gT c3 (G_region (wR 1 [(2, pB y 0), (3, pB n 0), (49, pB n 2)] ax (wV (.slice L t.2.2.2.2.length O) ax (eL false 1 2 (a6.blk 1 rfl)) (wL (E := Gx.encB) [true] 1 [.bool true] 4 a6 ?_))))
   intro il ik ip i2 gl dh
   obtain ⟨cv, ft, hm⟩ := gx_bind hm
   refine wA 1 [.bool false] 4 dh bm (gl.rd dh 6 (by kernel_rfl)) ft ?_
   intro cd b2 hi hw gm e2
   refine wR 1 [(2, pB y 0), (3, pB n 0), (52, .slice cd cv.length b2), (53, pB n 2)] hw (wS false 1 2 (.slice cd cv.length b2) 1 [.slice P t.2.2.1.length N, .slice z t.2.2.2.1.length A, .slice cd cv.length b2] e2 rfl ?_)
   intro i3 e3
   refine W_nil ?_
   obtain rfl := Option.some.inj hm
   exact N_meet fun a ha => ⟨cd, b2, hi, aw, gm, bl, e3.pk [0, 1, 2, 5, 4, 3], ha.s⟩
  refine gF c3 (G_seq (G_region (wR 2 [(0, pB c 0), (2, pB y 0), (3, pB n 0), (54, .bool (ao.1 == 1))] ax (W_nil (N_then ?_)))))
  obtain ⟨a8, gn, fy⟩ := gx_bind hm
  refine G_meet (fun a w' => ∃ (cn : Seg), ∃ (co : Seg), ownS Gx.encI a8.2.2.1 z A cn ∧ ownS Gx.encB a8.2.2.2 L O co ∧ Mem (idsOf [[(c, .cells ⟨[.slice u d.code.length x, iv d.at_, .int .u64 d.seed]⟩ 99 (0, 0))]]) w w' [[(y, .cells ⟨[.slice none 0 0, .slice none 0 0, .slice none 0 0]⟩ 28 (0, 0))], [(n, .cells ⟨[.slice P t.2.2.1.length N, .slice z a8.2.2.1.length A, .slice L a8.2.2.2.length O]⟩ 28 (0, 0))], ad, [(c, .cells ⟨[.slice u d.code.length x, iv a8.1, .int .u64 a8.2.1]⟩ 99 (0, 0))], cn, co] ∧ Sat Try.f84.ntmps [(2, pB y 0), (3, pB n 0)] a) ?_ ?_
  ·have hm := gn
   rcases gx_bif hm with ⟨c4, hm⟩ | ⟨c4, hm⟩
   ·refine gT c4 (G_seq (G_region (wR 1 [(0, pB c 0), (2, pB y 0), (3, pB n 0), (56, pB n 1)] ax (wV (.slice z t.2.2.2.1.length A) ax (eL false 1 1 (a6.blk 1 rfl)) (wR 2 [(0, pB c 0), (2, pB y 0), (3, pB n 0), (59, .bool (decide ((t.2.2.2.1.length : Int) > 0)))] ax (W_nil (N_then ?_)))))))
    obtain ⟨a9, gq, fz⟩ := gx_bind hm
    refine G_meet (fun a w' => ∃ (cp : Seg), ∃ (cq : Seg), ownS Gx.encI a9.2.2.1 z A cp ∧ ownS Gx.encB a9.2.2.2 L O cq ∧ Mem (idsOf [[(c, .cells ⟨[.slice u d.code.length x, iv d.at_, .int .u64 d.seed]⟩ 99 (0, 0))]]) w w' [[(y, .cells ⟨[.slice none 0 0, .slice none 0 0, .slice none 0 0]⟩ 28 (0, 0))], [(n, .cells ⟨[.slice P t.2.2.1.length N, .slice z a9.2.2.1.length A, .slice L a9.2.2.2.length O]⟩ 28 (0, 0))], ad, [(c, .cells ⟨[.slice u d.code.length x, iv a9.1, .int .u64 a9.2.1]⟩ 99 (0, 0))], cp, cq] ∧ Sat Try.f84.ntmps [(2, pB y 0), (3, pB n 0)] a) ?_ ?_
    ·have hm := gq
     rcases gx_bif hm with ⟨c5, hm⟩ | ⟨c5, hm⟩
     ·refine gT c5 (G_seq ?_)
      obtain ⟨B, g6, hm⟩ := gx_bind hm
      have e4 : Mem (idsOf [[(c, .cells ⟨[.slice u d.code.length x, iv d.at_, .int .u64 d.seed]⟩ 99 (0, 0))]]) w ax ([[(y, .cells ⟨[.slice none 0 0, .slice none 0 0, .slice none 0 0]⟩ 28 (0, 0))], [(n, .cells ⟨[.slice P t.2.2.1.length N, .slice z t.2.2.2.1.length A, .slice L t.2.2.2.2.length O]⟩ 28 (0, 0))], ad, aw, am] ++ (List.range 5).map (fun i => ([[], [], [], [], [(c, .cells ⟨[.slice u d.code.length x, iv ao.2.1, .int .u64 ao.2.2]⟩ 99 (0, 0))]] : List Seg).getD i [])) := a6.pk [0, 1, 2, 3, 4, 300000, 300001, 300002, 300003, 5]
      refine G_sub [(0, pB c 0), (2, pB y 0), (3, pB n 0), (59, .bool (decide ((t.2.2.2.1.length : Int) > 0)))] (by kernel_rfl) (G_dagL 5 [[], [0], [], [], [2, 3]] [[], [], [], [], []] [[], [], [], [], [3]] [[], [], [], [], []] [[], [], [], [], []] [[], [], [], [], []] (fun i => ([[], [], [], [], [(c, .cells ⟨[.slice u d.code.length x, iv ao.2.1, .int .u64 ao.2.2]⟩ 99 (0, 0))]] : List Seg).getD i []) (fun i => ([fun f v s => v = (pB n 1 : Value) ∧ s = [], fun f v s => v = (.slice z t.2.2.2.1.length A : Value) ∧ s = [], fun f v s => v = (pB c 0 : Value) ∧ s = [], fun f v s => ∃ (ab : Option Addr) (aa : Nat), v = (.slice ab [(-1), 9].length aa : Value) ∧ ownS Gx.encI [(-1), 9] ab aa s, fun f v s => v = (iv B.1 : Value) ∧ s = [(c, .cells ⟨[.slice u d.code.length x, iv B.2.1, .int .u64 B.2.2]⟩ 99 (0, 0))]] : List ((Nat → Value) → Value → Seg → Prop)).getD i (fun _ _ _ => False)) (fun j f v => ∃ s, (fun i => ([fun f v s => v = (pB n 1 : Value) ∧ s = [], fun f v s => v = (.slice z t.2.2.2.1.length A : Value) ∧ s = [], fun f v s => v = (pB c 0 : Value) ∧ s = [], fun f v s => ∃ (ab : Option Addr) (aa : Nat), v = (.slice ab [(-1), 9].length aa : Value) ∧ ownS Gx.encI [(-1), 9] ab aa s, fun f v s => v = (iv B.1 : Value) ∧ s = [(c, .cells ⟨[.slice u d.code.length x, iv B.2.1, .int .u64 B.2.2]⟩ 99 (0, 0))]] : List ((Nat → Value) → Value → Seg → Prop)).getD i (fun _ _ _ => False)) j f v s) [] [1, 3, 4] [3, 4] (fun _ _ _ s h => ⟨s, h⟩) (by kernel_rfl) (by kernel_rfl) e4 (by kernel_rfl) (by kernel_rfl) (by kernel_rfl) (by kernel_rfl) (allOb_cons ?_ (allOb_cons ?_ (allOb_cons ?_ (allOb_cons ?_ (allOb_cons ?_ allOb_nil))))) ?_)
      ·intro ag bg
       intro R hx e5
       exact wR 1 [(60, pB n 1)] hx (W_nil (oE (pB n 1) [] ⟨by kernel_rfl, rfl⟩ e5))
      ·intro ag bg
       intro v0_ hb0_
       obtain ⟨rfl, _⟩ := hb0_
       intro R hy di
       exact wV (.slice z t.2.2.2.1.length A) hy (eL false 1 1 (di.blk 1 rfl)) (W_nil (oE (.slice z t.2.2.2.1.length A) [] ⟨by kernel_rfl, rfl⟩ di))
      ·intro ag bg
       intro R hz e6
       exact wR 1 [(62, pB c 0)] hz (W_nil (oE (pB c 0) [] ⟨by kernel_rfl, rfl⟩ e6))
      ·intro ag bg
       intro R i4 e7
       refine wL (E := Gx.encI) [(-1), 9] 2 [iv (-1), iv 9] 3 e7 ?_
       intro ab aa hj i5 bn e8
       exact W_nil (oE (.slice ab [(-1), 9].length aa) hj ⟨ab, aa, rfl, bn⟩ (Mem.mid e8))
      ·intro ag bg
       intro v2_ hb2_
       obtain ⟨rfl, _⟩ := hb2_
       intro v3_ hb3_
       obtain ⟨ab, aa, rfl, bn⟩ := hb3_
       intro R h0 a0
       refine wC 86 #[pB c 0, .slice ab [(-1), 9].length aa] ((c_s_l1Cur_among h0 (⟨d.code, ao.2.1, ao.2.2⟩ : l1Cur) u x (X.memX Y a0) c [(-1), 9] ab aa (bn.rd a0 6 (by kernel_rfl)) (a0.hasPick [5]) (a0.nodupPick [5] (by kernel_rfl)) (apartX.old X Y a0 [5]) (apartX.own bn a0 6 (by kernel_rfl) [5] (by kernel_rfl)) g6).mono ?_)
       rintro e_ i6 ⟨rfl, ei⟩
       refine ⟨_, rfl, ?_⟩
       exact W_nil (oE (iv B.1) [(c, .cells ⟨[.slice u d.code.length x, iv B.2.1, .int .u64 B.2.2]⟩ 99 (0, 0))] ⟨rfl, rfl⟩ (Mem.callMidF a0 ei))
      intro ag bg
      intro v1_ hb1_
      obtain ⟨rfl, _⟩ := hb1_
      intro v3_ hb3_
      obtain ⟨ab, aa, rfl, bn⟩ := hb3_
      intro v4_ hb4_
      obtain ⟨rfl, hs4_⟩ := hb4_
      intro d4 e9
      have ct : Mem (idsOf [[(c, .cells ⟨[.slice u d.code.length x, iv d.at_, .int .u64 d.seed]⟩ 99 (0, 0))]]) w d4 [[(y, .cells ⟨[.slice none 0 0, .slice none 0 0, .slice none 0 0]⟩ 28 (0, 0))], [(n, .cells ⟨[.slice P t.2.2.1.length N, .slice z t.2.2.2.1.length A, .slice L t.2.2.2.2.length O]⟩ 28 (0, 0))], ad, aw, am, (ag 3), (ag 4)] := e9
      rw [hs4_] at ct
      obtain ⟨h7, dr, hm⟩ := gx_bind hm
      refine wV (elemP z ((0 : Int).toNat * 1)) d4 (eI (bl.rd ct 3 (by kernel_rfl)) rfl dr) (wE false 1 (0 : Int).toNat 0 ((0 : Int).toNat * 1) h7 B.1 (iv B.1) 3 ct bl (gxIdx_spec dr).2 ?_)
      intro d5 bo gt fa
      refine wX 61 (.slice z t.2.2.2.1.length A) (.slice z (t.2.2.2.1.set (0 : Int).toNat B.1).length A) (by rw [@List.length_set _ t.2.2.2.1 ((0 : Int).toNat) B.1]) ?_
      have fb : Mem (idsOf [[(c, .cells ⟨[.slice u d.code.length x, iv d.at_, .int .u64 d.seed]⟩ 99 (0, 0))]]) w d5 [[(y, .cells ⟨[.slice none 0 0, .slice none 0 0, .slice none 0 0]⟩ 28 (0, 0))], [(n, .cells ⟨[.slice P t.2.2.1.length N, .slice z (t.2.2.2.1.set (0 : Int).toNat B.1).length A, .slice L t.2.2.2.2.length O]⟩ 28 (0, 0))], ad, bo, am, (ag 3), [(c, .cells ⟨[.slice u d.code.length x, iv B.2.1, .int .u64 B.2.2]⟩ 99 (0, 0))]] := by rw [@List.length_set _ t.2.2.2.1 ((0 : Int).toNat) B.1]; exact fa
      refine W_nil (N_then ?_)
      obtain ⟨W, g7, hm⟩ := gx_bind hm
      have fc : Mem (idsOf [[(c, .cells ⟨[.slice u d.code.length x, iv d.at_, .int .u64 d.seed]⟩ 99 (0, 0))]]) w d5 ([[(y, .cells ⟨[.slice none 0 0, .slice none 0 0, .slice none 0 0]⟩ 28 (0, 0))], [(n, .cells ⟨[.slice P t.2.2.1.length N, .slice z (t.2.2.2.1.set (0 : Int).toNat B.1).length A, .slice L t.2.2.2.2.length O]⟩ 28 (0, 0))], ad, bo, am, (ag 3)] ++ (List.range 4).map (fun i => ([[], [], [], [(c, .cells ⟨[.slice u d.code.length x, iv B.2.1, .int .u64 B.2.2]⟩ 99 (0, 0))]] : List Seg).getD i [])) := fb.pk [0, 1, 2, 3, 4, 5, 300000, 300001, 300002, 6]
      refine G_sub [(0, pB c 0), (2, pB y 0), (3, pB n 0), (59, .bool (decide ((t.2.2.2.1.length : Int) > 0))), (61, .slice z (t.2.2.2.1.set (0 : Int).toNat B.1).length A), (63, .slice ab [(-1), 9].length aa), (64, iv B.1), (65, elemP z ((0 : Int).toNat * 1))] (by kernel_rfl) (G_dagL 4 [[], [0], [], [2]] [[], [], [], []] [[], [], [], []] [[], [], [], []] [[], [], [], []] [[], [], [], []] (fun i => ([[], [], [], [(c, .cells ⟨[.slice u d.code.length x, iv B.2.1, .int .u64 B.2.2]⟩ 99 (0, 0))]] : List Seg).getD i []) (fun i => ([fun f v s => v = (pB n 2 : Value) ∧ s = [], fun f v s => v = (.slice L t.2.2.2.2.length O : Value) ∧ s = [], fun f v s => v = (pB c 0 : Value) ∧ s = [], fun f v s => v = (.bool W.1 : Value) ∧ s = [(c, .cells ⟨[.slice u d.code.length x, iv W.2.1, .int .u64 W.2.2]⟩ 99 (0, 0))]] : List ((Nat → Value) → Value → Seg → Prop)).getD i (fun _ _ _ => False)) (fun j f v => ∃ s, (fun i => ([fun f v s => v = (pB n 2 : Value) ∧ s = [], fun f v s => v = (.slice L t.2.2.2.2.length O : Value) ∧ s = [], fun f v s => v = (pB c 0 : Value) ∧ s = [], fun f v s => v = (.bool W.1 : Value) ∧ s = [(c, .cells ⟨[.slice u d.code.length x, iv W.2.1, .int .u64 W.2.2]⟩ 99 (0, 0))]] : List ((Nat → Value) → Value → Seg → Prop)).getD i (fun _ _ _ => False)) j f v s) [] [1, 3] [3] (fun _ _ _ s h => ⟨s, h⟩) (by kernel_rfl) (by kernel_rfl) fc (by kernel_rfl) (by kernel_rfl) (by kernel_rfl) (by kernel_rfl) (allOb_cons ?_ (allOb_cons ?_ (allOb_cons ?_ (allOb_cons ?_ allOb_nil)))) ?_)
      ·intro bh b3
       intro R h1 fd
       exact wR 1 [(66, pB n 2)] h1 (W_nil (oE (pB n 2) [] ⟨by kernel_rfl, rfl⟩ fd))
      ·intro bh b3
       intro v0_ hb0_
       obtain ⟨rfl, _⟩ := hb0_
       intro R h2 dj
       exact wV (.slice L t.2.2.2.2.length O) h2 (eL false 1 2 (dj.blk 1 rfl)) (W_nil (oE (.slice L t.2.2.2.2.length O) [] ⟨by kernel_rfl, rfl⟩ dj))
      ·intro bh b3
       intro R h3 fe
       exact wR 1 [(68, pB c 0)] h3 (W_nil (oE (pB c 0) [] ⟨by kernel_rfl, rfl⟩ fe))
      ·intro bh b3
       intro v2_ hb2_
       obtain ⟨rfl, _⟩ := hb2_
       intro R h4 be
       refine wC 102 #[pB c 0, iv 2] ((c_s_l1Cur_one h4 (⟨d.code, B.2.1, B.2.2⟩ : l1Cur) u x (X.memX Y be) c 2 (be.hasPick [6]) (be.nodupPick [6] (by kernel_rfl)) (apartX.old X Y be [6]) g7).mono ?_)
       rintro e_ i7 ⟨rfl, ej⟩
       refine ⟨_, rfl, ?_⟩
       exact W_nil (oE (.bool W.1) [(c, .cells ⟨[.slice u d.code.length x, iv W.2.1, .int .u64 W.2.2]⟩ 99 (0, 0))] ⟨rfl, rfl⟩ (Mem.callMidF be ej))
      intro bh b3
      intro v1_ hb1_
      obtain ⟨rfl, _⟩ := hb1_
      intro v3_ hb3_
      obtain ⟨rfl, hs3_⟩ := hb3_
      intro d6 ff
      have cu : Mem (idsOf [[(c, .cells ⟨[.slice u d.code.length x, iv d.at_, .int .u64 d.seed]⟩ 99 (0, 0))]]) w d6 [[(y, .cells ⟨[.slice none 0 0, .slice none 0 0, .slice none 0 0]⟩ 28 (0, 0))], [(n, .cells ⟨[.slice P t.2.2.1.length N, .slice z (t.2.2.2.1.set (0 : Int).toNat B.1).length A, .slice L t.2.2.2.2.length O]⟩ 28 (0, 0))], ad, bo, am, (ag 3), (bh 3)] := ff
      rw [hs3_] at cu
      obtain ⟨h8, ds, hm⟩ := gx_bind hm
      refine wV (elemP L ((0 : Int).toNat * 1)) d6 (eI (bm.rd cu 4 (by kernel_rfl)) rfl ds) (wE false 1 (0 : Int).toNat 0 ((0 : Int).toNat * 1) h8 W.1 (.bool W.1) 4 cu bm (gxIdx_spec ds).2 ?_)
      intro h5 dx gu fg
      refine wX 67 (.slice L t.2.2.2.2.length O) (.slice L (t.2.2.2.2.set (0 : Int).toNat W.1).length O) (by rw [@List.length_set _ t.2.2.2.2 ((0 : Int).toNat) W.1]) ?_
      have fh : Mem (idsOf [[(c, .cells ⟨[.slice u d.code.length x, iv d.at_, .int .u64 d.seed]⟩ 99 (0, 0))]]) w h5 [[(y, .cells ⟨[.slice none 0 0, .slice none 0 0, .slice none 0 0]⟩ 28 (0, 0))], [(n, .cells ⟨[.slice P t.2.2.1.length N, .slice z (t.2.2.2.1.set (0 : Int).toNat B.1).length A, .slice L (t.2.2.2.2.set (0 : Int).toNat W.1).length O]⟩ 28 (0, 0))], ad, bo, dx, (ag 3), [(c, .cells ⟨[.slice u d.code.length x, iv W.2.1, .int .u64 W.2.2]⟩ 99 (0, 0))]] := by rw [@List.length_set _ t.2.2.2.2 ((0 : Int).toNat) W.1]; exact fg
      refine W_nil ?_
      obtain rfl := Option.some.inj hm
      exact N_meet fun a ha => ⟨bo, dx, gt, gu, fh.pk [0, 1, 2, 6, 3, 4], ha.s⟩
     refine gF c5 (G_skip ?_)
     obtain rfl := Option.some.inj hm
     exact N_meet fun a ha => ⟨aw, am, bl, bm, a6.pk [0, 1, 2, 5, 3, 4], ha.s⟩
    intro ig i8 ⟨cp, cq, gr, gs, fi, fp⟩
    refine N_use fp ?_
    have hm := fz
    obtain rfl := Option.some.inj hm
    exact N_meet fun a ha => ⟨cp, cq, gr, gs, fi.pk [0, 1, 2, 3, 4, 5], ha.s⟩
   refine gF c4 (G_skip ?_)
   obtain rfl := Option.some.inj hm
   exact N_meet fun a ha => ⟨aw, am, bl, bm, a6.pk [0, 1, 2, 5, 3, 4], ha.s⟩
  intro ih i9 ⟨cn, co, go, gp, fj, fq⟩
  refine N_use fq ?_
  have hm := fy
  obtain rfl := Option.some.inj hm
  exact N_meet fun a ha => ⟨L, O, co, cn, gp, go, fj.pk [0, 1, 2, 3, 5, 4], ha.s⟩
 intro ii h6 ⟨ah, ae, cl, cm, gj, gk, dk, fs⟩
 refine N_use fs ?_
 have hm := fx
 refine N_block (N_then (G_seq (G_region (wV (.agg #[.slice P t.2.2.1.length N, .slice z T.2.2.2.length A, .slice ah T.2.2.1.length ae]) h6 (eL true 3 0 (dk.blk 1 rfl)) (wS true 3 0 (.agg #[.slice P t.2.2.1.length N, .slice z T.2.2.2.length A, .slice ah T.2.2.1.length ae]) 0 [.slice P t.2.2.1.length N, .slice z T.2.2.2.length A, .slice ah T.2.2.1.length ae] dk rfl ?_)))))
 intro ja dl
 refine W_nil (N_then (G_ret ?_))
 obtain rfl := Option.some.inj hm
 exact N_ret [.agg #[.slice P t.2.2.1.length N, .slice z T.2.2.2.length A, .slice ah T.2.2.1.length ae]] (RVs_cons (RV_cell (g := true) (k := 3) (b := y) (off := 0) (cs := [.slice P t.2.2.1.length N, .slice z T.2.2.2.length A, .slice ah T.2.2.1.length ae]) (e := 28) (fr := (0, 0)) (v := .agg #[.slice P t.2.2.1.length N, .slice z T.2.2.2.length A, .slice ah T.2.2.1.length ae]) (dl.blk 0 (b := y) (o := .cells ⟨[.slice P t.2.2.1.length N, .slice z T.2.2.2.length A, .slice ah T.2.2.1.length ae]⟩ 28 (0, 0)) (by kernel_rfl)) (by kernel_rfl) (by kernel_rfl) (by kernel_rfl)) RVs_nil) (⟨P, N, ad, z, A, cm, ah, ae, cl, rfl, f5, gk, gj, dl.pk [3, 2, 5, 4]⟩)
theorem c_s_l1Cur_storeLists (w : World) (b : l1Cur) (d : Option Addr) (f : Nat) (t : rdS Gx.encU8 w b.code d f) (c : Nat) (h : Int) (hA : ∀ q ∈ List.flatten [[(c, .cells ⟨[.slice d b.code.length f, iv b.at_, .int .u64 b.seed]⟩ 99 (0, 0))]], w.heap[q.1]? = some q.2) (hN : (idsOf [[(c, .cells ⟨[.slice d b.code.length f, iv b.at_, .int .u64 b.seed]⟩ 99 (0, 0))]]).Nodup) (u : apartX (idsOf [[(c, .cells ⟨[.slice d b.code.length f, iv b.at_, .int .u64 b.seed]⟩ 99 (0, 0))]]) b.code d) {r : (List (List Store)) × Int × Int} (hm : M.s_l1Cur_storeLists b h = some r) :
  Calls Try.prog 85 #[pB c 0, iv h] w fun e w' => ∃ (bk : Option Addr) (bd : Nat) (bn : Seg) (bo : Seg), e = .returned (.slice bk r.1.length bd) ∧ ownD (deepL encStore) r.1 bk bd bn bo ∧ Mem (idsOf [[(c, .cells ⟨[.slice d b.code.length f, iv b.at_, .int .u64 b.seed]⟩ 99 (0, 0))]]) w w' [[(c, .cells ⟨[.slice d b.code.length f, iv r.2.1, .int .u64 r.2.2]⟩ 99 (0, 0))], bn, bo] := by
 unfold M.s_l1Cur_storeLists at hm
 refine cE Try.func85 ?_
 have M0 := Mem.start' w [[(c, .cells ⟨[.slice d b.code.length f, iv b.at_, .int .u64 b.seed]⟩ 99 (0, 0))]] hA hN
 refine G_seq (G_region (wR 1 [(0, pB c 0), (1, iv h)] w (W_nil (N_then (G_seq (G_region ?_))))))
 have b2 : Mem (idsOf [[(c, .cells ⟨[.slice d b.code.length f, iv b.at_, .int .u64 b.seed]⟩ 99 (0, 0))]]) w w [[(c, .cells ⟨[.slice d b.code.length f, iv b.at_, .int .u64 b.seed]⟩ 99 (0, 0))]] := M0.pk [0]
 have b3 : Mem (idsOf [[(c, .cells ⟨[.slice d b.code.length f, iv b.at_, .int .u64 b.seed]⟩ 99 (0, 0))]]) w w [[(c, .cells ⟨[.slice d b.code.length f, iv b.at_, .int .u64 b.seed]⟩ 99 (0, 0))], []] := b2.regroup (by simp)
 refine W_litD (D := (deepL encStore)) [] ([] : List (List Store)) rfl 0 [] 67 b3 (by kernel_rfl) (by kernel_rfl) (by kernel_rfl) (by kernel_rfl) (by kernel_rfl) ownI_nil ?_
 intro ac Y d0 ay c5 S
 refine wR 1 [(0, pB c 0), (1, iv h), (5, .slice ac ([] : List (List Store)).length Y)] ay (W_nil (N_then (G_seq (G_seq (G_region (wR 1 [(0, pB c 0), (1, iv h), (5, .slice ac ([] : List (List Store)).length Y), (10, pB c 0)] ay ?_))))))
 obtain ⟨dy, dl, hm⟩ := gx_bind hm
 refine wC 88 #[pB c 0, iv 6] ((c_s_l1Cur_pick ay b d f (t.memX u S) c 6 (S.hasPick [0]) (S.nodupPick [0] (by kernel_rfl)) (apartX.old t u S [0]) dl).mono ?_)
 rintro e_ d3 ⟨rfl, bw⟩
 have b4 := S.callF' [0] [1, 2] (by kernel_rfl) bw
 refine ⟨_, rfl, ?_⟩
 refine wR 1 [(0, pB c 0), (1, iv h), (5, .slice ac ([] : List (List Store)).length Y), (6, iv dy.1)] d3 (W_nil (N_then ?_))
 obtain ⟨F, dt, c2⟩ := gx_bind hm
 refine G_meet (fun a w' => ∃ (N : Option Addr), ∃ (I : Nat), ∃ (W : Seg), ∃ (X : Seg), ownD (deepL encStore) F.1 N I W X ∧ Mem (idsOf [[(c, .cells ⟨[.slice d b.code.length f, iv b.at_, .int .u64 b.seed]⟩ 99 (0, 0))]]) w w' [[(c, .cells ⟨[.slice d b.code.length f, iv F.2.1, .int .u64 F.2.2]⟩ 99 (0, 0))], W, X] ∧ Sat Try.f85.ntmps [(0, pB c 0), (5, .slice N F.1.length I)] a) ?_ ?_
 ·refine G_block (G_while (σ := List (List Store) × Int × Int × Int) (ρ := List (List Store) × Int × Int) (fun g a w' => ∃ (l : Option Addr), ∃ (j : Nat), ∃ (B : Seg), ∃ (o : Seg), ownD (deepL encStore) g.1 l j B o ∧ Mem (idsOf [[(c, .cells ⟨[.slice d b.code.length f, iv b.at_, .int .u64 b.seed]⟩ 99 (0, 0))]]) w w' [[(c, .cells ⟨[.slice d b.code.length f, iv g.2.2.1, .int .u64 g.2.2.2]⟩ 99 (0, 0))], B, o] ∧ Sat Try.f85.ntmps [(0, pB c 0), (1, iv h), (5, .slice l g.1.length j), (6, iv g.2.1)] a) dt (fun a ha => ⟨ac, Y, d0, [], c5, b4.pk [2, 1, 0], ha.s⟩) ?_)
  clear hm
  intro g et hm di d9 d4 ⟨l, j, B, o, bg, a5, cp⟩
  refine G_use cp (G_seq (G_seq (G_region (wR 2 [(0, pB c 0), (1, iv h), (5, .slice l g.1.length j), (6, iv g.2.1), (13, .bool (decide (g.2.1 > 0)))] d4 (W_nil (N_then ?_))))))
  rcases gx_bif hm with ⟨an, hm⟩ | ⟨an, hm⟩
  ·refine gT an (G_skip (N_then (G_seq (G_block (G_seq (G_region (wL (E := encStore) ([] : List Store) 0 [] 46 a5 ?_)))))))
   intro ad Z d1 az c6 T
   refine wR 1 [(0, pB c 0), (1, iv h), (5, .slice l g.1.length j), (6, iv g.2.1), (7, .slice ad ([] : List Store).length Z)] az (W_nil (N_then (G_seq (G_seq (G_region (wR 1 [(0, pB c 0), (1, iv h), (5, .slice l g.1.length j), (6, iv g.2.1), (7, .slice ad ([] : List Store).length Z), (17, pB c 0)] az ?_))))))
   obtain ⟨dz, dm, hm⟩ := gx_bind hm
   refine wC 88 #[pB c 0, iv 4] ((c_s_l1Cur_pick az (⟨b.code, g.2.2.1, g.2.2.2⟩ : l1Cur) d f (t.memX u T) c 4 (T.hasPick [0]) (T.nodupPick [0] (by kernel_rfl)) (apartX.old t u T [0]) dm).mono ?_)
   rintro e_ d5 ⟨rfl, bx⟩
   have b5 := T.callF' [0] [1, 2, 3] (by kernel_rfl) bx
   refine ⟨_, rfl, ?_⟩
   refine wR 1 [(0, pB c 0), (1, iv h), (5, .slice l g.1.length j), (6, iv g.2.1), (7, .slice ad ([] : List Store).length Z), (8, iv dz.1)] d5 (W_nil (N_then ?_))
   obtain ⟨k, du, c3⟩ := gx_bind hm
   refine G_meet (fun a w' => ∃ (O : Option Addr), ∃ (J : Nat), ∃ (x : Seg), ownS encStore k.1 O J x ∧ Mem (idsOf [[(c, .cells ⟨[.slice d b.code.length f, iv b.at_, .int .u64 b.seed]⟩ 99 (0, 0))]]) w w' [B, o, [(c, .cells ⟨[.slice d b.code.length f, iv k.2.1, .int .u64 k.2.2]⟩ 99 (0, 0))], x] ∧ Sat Try.f85.ntmps [(0, pB c 0), (1, iv h), (5, .slice l g.1.length j), (6, iv g.2.1), (7, .slice O k.1.length J)] a) ?_ ?_
   ·refine G_block (G_while (σ := List Store × Int × Int × Int) (ρ := List Store × Int × Int) (fun m a w' => ∃ (G : Option Addr), ∃ (C : Nat), ∃ (af : Seg), ownS encStore m.1 G C af ∧ Mem (idsOf [[(c, .cells ⟨[.slice d b.code.length f, iv b.at_, .int .u64 b.seed]⟩ 99 (0, 0))]]) w w' [B, o, [(c, .cells ⟨[.slice d b.code.length f, iv m.2.2.1, .int .u64 m.2.2.2]⟩ 99 (0, 0))], af] ∧ Sat Try.f85.ntmps [(0, pB c 0), (1, iv h), (5, .slice l g.1.length j), (6, iv g.2.1), (7, .slice G m.1.length C), (8, iv m.2.1)] a) du (fun a ha => ⟨ad, Z, d1, c6, b5.pk [0, 1, 3, 2], ha.s⟩) ?_)
    clear hm
    intro m eu hm dj ea a0 ⟨G, C, af, bi, H, cq⟩
    refine G_use cq (G_seq (G_seq (G_region (wR 2 [(0, pB c 0), (1, iv h), (5, .slice l g.1.length j), (6, iv g.2.1), (7, .slice G m.1.length C), (8, iv m.2.1), (20, .bool (decide (m.2.1 > 0)))] a0 (W_nil (N_then ?_))))))
    rcases gx_bif hm with ⟨ao, hm⟩ | ⟨ao, hm⟩
    ·refine gT ao (G_skip (N_then (G_seq (G_block (G_region (wR 3 [(0, pB c 0), (1, iv h), (5, .slice l g.1.length j), (6, iv g.2.1), (7, .slice G m.1.length C), (8, iv m.2.1), (23, .slice G m.1.length C), (24, pB c 0), (25, iv h)] a0 ?_))))))
     obtain ⟨av, dn, hm⟩ := gx_bind hm
     refine wC 90 #[pB c 0, iv h] ((c_s_l1Cur_storeIn a0 (⟨b.code, m.2.2.1, m.2.2.2⟩ : l1Cur) d f (t.memX u H) c h (H.hasPick [2]) (H.nodupPick [2] (by kernel_rfl)) (apartX.old t u H [2]) dn).mono ?_)
     rintro e_ em ⟨rfl, bz⟩
     have b6 := H.callF' [2] [0, 1, 3] (by kernel_rfl) bz
     refine ⟨_, rfl, ?_⟩
     refine wL (E := encStore) [av.1] 1 [iv av.1.Word, iv av.1.Value] 46 b6 ?_
     intro eh eg el en c8 a6
     obtain ⟨bb, cw, hm⟩ := gx_bind hm
     refine wA 16 [iv 0, iv 0] 2 a6 bi (c8.rd a6 4 (by kernel_rfl)) cw ?_
     intro ar al d2 br c9 b7
     refine wR 1 [(0, pB c 0), (1, iv h), (5, .slice l g.1.length j), (6, iv g.2.1), (7, .slice ar bb.length al), (8, iv m.2.1)] br (W_nil (N_block (N_then (G_region (wR 3 [(0, pB c 0), (1, iv h), (5, .slice l g.1.length j), (6, iv g.2.1), (7, .slice ar bb.length al), (8, iv (w64 (m.2.1 - 1)))] br (W_nil ?_))))))
     obtain rfl := Option.some.inj hm
     exact N_loop fun a ha => ⟨_, rfl, ar, al, d2, c9, b7.pk [0, 1, 3, 2], ha.s⟩
    refine gF ao (G_exit (N_then_exit (N_then_exit (N_block_eq ?_))))
    obtain rfl := Option.some.inj hm
    obtain rfl := dj _ rfl
    exact N_meet fun a ha => ⟨G, C, af, bi, H.pk [0, 1, 2, 3], ha.s⟩
   intro eb a3 ⟨O, J, x, c7, b8, cr⟩
   refine N_use cr ?_
   have hm := c3
   refine N_then (G_region (wR 2 [(0, pB c 0), (1, iv h), (5, .slice l g.1.length j), (6, iv g.2.1), (29, .slice l g.1.length j), (30, .slice O k.1.length J)] a3 ?_))
   have b9 : Mem (idsOf [[(c, .cells ⟨[.slice d b.code.length f, iv b.at_, .int .u64 b.seed]⟩ 99 (0, 0))]]) w a3 [B, o, [(c, .cells ⟨[.slice d b.code.length f, iv k.2.1, .int .u64 k.2.2]⟩ 99 (0, 0))], x] := b8.pk [0, 1, 2, 3]
   have ca : Mem (idsOf [[(c, .cells ⟨[.slice d b.code.length f, iv b.at_, .int .u64 b.seed]⟩ 99 (0, 0))]]) w a3 [B, o, [(c, .cells ⟨[.slice d b.code.length f, iv k.2.1, .int .u64 k.2.2]⟩ 99 (0, 0))], (x ++ [])] := b9.regroup (by simp)
   refine W_litD (D := (deepL encStore)) [(k.1, plOf [(O, J)])] [k.1] rfl 1 [.slice O k.1.length J] 67 ca (by kernel_rfl) (by kernel_rfl) (by kernel_rfl) (by kernel_rfl) (by kernel_rfl) (ownI_cons (i := ⟨Store, encStore, _, _, _⟩) c7 ownI_nil) ?_
   intro ei cn bp eo da a7
   obtain ⟨bc, cx, hm⟩ := gx_bind hm
   obtain ⟨d7, dw, dp, cz⟩ := id da
   refine W_appendD (D := (deepL encStore)) (us := d7) (s2 := (x ++ [])) _ _ _ 24 [.slice none 0 0] 0 cn a7 bg (by kernel_rfl) (by kernel_rfl) (by kernel_rfl) rfl (by kernel_rfl) (by kernel_rfl) (by kernel_rfl) (by kernel_rfl) (by kernel_rfl) (by kernel_rfl) (dp.rd a7 4 (by kernel_rfl)) dw cz cx ?_
   intro au am aw ak db cb
   have cc : Mem (idsOf [[(c, .cells ⟨[.slice d b.code.length f, iv b.at_, .int .u64 b.seed]⟩ 99 (0, 0))]]) w ak [aw, [(c, .cells ⟨[.slice d b.code.length f, iv k.2.1, .int .u64 k.2.2]⟩ 99 (0, 0))], bp, o, (x ++ [])] := cb.pk [0, 2, 4, 1, 3]
   have cd : Mem (idsOf [[(c, .cells ⟨[.slice d b.code.length f, iv b.at_, .int .u64 b.seed]⟩ 99 (0, 0))]]) w ak [aw, [(c, .cells ⟨[.slice d b.code.length f, iv k.2.1, .int .u64 k.2.2]⟩ 99 (0, 0))], bp, (o ++ (x ++ []))] := cc.regroup (by simp)
   refine wR 1 [(0, pB c 0), (1, iv h), (5, .slice au bc.length am), (6, iv g.2.1)] ak (W_nil (N_block (N_then (G_region (wR 3 [(0, pB c 0), (1, iv h), (5, .slice au bc.length am), (6, iv (w64 (g.2.1 - 1)))] ak (W_nil ?_))))))
   obtain rfl := Option.some.inj hm
   exact N_loop fun a ha => ⟨_, rfl, au, am, aw, (o ++ (x ++ [])), db, cd.pk [1, 0, 3], ha.s⟩
  refine gF an (G_exit (N_then_exit (N_then_exit (N_block_eq ?_))))
  obtain rfl := Option.some.inj hm
  obtain rfl := di _ rfl
  exact N_meet fun a ha => ⟨l, j, B, o, bg, a5.pk [0, 1, 2], ha.s⟩
 intro ec bs ⟨N, I, W, X, bh, U, cs⟩
 refine N_use cs ?_
 have hm := c2
 refine N_then (G_seq (G_seq (G_region (wR 1 [(0, pB c 0), (5, .slice N F.1.length I), (33, pB c 0)] bs ?_))))
 obtain ⟨ek, dq, hm⟩ := gx_bind hm
 refine wC 102 #[pB c 0, iv 32] ((c_s_l1Cur_one bs (⟨b.code, F.2.1, F.2.2⟩ : l1Cur) d f (t.memX u U) c 32 (U.hasPick [0]) (U.nodupPick [0] (by kernel_rfl)) (apartX.old t u U [0]) dq).mono ?_)
 rintro e_ ep ⟨rfl, b0⟩
 have a8 := U.callF' [0] [1, 2] (by kernel_rfl) b0
 refine ⟨_, rfl, ?_⟩
 refine W_nil (N_then ?_)
 obtain ⟨L, dc, c1⟩ := gx_bind hm
 refine G_meet (fun a w' => ∃ (P : Option Addr), ∃ (K : Nat), ∃ (ag : Seg), ∃ (ah : Seg), ownD (deepL encStore) L.1 P K ag ah ∧ Mem (idsOf [[(c, .cells ⟨[.slice d b.code.length f, iv b.at_, .int .u64 b.seed]⟩ 99 (0, 0))]]) w w' [[(c, .cells ⟨[.slice d b.code.length f, iv L.2.1, .int .u64 L.2.2]⟩ 99 (0, 0))], ag, ah] ∧ Sat Try.f85.ntmps [(5, .slice P L.1.length K)] a) ?_ ?_
 ·have hm := dc
  rcases gx_bif hm with ⟨ap, hm⟩ | ⟨ap, hm⟩
  ·refine gT ap ?_
   obtain ⟨ab, dv, c4⟩ := gx_bind hm
   refine G_meet (fun a w' => ∃ (ae : Option Addr), ∃ (aa : Nat), ∃ (ai : Seg), ∃ (aj : Seg), ownD (deepL encStore) ab.1 ae aa ai aj ∧ Mem (idsOf [[(c, .cells ⟨[.slice d b.code.length f, iv b.at_, .int .u64 b.seed]⟩ 99 (0, 0))]]) w w' [[(c, .cells ⟨[.slice d b.code.length f, iv ab.2.1, .int .u64 ab.2.2]⟩ 99 (0, 0))], ai, aj] ∧ Sat Try.f85.ntmps [(5, .slice ae ab.1.length aa)] a) ?_ ?_
   ·refine G_block (G_while (σ := List (List Store) × Int × Int) (ρ := List (List Store) × Int × Int) (fun n a w' => ∃ (A : Option Addr), ∃ (z : Nat), ∃ (Q : Seg), ∃ (y : Seg), ownD (deepL encStore) n.1 A z Q y ∧ Mem (idsOf [[(c, .cells ⟨[.slice d b.code.length f, iv b.at_, .int .u64 b.seed]⟩ 99 (0, 0))]]) w w' [[(c, .cells ⟨[.slice d b.code.length f, iv n.2.1, .int .u64 n.2.2]⟩ 99 (0, 0))], Q, y] ∧ Sat Try.f85.ntmps [(0, pB c 0), (5, .slice A n.1.length z)] a) dv (fun a ha => ⟨N, I, W, X, bh, a8.pk [2, 0, 1], ha.s⟩) ?_)
    clear hm
    intro n ev hm dk ed bt ⟨A, z, Q, y, bj, V, ct⟩
    refine G_use ct (G_seq (G_seq (G_region (wR 3 [(0, pB c 0), (5, .slice A n.1.length z), (36, iv (n.1.length : Int)), (37, pB c 0)] bt ?_))))
    obtain ⟨v, dr, hm⟩ := gx_bind hm
    refine wC 88 #[pB c 0, iv 2] ((c_s_l1Cur_pick bt (⟨b.code, n.2.1, n.2.2⟩ : l1Cur) d f (t.memX u V) c 2 (V.hasPick [0]) (V.nodupPick [0] (by kernel_rfl)) (apartX.old t u V [0]) dr).mono ?_)
    rintro e_ bu ⟨rfl, b1⟩
    have a9 := V.callF' [0] [1, 2] (by kernel_rfl) b1
    refine ⟨_, rfl, ?_⟩
    refine wR 2 [(0, pB c 0), (5, .slice A n.1.length z), (40, .bool (decide ((n.1.length : Int) < (w64 (8 + v.1)))))] bu (W_nil (N_then ?_))
    rcases gx_bif hm with ⟨aq, hm⟩ | ⟨aq, hm⟩
    ·refine gT aq (G_skip (N_then (G_block (G_region (wR 1 [(0, pB c 0), (5, .slice A n.1.length z), (41, .slice A n.1.length z)] bu (wL (E := encStore) ([] : List Store) 0 [] 46 a9 ?_))))))
     intro bl be R bv df ce
     have cf : Mem (idsOf [[(c, .cells ⟨[.slice d b.code.length f, iv b.at_, .int .u64 b.seed]⟩ 99 (0, 0))]]) w bv [Q, y, [(c, .cells ⟨[.slice d b.code.length f, iv v.2.1, .int .u64 v.2.2]⟩ 99 (0, 0))], R] := ce.pk [0, 1, 2, 3]
     have cg : Mem (idsOf [[(c, .cells ⟨[.slice d b.code.length f, iv b.at_, .int .u64 b.seed]⟩ 99 (0, 0))]]) w bv [Q, y, [(c, .cells ⟨[.slice d b.code.length f, iv v.2.1, .int .u64 v.2.2]⟩ 99 (0, 0))], (R ++ [])] := cf.regroup (by simp)
     refine W_litD (D := (deepL encStore)) [(([] : List Store), plOf [(bl, be)])] [([] : List Store)] rfl 1 [.slice bl ([] : List Store).length be] 67 cg (by kernel_rfl) (by kernel_rfl) (by kernel_rfl) (by kernel_rfl) (by kernel_rfl) (ownI_cons (i := ⟨Store, encStore, _, _, _⟩) df ownI_nil) ?_
     intro ej co bq er dg ba
     obtain ⟨cm, cy, hm⟩ := gx_bind hm
     obtain ⟨d8, dx, ds, c0⟩ := id dg
     refine W_appendD (D := (deepL encStore)) (us := d8) (s2 := (R ++ [])) _ _ _ 24 [.slice none 0 0] 0 co ba bj (by kernel_rfl) (by kernel_rfl) (by kernel_rfl) rfl (by kernel_rfl) (by kernel_rfl) (by kernel_rfl) (by kernel_rfl) (by kernel_rfl) (by kernel_rfl) (ds.rd ba 4 (by kernel_rfl)) dx c0 cy ?_
     intro bm bf ax a4 dh ch
     have ci : Mem (idsOf [[(c, .cells ⟨[.slice d b.code.length f, iv b.at_, .int .u64 b.seed]⟩ 99 (0, 0))]]) w a4 [ax, [(c, .cells ⟨[.slice d b.code.length f, iv v.2.1, .int .u64 v.2.2]⟩ 99 (0, 0))], bq, y, (R ++ [])] := ch.pk [0, 2, 4, 1, 3]
     have cj : Mem (idsOf [[(c, .cells ⟨[.slice d b.code.length f, iv b.at_, .int .u64 b.seed]⟩ 99 (0, 0))]]) w a4 [ax, [(c, .cells ⟨[.slice d b.code.length f, iv v.2.1, .int .u64 v.2.2]⟩ 99 (0, 0))], bq, (y ++ (R ++ []))] := ci.regroup (by simp)
     refine wR 1 [(0, pB c 0), (5, .slice bm cm.length bf)] a4 (W_nil (N_block ?_))
     obtain rfl := Option.some.inj hm
     exact N_loop fun a ha => ⟨_, rfl, bm, bf, ax, (y ++ (R ++ [])), dh, cj.pk [1, 0, 3], ha.s⟩
    refine gF aq (G_exit (N_then_exit (N_then_exit (N_block_eq ?_))))
    obtain rfl := Option.some.inj hm
    obtain rfl := dk _ rfl
    exact N_meet fun a ha => ⟨A, z, Q, y, bj, a9.pk [2, 0, 1], ha.s⟩
   intro ee es ⟨ae, aa, ai, aj, de, ck, cu⟩
   refine N_use cu ?_
   have hm := c4
   obtain rfl := Option.some.inj hm
   exact N_meet fun a ha => ⟨ae, aa, ai, aj, de, ck.pk [0, 1, 2], ha.s⟩
  refine gF ap (G_skip ?_)
  obtain rfl := Option.some.inj hm
  exact N_meet fun a ha => ⟨N, I, W, X, bh, a8.pk [2, 0, 1], ha.s⟩
 intro ef d6 ⟨P, K, ag, ah, dd, cl, cv⟩
 refine N_use cv ?_
 have hm := c1
 refine N_then (G_seq (G_region (wR 2 [(4, .slice P L.1.length K)] d6 (W_nil (N_then (G_ret ?_))))))
 obtain rfl := Option.some.inj hm
 exact N_ret [.slice P L.1.length K] (rC RVs_nil) (⟨P, K, ag, ah, rfl, dd, cl.pk [0, 1, 2]⟩)
theorem c_s_DrawRunRounds (w : World) (x : List Int) (z : Option Addr) (y : Nat) (W : rdS Gx.encU8 w x z y) {r : Copying × (List (List Store)) × Int} (hm : M.s_DrawRunRounds x = some r) :
  Calls Try.prog 44 #[.slice z x.length y] w fun e w' => ∃ (an : Option Addr) (aj : Nat) (ar : Seg), ∃ (ao : Option Addr) (ak : Nat) (au : Seg), ∃ (ap : Option Addr) (al : Nat) (av : Seg), ∃ (aq : Option Addr) (am : Nat) (aw : Seg) (ax : Seg), e = .returned (.tuple #[.agg #[.slice an r.1.Memory.length aj, .slice ao r.1.Copy.length ak, .slice ap r.1.Dirty.length al], .slice aq r.2.1.length am, iv r.2.2]) ∧ ownS Gx.encI r.1.Memory an aj ar ∧ ownS Gx.encI r.1.Copy ao ak au ∧ ownS Gx.encB r.1.Dirty ap al av ∧ ownD (deepL encStore) r.2.1 aq am aw ax ∧ Mem [] w w' [ar, au, av, aw, ax] := by
 unfold M.s_DrawRunRounds at hm
 refine cE Try.func44 ?_
 have M0 := Mem.refl [] w
 refine G_seq (G_region (wN (.cells ⟨[.slice none 0 0, .slice none 0 0, .slice none 0 0]⟩ 28 (0, 0)) M0 ?_))
 intro B az bi
 refine wR 2 [(0, .slice z x.length y), (2, pB B 0)] az (W_nil (N_then (G_seq (G_region (wR 2 [(2, pB B 0), (8, .agg #[.slice z x.length y, iv 0, .int .u64 0])] az (wN (.cells ⟨[.slice z x.length y, iv 0, .int .u64 0]⟩ 99 (0, 0)) bi ?_))))))
 intro c af Y
 refine wR 1 [(2, pB B 0), (5, pB c 0)] af (W_nil (N_then (G_seq (G_region (wR 1 [(2, pB B 0), (5, pB c 0), (10, pB c 0)] af ?_)))))
 obtain ⟨a, bn, hm⟩ := gx_bind hm
 refine wC 84 #[pB c 0] ((c_s_l1Cur_copying af (⟨x, 0, 0⟩ : l1Cur) z y (W.mem0 Y) c (Y.hasPick [1]) (Y.nodupPick [1] (by kernel_rfl)) (apartX.old0 W Y [1]) bn).mono ?_)
 rintro e_ b2 ⟨l, d, N, t, n, O, u, q, P, rfl, bj, bk, bl, a0⟩
 have a5 := Y.callF' [1] [0] (by kernel_rfl) a0
 refine ⟨_, rfl, ?_⟩
 refine wN (.cells ⟨[.slice none 0 0, .slice none 0 0, .slice none 0 0]⟩ 28 (0, 0)) a5 ?_
 intro I b3 a6
 refine wS true 3 0 (.agg #[.slice l a.1.Memory.length d, .slice t a.1.Copy.length n, .slice u a.1.Dirty.length q]) 5 [.slice l a.1.Memory.length d, .slice t a.1.Copy.length n, .slice u a.1.Dirty.length q] a6 rfl ?_
 intro br a7
 refine W_nil (N_then (G_seq ?_))
 obtain ⟨m, bo, hm⟩ := gx_bind hm
 obtain ⟨F, bp, hm⟩ := gx_bind hm
 have a8 : Mem [] w br ([[(B, .cells ⟨[.slice none 0 0, .slice none 0 0, .slice none 0 0]⟩ 28 (0, 0))], N, O, P, [(I, .cells ⟨[.slice l a.1.Memory.length d, .slice t a.1.Copy.length n, .slice u a.1.Dirty.length q]⟩ 28 (0, 0))]] ++ (List.range 9).map (fun i => ([[], [], [], [], [], [(c, .cells ⟨[.slice z x.length y, iv a.2.1, .int .u64 a.2.2]⟩ 99 (0, 0))], [], [], []] : List Seg).getD i [])) := a7.pk [0, 2, 3, 4, 5, 300000, 300001, 300002, 300003, 300004, 1, 300006, 300007, 300008]
 refine G_sub [(2, pB B 0), (5, pB c 0), (6, pB I 0), (10, pB c 0), (11, .agg #[.slice l a.1.Memory.length d, .slice t a.1.Copy.length n, .slice u a.1.Dirty.length q])] (by kernel_rfl) (G_dagL 9 [[], [], [], [2], [3], [1, 4], [], [], [5, 6, 7]] [[], [], [], [], [], [], [], [], [5]] [[], [], [], [], [], [], [], [], [7]] [[], [], [], [], [], [], [], [], []] [[], [], [], [], [], [], [], [], [5]] [[], [], [], [], [], [], [], [], []] (fun i => ([[], [], [], [], [], [(c, .cells ⟨[.slice z x.length y, iv a.2.1, .int .u64 a.2.2]⟩ 99 (0, 0))], [], [], []] : List Seg).getD i []) (fun i => ([fun f v s => v = (.agg #[.slice l a.1.Memory.length d, .slice t a.1.Copy.length n, .slice u a.1.Dirty.length q] : Value) ∧ s = [], fun f v s => v = (pB c 0 : Value) ∧ s = [], fun f v s => v = (pB I 0 : Value) ∧ s = [], fun f v s => v = (.slice l a.1.Memory.length d : Value) ∧ s = [], fun f v s => v = (iv (a.1.Memory.length : Int) : Value) ∧ s = [], fun f v s => ∃ (D : Option Addr) (C : Nat) (G : Seg) (H : Seg), v = (.slice D m.1.length C : Value) ∧ s = ([(c, .cells ⟨[.slice z x.length y, iv m.2.1, .int .u64 m.2.2]⟩ 99 (0, 0))] ++ (G ++ H)) ∧ ownD (deepL encStore) m.1 D C G H, fun f v s => v = (pB c 0 : Value) ∧ s = [], fun f v s => ∃ (K : Option Addr) (J : Nat), v = (.slice K [0, 1, 2, 3, 12, 13, 4].length J : Value) ∧ ownS Gx.encI [0, 1, 2, 3, 12, 13, 4] K J s, fun f v s => ∃ (V : Option Addr) (U : Nat) (Q : Seg) (S : Seg), v = (iv F.1 : Value) ∧ s = ([(c, .cells ⟨[.slice z x.length y, iv F.2.1, .int .u64 F.2.2]⟩ 99 (0, 0))] ++ (Q ++ S)) ∧ ownD (deepL encStore) m.1 V U Q S ∧ (atPath (f 5) []) = (.slice V m.1.length U : Value)] : List ((Nat → Value) → Value → Seg → Prop)).getD i (fun _ _ _ => False)) (fun j f v => ∃ s, (fun i => ([fun f v s => v = (.agg #[.slice l a.1.Memory.length d, .slice t a.1.Copy.length n, .slice u a.1.Dirty.length q] : Value) ∧ s = [], fun f v s => v = (pB c 0 : Value) ∧ s = [], fun f v s => v = (pB I 0 : Value) ∧ s = [], fun f v s => v = (.slice l a.1.Memory.length d : Value) ∧ s = [], fun f v s => v = (iv (a.1.Memory.length : Int) : Value) ∧ s = [], fun f v s => ∃ (D : Option Addr) (C : Nat) (G : Seg) (H : Seg), v = (.slice D m.1.length C : Value) ∧ s = ([(c, .cells ⟨[.slice z x.length y, iv m.2.1, .int .u64 m.2.2]⟩ 99 (0, 0))] ++ (G ++ H)) ∧ ownD (deepL encStore) m.1 D C G H, fun f v s => v = (pB c 0 : Value) ∧ s = [], fun f v s => ∃ (K : Option Addr) (J : Nat), v = (.slice K [0, 1, 2, 3, 12, 13, 4].length J : Value) ∧ ownS Gx.encI [0, 1, 2, 3, 12, 13, 4] K J s, fun f v s => ∃ (V : Option Addr) (U : Nat) (Q : Seg) (S : Seg), v = (iv F.1 : Value) ∧ s = ([(c, .cells ⟨[.slice z x.length y, iv F.2.1, .int .u64 F.2.2]⟩ 99 (0, 0))] ++ (Q ++ S)) ∧ ownD (deepL encStore) m.1 V U Q S ∧ (atPath (f 5) []) = (.slice V m.1.length U : Value)] : List ((Nat → Value) → Value → Seg → Prop)).getD i (fun _ _ _ => False)) j f v s) [5] [0, 7, 8] [7, 8] (fun _ _ _ s h => ⟨s, h⟩) (by kernel_rfl) (by kernel_rfl) a8 (by kernel_rfl) (by kernel_rfl) (by kernel_rfl) (by kernel_rfl) (allOb_cons ?_ (allOb_cons ?_ (allOb_cons ?_ (allOb_cons ?_ (allOb_cons ?_ (allOb_cons ?_ (allOb_cons ?_ (allOb_cons ?_ (allOb_cons ?_ allOb_nil))))))))) ?_)
 ·intro A L
  intro R bs ag
  exact wV (.agg #[.slice l a.1.Memory.length d, .slice t a.1.Copy.length n, .slice u a.1.Dirty.length q]) bs (eL true 3 0 (ag.blk 4 rfl)) (W_nil (oE (.agg #[.slice l a.1.Memory.length d, .slice t a.1.Copy.length n, .slice u a.1.Dirty.length q]) [] ⟨by kernel_rfl, rfl⟩ ag))
 ·intro A L
  intro R bt a9
  exact wR 1 [(13, pB c 0)] bt (W_nil (oE (pB c 0) [] ⟨by kernel_rfl, rfl⟩ a9))
 ·intro A L
  intro R bu ba
  exact wR 1 [(14, pB I 0)] bu (W_nil (oE (pB I 0) [] ⟨by kernel_rfl, rfl⟩ ba))
 ·intro A L
  intro v2_ hb2_
  obtain ⟨rfl, _⟩ := hb2_
  intro R bv ah
  exact wV (.slice l a.1.Memory.length d) bv (eL false 1 0 (ah.blk 4 rfl)) (W_nil (oE (.slice l a.1.Memory.length d) [] ⟨by kernel_rfl, rfl⟩ ah))
 ·intro A L
  intro v3_ hb3_
  obtain ⟨rfl, _⟩ := hb3_
  intro R bw bb
  exact wR 1 [(16, iv (a.1.Memory.length : Int))] bw (W_nil (oE (iv (a.1.Memory.length : Int)) [] ⟨by kernel_rfl, rfl⟩ bb))
 ·intro A L
  intro v1_ hb1_
  obtain ⟨rfl, _⟩ := hb1_
  intro v4_ hb4_
  obtain ⟨rfl, _⟩ := hb4_
  intro R bx X
  refine wC 85 #[pB c 0, iv (a.1.Memory.length : Int)] ((c_s_l1Cur_storeLists bx (⟨x, a.2.1, a.2.2⟩ : l1Cur) z y (W.mem0 X) c (a.1.Memory.length : Int) (X.hasPick [5]) (X.nodupPick [5] (by kernel_rfl)) (apartX.old0 W X [5]) bo).mono ?_)
  rintro e_ b4 ⟨D, C, G, H, rfl, ad, a3⟩
  refine ⟨_, rfl, ?_⟩
  exact W_nil (oE (.slice D m.1.length C) ([(c, .cells ⟨[.slice z x.length y, iv m.2.1, .int .u64 m.2.2]⟩ 99 (0, 0))] ++ (G ++ H)) ⟨D, C, G, H, rfl, rfl, ad⟩ (Mem.callMidF X (a3.permF (by simp))))
 ·intro A L
  intro R bz bc
  exact wR 1 [(18, pB c 0)] bz (W_nil (oE (pB c 0) [] ⟨by kernel_rfl, rfl⟩ bc))
 ·intro A L
  intro R b5 bd
  refine wL (E := Gx.encI) [0, 1, 2, 3, 12, 13, 4] 7 [iv 0, iv 1, iv 2, iv 3, iv 12, iv 13, iv 4] 3 bd ?_
  intro K J bq b6 Z be
  exact W_nil (oE (.slice K [0, 1, 2, 3, 12, 13, 4].length J) bq ⟨K, J, rfl, Z⟩ (Mem.mid be))
 ·intro A L
  intro v5_ hb5_
  obtain ⟨D, C, G, H, rfl, hs5_, ad⟩ := hb5_
  intro v6_ hb6_
  obtain ⟨rfl, _⟩ := hb6_
  intro v7_ hb7_
  obtain ⟨K, J, rfl, Z⟩ := hb7_
  intro R ac bf
  have aa : Mem [] w ac ([[(B, .cells ⟨[.slice none 0 0, .slice none 0 0, .slice none 0 0]⟩ 28 (0, 0))], N, O, P, [(I, .cells ⟨[.slice l a.1.Memory.length d, .slice t a.1.Copy.length n, .slice u a.1.Dirty.length q]⟩ 28 (0, 0))]] ++ ([[]] ++ ([(A 5), (A 7)] ++ ([] ++ R)))) := bf
  rw [hs5_] at aa
  replace aa : Mem [] w ac ([[(B, .cells ⟨[.slice none 0 0, .slice none 0 0, .slice none 0 0]⟩ 28 (0, 0))], N, O, P, [(I, .cells ⟨[.slice l a.1.Memory.length d, .slice t a.1.Copy.length n, .slice u a.1.Dirty.length q]⟩ 28 (0, 0))]] ++ ([[]] ++ ([[(c, .cells ⟨[.slice z x.length y, iv m.2.1, .int .u64 m.2.2]⟩ 99 (0, 0))], G, H, (A 7)] ++ ([] ++ R)))) := aa.permF (by simp)
  have T : Mem [] w ac ([[(B, .cells ⟨[.slice none 0 0, .slice none 0 0, .slice none 0 0]⟩ 28 (0, 0))], N, O, P, [(I, .cells ⟨[.slice l a.1.Memory.length d, .slice t a.1.Copy.length n, .slice u a.1.Dirty.length q]⟩ 28 (0, 0))]] ++ ([[(c, .cells ⟨[.slice z x.length y, iv m.2.1, .int .u64 m.2.2]⟩ 99 (0, 0))]] ++ ([G, H, (A 7)] ++ ([] ++ R)))) := aa.permF (by simp)
  refine wC 86 #[pB c 0, .slice K [0, 1, 2, 3, 12, 13, 4].length J] ((c_s_l1Cur_among ac (⟨x, m.2.1, m.2.2⟩ : l1Cur) z y (W.mem0 T) c [0, 1, 2, 3, 12, 13, 4] K J (Z.rd T 8 (by kernel_rfl)) (T.hasPick [5]) (T.nodupPick [5] (by kernel_rfl)) (apartX.old0 W T [5]) (apartX.own Z T 8 (by kernel_rfl) [5] (by kernel_rfl)) bp).mono ?_)
  rintro e_ b0 ⟨rfl, a4⟩
  refine ⟨_, rfl, ?_⟩
  have bg : Mem [] w b0 ([[(B, .cells ⟨[.slice none 0 0, .slice none 0 0, .slice none 0 0]⟩ 28 (0, 0))], N, O, P, [(I, .cells ⟨[.slice l a.1.Memory.length d, .slice t a.1.Copy.length n, .slice u a.1.Dirty.length q]⟩ 28 (0, 0))]] ++ ([([(c, .cells ⟨[.slice z x.length y, iv F.2.1, .int .u64 F.2.2]⟩ 99 (0, 0))] ++ (G ++ H))] ++ ([(A 7)] ++ ([] ++ R)))) := (Mem.callMidF T a4).permF (by simp)
  exact W_nil (oE (iv F.1) ([(c, .cells ⟨[.slice z x.length y, iv F.2.1, .int .u64 F.2.2]⟩ 99 (0, 0))] ++ (G ++ H)) ⟨D, C, G, H, rfl, rfl, ad, by kernel_rfl⟩ bg)
 intro A L
 intro v5_ hb5_
 obtain ⟨_, D, C, _, _, rfl, _⟩ := hb5_
 intro v0_ hb0_
 obtain ⟨rfl, _⟩ := hb0_
 intro v7_ hb7_
 obtain ⟨K, J, rfl, Z⟩ := hb7_
 intro v8_ hb8_
 obtain ⟨V, U, Q, S, rfl, hs8_, bm, ae⟩ := hb8_
 replace ae : (.slice D m.1.length C : Value) = .slice V m.1.length U := Eq.trans (by kernel_rfl) ae
 cases ae
 intro ay bh
 have ab : Mem [] w ay [[(B, .cells ⟨[.slice none 0 0, .slice none 0 0, .slice none 0 0]⟩ 28 (0, 0))], N, O, P, [(I, .cells ⟨[.slice l a.1.Memory.length d, .slice t a.1.Copy.length n, .slice u a.1.Dirty.length q]⟩ 28 (0, 0))], (A 7), (A 8)] := bh
 rw [hs8_] at ab
 replace ab : Mem [] w ay [[(B, .cells ⟨[.slice none 0 0, .slice none 0 0, .slice none 0 0]⟩ 28 (0, 0))], N, O, P, [(I, .cells ⟨[.slice l a.1.Memory.length d, .slice t a.1.Copy.length n, .slice u a.1.Dirty.length q]⟩ 28 (0, 0))], (A 7), [(c, .cells ⟨[.slice z x.length y, iv F.2.1, .int .u64 F.2.2]⟩ 99 (0, 0))], Q, S] := ab.permF (by simp)
 refine wS true 3 0 (.agg #[.slice l a.1.Memory.length d, .slice t a.1.Copy.length n, .slice u a.1.Dirty.length q]) 0 [.slice l a.1.Memory.length d, .slice t a.1.Copy.length n, .slice u a.1.Dirty.length q] ab rfl ?_
 intro b1 ai
 refine wR 2 [(2, pB B 0), (3, .slice D m.1.length C), (4, iv F.1)] b1 (W_nil (N_then (G_ret ?_)))
 obtain rfl := Option.some.inj hm
 exact N_ret [.agg #[.slice l a.1.Memory.length d, .slice t a.1.Copy.length n, .slice u a.1.Dirty.length q], .slice D m.1.length C, iv F.1] (RVs_cons (RV_cell (g := true) (k := 3) (b := B) (off := 0) (cs := [.slice l a.1.Memory.length d, .slice t a.1.Copy.length n, .slice u a.1.Dirty.length q]) (e := 28) (fr := (0, 0)) (v := .agg #[.slice l a.1.Memory.length d, .slice t a.1.Copy.length n, .slice u a.1.Dirty.length q]) (ai.blk 0 (b := B) (o := .cells ⟨[.slice l a.1.Memory.length d, .slice t a.1.Copy.length n, .slice u a.1.Dirty.length q]⟩ 28 (0, 0)) (by kernel_rfl)) (by kernel_rfl) (by kernel_rfl) (by kernel_rfl)) (rC (rC RVs_nil))) (⟨l, d, N, t, n, O, u, q, P, D, C, Q, S, rfl, bj, bk, bl, bm, ai.pk [1, 2, 3, 7, 8]⟩)
theorem c_l_vInts (w : World) (c : List Int) (f : Option Addr) (h : Nat) (t : rdS Gx.encI w c f h) (d : List Int) (g : Option Addr) (i : Nat) (u : rdS Gx.encI w d g i) {r : Bool} (hm : M.l_vInts c d = some r) :
  Calls Try.prog 46 #[.slice f c.length h, .slice g d.length i] w fun e w' => e = .returned (.bool r) ∧ Mem [] w w' [] := by
 unfold M.l_vInts at hm
 refine cE Try.func46 ?_
 have M0 := Mem.refl [] w
 refine G_seq (G_region (wR 1 [(0, .slice f c.length h), (1, .slice g d.length i)] w (W_nil (N_then (G_seq (G_seq (G_region (wR 5 [(0, .slice f c.length h), (1, .slice g d.length i), (10, .bool ((c.length : Int) != (d.length : Int)))] w (W_nil (N_then ?_))))))))))
 rcases gx_bif hm with ⟨k, hm⟩ | ⟨k, hm⟩
 ·refine gT k (G_seq (G_region (wR 1 [(4, .bool false)] w (W_nil (N_then (G_ret (N_then_ret ?_)))))))
  obtain rfl := Option.some.inj hm
  exact N_ret [.bool false] (rC RVs_nil) (⟨rfl, M0.pk []⟩)
 refine gF k (G_skip (N_then (G_seq (G_seq (G_region (wR 1 [(0, .slice f c.length h), (1, .slice g d.length i), (5, iv 0)] w (W_nil (N_then ?_))))))))
 obtain ⟨G, F, v⟩ := gx_bind hm
 refine G_meet (fun a w' => ∃ (A : Unit), G = .inl A ∧ Mem [] w w' [] ∧ Sat Try.f46.ntmps [] a) ?_ ?_
 ·refine G_block (G_while (σ := Int) (ρ := (Unit) ⊕ (Bool)) (fun b a w' => Mem [] w w' [] ∧ Sat Try.f46.ntmps [(0, .slice f c.length h), (1, .slice g d.length i), (5, iv b)] a) F (fun a ha => ⟨M0.pk [], ha.s⟩) ?_)
  clear hm
  intro b L hm x J H ⟨o, D⟩
  refine G_use D (G_seq (G_seq (G_region (wR 4 [(0, .slice f c.length h), (1, .slice g d.length i), (5, iv b), (14, .bool (decide (b < (c.length : Int))))] H (W_nil (N_then ?_))))))
  rcases gx_bif hm with ⟨l, hm⟩ | ⟨l, hm⟩
  ·refine gT l (G_skip (N_then (G_seq (G_block (G_seq (G_quiet (by kernel_rfl) (by kernel_rfl) o (zR [.slice f c.length h, iv b] [(0, .slice f c.length h), (1, .slice g d.length i), (5, iv b), (17, .slice f c.length h), (18, iv b)] ?_)))))))
   obtain ⟨j, y, hm⟩ := gx_bind hm
   refine zV (elemP f (b.toNat * 1)) (fun w_ M_ => (eI (t.mem0 M_) rfl y)) (zV (iv j) (fun w_ M_ => (eE false 1 0 (b.toNat * 1) (t.mem0 M_) y)) (zR [.slice g d.length i, iv b] [(0, .slice f c.length h), (1, .slice g d.length i), (5, iv b), (20, iv j), (21, .slice g d.length i), (22, iv b)] ?_))
   obtain ⟨n, z, hm⟩ := gx_bind hm
   refine zV (elemP g (b.toNat * 1)) (fun w_ M_ => (eI (u.mem0 M_) rfl z)) (zV (iv n) (fun w_ M_ => (eE false 1 0 (b.toNat * 1) (u.mem0 M_) z)) (zR [.bool (j != n)] [(0, .slice f c.length h), (1, .slice g d.length i), (5, iv b), (25, .bool (j != n))] (Z_end fun B q => (N_then ?_))))
   rcases gx_bif hm with ⟨m, hm⟩ | ⟨m, hm⟩
   ·refine gT m (G_seq (G_region (wR 1 [(4, .bool false)] B (W_nil (N_then (G_ret (N_block_ret (N_then_ret (N_then_ret ?_)))))))))
    obtain rfl := Option.some.inj hm
    obtain rfl := x _ rfl
    have hm := v; simp only [Sum.elim_inr] at hm
    refine N_block_ret (N_meet_ret (N_then_ret ?_))
    obtain rfl := Option.some.inj hm
    exact N_ret [.bool false] (rC RVs_nil) (⟨rfl, q.pk []⟩)
   refine gF m (G_skip (N_block (N_then (G_region (wR 3 [(0, .slice f c.length h), (1, .slice g d.length i), (5, iv (w64 (b + 1)))] B (W_nil ?_))))))
   obtain rfl := Option.some.inj hm
   exact N_loop fun a ha => ⟨_, rfl, q.pk [], ha.s⟩
  refine gF l (G_exit (N_then_exit (N_then_exit (N_block_eq ?_))))
  obtain rfl := Option.some.inj hm
  obtain rfl := x _ rfl
  exact N_meet fun a ha => ⟨_, rfl, o.pk [], ha.s⟩
 intro K I ⟨A, hout_, C, E⟩
 refine N_use E ?_
 subst hout_
 have hm := v; simp only [Sum.elim_inl] at hm
 refine N_then (G_seq (G_region (wR 1 [(4, .bool true)] I (W_nil (N_then (G_ret ?_))))))
 obtain rfl := Option.some.inj hm
 exact N_ret [.bool true] (rC RVs_nil) (⟨rfl, C.pk []⟩)
theorem c_l_vBools (w : World) (c : List Bool) (f : Option Addr) (h : Nat) (t : rdS Gx.encB w c f h) (d : List Bool) (g : Option Addr) (i : Nat) (u : rdS Gx.encB w d g i) {r : Bool} (hm : M.l_vBools c d = some r) :
  Calls Try.prog 87 #[.slice f c.length h, .slice g d.length i] w fun e w' => e = .returned (.bool r) ∧ Mem [] w w' [] := by
 unfold M.l_vBools at hm
 refine cE Try.func87 ?_
 have M0 := Mem.refl [] w
 refine G_seq (G_region (wR 1 [(0, .slice f c.length h), (1, .slice g d.length i)] w (W_nil (N_then (G_seq (G_seq (G_region (wR 5 [(0, .slice f c.length h), (1, .slice g d.length i), (10, .bool ((c.length : Int) != (d.length : Int)))] w (W_nil (N_then ?_))))))))))
 rcases gx_bif hm with ⟨k, hm⟩ | ⟨k, hm⟩
 ·refine gT k (G_seq (G_region (wR 1 [(4, .bool false)] w (W_nil (N_then (G_ret (N_then_ret ?_)))))))
  obtain rfl := Option.some.inj hm
  exact N_ret [.bool false] (rC RVs_nil) (⟨rfl, M0.pk []⟩)
 refine gF k (G_skip (N_then (G_seq (G_seq (G_region (wR 1 [(0, .slice f c.length h), (1, .slice g d.length i), (5, iv 0)] w (W_nil (N_then ?_))))))))
 obtain ⟨G, F, v⟩ := gx_bind hm
 refine G_meet (fun a w' => ∃ (A : Unit), G = .inl A ∧ Mem [] w w' [] ∧ Sat Try.f87.ntmps [] a) ?_ ?_
 ·refine G_block (G_while (σ := Int) (ρ := (Unit) ⊕ (Bool)) (fun b a w' => Mem [] w w' [] ∧ Sat Try.f87.ntmps [(0, .slice f c.length h), (1, .slice g d.length i), (5, iv b)] a) F (fun a ha => ⟨M0.pk [], ha.s⟩) ?_)
  clear hm
  intro b L hm x J H ⟨o, D⟩
  refine G_use D (G_seq (G_seq (G_region (wR 4 [(0, .slice f c.length h), (1, .slice g d.length i), (5, iv b), (14, .bool (decide (b < (c.length : Int))))] H (W_nil (N_then ?_))))))
  rcases gx_bif hm with ⟨l, hm⟩ | ⟨l, hm⟩
  ·refine gT l (G_skip (N_then (G_seq (G_block (G_seq (G_quiet (by kernel_rfl) (by kernel_rfl) o (zR [.slice f c.length h, iv b] [(0, .slice f c.length h), (1, .slice g d.length i), (5, iv b), (17, .slice f c.length h), (18, iv b)] ?_)))))))
   obtain ⟨j, y, hm⟩ := gx_bind hm
   refine zV (elemP f (b.toNat * 1)) (fun w_ M_ => (eI (t.mem0 M_) rfl y)) (zV (.bool j) (fun w_ M_ => (eE false 1 0 (b.toNat * 1) (t.mem0 M_) y)) (zR [.slice g d.length i, iv b] [(0, .slice f c.length h), (1, .slice g d.length i), (5, iv b), (20, .bool j), (21, .slice g d.length i), (22, iv b)] ?_))
   obtain ⟨n, z, hm⟩ := gx_bind hm
   refine zV (elemP g (b.toNat * 1)) (fun w_ M_ => (eI (u.mem0 M_) rfl z)) (zV (.bool n) (fun w_ M_ => (eE false 1 0 (b.toNat * 1) (u.mem0 M_) z)) (zR [.bool (!(j == n))] [(0, .slice f c.length h), (1, .slice g d.length i), (5, iv b), (25, .bool (!(j == n)))] (Z_end fun B q => (N_then ?_))))
   rcases gx_bif hm with ⟨m, hm⟩ | ⟨m, hm⟩
   ·refine gT m (G_seq (G_region (wR 1 [(4, .bool false)] B (W_nil (N_then (G_ret (N_block_ret (N_then_ret (N_then_ret ?_)))))))))
    obtain rfl := Option.some.inj hm
    obtain rfl := x _ rfl
    have hm := v; simp only [Sum.elim_inr] at hm
    refine N_block_ret (N_meet_ret (N_then_ret ?_))
    obtain rfl := Option.some.inj hm
    exact N_ret [.bool false] (rC RVs_nil) (⟨rfl, q.pk []⟩)
   refine gF m (G_skip (N_block (N_then (G_region (wR 3 [(0, .slice f c.length h), (1, .slice g d.length i), (5, iv (w64 (b + 1)))] B (W_nil ?_))))))
   obtain rfl := Option.some.inj hm
   exact N_loop fun a ha => ⟨_, rfl, q.pk [], ha.s⟩
  refine gF l (G_exit (N_then_exit (N_then_exit (N_block_eq ?_))))
  obtain rfl := Option.some.inj hm
  obtain rfl := x _ rfl
  exact N_meet fun a ha => ⟨_, rfl, o.pk [], ha.s⟩
 intro K I ⟨A, hout_, C, E⟩
 refine N_use E ?_
 subst hout_
 have hm := v; simp only [Sum.elim_inl] at hm
 refine N_then (G_seq (G_region (wR 1 [(4, .bool true)] I (W_nil (N_then (G_ret ?_))))))
 obtain rfl := Option.some.inj hm
 exact N_ret [.bool true] (rC RVs_nil) (⟨rfl, C.pk []⟩)
theorem c_l_vCopying (w : World) (b : Copying) (j : Option Addr) (g : Nat) (L : rdS Gx.encI w b.Memory j g) (k : Option Addr) (h : Nat) (N : rdS Gx.encI w b.Copy k h) (l : Option Addr) (i : Nat) (O : rdS Gx.encB w b.Dirty l i) (c : Copying) (x : Option Addr) (t : Nat) (P : rdS Gx.encI w c.Memory x t) (y : Option Addr) (u : Nat) (Q : rdS Gx.encI w c.Copy y u) (z : Option Addr) (v : Nat) (R : rdS Gx.encB w c.Dirty z v) {r : Bool} (hm : M.l_vCopying b c = some r) :
  Calls Try.prog 45 #[.agg #[.slice j b.Memory.length g, .slice k b.Copy.length h, .slice l b.Dirty.length i], .agg #[.slice x c.Memory.length t, .slice y c.Copy.length u, .slice z c.Dirty.length v]] w fun e w' => e = .returned (.bool r) ∧ Mem [] w w' [] := by
 unfold M.l_vCopying at hm
 refine cE Try.func45 ?_
 have M0 := Mem.refl [] w
 refine G_seq (G_region (wN (.cells ⟨[.slice j b.Memory.length g, .slice k b.Copy.length h, .slice l b.Dirty.length i]⟩ 28 (0, 0)) M0 ?_))
 intro f ad I
 refine wN (.cells ⟨[.slice x c.Memory.length t, .slice y c.Copy.length u, .slice z c.Dirty.length v]⟩ 28 (0, 0)) I ?_
 intro d A B
 refine wR 1 [(2, pB f 0), (3, pB d 0)] A (W_nil (N_then (G_seq ?_)))
 obtain ⟨E, U, T⟩ := gx_bind hm
 refine G_meet (fun a w' => Mem [] w w' [] ∧ Sat Try.f45.ntmps [(4, .bool E)] a) ?_ ?_
 ·have hm := U
  refine G_region (wR 1 [(2, pB f 0), (3, pB d 0), (5, pB f 0)] A (wV (.slice j b.Memory.length g) A (eL false 1 0 (B.blk 0 rfl)) (wR 1 [(2, pB f 0), (3, pB d 0), (6, .slice j b.Memory.length g), (7, pB d 0)] A (wV (.slice x c.Memory.length t) A (eL false 1 0 (B.blk 1 rfl)) ?_))))
  obtain ⟨Y, V, hm⟩ := gx_bind hm
  refine wC 46 #[.slice j b.Memory.length g, .slice x c.Memory.length t] ((c_l_vInts A b.Memory j g (L.mem0 B) c.Memory x t (P.mem0 B) V).mono ?_)
  rintro e_ m ⟨rfl, F⟩
  have o := B.call0 F
  refine ⟨_, rfl, ?_⟩
  refine wR 1 [(2, pB f 0), (3, pB d 0), (10, .bool Y)] m ?_
  rcases gx_bif hm with ⟨C, hm⟩ | ⟨C, hm⟩
  ·refine wK 10 true C (wR 1 [(2, pB f 0), (3, pB d 0), (10, .bool true), (11, pB f 1)] m (wV (.slice k b.Copy.length h) m (eL false 1 1 (o.blk 0 rfl)) (wR 1 [(2, pB f 0), (3, pB d 0), (10, .bool true), (12, .slice k b.Copy.length h), (13, pB d 1)] m (wV (.slice y c.Copy.length u) m (eL false 1 1 (o.blk 1 rfl)) ?_))))
   obtain ⟨Z, W, hm⟩ := gx_bind hm
   refine wC 46 #[.slice k b.Copy.length h, .slice y c.Copy.length u] ((c_l_vInts m b.Copy k h (N.mem0 o) c.Copy y u (Q.mem0 o) W).mono ?_)
   rintro e_ n ⟨rfl, G⟩
   have q := o.call0 G
   refine ⟨_, rfl, ?_⟩
   refine wR 2 [(2, pB f 0), (3, pB d 0), (17, .bool Z)] n ?_
   rcases gx_bif hm with ⟨D, hm⟩ | ⟨D, hm⟩
   ·refine wK 17 true D (wR 1 [(3, pB d 0), (17, .bool true), (18, pB f 2)] n (wV (.slice l b.Dirty.length i) n (eL false 1 2 (q.blk 0 rfl)) (wR 1 [(17, .bool true), (19, .slice l b.Dirty.length i), (20, pB d 2)] n (wV (.slice z c.Dirty.length v) n (eL false 1 2 (q.blk 1 rfl)) ?_))))
    obtain ⟨aa, X, hm⟩ := gx_bind hm
    refine wC 87 #[.slice l b.Dirty.length i, .slice z c.Dirty.length v] ((c_l_vBools n b.Dirty l i (O.mem0 q) c.Dirty z v (R.mem0 q) X).mono ?_)
    rintro e_ ab ⟨rfl, H⟩
    have J := q.call0 H
    refine ⟨_, rfl, ?_⟩
    refine wR 2 [(4, .bool aa)] ab (W_nil ?_)
    obtain rfl := Option.some.inj hm
    exact N_meet fun a ha => ⟨J.pk [], ha.s⟩
   refine wK 17 false D (wR 7 [(4, .bool false)] n (W_nil ?_))
   obtain rfl := Option.some.inj hm
   exact N_meet fun a ha => ⟨q.pk [], ha.s⟩
  refine wK 10 false C (wR 14 [(4, .bool false)] m (W_nil ?_))
  obtain rfl := Option.some.inj hm
  exact N_meet fun a ha => ⟨o.pk [], ha.s⟩
 intro ac ae ⟨K, S⟩
 refine N_use S ?_
 have hm := T
 refine N_then (G_ret ?_)
 obtain rfl := Option.some.inj hm
 exact N_ret [.bool E] (rC RVs_nil) (⟨rfl, K.pk []⟩)
theorem c_s_DrawRoundsUntil (w : World) (n : List Int) (x : Option Addr) (q : Nat) (X : rdS Gx.encU8 w n x q) {r : Copying × (List (List Store)) × Int × Int} (hm : M.s_DrawRoundsUntil n = some r) :
  Calls Try.prog 47 #[.slice x n.length q] w fun e w' => ∃ (a9 : Option Addr) (a5 : Nat) (bd : Seg), ∃ (ba : Option Addr) (a6 : Nat) (be : Seg), ∃ (bb : Option Addr) (a7 : Nat) (bf : Seg), ∃ (bc : Option Addr) (a8 : Nat) (bg : Seg) (bh : Seg), e = .returned (.tuple #[.agg #[.slice a9 r.1.Memory.length a5, .slice ba r.1.Copy.length a6, .slice bb r.1.Dirty.length a7], .slice bc r.2.1.length a8, iv r.2.2.1, iv r.2.2.2]) ∧ ownS Gx.encI r.1.Memory a9 a5 bd ∧ ownS Gx.encI r.1.Copy ba a6 be ∧ ownS Gx.encB r.1.Dirty bb a7 bf ∧ ownD (deepL encStore) r.2.1 bc a8 bg bh ∧ Mem [] w w' [bd, be, bf, bg, bh] := by
 unfold M.s_DrawRoundsUntil at hm
 refine cE Try.func47 ?_
 have M0 := Mem.refl [] w
 refine G_seq (G_region (wN (.cells ⟨[.slice none 0 0, .slice none 0 0, .slice none 0 0]⟩ 28 (0, 0)) M0 ?_))
 intro N bi bo
 refine wR 3 [(0, .slice x n.length q), (2, pB N 0)] bi (W_nil (N_then (G_seq (G_region (wR 2 [(2, pB N 0), (9, .agg #[.slice x n.length q, iv 0, .int .u64 0])] bi (wN (.cells ⟨[.slice x n.length q, iv 0, .int .u64 0]⟩ 99 (0, 0)) bo ?_))))))
 intro c az ai
 refine wR 1 [(2, pB N 0), (6, pB c 0)] az (W_nil (N_then (G_seq (G_region (wR 1 [(2, pB N 0), (6, pB c 0), (11, pB c 0)] az ?_)))))
 obtain ⟨a, cl, hm⟩ := gx_bind hm
 refine wC 84 #[pB c 0] ((c_s_l1Cur_copying az (⟨n, 0, 0⟩ : l1Cur) x q (X.mem0 ai) c (ai.hasPick [1]) (ai.nodupPick [1] (by kernel_rfl)) (apartX.old0 X ai [1]) cl).mono ?_)
 rintro e_ c9 ⟨m, l, J, y, t, K, z, u, L, rfl, cf, cg, ch, bj⟩
 have bp := ai.callF' [1] [0] (by kernel_rfl) bj
 refine ⟨_, rfl, ?_⟩
 refine wN (.cells ⟨[.slice none 0 0, .slice none 0 0, .slice none 0 0]⟩ 28 (0, 0)) bp ?_
 intro H da bq
 refine wS true 3 0 (.agg #[.slice m a.1.Memory.length l, .slice y a.1.Copy.length t, .slice z a.1.Dirty.length u]) 5 [.slice m a.1.Memory.length l, .slice y a.1.Copy.length t, .slice z a.1.Dirty.length u] bq rfl ?_
 intro cr br
 refine W_nil (N_then (G_seq ?_))
 obtain ⟨d, cm, hm⟩ := gx_bind hm
 obtain ⟨D, cn, hm⟩ := gx_bind hm
 obtain ⟨F, co, hm⟩ := gx_bind hm
 obtain ⟨G, cp, hm⟩ := gx_bind hm
 have bs : Mem [] w cr ([J, K, L, [(H, .cells ⟨[.slice m a.1.Memory.length l, .slice y a.1.Copy.length t, .slice z a.1.Dirty.length u]⟩ 28 (0, 0))]] ++ (List.range 18).map (fun i => ([[], [], [], [], [], [(c, .cells ⟨[.slice x n.length q, iv a.2.1, .int .u64 a.2.2]⟩ 99 (0, 0))], [], [], [], [], [], [], [], [], [], [(N, .cells ⟨[.slice none 0 0, .slice none 0 0, .slice none 0 0]⟩ 28 (0, 0))], [], []] : List Seg).getD i [])) := br.pk [2, 3, 4, 5, 300000, 300001, 300002, 300003, 300004, 1, 300006, 300007, 300008, 300009, 300010, 300011, 300012, 300013, 300014, 0, 300016, 300017]
 refine G_sub [(2, pB N 0), (6, pB c 0), (7, pB H 0), (11, pB c 0), (12, .agg #[.slice m a.1.Memory.length l, .slice y a.1.Copy.length t, .slice z a.1.Dirty.length u])] (by kernel_rfl) (G_dagL 18 [[], [], [], [2], [3], [1, 4], [], [], [5, 6, 7], [], [8, 9], [], [10, 11], [], [13], [0], [], []] [[], [], [], [], [], [], [], [], [5], [], [8], [], [10], [], [], [], [], []] [[], [], [], [], [], [], [], [], [7], [], [], [], [], [], [], [], [], []] [[], [], [], [], [], [], [], [], [], [], [5], [], [5], [5, 12], [5, 10], [], [5], [5, 8]] [[], [], [], [], [], [], [], [], [5], [], [5], [], [5], [], [], [], [5], []] [[], [], [], [], [], [], [], [], [], [], [], [], [], [], [], [], [], []] (fun i => ([[], [], [], [], [], [(c, .cells ⟨[.slice x n.length q, iv a.2.1, .int .u64 a.2.2]⟩ 99 (0, 0))], [], [], [], [], [], [], [], [], [], [(N, .cells ⟨[.slice none 0 0, .slice none 0 0, .slice none 0 0]⟩ 28 (0, 0))], [], []] : List Seg).getD i []) (fun i => ([fun f v s => v = (.agg #[.slice m a.1.Memory.length l, .slice y a.1.Copy.length t, .slice z a.1.Dirty.length u] : Value) ∧ s = [], fun f v s => v = (pB c 0 : Value) ∧ s = [], fun f v s => v = (pB H 0 : Value) ∧ s = [], fun f v s => v = (.slice m a.1.Memory.length l : Value) ∧ s = [], fun f v s => v = (iv (a.1.Memory.length : Int) : Value) ∧ s = [], fun f v s => ∃ (C : Option Addr) (B : Nat) (O : Seg) (P : Seg), v = (.slice C d.1.length B : Value) ∧ s = ([(c, .cells ⟨[.slice x n.length q, iv d.2.1, .int .u64 d.2.2]⟩ 99 (0, 0))] ++ (O ++ P)) ∧ ownD (deepL encStore) d.1 C B O P, fun f v s => v = (pB c 0 : Value) ∧ s = [], fun f v s => ∃ (S : Option Addr) (Q : Nat), v = (.slice S [1, 2, 3, 12, 4, 0].length Q : Value) ∧ ownS Gx.encI [1, 2, 3, 12, 4, 0] S Q s, fun f v s => ∃ (ae : Option Addr) (ab : Nat) (T : Seg) (U : Seg), v = (iv D.1 : Value) ∧ s = ([(c, .cells ⟨[.slice x n.length q, iv D.2.1, .int .u64 D.2.2]⟩ 99 (0, 0))] ++ (T ++ U)) ∧ ownD (deepL encStore) d.1 ae ab T U ∧ (atPath (f 5) []) = (.slice ae d.1.length ab : Value), fun f v s => v = (pB c 0 : Value) ∧ s = [], fun f v s => ∃ (af : Option Addr) (ac : Nat) (V : Seg) (W : Seg), v = (iv F.1 : Value) ∧ s = ([(c, .cells ⟨[.slice x n.length q, iv F.2.1, .int .u64 F.2.2]⟩ 99 (0, 0))] ++ (V ++ W)) ∧ ownD (deepL encStore) d.1 af ac V W ∧ (atPath (f 5) []) = (.slice af d.1.length ac : Value), fun f v s => v = (pB c 0 : Value) ∧ s = [], fun f v s => ∃ (ag : Option Addr) (ad : Nat) (Y : Seg) (Z : Seg), v = (iv G.1 : Value) ∧ s = ([(c, .cells ⟨[.slice x n.length q, iv G.2.1, .int .u64 G.2.2]⟩ 99 (0, 0))] ++ (Y ++ Z)) ∧ ownD (deepL encStore) d.1 ag ad Y Z ∧ (atPath (f 5) []) = (.slice ag d.1.length ad : Value), fun f v s => v = (iv (w64 (G.1.tdiv 8)) : Value) ∧ s = [], fun f v s => v = (iv (w64 (F.1 - (w64 (G.1.tdiv 8)))) : Value) ∧ s = [], fun f v s => v = undef ∧ s = [(N, .cells ⟨[.slice m a.1.Memory.length l, .slice y a.1.Copy.length t, .slice z a.1.Dirty.length u]⟩ 28 (0, 0))], fun f v s => v = ((atPath (f 5) []) : Value) ∧ s = [], fun f v s => v = (iv D.1 : Value) ∧ s = []] : List ((Nat → Value) → Value → Seg → Prop)).getD i (fun _ _ _ => False)) (fun j f v => ∃ s, (fun i => ([fun f v s => v = (.agg #[.slice m a.1.Memory.length l, .slice y a.1.Copy.length t, .slice z a.1.Dirty.length u] : Value) ∧ s = [], fun f v s => v = (pB c 0 : Value) ∧ s = [], fun f v s => v = (pB H 0 : Value) ∧ s = [], fun f v s => v = (.slice m a.1.Memory.length l : Value) ∧ s = [], fun f v s => v = (iv (a.1.Memory.length : Int) : Value) ∧ s = [], fun f v s => ∃ (C : Option Addr) (B : Nat) (O : Seg) (P : Seg), v = (.slice C d.1.length B : Value) ∧ s = ([(c, .cells ⟨[.slice x n.length q, iv d.2.1, .int .u64 d.2.2]⟩ 99 (0, 0))] ++ (O ++ P)) ∧ ownD (deepL encStore) d.1 C B O P, fun f v s => v = (pB c 0 : Value) ∧ s = [], fun f v s => ∃ (S : Option Addr) (Q : Nat), v = (.slice S [1, 2, 3, 12, 4, 0].length Q : Value) ∧ ownS Gx.encI [1, 2, 3, 12, 4, 0] S Q s, fun f v s => ∃ (ae : Option Addr) (ab : Nat) (T : Seg) (U : Seg), v = (iv D.1 : Value) ∧ s = ([(c, .cells ⟨[.slice x n.length q, iv D.2.1, .int .u64 D.2.2]⟩ 99 (0, 0))] ++ (T ++ U)) ∧ ownD (deepL encStore) d.1 ae ab T U ∧ (atPath (f 5) []) = (.slice ae d.1.length ab : Value), fun f v s => v = (pB c 0 : Value) ∧ s = [], fun f v s => ∃ (af : Option Addr) (ac : Nat) (V : Seg) (W : Seg), v = (iv F.1 : Value) ∧ s = ([(c, .cells ⟨[.slice x n.length q, iv F.2.1, .int .u64 F.2.2]⟩ 99 (0, 0))] ++ (V ++ W)) ∧ ownD (deepL encStore) d.1 af ac V W ∧ (atPath (f 5) []) = (.slice af d.1.length ac : Value), fun f v s => v = (pB c 0 : Value) ∧ s = [], fun f v s => ∃ (ag : Option Addr) (ad : Nat) (Y : Seg) (Z : Seg), v = (iv G.1 : Value) ∧ s = ([(c, .cells ⟨[.slice x n.length q, iv G.2.1, .int .u64 G.2.2]⟩ 99 (0, 0))] ++ (Y ++ Z)) ∧ ownD (deepL encStore) d.1 ag ad Y Z ∧ (atPath (f 5) []) = (.slice ag d.1.length ad : Value), fun f v s => v = (iv (w64 (G.1.tdiv 8)) : Value) ∧ s = [], fun f v s => v = (iv (w64 (F.1 - (w64 (G.1.tdiv 8)))) : Value) ∧ s = [], fun f v s => v = undef ∧ s = [(N, .cells ⟨[.slice m a.1.Memory.length l, .slice y a.1.Copy.length t, .slice z a.1.Dirty.length u]⟩ 28 (0, 0))], fun f v s => v = ((atPath (f 5) []) : Value) ∧ s = [], fun f v s => v = (iv D.1 : Value) ∧ s = []] : List ((Nat → Value) → Value → Seg → Prop)).getD i (fun _ _ _ => False)) j f v s) [5] [7, 12, 14, 15, 16, 17] [7, 12, 15] (fun _ _ _ s h => ⟨s, h⟩) (by kernel_rfl) (by kernel_rfl) bs (by kernel_rfl) (by kernel_rfl) (by kernel_rfl) (by kernel_rfl) (allOb_cons ?_ (allOb_cons ?_ (allOb_cons ?_ (allOb_cons ?_ (allOb_cons ?_ (allOb_cons ?_ (allOb_cons ?_ (allOb_cons ?_ (allOb_cons ?_ (allOb_cons ?_ (allOb_cons ?_ (allOb_cons ?_ (allOb_cons ?_ (allOb_cons ?_ (allOb_cons ?_ (allOb_cons ?_ (allOb_cons ?_ (allOb_cons ?_ allOb_nil)))))))))))))))))) ?_)
 ·intro A I
  intro R ct a3
  exact wV (.agg #[.slice m a.1.Memory.length l, .slice y a.1.Copy.length t, .slice z a.1.Dirty.length u]) ct (eL true 3 0 (a3.blk 3 rfl)) (W_nil (oE (.agg #[.slice m a.1.Memory.length l, .slice y a.1.Copy.length t, .slice z a.1.Dirty.length u]) [] ⟨by kernel_rfl, rfl⟩ a3))
 ·intro A I
  intro R cu bt
  exact wR 1 [(14, pB c 0)] cu (W_nil (oE (pB c 0) [] ⟨by kernel_rfl, rfl⟩ bt))
 ·intro A I
  intro R cv bu
  exact wR 1 [(15, pB H 0)] cv (W_nil (oE (pB H 0) [] ⟨by kernel_rfl, rfl⟩ bu))
 ·intro A I
  intro v2_ hb2_
  obtain ⟨rfl, _⟩ := hb2_
  intro R cw a4
  exact wV (.slice m a.1.Memory.length l) cw (eL false 1 0 (a4.blk 3 rfl)) (W_nil (oE (.slice m a.1.Memory.length l) [] ⟨by kernel_rfl, rfl⟩ a4))
 ·intro A I
  intro v3_ hb3_
  obtain ⟨rfl, _⟩ := hb3_
  intro R cx bv
  exact wR 1 [(17, iv (a.1.Memory.length : Int))] cx (W_nil (oE (iv (a.1.Memory.length : Int)) [] ⟨by kernel_rfl, rfl⟩ bv))
 ·intro A I
  intro v1_ hb1_
  obtain ⟨rfl, _⟩ := hb1_
  intro v4_ hb4_
  obtain ⟨rfl, _⟩ := hb4_
  intro R cy aj
  refine wC 85 #[pB c 0, iv (a.1.Memory.length : Int)] ((c_s_l1Cur_storeLists cy (⟨n, a.2.1, a.2.2⟩ : l1Cur) x q (X.mem0 aj) c (a.1.Memory.length : Int) (aj.hasPick [4]) (aj.nodupPick [4] (by kernel_rfl)) (apartX.old0 X aj [4]) cm).mono ?_)
  rintro e_ db ⟨C, B, O, P, rfl, av, bk⟩
  refine ⟨_, rfl, ?_⟩
  exact W_nil (oE (.slice C d.1.length B) ([(c, .cells ⟨[.slice x n.length q, iv d.2.1, .int .u64 d.2.2]⟩ 99 (0, 0))] ++ (O ++ P)) ⟨C, B, O, P, rfl, rfl, av⟩ (Mem.callMidF aj (bk.permF (by simp))))
 ·intro A I
  intro R cz bw
  exact wR 1 [(19, pB c 0)] cz (W_nil (oE (pB c 0) [] ⟨by kernel_rfl, rfl⟩ bw))
 ·intro A I
  intro R dc bx
  refine wL (E := Gx.encI) [1, 2, 3, 12, 4, 0] 6 [iv 1, iv 2, iv 3, iv 12, iv 4, iv 0] 3 bx ?_
  intro S Q cq dd am bz
  exact W_nil (oE (.slice S [1, 2, 3, 12, 4, 0].length Q) cq ⟨S, Q, rfl, am⟩ (Mem.mid bz))
 ·intro A I
  intro v5_ hb5_
  obtain ⟨C, B, O, P, rfl, hs5_, av⟩ := hb5_
  intro v6_ hb6_
  obtain ⟨rfl, _⟩ := hb6_
  intro v7_ hb7_
  obtain ⟨S, Q, rfl, am⟩ := hb7_
  intro R aq b0
  have an : Mem [] w aq ([J, K, L, [(H, .cells ⟨[.slice m a.1.Memory.length l, .slice y a.1.Copy.length t, .slice z a.1.Dirty.length u]⟩ 28 (0, 0))]] ++ ([[]] ++ ([(A 5), (A 7)] ++ ([] ++ R)))) := b0
  rw [hs5_] at an
  replace an : Mem [] w aq ([J, K, L, [(H, .cells ⟨[.slice m a.1.Memory.length l, .slice y a.1.Copy.length t, .slice z a.1.Dirty.length u]⟩ 28 (0, 0))]] ++ ([[]] ++ ([[(c, .cells ⟨[.slice x n.length q, iv d.2.1, .int .u64 d.2.2]⟩ 99 (0, 0))], O, P, (A 7)] ++ ([] ++ R)))) := an.permF (by simp)
  have aa : Mem [] w aq ([J, K, L, [(H, .cells ⟨[.slice m a.1.Memory.length l, .slice y a.1.Copy.length t, .slice z a.1.Dirty.length u]⟩ 28 (0, 0))]] ++ ([[(c, .cells ⟨[.slice x n.length q, iv d.2.1, .int .u64 d.2.2]⟩ 99 (0, 0))]] ++ ([O, P, (A 7)] ++ ([] ++ R)))) := an.permF (by simp)
  refine wC 86 #[pB c 0, .slice S [1, 2, 3, 12, 4, 0].length Q] ((c_s_l1Cur_among aq (⟨n, d.2.1, d.2.2⟩ : l1Cur) x q (X.mem0 aa) c [1, 2, 3, 12, 4, 0] S Q (am.rd aa 7 (by kernel_rfl)) (aa.hasPick [4]) (aa.nodupPick [4] (by kernel_rfl)) (apartX.old0 X aa [4]) (apartX.own am aa 7 (by kernel_rfl) [4] (by kernel_rfl)) cn).mono ?_)
  rintro e_ c0 ⟨rfl, bl⟩
  refine ⟨_, rfl, ?_⟩
  have b1 : Mem [] w c0 ([J, K, L, [(H, .cells ⟨[.slice m a.1.Memory.length l, .slice y a.1.Copy.length t, .slice z a.1.Dirty.length u]⟩ 28 (0, 0))]] ++ ([([(c, .cells ⟨[.slice x n.length q, iv D.2.1, .int .u64 D.2.2]⟩ 99 (0, 0))] ++ (O ++ P))] ++ ([(A 7)] ++ ([] ++ R)))) := (Mem.callMidF aa bl).permF (by simp)
  exact W_nil (oE (iv D.1) ([(c, .cells ⟨[.slice x n.length q, iv D.2.1, .int .u64 D.2.2]⟩ 99 (0, 0))] ++ (O ++ P)) ⟨C, B, O, P, rfl, rfl, av, by kernel_rfl⟩ b1)
 ·intro A I
  intro R c1 b2
  exact wR 1 [(22, pB c 0)] c1 (W_nil (oE (pB c 0) [] ⟨by kernel_rfl, rfl⟩ b2))
 ·intro A I
  intro v5_ hb5_
  obtain ⟨_, C, B, _, _, rfl, _⟩ := hb5_
  intro v8_ hb8_
  obtain ⟨ae, ab, T, U, rfl, hs8_, ci, aw⟩ := hb8_
  replace aw : (.slice C d.1.length B : Value) = .slice ae d.1.length ab := Eq.trans (by kernel_rfl) aw
  cases aw
  intro v9_ hb9_
  obtain ⟨rfl, _⟩ := hb9_
  intro R ar b3
  have ao : Mem [] w ar ([J, K, L, [(H, .cells ⟨[.slice m a.1.Memory.length l, .slice y a.1.Copy.length t, .slice z a.1.Dirty.length u]⟩ 28 (0, 0))]] ++ ([[]] ++ ([(A 8)] ++ ([] ++ R)))) := b3
  rw [hs8_] at ao
  replace ao : Mem [] w ar ([J, K, L, [(H, .cells ⟨[.slice m a.1.Memory.length l, .slice y a.1.Copy.length t, .slice z a.1.Dirty.length u]⟩ 28 (0, 0))]] ++ ([[]] ++ ([[(c, .cells ⟨[.slice x n.length q, iv D.2.1, .int .u64 D.2.2]⟩ 99 (0, 0))], T, U] ++ ([] ++ R)))) := ao.permF (by simp)
  have ak : Mem [] w ar ([J, K, L, [(H, .cells ⟨[.slice m a.1.Memory.length l, .slice y a.1.Copy.length t, .slice z a.1.Dirty.length u]⟩ 28 (0, 0))]] ++ ([[(c, .cells ⟨[.slice x n.length q, iv D.2.1, .int .u64 D.2.2]⟩ 99 (0, 0))]] ++ ([T, U] ++ ([] ++ R)))) := ao.permF (by simp)
  refine wC 88 #[pB c 0, iv 5] ((c_s_l1Cur_pick ar (⟨n, D.2.1, D.2.2⟩ : l1Cur) x q (X.mem0 ak) c 5 (ak.hasPick [4]) (ak.nodupPick [4] (by kernel_rfl)) (apartX.old0 X ak [4]) co).mono ?_)
  rintro e_ c2 ⟨rfl, bm⟩
  refine ⟨_, rfl, ?_⟩
  have b4 : Mem [] w c2 ([J, K, L, [(H, .cells ⟨[.slice m a.1.Memory.length l, .slice y a.1.Copy.length t, .slice z a.1.Dirty.length u]⟩ 28 (0, 0))]] ++ ([([(c, .cells ⟨[.slice x n.length q, iv F.2.1, .int .u64 F.2.2]⟩ 99 (0, 0))] ++ (T ++ U))] ++ ([] ++ ([] ++ R)))) := (Mem.callMidF ak bm).permF (by simp)
  exact W_nil (oE (iv F.1) ([(c, .cells ⟨[.slice x n.length q, iv F.2.1, .int .u64 F.2.2]⟩ 99 (0, 0))] ++ (T ++ U)) ⟨C, B, T, U, rfl, rfl, ci, by kernel_rfl⟩ b4)
 ·intro A I
  intro R c3 b5
  exact wR 1 [(24, pB c 0)] c3 (W_nil (oE (pB c 0) [] ⟨by kernel_rfl, rfl⟩ b5))
 ·intro A I
  intro v5_ hb5_
  obtain ⟨_, C, B, _, _, rfl, _⟩ := hb5_
  intro v10_ hb10_
  obtain ⟨af, ac, V, W, rfl, hs10_, cj, ax⟩ := hb10_
  replace ax : (.slice C d.1.length B : Value) = .slice af d.1.length ac := Eq.trans (by kernel_rfl) ax
  cases ax
  intro v11_ hb11_
  obtain ⟨rfl, _⟩ := hb11_
  intro R au b6
  have ap : Mem [] w au ([J, K, L, [(H, .cells ⟨[.slice m a.1.Memory.length l, .slice y a.1.Copy.length t, .slice z a.1.Dirty.length u]⟩ 28 (0, 0))]] ++ ([[]] ++ ([(A 10)] ++ ([] ++ R)))) := b6
  rw [hs10_] at ap
  replace ap : Mem [] w au ([J, K, L, [(H, .cells ⟨[.slice m a.1.Memory.length l, .slice y a.1.Copy.length t, .slice z a.1.Dirty.length u]⟩ 28 (0, 0))]] ++ ([[]] ++ ([[(c, .cells ⟨[.slice x n.length q, iv F.2.1, .int .u64 F.2.2]⟩ 99 (0, 0))], V, W] ++ ([] ++ R)))) := ap.permF (by simp)
  have al : Mem [] w au ([J, K, L, [(H, .cells ⟨[.slice m a.1.Memory.length l, .slice y a.1.Copy.length t, .slice z a.1.Dirty.length u]⟩ 28 (0, 0))]] ++ ([[(c, .cells ⟨[.slice x n.length q, iv F.2.1, .int .u64 F.2.2]⟩ 99 (0, 0))]] ++ ([V, W] ++ ([] ++ R)))) := ap.permF (by simp)
  refine wC 88 #[pB c 0, iv 9] ((c_s_l1Cur_pick au (⟨n, F.2.1, F.2.2⟩ : l1Cur) x q (X.mem0 al) c 9 (al.hasPick [4]) (al.nodupPick [4] (by kernel_rfl)) (apartX.old0 X al [4]) cp).mono ?_)
  rintro e_ c4 ⟨rfl, bn⟩
  refine ⟨_, rfl, ?_⟩
  have b7 : Mem [] w c4 ([J, K, L, [(H, .cells ⟨[.slice m a.1.Memory.length l, .slice y a.1.Copy.length t, .slice z a.1.Dirty.length u]⟩ 28 (0, 0))]] ++ ([([(c, .cells ⟨[.slice x n.length q, iv G.2.1, .int .u64 G.2.2]⟩ 99 (0, 0))] ++ (V ++ W))] ++ ([] ++ ([] ++ R)))) := (Mem.callMidF al bn).permF (by simp)
  exact W_nil (oE (iv G.1) ([(c, .cells ⟨[.slice x n.length q, iv G.2.1, .int .u64 G.2.2]⟩ 99 (0, 0))] ++ (V ++ W)) ⟨C, B, V, W, rfl, rfl, cj, by kernel_rfl⟩ b7)
 ·intro A I
  intro v5_ hb5_
  obtain ⟨_, C, B, _, _, rfl, _⟩ := hb5_
  intro v12_ hb12_
  obtain ⟨_, _, _, _, _, rfl, _⟩ := hb12_
  intro R c5 b8
  exact wR 1 [(26, iv (w64 (G.1.tdiv 8)))] c5 (W_nil (oE (iv (w64 (G.1.tdiv 8))) [] ⟨by kernel_rfl, rfl⟩ b8))
 ·intro A I
  intro v5_ hb5_
  obtain ⟨_, C, B, _, _, rfl, _⟩ := hb5_
  intro v10_ hb10_
  obtain ⟨_, _, _, _, _, rfl, _⟩ := hb10_
  intro v13_ hb13_
  obtain ⟨rfl, _⟩ := hb13_
  intro R c6 b9
  exact wR 1 [(27, iv (w64 (F.1 - (w64 (G.1.tdiv 8)))))] c6 (W_nil (oE (iv (w64 (F.1 - (w64 (G.1.tdiv 8))))) [] ⟨by kernel_rfl, rfl⟩ b9))
 ·intro A I
  intro v0_ hb0_
  obtain ⟨rfl, _⟩ := hb0_
  intro R de ca
  refine wS true 3 0 (.agg #[.slice m a.1.Memory.length l, .slice y a.1.Copy.length t, .slice z a.1.Dirty.length u]) 4 [.slice m a.1.Memory.length l, .slice y a.1.Copy.length t, .slice z a.1.Dirty.length u] ca rfl ?_
  intro df cb
  exact W_nil (ob_none [(N, .cells ⟨[.slice m a.1.Memory.length l, .slice y a.1.Copy.length t, .slice z a.1.Dirty.length u]⟩ 28 (0, 0))] rfl ⟨rfl, by kernel_rfl⟩ cb)
 ·intro A I
  intro v5_ hb5_
  obtain ⟨_, C, B, _, _, rfl, _⟩ := hb5_
  intro R c7 cc
  exact wR 1 [(3, .slice C d.1.length B)] c7 (W_nil (oE (.slice C d.1.length B) [] ⟨by kernel_rfl, rfl⟩ cc))
 ·intro A I
  intro v5_ hb5_
  obtain ⟨_, C, B, _, _, rfl, _⟩ := hb5_
  intro v8_ hb8_
  obtain ⟨_, _, _, _, _, rfl, _⟩ := hb8_
  intro R c8 cd
  exact wR 1 [(4, iv D.1)] c8 (W_nil (oE (iv D.1) [] ⟨by kernel_rfl, rfl⟩ cd))
 intro A I
 intro v5_ hb5_
 obtain ⟨_, C, B, _, _, rfl, _⟩ := hb5_
 intro v7_ hb7_
 obtain ⟨S, Q, rfl, am⟩ := hb7_
 intro v12_ hb12_
 obtain ⟨ag, ad, Y, Z, rfl, hs12_, ck, ay⟩ := hb12_
 replace ay : (.slice C d.1.length B : Value) = .slice ag d.1.length ad := Eq.trans (by kernel_rfl) ay
 cases ay
 intro v14_ hb14_
 obtain ⟨rfl, _⟩ := hb14_
 intro v15_ hb15_
 obtain ⟨rfl, hs15_⟩ := hb15_
 replace hs15_ := hs15_.trans (show _ = [(N, .cells ⟨[.slice m a.1.Memory.length l, .slice y a.1.Copy.length t, .slice z a.1.Dirty.length u]⟩ 28 (0, 0))] by kernel_rfl)
 intro v16_ hb16_
 obtain ⟨hv16_, _⟩ := hb16_
 obtain rfl : v16_ = (.slice C d.1.length B : Value) := hv16_.trans (by kernel_rfl)
 intro v17_ hb17_
 obtain ⟨rfl, _⟩ := hb17_
 intro a0 ce
 have ah : Mem [] w a0 [J, K, L, [(H, .cells ⟨[.slice m a.1.Memory.length l, .slice y a.1.Copy.length t, .slice z a.1.Dirty.length u]⟩ 28 (0, 0))], (A 7), (A 12), (A 15)] := ce
 rw [hs12_] at ah
 rw [hs15_] at ah
 replace ah : Mem [] w a0 [J, K, L, [(H, .cells ⟨[.slice m a.1.Memory.length l, .slice y a.1.Copy.length t, .slice z a.1.Dirty.length u]⟩ 28 (0, 0))], (A 7), [(c, .cells ⟨[.slice x n.length q, iv G.2.1, .int .u64 G.2.2]⟩ 99 (0, 0))], Y, Z, [(N, .cells ⟨[.slice m a.1.Memory.length l, .slice y a.1.Copy.length t, .slice z a.1.Dirty.length u]⟩ 28 (0, 0))]] := ah.permF (by simp)
 refine wR 1 [(2, pB N 0), (3, .slice C d.1.length B), (4, iv D.1), (5, iv (w64 (F.1 - (w64 (G.1.tdiv 8)))))] a0 (W_nil (N_then (G_ret ?_)))
 obtain rfl := Option.some.inj hm
 exact N_ret [.agg #[.slice m a.1.Memory.length l, .slice y a.1.Copy.length t, .slice z a.1.Dirty.length u], .slice C d.1.length B, iv D.1, iv (w64 (F.1 - (w64 (G.1.tdiv 8))))] (RVs_cons (RV_cell (g := true) (k := 3) (b := N) (off := 0) (cs := [.slice m a.1.Memory.length l, .slice y a.1.Copy.length t, .slice z a.1.Dirty.length u]) (e := 28) (fr := (0, 0)) (v := .agg #[.slice m a.1.Memory.length l, .slice y a.1.Copy.length t, .slice z a.1.Dirty.length u]) (ah.blk 8 (b := N) (o := .cells ⟨[.slice m a.1.Memory.length l, .slice y a.1.Copy.length t, .slice z a.1.Dirty.length u]⟩ 28 (0, 0)) (by kernel_rfl)) (by kernel_rfl) (by kernel_rfl) (by kernel_rfl)) (rC (rC (rC RVs_nil)))) (⟨m, l, J, y, t, K, z, u, L, C, B, Y, Z, rfl, cf, cg, ch, ck, ah.pk [0, 1, 2, 6, 7]⟩)
theorem c_s_DrawIsCopying (w : World) (l : List Int) (t : Option Addr) (q : Nat) (C : rdS Gx.encU8 w l t q) {r : Copying} (hm : M.s_DrawIsCopying l = some r) :
  Calls Try.prog 89 #[.slice t l.length q] w fun e w' => ∃ (D : Option Addr) (z : Nat) (G : Seg), ∃ (E : Option Addr) (A : Nat) (H : Seg), ∃ (F : Option Addr) (B : Nat) (I : Seg), e = .returned (.agg #[.slice D r.Memory.length z, .slice E r.Copy.length A, .slice F r.Dirty.length B]) ∧ ownS Gx.encI r.Memory D z G ∧ ownS Gx.encI r.Copy E A H ∧ ownS Gx.encB r.Dirty F B I ∧ Mem [] w w' [G, H, I] := by
 unfold M.s_DrawIsCopying at hm
 refine cE Try.func89 ?_
 have M0 := Mem.refl [] w
 refine G_seq (G_region (wN (.cells ⟨[.slice none 0 0, .slice none 0 0, .slice none 0 0]⟩ 28 (0, 0)) M0 ?_))
 intro n U K
 refine W_nil (N_then (G_seq (G_region (wR 2 [(2, pB n 0), (5, .agg #[.slice t l.length q, iv 0, .int .u64 0])] U (wN (.cells ⟨[.slice t l.length q, iv 0, .int .u64 0]⟩ 99 (0, 0)) K ?_)))))
 intro u x m
 refine wR 1 [(2, pB n 0), (3, pB u 0)] x (W_nil (N_then (G_seq (G_region (wR 1 [(2, pB n 0), (7, pB u 0)] x ?_)))))
 obtain ⟨a, Q, hm⟩ := gx_bind hm
 refine wC 84 #[pB u 0] ((c_s_l1Cur_copying x (⟨l, 0, 0⟩ : l1Cur) t q (C.mem0 m) u (m.hasPick [1]) (m.nodupPick [1] (by kernel_rfl)) (apartX.old0 C m [1]) Q).mono ?_)
 rintro e_ V ⟨h, c, R, i, d, S, j, f, T, rfl, N, O, P, J⟩
 have L := m.callF' [1] [0] (by kernel_rfl) J
 refine ⟨_, rfl, ?_⟩
 refine wS true 3 0 (.agg #[.slice h a.1.Memory.length c, .slice i a.1.Copy.length d, .slice j a.1.Dirty.length f]) 0 [.slice h a.1.Memory.length c, .slice i a.1.Copy.length d, .slice j a.1.Dirty.length f] L rfl ?_
 intro W y
 refine W_nil (N_then (G_ret ?_))
 obtain rfl := Option.some.inj hm
 exact N_ret [.agg #[.slice h a.1.Memory.length c, .slice i a.1.Copy.length d, .slice j a.1.Dirty.length f]] (RVs_cons (RV_cell (g := true) (k := 3) (b := n) (off := 0) (cs := [.slice h a.1.Memory.length c, .slice i a.1.Copy.length d, .slice j a.1.Dirty.length f]) (e := 28) (fr := (0, 0)) (v := .agg #[.slice h a.1.Memory.length c, .slice i a.1.Copy.length d, .slice j a.1.Dirty.length f]) (y.blk 0 (b := n) (o := .cells ⟨[.slice h a.1.Memory.length c, .slice i a.1.Copy.length d, .slice j a.1.Dirty.length f]⟩ 28 (0, 0)) (by kernel_rfl)) (by kernel_rfl) (by kernel_rfl) (by kernel_rfl)) RVs_nil) (⟨h, c, R, i, d, S, j, f, T, rfl, N, O, P, y.pk [2, 3, 4]⟩)
theorem c_s_DrawFinishCopy (w : World) (l : List Int) (n : Option Addr) (m : Nat) (J : rdS Gx.encU8 w l n m) {r : Copying} (hm : M.s_DrawFinishCopy l = some r) :
  Calls Try.prog 48 #[.slice n l.length m] w fun e w' => ∃ (A : Option Addr) (x : Nat) (D : Seg), ∃ (B : Option Addr) (y : Nat) (E : Seg), ∃ (C : Option Addr) (z : Nat) (F : Seg), e = .returned (.agg #[.slice A r.Memory.length x, .slice B r.Copy.length y, .slice C r.Dirty.length z]) ∧ ownS Gx.encI r.Memory A x D ∧ ownS Gx.encI r.Copy B y E ∧ ownS Gx.encB r.Dirty C z F ∧ Mem [] w w' [D, E, F] := by
 unfold M.s_DrawFinishCopy at hm
 refine cE Try.func48 ?_
 have M0 := Mem.refl [] w
 refine G_seq (G_region (wN (.cells ⟨[.slice none 0 0, .slice none 0 0, .slice none 0 0]⟩ 28 (0, 0)) M0 ?_))
 intro q G t
 refine W_nil (N_then (G_seq (G_region (wR 1 [(2, pB q 0), (3, .slice n l.length m)] G ?_))))
 obtain ⟨a, O, hm⟩ := gx_bind hm
 refine wC 89 #[.slice n l.length m] ((c_s_DrawIsCopying G l n m (J.mem0 t) O).mono ?_)
 rintro e_ S ⟨h, c, P, i, d, Q, j, f, R, rfl, K, L, N, H⟩
 have I := t.call H
 refine ⟨_, rfl, ?_⟩
 refine wS true 3 0 (.agg #[.slice h a.Memory.length c, .slice i a.Copy.length d, .slice j a.Dirty.length f]) 0 [.slice h a.Memory.length c, .slice i a.Copy.length d, .slice j a.Dirty.length f] I rfl ?_
 intro T u
 refine W_nil (N_then (G_ret ?_))
 obtain rfl := Option.some.inj hm
 exact N_ret [.agg #[.slice h a.Memory.length c, .slice i a.Copy.length d, .slice j a.Dirty.length f]] (RVs_cons (RV_cell (g := true) (k := 3) (b := q) (off := 0) (cs := [.slice h a.Memory.length c, .slice i a.Copy.length d, .slice j a.Dirty.length f]) (e := 28) (fr := (0, 0)) (v := .agg #[.slice h a.Memory.length c, .slice i a.Copy.length d, .slice j a.Dirty.length f]) (u.blk 0 (b := q) (o := .cells ⟨[.slice h a.Memory.length c, .slice i a.Copy.length d, .slice j a.Dirty.length f]⟩ 28 (0, 0)) (by kernel_rfl)) (by kernel_rfl) (by kernel_rfl) (by kernel_rfl)) RVs_nil) (⟨h, c, P, i, d, Q, j, f, R, rfl, K, L, N, u.pk [1, 2, 3]⟩)
end Go.Proofs.Ytjbblcdajdpfkaa
