/- Plain laws of the models: no program in sight. -/
import Derived.Test.YtopnablbecepjaaM
import Derived.Test.YtopnablbecepjaaL2
set_option linter.unusedVariables false
set_option linter.unusedSimpArgs false
set_option maxHeartbeats 4000000
namespace Go.Proofs.Ytopnablbecepjaa
open Go.Gx
/-! ### Rings written out -/
def rg (n : Nat) (h : Int) (W : List Int) : Ring := ⟨lay n h W, h % 65536, (h + W.length) % 65536⟩
theorem rg_isR {n : Nat} {h : Int} {W : List Int} (hn : n = 1 ∨ n = 2 ∨ n = 4 ∨ n = 8) (hW : W.length ≤ n) (hw : ∀ w ∈ W, word w = true) : IsR (rg n h W) n W :=
  ⟨hn, by simp only [rg]; omega, hW, by simp only [rg]; rw [lay_mod hn], by simp only [rg]; omega, hw⟩
theorem IsR.eq_rg {x : Ring} {n : Nat} {W : List Int} (h : IsR x n W) : x = rg n x.Head W := by
  have hh := h.head
  have h1 := h.items
  have h2 := h.tail
  obtain ⟨a, b, c⟩ := x
  simp only at h1 h2 hh
  subst h1 h2
  simp only [rg, Ring.mk.injEq, true_and, and_true]
  omega
theorem own_ok (xs : List Int) (h : xs.length ≤ 1099511627776) : M.s_l1Own xs = some xs := by
  unfold M.s_l1Own
  rw [gxApp_ok (by simp; omega)]
  rfl
theorem copyInts_ok (xs : List Int) (h : xs.length ≤ 1099511627776) : M.i_copyInts xs = some xs := by
  unfold M.i_copyInts
  rw [gxApp_ok (by simp; omega)]
  rfl
theorem IsR.own {x : Ring} {n : Nat} {W : List Int} (h : IsR x n W) : M.s_l1Own x.Items = some x.Items := own_ok _ (by rw [h.ilen]; have := h.n8; omega)
theorem take_ok {n : Nat} {h w : Int} {W : List Int} (hn : n = 1 ∨ n = 2 ∨ n = 4 ∨ n = 8) (hW : (w :: W).length ≤ n) (hw : ∀ v ∈ w :: W, word v = true) : M.s_l20Take (rg n h (w :: W)) = some (rg n (h + 1) W, w) := by
  have hR := rg_isR (h := h) hn hW hw
  have h8 := hR.n8
  have hh := hR.head
  have ha := hR.at_ (i := 0) (by omega)
  simp only [Int.natCast_zero, Int.add_zero, w64_id (z := (rg n h (w :: W)).Head) (by omega) (by omega)] at ha
  have hl : (rg n h (w :: W)).Items.length = n := hR.ilen
  simp only [List.length_cons] at hW
  unfold M.s_l20Take
  rw [hR.own, Option.bind_some, hR.s_cnt, Option.bind_some, ha.1, Option.bind_some, ha.2]
  have hne : (((w :: W).length : Int) == 0) = false := by simp; omega
  have hm : ((rg n h (w :: W)).Head % n).toNat = (h % n).toNat := by simp only [rg]; rcases hn with rfl | rfl | rfl | rfl <;> omega
  have hq : (w64 ((rg n h (w :: W)).Head + 1)).tmod 65536 = (h + 1) % 65536 := by
    rw [w64_id (by omega) (by omega), Int.tmod_eq_emod_of_nonneg (by omega)]
    simp only [rg]
    omega
  simp only [hne, cond_false, Option.bind_some, List.getD_cons_zero, hm, hq]
  have ht : (rg n h (w :: W)).Items.set (h % n).toNat 0 = lay n (h + 1) W := by simp only [rg]; exact lay_take hn (by omega)
  rw [ht]
  simp only [rg, List.length_cons]
  congr 3
  omega
theorem put_ok {n : Nat} {h w : Int} {W : List Int} (hn : n = 1 ∨ n = 2 ∨ n = 4 ∨ n = 8) (hW : W.length < n) (hw : ∀ v ∈ W, word v = true) : M.s_l20Put (rg n h W) w = some (rg n h (W ++ [w]), true) := by
  have hR := rg_isR (h := h) hn (by omega) hw
  have h8 := hR.n8
  have ht := hR.htail
  have hl : (rg n h W).Items.length = n := hR.ilen
  have e1 : 0 ≤ (rg n h W).Tail % n := Int.emod_nonneg _ (by omega)
  have e2 : (rg n h W).Tail % n < n := Int.emod_lt_of_pos _ (by omega)
  unfold M.s_l20Put
  rw [hR.own, Option.bind_some, hR.s_cnt, Option.bind_some, hl, rem_ok (show 0 ≤ (rg n h W).Tail by omega) (show (0 : Int) < n by omega), Option.bind_some, idx_ok e1 (by rw [hl]; exact e2)]
  have hne : ((W.length : Int) == (n : Int)) = false := by simp; omega
  have hm : ((rg n h W).Tail % n).toNat = ((h + W.length) % n).toNat := by simp only [rg]; rcases hn with rfl | rfl | rfl | rfl <;> omega
  have hq : (w64 ((rg n h W).Tail + 1)).tmod 65536 = (h + (W ++ [w]).length) % 65536 := by
    rw [w64_id (by omega) (by omega), Int.tmod_eq_emod_of_nonneg (by omega)]
    simp only [rg, List.length_append, List.length_singleton]
    omega
  simp only [hne, cond_false, Option.bind_some, hm, hq]
  have hs : (rg n h W).Items.set ((h + W.length) % n).toNat w = lay n h (W ++ [w]) := by simp only [rg]; exact lay_put hn hW
  rw [hs]
  rfl
theorem put_full {n : Nat} {h w : Int} {W : List Int} (hn : n = 1 ∨ n = 2 ∨ n = 4 ∨ n = 8) (hW : W.length = n) (hw : ∀ v ∈ W, word v = true) : ∃ y, M.s_l20Put (rg n h W) w = some (y, false) := by
  have hR := rg_isR (h := h) hn (by omega) hw
  have hl : (rg n h W).Items.length = n := hR.ilen
  unfold M.s_l20Put
  rw [hR.own, Option.bind_some, hR.s_cnt, Option.bind_some, hl, hW]
  simp only [beq_self_eq_true, cond_true]
  exact ⟨_, rfl⟩
theorem lay_nil {n : Nat} {h : Int} : lay n h [] = List.replicate n 0 := by
  apply List.ext_getElem?
  intro j
  by_cases hj : j < n
  · rw [lay_at hj, List.getElem?_replicate_of_lt hj]; simp
  · rw [List.getElem?_eq_none (by rw [lay_length]; omega), List.getElem?_eq_none (by simp; omega)]
theorem ringOf_ok {n : Nat} {h : Int} {W : List Int} (hn : n = 1 ∨ n = 2 ∨ n = 4 ∨ n = 8) (hh : 0 ≤ h ∧ h ≤ 65535) (hW : W.length ≤ n) : M.i_ringOf n h W = some (rg n h W) := by
  have h8 : 1 ≤ n ∧ n ≤ 8 := by omega
  unfold M.i_ringOf
  rw [gxMake_nat (by omega), Option.bind_some, while_run (fun i => ((i : Int), lay n h (W.take i))) (lay n h W) W.length (by simp [lay_nil]) (by omega)]
  · simp only [Option.bind_some, and16, w64_id (z := h + W.length) (by omega) (by omega), rg]
    congr 2
    omega
  · intro i hi
    have e0 : ((i : Int) < (W.length : Int)) := by omega
    have e1 : 0 ≤ (h + (i : Int)) % n := Int.emod_nonneg _ (by omega)
    have e2 : (h + (i : Int)) % n < n := Int.emod_lt_of_pos _ (by omega)
    have hp := lay_put (h := h) (w := W[i]) (W := W.take i) hn (by simp; omega)
    have hl : (W.take i).length = i := by simp; omega
    have ht : W.take i ++ [W[i]] = W.take (i + 1) := by rw [List.take_add_one, List.getElem?_eq_getElem hi]; rfl
    rw [hl, ht] at hp
    simp only [e0, decide_true, cond_true, gxIdx_nat hi, Option.bind_some, w64_id (z := h + i) (by omega) (by omega), rem_ok (show 0 ≤ h + (i : Int) by omega) (show (0 : Int) < n by omega), idx_ok e1 (show (h + (i : Int)) % n < (lay n h (W.take i)).length by rw [lay_length]; exact e2), w64_succ (show i ≤ 4611686018427387904 by omega), hp]
  · simp only [Int.lt_irrefl, decide_false, cond_false, List.take_length]
end Go.Proofs.Ytopnablbecepjaa
