/- impl.ParseInt: the walk by the kit's words, the callees by the shelf's contracts. -/
import Derived.Test.YtimffallbjpcjaaGreatDoorM
import Derived.Test.YtimffallbjpcjaaGreatDoorProg
import Derived.Test.YtimffallbjpcjaaGreatDoorSh
import Derived.WalkKit
set_option linter.unusedVariables false
set_option linter.unusedSimpArgs false
set_option maxHeartbeats 4000000
set_option maxRecDepth 100000
namespace Go.Proofs.YtimffallbjpcjaaGreatDoor
open Go.Gx Go.RowKit
def MaxLenG : Nat := 0
theorem parseUint_small : ∀ (l : List UInt8) (acc : Nat), acc + 1 ≤ 10 ^ (12 - l.length) → l.length ≤ 12 → Lib.parseUint10 acc l ≠ .range
  | [], acc, _, _ => by simp [Lib.parseUint10]
  | c :: r, acc, h, hl => by
    simp only [List.length_cons] at h hl
    have hp : 10 ^ (12 - r.length) = 10 * 10 ^ (12 - (r.length + 1)) := by
      rw [show 12 - r.length = (12 - (r.length + 1)) + 1 by omega, Nat.pow_succ, Nat.mul_comm]
    have hq : 10 ^ (12 - r.length) ≤ 10 ^ 12 := Nat.pow_le_pow_right (by omega) (by omega)
    simp only [Lib.parseUint10]
    split
    · rename_i hc
      rw [if_neg (by omega), if_neg (by omega)]
      exact parseUint_small r _ (by omega) (by omega)
    · simp
theorem num_cases {α : Type} (x : Lib.NumEnd α) : x = Lib.NumEnd.syntax ∨ x = .range ∨ ∃ v, x = .ok v := by
  cases x <;> simp
theorem atoi_small (l : List UInt8) (h : l.length ≤ 7) : Lib.atoiAll l ≠ .range := by
  cases l with
  | nil => simp [Lib.atoiAll]
  | cons c r =>
    have hm : ∀ m : List UInt8, m.length ≤ 7 → Lib.parseMag m ≠ .range := by
      intro m hm
      unfold Lib.parseMag
      split
      · simp
      · exact parseUint_small m 0 (by have : 0 < 10 ^ (12 - m.length) := Nat.pow_pos (by omega); omega) (by omega)
    have hb : ∀ (m : List UInt8) (u : Nat), m.length ≤ 7 → Lib.parseMag m = .ok u → u < 1000000000000 := by
      intro m u hm h
      have key : ∀ (l : List UInt8) (acc u : Nat), acc + 1 ≤ 10 ^ (12 - l.length) → l.length ≤ 12 → Lib.parseUint10 acc l = .ok u → u < 1000000000000 := by
        intro l
        induction l with
        | nil => intro acc u h _ hu; simp only [Lib.parseUint10, Lib.NumEnd.ok.injEq] at hu; subst hu; simp only [List.length_nil] at h; omega
        | cons c r ih =>
          intro acc u h hl hu
          simp only [List.length_cons] at h hl
          have hp : 10 ^ (12 - r.length) = 10 * 10 ^ (12 - (r.length + 1)) := by
            rw [show 12 - r.length = (12 - (r.length + 1)) + 1 by omega, Nat.pow_succ, Nat.mul_comm]
          simp only [Lib.parseUint10] at hu
          split at hu
          · split at hu
            · cases hu
            · split at hu
              · cases hu
              · exact ih _ u (by omega) (by omega) hu
          · cases hu
      unfold Lib.parseMag at h
      split at h
      · cases h
      · exact key m 0 u (by have : 0 < 10 ^ (12 - m.length) := Nat.pow_pos (by omega); omega) (by omega) h
    simp only [List.length_cons] at h
    simp only [Lib.atoiAll]
    have hx : (if c.toNat = 43 ∨ c.toNat = 45 then r else c :: r).length ≤ 7 := by split <;> (try simp only [List.length_cons]) <;> omega
    generalize (if c.toNat = 43 ∨ c.toNat = 45 then r else c :: r) = m at hx
    rcases num_cases (Lib.parseMag m) with hp | hp | ⟨u, hp⟩
    · rw [hp]
      simp
    · exact absurd hp (hm m hx)
    · have := hb m u hx hp
      rw [hp]
      simp only []
      rw [if_neg (by omega), if_neg (by omega)]
      simp
theorem inside_run (w : World) (x761 : Int) (x762 : Int) (x763 : Int) {r : Bool} (hm : M.i_inside x761 x762 x763 = some r) :
    Calls Tryz.prog 55 #[.int .i64 x761, .int .i64 x762, .int .i64 x763] w fun e w' => e = .returned (.bool r) ∧ Mem [] w w' [] := by
  unfold M.i_inside at hm
  refine C_enter Tryz.func55 rfl (by kernel_rfl) ?_
  have M0 := Mem.refl [] w
  refine G_seq ?_
  refine G_region ?_
  refine W_run 1 [(0, .int .i64 x761), (1, .int .i64 x762), (2, .int .i64 x763)] w (by kernel_rfl) ?_
  refine W_nil ?_
  refine N_then ?_
  refine G_seq ?_
  obtain ⟨o765, ho766, hm767⟩ := gx_bind hm
  refine G_meet (fun a w' => Mem [] w w' [] ∧ Sat Tryz.f55.ntmps [(6, .bool o765)] a) ?_ ?_
  · have hm := ho766
    refine G_region ?_
    refine W_run 4 [(0, .int .i64 x761), (2, .int .i64 x763), (10, .bool (decide (x761 ≥ x762)))] w (by kernel_rfl) ?_
    rcases gx_bif hm with ⟨hc768, hm⟩ | ⟨hc768, hm⟩
    · refine W_known 10 true (by kernel_rfl) hc768 ?_
      refine W_run 5 [(6, .bool (decide (x761 ≤ x763)))] w (by kernel_rfl) ?_
      refine W_nil ?_
      obtain rfl := Option.some.inj hm
      exact N_meet fun a ha => ⟨M0.pick [] (by kernel_rfl), ha.sub (by kernel_rfl)⟩
    refine W_known 10 false (by kernel_rfl) hc768 ?_
    refine W_run 5 [(6, .bool false)] w (by kernel_rfl) ?_
    refine W_nil ?_
    obtain rfl := Option.some.inj hm
    exact N_meet fun a ha => ⟨M0.pick [] (by kernel_rfl), ha.sub (by kernel_rfl)⟩
  intro a771 w769 ⟨M770, hS772⟩
  refine N_use hS772 ?_
  have hm := hm767
  refine N_then ?_
  refine G_ret ?_
  obtain rfl := Option.some.inj hm
  refine N_ret [.bool o765] (RVs_cons (RV_tmp (by kernel_rfl)) RVs_nil) ?_
  exact ⟨rfl, M770.pick [] (by kernel_rfl)⟩
theorem parse_run (w : World) (x : ByteArray) (ht : TabY Tryz.prog w) :
    Calls Tryz.prog 32 #[.string x] w fun e w' => e = .returned (.tuple #[.int .i64 (gxParse x).1, .bool (gxParse x).2]) ∧ Mem [] w w' [] := by
  by_cases h7 : (x.size : Int) > 7
  · have hv : gxParse x = (0, false) := by simp [gxParse, h7]
    rw [hv]
    clear hv
    go_enter Tryz.func32, Tryz.ntmps32
    go_wp2
    go_ret2
    exact ⟨rfl, Mem.refl _ _⟩
  · have hs : x.size ≤ 7 := by omega
    have hl : x.data.toList.length ≤ 7 := by simpa using hs
    rcases num_cases (Lib.atoiAll x.data.toList) with ha | ha | ⟨v, ha⟩
    rotate_left
    · exact absurd ha (atoi_small _ hl)
    rotate_left
    · have hv : gxParse x = (0, false) := by simp [gxParse, h7, ha]
      rw [hv]
      clear hv
      obtain ⟨tp, p, herr⟩ := ht.err
      have hX := Tryz.strconv_Atoi_syntax_var x (by omega) ha tp p w herr
      go_enter Tryz.func32, Tryz.ntmps32
      go_wp2_with (go_at_call 64; refine hX.mono ?_; rintro e w1 ⟨N, rfl, h1, h2, h3⟩)
      go_wp2
      go_ret2
      exact ⟨rfl, Mem.ofBelow h3⟩
    · have hX := Tryz.strconv_Atoi_ok x (by omega) v ha w
      by_cases hin : -999999 ≤ v ∧ v ≤ 999999
      · have hI : ∀ w1, Calls Tryz.prog 55 #[.int .i64 v, .int .i64 (-999999), .int .i64 999999] w1 fun e w' => e = .returned (.bool true) ∧ Mem [] w1 w' [] := fun w1 => inside_run w1 v (-999999) 999999 (by simp [M.i_inside, hin.1, hin.2])
        have hT : ∀ w1, Mem [] w w1 [] → Calls Tryz.prog 50 #[.int .i64 v] w1 fun e w' => e = .returned (.string (gxItoa v)) ∧ Mem [] w1 w' [] := fun w1 h1 => itoa_run Tryz.strconv_Itoa v w1 (by omega) (by omega) (TabM ht.tab h1)
        by_cases he : gxItoa v = x
        · subst he
          have hv : gxParse (gxItoa v) = (v, true) := by simp [gxParse, h7, ha, hin.1, hin.2]
          rw [hv]
          clear hv
          go_enter Tryz.func32, Tryz.ntmps32
          go_wp2_with (go_at_call 64; refine hX.mono ?_; rintro e w1 ⟨rfl, hW⟩)
          have M1 : Mem [] w w1 [] := by
            rcases hW with rfl | ⟨t, rfl⟩
            · exact Mem.refl _ _
            · exact Mem.ofBelow (Lib.bytesWorld_below _ _ _)
          clear hW
          go_wp2_with (go_at_call 55; refine (hI _).mono ?_; rintro e w2 ⟨rfl, M2⟩)
          have M3 := M1.call0 M2
          go_wp2_with (go_at_call 50; refine (hT _ M3).mono ?_; rintro e w3 ⟨rfl, M4⟩)
          have M5 := M3.call0 M4
          go_wp2
          go_ret2
          exact ⟨rfl, M5⟩
        · have hv : gxParse x = (0, false) := by simp [gxParse, h7, ha, hin.1, hin.2, he]
          have hne : ((gxItoa v).toList == x.toList) = false := by
            refine Bool.eq_false_iff.2 fun h => he ?_
            simp only [ByteArray.toList_eq, beq_iff_eq] at h
            exact ByteArray.ext (Array.toList_inj.1 h)
          rw [hv]
          clear hv
          go_enter Tryz.func32, Tryz.ntmps32
          go_wp2_with (go_at_call 64; refine hX.mono ?_; rintro e w1 ⟨rfl, hW⟩)
          have M1 : Mem [] w w1 [] := by
            rcases hW with rfl | ⟨t, rfl⟩
            · exact Mem.refl _ _
            · exact Mem.ofBelow (Lib.bytesWorld_below _ _ _)
          clear hW
          go_wp2_with (go_at_call 55; refine (hI _).mono ?_; rintro e w2 ⟨rfl, M2⟩)
          have M3 := M1.call0 M2
          go_wp2_with (go_at_call 50; refine (hT _ M3).mono ?_; rintro e w3 ⟨rfl, M4⟩)
          have M5 := M3.call0 M4
          go_wp2
          go_ret2
          exact ⟨rfl, M5⟩
      · have hv : gxParse x = (0, false) := by
          have : (decide (-999999 ≤ v) && decide (v ≤ 999999)) = false := by simpa using hin
          simp [gxParse, h7, ha, this]
        have hI : ∀ w1, Calls Tryz.prog 55 #[.int .i64 v, .int .i64 (-999999), .int .i64 999999] w1 fun e w' => e = .returned (.bool false) ∧ Mem [] w1 w' [] := fun w1 => inside_run w1 v (-999999) 999999 (by
          unfold M.i_inside
          by_cases h1 : -999999 ≤ v
          · simp [h1]; omega
          · simp [h1])
        rw [hv]
        clear hv
        go_enter Tryz.func32, Tryz.ntmps32
        go_wp2_with (go_at_call 64; refine hX.mono ?_; rintro e w1 ⟨rfl, hW⟩)
        have M1 : Mem [] w w1 [] := by
          rcases hW with rfl | ⟨t, rfl⟩
          · exact Mem.refl _ _
          · exact Mem.ofBelow (Lib.bytesWorld_below _ _ _)
        clear hW
        go_wp2_with (go_at_call 55; refine (hI _).mono ?_; rintro e w2 ⟨rfl, M2⟩)
        have M3 := M1.call0 M2
        go_wp2
        go_ret2
        exact ⟨rfl, M3⟩
end Go.Proofs.YtimffallbjpcjaaGreatDoor
