-- Written by this session's own program (wip/tools/ownprint.sh)
import Derived.Test.YtmamkmolgbmmaaaQExprKindsx0
import Derived.Test.YtmamkmolgbmmaaaQExprKindsx2
namespace Go.Proofs.Ytmamkmolgbmmaaa.QExprKinds
open Go.RowKit Go.Proofs.YtmamkmolgbmmaaaW.PrintWords Go.Proofs.YtmamkmolgbmmaaaW.PrintLast Go.Proofs.YtmamkmolgbmmaaaW.PrintMore
attribute [local go_sem] max2_int min2_int max_two min_two max_three min_three max_four min_four Go.Proofs.Ytmamkmolgbmmaaa.Hand.str_gtr Go.Proofs.Ytmamkmolgbmmaaa.Hand.str_leq Go.Proofs.Ytmamkmolgbmmaaa.Hand.str_geq   -- for this text's walks alone
set_option linter.unusedVariables false
set_option linter.unusedSimpArgs false

/-! ### expr_made: function 45 -/
mutual
def expr_made.j0 : Nat → List Int → Int → Bool → Option (Int × Bool)
  | 0, _, _, _ => none
  | k + 1, x1, x6, x7 => if x7 = true then (if 0 < (x1.length : Int) then (if 1 < (x1.length : Int) then (some (0, ((rd x1 0) == (rd x1 1)))) else (none)) else (none)) else (if x6 = 17 then (expr_made.j1 k x1 x6 (x6 == 17)) else (expr_made.j1 k x1 x6 (x6 == 18)))
def expr_made.j1 : Nat → List Int → Int → Bool → Option (Int × Bool)
  | 0, _, _, _ => none
  | k + 1, x1, x6, x17 => if x17 = true then (if 0 < (x1.length : Int) then (if 1 < (x1.length : Int) then (some (rd x1 0, ((rd x1 0) == (rd x1 1)))) else (none)) else (none)) else (if x6 = 14 then (if 1 < (x1.length : Int) then (if 0 < (x1.length : Int) then (if (rd x1 0) = 0 then (if 2 < (x1.length : Int) then (some (rd x1 1, ((rd x1 1) == (rd x1 2)))) else (none)) else (some (rd x1 1, false))) else (none)) else (none)) else (if x6 = 15 then ((expr_all.f x1 1).bind fun t111 => (some (0, t111))) else (if x6 = 16 then ((expr_all.f x1 1).bind fun t112 => (some (1, t112))) else ((expr_all.f x1 0).bind fun t113 => (some (0, t113))))))
end
def expr_made.f (k : Nat) (a0 : Int) (l1 : List Int) : Option (Int × Bool) := if a0 = 9 then (expr_made.j0 k l1 a0 (a0 == 9)) else (expr_made.j0 k l1 a0 (a0 == 10))
theorem expr_made.mono_l : ∀ k, (∀ y0 y1 y2, LeO (expr_made.j0 k y0 y1 y2) (expr_made.j0 (k + 1) y0 y1 y2)) ∧ (∀ y0 y1 y2, LeO (expr_made.j1 k y0 y1 y2) (expr_made.j1 (k + 1) y0 y1 y2))
  | 0 => ⟨fun _ _ _ r h => by simp [expr_made.j0] at h, fun _ _ _ r h => by simp [expr_made.j1] at h⟩
  | k + 1 => by
    obtain ⟨ih0, ih1⟩ := expr_made.mono_l k
    refine ⟨?_, ?_⟩
    · intro y0 y1 y2
      unfold expr_made.j0
      repeat' first
      | (with_reducible exact ih0 _ _ _)
      | (with_reducible exact ih1 _ _ _)
      | (with_reducible exact LeO.refl _)
      | (with_reducible exact LeO.none _)
      | (with_reducible refine LeO.ite ?_ ?_)
      | (with_reducible refine LeO.bind ?_ (fun _ => ?_))
      | exact ih0 _ _ _
      | exact ih1 _ _ _
      | exact LeO.none _
      | refine LeO.ite ?_ ?_
      | refine LeO.bind ?_ (fun _ => ?_)
    · intro y0 y1 y2
      unfold expr_made.j1
      repeat' first
      | (with_reducible exact ih0 _ _ _)
      | (with_reducible exact ih1 _ _ _)
      | (with_reducible exact LeO.refl _)
      | (with_reducible exact LeO.none _)
      | (with_reducible refine LeO.ite ?_ ?_)
      | (with_reducible refine LeO.bind ?_ (fun _ => ?_))
      | exact ih0 _ _ _
      | exact ih1 _ _ _
      | exact LeO.none _
      | refine LeO.ite ?_ ?_
      | refine LeO.bind ?_ (fun _ => ?_)
theorem expr_made.mono : ∀ a0 a1 k, LeO (expr_made.f k a0 a1) (expr_made.f (k + 1) a0 a1) := by
  intro a0 a1 k
  obtain ⟨ih0, ih1⟩ := expr_made.mono_l k
  unfold expr_made.f
  repeat' first
      | (with_reducible exact ih0 _ _ _)
      | (with_reducible exact ih1 _ _ _)
      | (with_reducible exact LeO.refl _)
      | (with_reducible exact LeO.none _)
      | (with_reducible refine LeO.ite ?_ ?_)
      | (with_reducible refine LeO.bind ?_ (fun _ => ?_))
      | exact ih0 _ _ _
      | exact ih1 _ _ _
      | exact LeO.none _
      | refine LeO.ite ?_ ?_
      | refine LeO.bind ?_ (fun _ => ?_)
set_option maxHeartbeats 8000000 in
set_option maxRecDepth 100000 in
theorem expr_made.calls (k : Nat) (a0 : Int) (A1 : Option Addr) (c1 : Nat) (l1 : List Int) (r1 : Int) (r2 : Bool) (w : World) (hr1 : Kd.C (Kd.int .i64) w A1 l1.length l1) (hc1 : l1.length ≤ c1) (h : expr_made.f k a0 l1 = some (r1, r2)) :
    Calls Try.prog 45 #[.int .i64 a0, .slice A1 l1.length c1] w fun e w' => e = .returned (.tuple #[.int .i64 r1, .bool r2]) ∧ Below w.heap.size w w' := by
  have HR1 := Aside0.mk hr1
  have HC1 := Aside0.mk hc1
  clear hr1 hc1
  have HB := Aside0.mk (Below.refl w.heap.size w)
  have H : (if a0 = 9 then (expr_made.j0 k l1 a0 (a0 == 9)) else (expr_made.j0 k l1 a0 (a0 == 10))) = some (r1, r2) := h
  clear h
  have HC3 := Aside0.mk H
  clear H
  go_enter Try.func45, Try.ntmps45
  go_upto_if 7 with (fail)
  repeat (go_quiet (fail); go_upto_if 7 with (fail))
  go_cut [7] (fun v7 wc => ∃ (kq : Nat) (x7_2 : Bool), v7 = .bool x7_2 ∧ Aside0 (expr_made.j0 kq l1 a0 x7_2 = some (r1, r2)) ∧ Aside0 (kq ≤ k) ∧ Aside0 (Below w.heap.size w wc))
  case first =>
    have H := HC3.out
    clear HC3
    by_cases c4 : a0 = 9
    · rw [if_pos c4] at H
      have c4b0 : (a0 == 9) = true := beq_iff_eq.mpr c4
      have c4b1 : (a0 != 9) = false := bne_eq_false_iff_eq.mpr c4
      clear c4
      (first | rw [c4b0] | (simp only [i64_w, i32_w]; rw [c4b0]) | skip)
      have H' := Aside0.mk H
      clear H
      go_wp2
      repeat (go_quiet (fail); try go_wp2)
      go_meet
      case rel => exact ⟨_, ((a0 == 9)), (by first | rfl | (simp; done) | (simp [*]; done)), H', ⟨by first | omega | exact Nat.le_refl _⟩, ⟨by repeat (first | (with_reducible first | exact HB.out | apply below_alloc | apply pw_below_drewN | apply below_drew1) | exact HB.out)⟩⟩
    · rw [if_neg c4] at H
      have c4b0 : (a0 == 9) = false := beq_eq_false_iff_ne.mpr c4
      have c4b1 : (a0 != 9) = true := bne_iff_ne.mpr c4
      (first | rw [c4b0] | (simp only [i64_w, i32_w]; rw [c4b0]) | skip)
      have H' := Aside0.mk H
      clear H
      go_wp2
      repeat (go_quiet (fail); try go_wp2)
      go_meet
      case rel => exact ⟨_, ((a0 == 10)), (by first | rfl | (simp; done) | (simp [*]; done)), H', ⟨by first | omega | exact Nat.le_refl _⟩, ⟨by repeat (first | (with_reducible first | exact HB.out | apply below_alloc | apply pw_below_drewN | apply below_drew1) | exact HB.out)⟩⟩
  case rest =>
    clear HC3
    try clear c1
    try clear p2
    try clear c4
    try clear c4b0
    try clear c4b1
    obtain ⟨kq, x7_2, rfl, HA, HJ2, HB⟩ := hcut
    cases kq with
    | zero => exact absurd HA.out (by simp [expr_made.j0])
    | succ kj2 =>
      have H := HA.out
      clear HA
      simp only [expr_made.j0] at H
      by_cases c5 : x7_2 = true
      · subst c5
        have H1 : (if 0 < (l1.length : Int) then (if 1 < (l1.length : Int) then (some (0, ((rd l1 0) == (rd l1 1)))) else (none)) else (none)) = some (r1, r2) := by rw [if_pos rfl] at H; exact H
        clear H
        have H := H1
        clear H1
        by_cases c6 : 0 < (l1.length : Int)
        · rw [if_pos c6] at H
          have c6b0 : decide (0 < (l1.length : Int)) = true := decide_eq_true c6
          have c6b1 : decide (0 < l1.length) = true := decide_eq_true (by omega)
          clear c6
          by_cases c7 : 1 < (l1.length : Int)
          · rw [if_pos c7] at H
            have c7b0 : decide (1 < (l1.length : Int)) = true := decide_eq_true c7
            have c7b1 : decide (1 < l1.length) = true := decide_eq_true (by omega)
            clear c7
            simp only [Option.some.injEq, Prod.mk.injEq] at H
            obtain ⟨rfl, rfl⟩ := H
            have p102 : 0 ≤ (0 : Int) := (by omega)
            have q102 : 0 < (l1.length : Int) := of_decide_eq_true (by first | (with_reducible assumption) | assumption)
            obtain ⟨ad102, e102, hx102_0⟩ := Kd.at_int HR1.out 0 p102 q102
            cases e102
            have qi102 : (0 < l1.length) = True := eq_true (by omega)
            (try rw [show ((0 : Int)).toNat = 0 from rfl] at hx102_0)
            (try rw [Addr.add_zero'] at hx102_0)
            replace hx102_0 := (HB.out.cell (World.block_lt_of_cell? w _ hx102_0)).trans hx102_0
            replace p102 := eq_true p102
            replace q102 := eq_true q102
            have p103 : 0 ≤ (1 : Int) := (by omega)
            have q103 : 1 < (l1.length : Int) := of_decide_eq_true (by first | (with_reducible assumption) | assumption)
            obtain ⟨ad103, e103, hx103_0⟩ := Kd.at_int HR1.out 1 p103 q103
            obtain rfl : ad102 = ad103 := (by injection e103)
            (try simp only [show (1 : Int).toNat = 1 from rfl, Nat.reduceMul, Nat.reduceEqDiff, Go.Addr.add, ↓reduceIte] at hx103_0)
            have qi103 : (1 < l1.length) = True := eq_true (by omega)
            (try rw [show ((1 : Int)).toNat = 1 from rfl] at hx103_0)
            replace hx103_0 := (HB.out.cell (World.block_lt_of_cell? w _ hx103_0)).trans hx103_0
            replace p103 := eq_true p103
            replace q103 := eq_true q103
            go_wp2
            repeat (go_quiet (fail); try go_wp2)
            go_ret2
            exact ⟨by first | rfl | (simp [errW_none, errW_some] <;> rfl) | (simp [*, errW_none, errW_some] <;> rfl), by repeat (first | (with_reducible first | exact HB.out | apply below_alloc | apply pw_below_drewN | apply below_drew1) | exact HB.out)⟩
          · rw [if_neg c7] at H
            exact absurd H (by simp)
        · rw [if_neg c6] at H
          exact absurd H (by simp)
      · replace c5 := Bool.eq_false_iff.mpr c5
        subst c5
        have H1 : (if a0 = 17 then (expr_made.j1 kj2 l1 a0 (a0 == 17)) else (expr_made.j1 kj2 l1 a0 (a0 == 18))) = some (r1, r2) := by rw [if_neg (show ¬ (false = true) by decide)] at H; exact H
        clear H
        have H := H1
        clear H1
        have HC8 := Aside0.mk H
        clear H
        go_upto_if 17 with (fail)
        repeat (go_quiet (fail); go_upto_if 17 with (fail))
        go_cut [17] (fun v17 wc => ∃ (kq : Nat) (x17_7 : Bool), v17 = .bool x17_7 ∧ Aside0 (expr_made.j1 kq l1 a0 x17_7 = some (r1, r2)) ∧ Aside0 (kq ≤ kj2) ∧ Aside0 (Below w.heap.size w wc))
        case first =>
          have H := HC8.out
          clear HC8
          by_cases c9 : a0 = 17
          · rw [if_pos c9] at H
            have c9b0 : (a0 == 17) = true := beq_iff_eq.mpr c9
            have c9b1 : (a0 != 17) = false := bne_eq_false_iff_eq.mpr c9
            clear c9
            (first | rw [c9b0] | (simp only [i64_w, i32_w]; rw [c9b0]) | skip)
            have H' := Aside0.mk H
            clear H
            go_wp2
            repeat (go_quiet (fail); try go_wp2)
            go_meet
            case rel => exact ⟨_, ((a0 == 17)), (by first | rfl | (simp; done) | (simp [*]; done)), H', ⟨by have := HJ2.out; first | omega | exact Nat.le_refl _⟩, ⟨by repeat (first | (with_reducible first | exact HB.out | apply below_alloc | apply pw_below_drewN | apply below_drew1) | exact HB.out)⟩⟩
          · rw [if_neg c9] at H
            have c9b0 : (a0 == 17) = false := beq_eq_false_iff_ne.mpr c9
            have c9b1 : (a0 != 17) = true := bne_iff_ne.mpr c9
            (first | rw [c9b0] | (simp only [i64_w, i32_w]; rw [c9b0]) | skip)
            have H' := Aside0.mk H
            clear H
            go_wp2
            repeat (go_quiet (fail); try go_wp2)
            go_meet
            case rel => exact ⟨_, ((a0 == 18)), (by first | rfl | (simp; done) | (simp [*]; done)), H', ⟨by have := HJ2.out; first | omega | exact Nat.le_refl _⟩, ⟨by repeat (first | (with_reducible first | exact HB.out | apply below_alloc | apply pw_below_drewN | apply below_drew1) | exact HB.out)⟩⟩
        case rest =>
          clear HC8
          try clear c1
          try clear p1
          try clear q1
          try clear hx1
          try clear qi1
          try clear p2
          try clear c4
          try clear c4b0
          try clear c4b1
          try clear c5
          try clear c6
          try clear c6b0
          try clear c6b1
          try clear c7
          try clear c7b0
          try clear c7b1
          try clear c9
          try clear c9b0
          try clear c9b1
          try clear hx102_0
          try clear hx103_0
          try clear p102
          try clear p103
          try clear p2
          try clear q102
          try clear q103
          obtain ⟨kq, x17_7, rfl, HA, HJ7, HB⟩ := hcut
          cases kq with
          | zero => exact absurd HA.out (by simp [expr_made.j1])
          | succ kj7 =>
            have H := HA.out
            clear HA
            simp only [expr_made.j1] at H
            by_cases c10 : x17_7 = true
            · subst c10
              have H1 : (if 0 < (l1.length : Int) then (if 1 < (l1.length : Int) then (some (rd l1 0, ((rd l1 0) == (rd l1 1)))) else (none)) else (none)) = some (r1, r2) := by rw [if_pos rfl] at H; exact H
              clear H
              have H := H1
              clear H1
              by_cases c11 : 0 < (l1.length : Int)
              · rw [if_pos c11] at H
                have c11b0 : decide (0 < (l1.length : Int)) = true := decide_eq_true c11
                have c11b1 : decide (0 < l1.length) = true := decide_eq_true (by omega)
                clear c11
                by_cases c12 : 1 < (l1.length : Int)
                · rw [if_pos c12] at H
                  have c12b0 : decide (1 < (l1.length : Int)) = true := decide_eq_true c12
                  have c12b1 : decide (1 < l1.length) = true := decide_eq_true (by omega)
                  clear c12
                  simp only [Option.some.injEq, Prod.mk.injEq] at H
                  obtain ⟨rfl, rfl⟩ := H
                  have p104 : 0 ≤ (0 : Int) := (by omega)
                  have q104 : 0 < (l1.length : Int) := of_decide_eq_true (by first | (with_reducible assumption) | assumption)
                  obtain ⟨ad104, e104, hx104_0⟩ := Kd.at_int HR1.out 0 p104 q104
                  cases e104
                  have qi104 : (0 < l1.length) = True := eq_true (by omega)
                  (try rw [show ((0 : Int)).toNat = 0 from rfl] at hx104_0)
                  (try rw [Addr.add_zero'] at hx104_0)
                  replace hx104_0 := (HB.out.cell (World.block_lt_of_cell? w _ hx104_0)).trans hx104_0
                  replace p104 := eq_true p104
                  replace q104 := eq_true q104
                  have p105 : 0 ≤ (0 : Int) := (by omega)
                  have q105 : 0 < (l1.length : Int) := of_decide_eq_true (by first | (with_reducible assumption) | assumption)
                  obtain ⟨ad105, e105, hx105_0⟩ := Kd.at_int HR1.out 0 p105 q105
                  obtain rfl : ad104 = ad105 := (by injection e105)
                  have qi105 : (0 < l1.length) = True := eq_true (by omega)
                  (try rw [show ((0 : Int)).toNat = 0 from rfl] at hx105_0)
                  (try rw [Addr.add_zero'] at hx105_0)
                  replace hx105_0 := (HB.out.cell (World.block_lt_of_cell? w _ hx105_0)).trans hx105_0
                  replace p105 := eq_true p105
                  replace q105 := eq_true q105
                  have p106 : 0 ≤ (1 : Int) := (by omega)
                  have q106 : 1 < (l1.length : Int) := of_decide_eq_true (by first | (with_reducible assumption) | assumption)
                  obtain ⟨ad106, e106, hx106_0⟩ := Kd.at_int HR1.out 1 p106 q106
                  obtain rfl : ad104 = ad106 := (by injection e106)
                  (try simp only [show (1 : Int).toNat = 1 from rfl, Nat.reduceMul, Nat.reduceEqDiff, Go.Addr.add, ↓reduceIte] at hx106_0)
                  have qi106 : (1 < l1.length) = True := eq_true (by omega)
                  (try rw [show ((1 : Int)).toNat = 1 from rfl] at hx106_0)
                  replace hx106_0 := (HB.out.cell (World.block_lt_of_cell? w _ hx106_0)).trans hx106_0
                  replace p106 := eq_true p106
                  replace q106 := eq_true q106
                  go_wp2
                  repeat (go_quiet (fail); try go_wp2)
                  go_ret2
                  exact ⟨by first | rfl | (simp [errW_none, errW_some] <;> rfl) | (simp [*, errW_none, errW_some] <;> rfl), by repeat (first | (with_reducible first | exact HB.out | apply below_alloc | apply pw_below_drewN | apply below_drew1) | exact HB.out)⟩
                · rw [if_neg c12] at H
                  exact absurd H (by simp)
              · rw [if_neg c11] at H
                exact absurd H (by simp)
            · replace c10 := Bool.eq_false_iff.mpr c10
              subst c10
              have H1 : (if a0 = 14 then (if 1 < (l1.length : Int) then (if 0 < (l1.length : Int) then (if (rd l1 0) = 0 then (if 2 < (l1.length : Int) then (some (rd l1 1, ((rd l1 1) == (rd l1 2)))) else (none)) else (some (rd l1 1, false))) else (none)) else (none)) else (if a0 = 15 then ((expr_all.f l1 1).bind fun t111 => (some (0, t111))) else (if a0 = 16 then ((expr_all.f l1 1).bind fun t112 => (some (1, t112))) else ((expr_all.f l1 0).bind fun t113 => (some (0, t113)))))) = some (r1, r2) := by rw [if_neg (show ¬ (false = true) by decide)] at H; exact H
              clear H
              have H := H1
              clear H1
              by_cases c13 : a0 = 14
              · rw [if_pos c13] at H
                have c13b0 : (a0 == 14) = true := beq_iff_eq.mpr c13
                have c13b1 : (a0 != 14) = false := bne_eq_false_iff_eq.mpr c13
                clear c13
                by_cases c14 : 1 < (l1.length : Int)
                · rw [if_pos c14] at H
                  have c14b0 : decide (1 < (l1.length : Int)) = true := decide_eq_true c14
                  have c14b1 : decide (1 < l1.length) = true := decide_eq_true (by omega)
                  clear c14
                  by_cases c15 : 0 < (l1.length : Int)
                  · rw [if_pos c15] at H
                    have c15b0 : decide (0 < (l1.length : Int)) = true := decide_eq_true c15
                    have c15b1 : decide (0 < l1.length) = true := decide_eq_true (by omega)
                    clear c15
                    by_cases c16 : (rd l1 0) = 0
                    · rw [if_pos c16] at H
                      have c16b0 : ((rd l1 0) == 0) = true := beq_iff_eq.mpr c16
                      have c16b1 : ((rd l1 0) != 0) = false := bne_eq_false_iff_eq.mpr c16
                      clear c16
                      by_cases c17 : 2 < (l1.length : Int)
                      · rw [if_pos c17] at H
                        have c17b0 : decide (2 < (l1.length : Int)) = true := decide_eq_true c17
                        have c17b1 : decide (2 < l1.length) = true := decide_eq_true (by omega)
                        clear c17
                        simp only [Option.some.injEq, Prod.mk.injEq] at H
                        obtain ⟨rfl, rfl⟩ := H
                        have p107 : 0 ≤ (1 : Int) := (by omega)
                        have q107 : 1 < (l1.length : Int) := of_decide_eq_true (by first | (with_reducible assumption) | assumption)
                        obtain ⟨ad107, e107, hx107_0⟩ := Kd.at_int HR1.out 1 p107 q107
                        cases e107
                        (try simp only [show (1 : Int).toNat = 1 from rfl, Nat.reduceMul, Nat.reduceEqDiff, Go.Addr.add, ↓reduceIte] at hx107_0)
                        have qi107 : (1 < l1.length) = True := eq_true (by omega)
                        (try rw [show ((1 : Int)).toNat = 1 from rfl] at hx107_0)
                        replace hx107_0 := (HB.out.cell (World.block_lt_of_cell? w _ hx107_0)).trans hx107_0
                        replace p107 := eq_true p107
                        replace q107 := eq_true q107
                        have p108 : 0 ≤ (0 : Int) := (by omega)
                        have q108 : 0 < (l1.length : Int) := of_decide_eq_true (by first | (with_reducible assumption) | assumption)
                        obtain ⟨ad108, e108, hx108_0⟩ := Kd.at_int HR1.out 0 p108 q108
                        obtain rfl : ad107 = ad108 := (by injection e108)
                        have qi108 : (0 < l1.length) = True := eq_true (by omega)
                        (try rw [show ((0 : Int)).toNat = 0 from rfl] at hx108_0)
                        (try rw [Addr.add_zero'] at hx108_0)
                        replace hx108_0 := (HB.out.cell (World.block_lt_of_cell? w _ hx108_0)).trans hx108_0
                        replace p108 := eq_true p108
                        replace q108 := eq_true q108
                        have p109 : 0 ≤ (1 : Int) := (by omega)
                        have q109 : 1 < (l1.length : Int) := of_decide_eq_true (by first | (with_reducible assumption) | assumption)
                        obtain ⟨ad109, e109, hx109_0⟩ := Kd.at_int HR1.out 1 p109 q109
                        obtain rfl : ad107 = ad109 := (by injection e109)
                        (try simp only [show (1 : Int).toNat = 1 from rfl, Nat.reduceMul, Nat.reduceEqDiff, Go.Addr.add, ↓reduceIte] at hx109_0)
                        have qi109 : (1 < l1.length) = True := eq_true (by omega)
                        (try rw [show ((1 : Int)).toNat = 1 from rfl] at hx109_0)
                        replace hx109_0 := (HB.out.cell (World.block_lt_of_cell? w _ hx109_0)).trans hx109_0
                        replace p109 := eq_true p109
                        replace q109 := eq_true q109
                        have p110 : 0 ≤ (2 : Int) := (by omega)
                        have q110 : 2 < (l1.length : Int) := of_decide_eq_true (by first | (with_reducible assumption) | assumption)
                        obtain ⟨ad110, e110, hx110_0⟩ := Kd.at_int HR1.out 2 p110 q110
                        obtain rfl : ad107 = ad110 := (by injection e110)
                        (try simp only [show (2 : Int).toNat = 2 from rfl, Nat.reduceMul, Nat.reduceEqDiff, Go.Addr.add, ↓reduceIte] at hx110_0)
                        have qi110 : (2 < l1.length) = True := eq_true (by omega)
                        (try rw [show ((2 : Int)).toNat = 2 from rfl] at hx110_0)
                        replace hx110_0 := (HB.out.cell (World.block_lt_of_cell? w _ hx110_0)).trans hx110_0
                        replace p110 := eq_true p110
                        replace q110 := eq_true q110
                        go_wp2
                        repeat (go_quiet (fail); try go_wp2)
                        go_ret2
                        exact ⟨by first | rfl | (simp [errW_none, errW_some] <;> rfl) | (simp [*, errW_none, errW_some] <;> rfl), by repeat (first | (with_reducible first | exact HB.out | apply below_alloc | apply pw_below_drewN | apply below_drew1) | exact HB.out)⟩
                      · rw [if_neg c17] at H
                        exact absurd H (by simp)
                    · rw [if_neg c16] at H
                      have c16b0 : ((rd l1 0) == 0) = false := beq_eq_false_iff_ne.mpr c16
                      have c16b1 : ((rd l1 0) != 0) = true := bne_iff_ne.mpr c16
                      simp only [Option.some.injEq, Prod.mk.injEq] at H
                      obtain ⟨rfl, rfl⟩ := H
                      have p107 : 0 ≤ (1 : Int) := (by omega)
                      have q107 : 1 < (l1.length : Int) := of_decide_eq_true (by first | (with_reducible assumption) | assumption)
                      obtain ⟨ad107, e107, hx107_0⟩ := Kd.at_int HR1.out 1 p107 q107
                      cases e107
                      (try simp only [show (1 : Int).toNat = 1 from rfl, Nat.reduceMul, Nat.reduceEqDiff, Go.Addr.add, ↓reduceIte] at hx107_0)
                      have qi107 : (1 < l1.length) = True := eq_true (by omega)
                      (try rw [show ((1 : Int)).toNat = 1 from rfl] at hx107_0)
                      replace hx107_0 := (HB.out.cell (World.block_lt_of_cell? w _ hx107_0)).trans hx107_0
                      replace p107 := eq_true p107
                      replace q107 := eq_true q107
                      have p108 : 0 ≤ (0 : Int) := (by omega)
                      have q108 : 0 < (l1.length : Int) := of_decide_eq_true (by first | (with_reducible assumption) | assumption)
                      obtain ⟨ad108, e108, hx108_0⟩ := Kd.at_int HR1.out 0 p108 q108
                      obtain rfl : ad107 = ad108 := (by injection e108)
                      have qi108 : (0 < l1.length) = True := eq_true (by omega)
                      (try rw [show ((0 : Int)).toNat = 0 from rfl] at hx108_0)
                      (try rw [Addr.add_zero'] at hx108_0)
                      replace hx108_0 := (HB.out.cell (World.block_lt_of_cell? w _ hx108_0)).trans hx108_0
                      replace p108 := eq_true p108
                      replace q108 := eq_true q108
                      go_wp2
                      repeat (go_quiet (fail); try go_wp2)
                      go_ret2
                      exact ⟨by first | rfl | (simp [errW_none, errW_some] <;> rfl) | (simp [*, errW_none, errW_some] <;> rfl), by repeat (first | (with_reducible first | exact HB.out | apply below_alloc | apply pw_below_drewN | apply below_drew1) | exact HB.out)⟩
                  · rw [if_neg c15] at H
                    exact absurd H (by simp)
                · rw [if_neg c14] at H
                  exact absurd H (by simp)
              · rw [if_neg c13] at H
                have c13b0 : (a0 == 14) = false := beq_eq_false_iff_ne.mpr c13
                have c13b1 : (a0 != 14) = true := bne_iff_ne.mpr c13
                by_cases c18 : a0 = 15
                · rw [if_pos c18] at H
                  have c18b0 : (a0 == 15) = true := beq_iff_eq.mpr c18
                  have c18b1 : (a0 != 15) = false := bne_eq_false_iff_eq.mpr c18
                  clear c18
                  replace H := Option.bind_eq_some_iff.mp H
                  obtain ⟨t111, A190, H⟩ := H
                  replace H : (some (0, t111)) = some (r1, r2) := H
                  have A19 := Aside0.mk A190
                  clear A190
                  simp only [Option.some.injEq, Prod.mk.injEq] at H
                  obtain ⟨rfl, rfl⟩ := H
                  go_wp2_with (first | (go_at_call 53; (with_reducible refine (expr_all.calls _ _ l1 1 t111 _ ?side1 ?side2 A19.out).mono ?_); (case side1 => repeat (first | exact (Kd.C_below HR1.out HB.out) | (with_reducible refine Kd.C_alloc ?_ _) | (with_reducible refine Kd.C_drewN ?_ _) | (with_reducible refine Kd.C_drew ?_))); (case side2 => exact HC1.out); rintro e w20 ⟨rfl, hb⟩; have n0_ := Aside0.mk (below_step (by repeat (first | (with_reducible first | exact HB.out | apply below_alloc | apply pw_below_drewN | apply below_drew1) | exact HB.out)) hb); clear HB; have HB := n0_; clear n0_; (try clear hb); (try clear hb2); (try clear hk); (try clear hi)))
                  repeat (go_quiet (first | (go_at_call 53; (with_reducible refine (expr_all.calls _ _ l1 1 t111 _ ?side1 ?side2 A19.out).mono ?_); (case side1 => repeat (first | exact (Kd.C_below HR1.out HB.out) | (with_reducible refine Kd.C_alloc ?_ _) | (with_reducible refine Kd.C_drewN ?_ _) | (with_reducible refine Kd.C_drew ?_))); (case side2 => exact HC1.out); rintro e w20 ⟨rfl, hb⟩; have n0_ := Aside0.mk (below_step (by repeat (first | (with_reducible first | exact HB.out | apply below_alloc | apply pw_below_drewN | apply below_drew1) | exact HB.out)) hb); clear HB; have HB := n0_; clear n0_; (try clear hb); (try clear hb2); (try clear hk); (try clear hi))); try go_wp2_with (first | (go_at_call 53; (with_reducible refine (expr_all.calls _ _ l1 1 t111 _ ?side1 ?side2 A19.out).mono ?_); (case side1 => repeat (first | exact (Kd.C_below HR1.out HB.out) | (with_reducible refine Kd.C_alloc ?_ _) | (with_reducible refine Kd.C_drewN ?_ _) | (with_reducible refine Kd.C_drew ?_))); (case side2 => exact HC1.out); rintro e w20 ⟨rfl, hb⟩; have n0_ := Aside0.mk (below_step (by repeat (first | (with_reducible first | exact HB.out | apply below_alloc | apply pw_below_drewN | apply below_drew1) | exact HB.out)) hb); clear HB; have HB := n0_; clear n0_; (try clear hb); (try clear hb2); (try clear hk); (try clear hi))))
                  go_ret2
                  exact ⟨by first | rfl | (simp [errW_none, errW_some] <;> rfl) | (simp [*, errW_none, errW_some] <;> rfl), by repeat (first | (with_reducible first | exact HB.out | apply below_alloc | apply pw_below_drewN | apply below_drew1) | exact HB.out)⟩
                · rw [if_neg c18] at H
                  have c18b0 : (a0 == 15) = false := beq_eq_false_iff_ne.mpr c18
                  have c18b1 : (a0 != 15) = true := bne_iff_ne.mpr c18
                  by_cases c21 : a0 = 16
                  · rw [if_pos c21] at H
                    have c21b0 : (a0 == 16) = true := beq_iff_eq.mpr c21
                    have c21b1 : (a0 != 16) = false := bne_eq_false_iff_eq.mpr c21
                    clear c21
                    replace H := Option.bind_eq_some_iff.mp H
                    obtain ⟨t112, A220, H⟩ := H
                    replace H : (some (1, t112)) = some (r1, r2) := H
                    have A22 := Aside0.mk A220
                    clear A220
                    simp only [Option.some.injEq, Prod.mk.injEq] at H
                    obtain ⟨rfl, rfl⟩ := H
                    go_wp2_with (first | (go_at_call 53; (with_reducible refine (expr_all.calls _ _ l1 1 t112 _ ?side1 ?side2 A22.out).mono ?_); (case side1 => repeat (first | exact (Kd.C_below HR1.out HB.out) | (with_reducible refine Kd.C_alloc ?_ _) | (with_reducible refine Kd.C_drewN ?_ _) | (with_reducible refine Kd.C_drew ?_))); (case side2 => exact HC1.out); rintro e w23 ⟨rfl, hb⟩; have n0_ := Aside0.mk (below_step (by repeat (first | (with_reducible first | exact HB.out | apply below_alloc | apply pw_below_drewN | apply below_drew1) | exact HB.out)) hb); clear HB; have HB := n0_; clear n0_; (try clear hb); (try clear hb2); (try clear hk); (try clear hi)))
                    repeat (go_quiet (first | (go_at_call 53; (with_reducible refine (expr_all.calls _ _ l1 1 t112 _ ?side1 ?side2 A22.out).mono ?_); (case side1 => repeat (first | exact (Kd.C_below HR1.out HB.out) | (with_reducible refine Kd.C_alloc ?_ _) | (with_reducible refine Kd.C_drewN ?_ _) | (with_reducible refine Kd.C_drew ?_))); (case side2 => exact HC1.out); rintro e w23 ⟨rfl, hb⟩; have n0_ := Aside0.mk (below_step (by repeat (first | (with_reducible first | exact HB.out | apply below_alloc | apply pw_below_drewN | apply below_drew1) | exact HB.out)) hb); clear HB; have HB := n0_; clear n0_; (try clear hb); (try clear hb2); (try clear hk); (try clear hi))); try go_wp2_with (first | (go_at_call 53; (with_reducible refine (expr_all.calls _ _ l1 1 t112 _ ?side1 ?side2 A22.out).mono ?_); (case side1 => repeat (first | exact (Kd.C_below HR1.out HB.out) | (with_reducible refine Kd.C_alloc ?_ _) | (with_reducible refine Kd.C_drewN ?_ _) | (with_reducible refine Kd.C_drew ?_))); (case side2 => exact HC1.out); rintro e w23 ⟨rfl, hb⟩; have n0_ := Aside0.mk (below_step (by repeat (first | (with_reducible first | exact HB.out | apply below_alloc | apply pw_below_drewN | apply below_drew1) | exact HB.out)) hb); clear HB; have HB := n0_; clear n0_; (try clear hb); (try clear hb2); (try clear hk); (try clear hi))))
                    go_ret2
                    exact ⟨by first | rfl | (simp [errW_none, errW_some] <;> rfl) | (simp [*, errW_none, errW_some] <;> rfl), by repeat (first | (with_reducible first | exact HB.out | apply below_alloc | apply pw_below_drewN | apply below_drew1) | exact HB.out)⟩
                  · rw [if_neg c21] at H
                    have c21b0 : (a0 == 16) = false := beq_eq_false_iff_ne.mpr c21
                    have c21b1 : (a0 != 16) = true := bne_iff_ne.mpr c21
                    replace H := Option.bind_eq_some_iff.mp H
                    obtain ⟨t113, A240, H⟩ := H
                    replace H : (some (0, t113)) = some (r1, r2) := H
                    have A24 := Aside0.mk A240
                    clear A240
                    simp only [Option.some.injEq, Prod.mk.injEq] at H
                    obtain ⟨rfl, rfl⟩ := H
                    go_wp2_with (first | (go_at_call 53; (with_reducible refine (expr_all.calls _ _ l1 0 t113 _ ?side1 ?side2 A24.out).mono ?_); (case side1 => repeat (first | exact (Kd.C_below HR1.out HB.out) | (with_reducible refine Kd.C_alloc ?_ _) | (with_reducible refine Kd.C_drewN ?_ _) | (with_reducible refine Kd.C_drew ?_))); (case side2 => exact HC1.out); rintro e w25 ⟨rfl, hb⟩; have n0_ := Aside0.mk (below_step (by repeat (first | (with_reducible first | exact HB.out | apply below_alloc | apply pw_below_drewN | apply below_drew1) | exact HB.out)) hb); clear HB; have HB := n0_; clear n0_; (try clear hb); (try clear hb2); (try clear hk); (try clear hi)))
                    repeat (go_quiet (first | (go_at_call 53; (with_reducible refine (expr_all.calls _ _ l1 0 t113 _ ?side1 ?side2 A24.out).mono ?_); (case side1 => repeat (first | exact (Kd.C_below HR1.out HB.out) | (with_reducible refine Kd.C_alloc ?_ _) | (with_reducible refine Kd.C_drewN ?_ _) | (with_reducible refine Kd.C_drew ?_))); (case side2 => exact HC1.out); rintro e w25 ⟨rfl, hb⟩; have n0_ := Aside0.mk (below_step (by repeat (first | (with_reducible first | exact HB.out | apply below_alloc | apply pw_below_drewN | apply below_drew1) | exact HB.out)) hb); clear HB; have HB := n0_; clear n0_; (try clear hb); (try clear hb2); (try clear hk); (try clear hi))); try go_wp2_with (first | (go_at_call 53; (with_reducible refine (expr_all.calls _ _ l1 0 t113 _ ?side1 ?side2 A24.out).mono ?_); (case side1 => repeat (first | exact (Kd.C_below HR1.out HB.out) | (with_reducible refine Kd.C_alloc ?_ _) | (with_reducible refine Kd.C_drewN ?_ _) | (with_reducible refine Kd.C_drew ?_))); (case side2 => exact HC1.out); rintro e w25 ⟨rfl, hb⟩; have n0_ := Aside0.mk (below_step (by repeat (first | (with_reducible first | exact HB.out | apply below_alloc | apply pw_below_drewN | apply below_drew1) | exact HB.out)) hb); clear HB; have HB := n0_; clear n0_; (try clear hb); (try clear hb2); (try clear hk); (try clear hi))))
                    go_ret2
                    exact ⟨by first | rfl | (simp [errW_none, errW_some] <;> rfl) | (simp [*, errW_none, errW_some] <;> rfl), by repeat (first | (with_reducible first | exact HB.out | apply below_alloc | apply pw_below_drewN | apply below_drew1) | exact HB.out)⟩


/-! ### expr_kinds_step: function 29, by hand -/
theorem Stk.drew {w0 w : World} {g : Nat} {cv v : Value} {l : List Int} (h : Stk w0 w g cv v l) : Stk w0 w.drew g cv v l :=
  ⟨below_drew h.below, h.ge, blk_drew h.blk, Kd.R_drew h.row⟩
def stepS (k : Nat) (cols : List Int) (o n : Int) (s : ByteArray) (st : List Int) : Option (Int × List Int) :=
  if o = 0 then (if n < 0 then some (9, st) else if n ≥ (cols.length : Int) then some (9, st) else some (pushS (rd cols n) st))
  else if o = 2 then (if (s.size : Int) > 4096 then some (2, st) else some (pushS 1 st))
  else if o = 1 then some (pushS 0 st)
  else if o < 0 then some (8, st) else if o ≥ 19 then some (8, st)
  else (expr_arity.f k o).bind fun a => if a < 0 then none else if (st.length : Int) < a then some (6, st) else (expr_made.f k o (st.drop ((st.length : Int) - a).toNat)).bind fun m => if m.2 = true then some (pushS m.1 (st.take ((st.length : Int) - a).toNat)) else some (80, st)
theorem cell_same {w w1 : World} {b i : Nat} (h : w1.heap[b]? = w.heap[b]?) : w1.cell? ⟨b, i, none⟩ = w.cell? ⟨b, i, none⟩ := by
  simp only [World.cell?, h]
set_option maxHeartbeats 4000000 in
set_option maxRecDepth 100000 in
theorem step_str_long (w0 w : World) (g : Nat) (A : Option Addr) (c : Nat) (cols : List Int) (v : Value) (l : List Int) (o n : Int) (s : ByteArray) (h : Stk w0 w g (.slice A cols.length c) v l) (hR : Kd.C (Kd.int .i64) w0 A cols.length cols) (hcc : cols.length ≤ c) (hm : l.length ≤ 16) (ho : o = 2) (hs : (s.size : Int) > 4096) :
    Calls Try.prog 29 #[.pointer (some ⟨g, 0, none⟩), .agg #[.int .i64 o, .int .i64 n, .string s]] w fun e w' => Told w0 w' g (.slice A cols.length c) ((2, l)) e := by
  have huT := Try.underlying41
  have huK := Try.underlying63
  have HS := Aside0.mk h
  have HR := Aside0.mk hR
  have HM := Aside0.mk hm
  clear h hR hm
  have eo01 : (o == 0) = false := beq_eq_false_iff_ne.mpr (by omega)
  have eo02 : (o != 0) = true := bne_iff_ne.mpr (by omega)
  have eo21 : (o == 2) = true := beq_iff_eq.mpr (by omega)
  have eo22 : (o != 2) = false := bne_eq_false_iff_eq.mpr (by omega)
  have c1 : decide (4096 < (s.size : Int)) = true := decide_eq_true hs
  have c2 : decide (4096 < s.size) = true := decide_eq_true (by omega)
  clear ho hs
  go_enter Try.func29, Try.ntmps29
  go_wp2_with ((with_reducible refine gate_dst (N := 3) rfl ?_); refine box_event ?hg (N := 3) ?hd (cs := #[.int .i64 o, .int .i64 n, .string s]) (t := 41) ?hr ?_; (case hd => rfl); (case hg => rfl); (case hr => first | (go_simp; done) | (go_simp; rfl)); intro gb hgb w1 hbox hb; have HS1 := Aside0.mk (HS.out.step hb); have HR1 := Aside0.mk (Kd.C_below HR.out (HS.out.step hb).below); have hb0 : w1.cell? ⟨gb, 0, none⟩ = some (.int .i64 o) := (blk_cell hbox 0).trans rfl; have hb1 : w1.cell? ⟨gb, 1, none⟩ = some (.int .i64 n) := (blk_cell hbox 1).trans rfl; have hb2 : w1.cell? ⟨gb, 2, none⟩ = some (.string s) := (blk_cell hbox 2).trans rfl; have hc0 : w1.cell? ⟨g, 0, none⟩ = some (.slice A cols.length c) := (blk_cell HS1.out.blk 0).trans rfl; clear hb hbox hgb)
  go_ret
  exact ⟨rfl, HS1.out.below, fun h => absurd h (show ¬ (2 : Int) = 0 by decide)⟩

set_option maxHeartbeats 4000000 in
set_option maxRecDepth 100000 in
theorem step_str (w0 w : World) (g : Nat) (A : Option Addr) (c : Nat) (cols : List Int) (v : Value) (l : List Int) (o n : Int) (s : ByteArray) (h : Stk w0 w g (.slice A cols.length c) v l) (hR : Kd.C (Kd.int .i64) w0 A cols.length cols) (hcc : cols.length ≤ c) (hm : l.length ≤ 16) (ho : o = 2) (hs : ¬ (s.size : Int) > 4096) :
    Calls Try.prog 29 #[.pointer (some ⟨g, 0, none⟩), .agg #[.int .i64 o, .int .i64 n, .string s]] w fun e w' => Told w0 w' g (.slice A cols.length c) (pushS 1 l) e := by
  have huT := Try.underlying41
  have huK := Try.underlying63
  have HS := Aside0.mk h
  have HR := Aside0.mk hR
  have HM := Aside0.mk hm
  clear h hR hm
  have eo01 : (o == 0) = false := beq_eq_false_iff_ne.mpr (by omega)
  have eo02 : (o != 0) = true := bne_iff_ne.mpr (by omega)
  have eo21 : (o == 2) = true := beq_iff_eq.mpr (by omega)
  have eo22 : (o != 2) = false := bne_eq_false_iff_eq.mpr (by omega)
  have c1 : decide (4096 < (s.size : Int)) = false := decide_eq_false hs
  have c2 : decide (4096 < s.size) = false := decide_eq_false (by omega)
  clear ho hs
  go_enter Try.func29, Try.ntmps29
  go_wp2_with (first | ((with_reducible refine gate_dst (N := 3) rfl ?_); refine box_event ?hg (N := 3) ?hd (cs := #[.int .i64 o, .int .i64 n, .string s]) (t := 41) ?hr ?_; (case hd => rfl); (case hg => rfl); (case hr => first | (go_simp; done) | (go_simp; rfl)); intro gb hgb w1 hbox hb; have HS1 := Aside0.mk (HS.out.step hb); have HR1 := Aside0.mk (Kd.C_below HR.out (HS.out.step hb).below); have hb0 : w1.cell? ⟨gb, 0, none⟩ = some (.int .i64 o) := (blk_cell hbox 0).trans rfl; have hb1 : w1.cell? ⟨gb, 1, none⟩ = some (.int .i64 n) := (blk_cell hbox 1).trans rfl; have hb2 : w1.cell? ⟨gb, 2, none⟩ = some (.string s) := (blk_cell hbox 2).trans rfl; have hc0 : w1.cell? ⟨g, 0, none⟩ = some (.slice A cols.length c) := (blk_cell HS1.out.blk 0).trans rfl; clear hb hbox hgb) | ((with_reducible refine gate_callee (f := 43) rfl ?_); refine goesL_ (some 43) rfl rfl Try.func43 (by kernel_rfl) rfl #[.pointer (some ⟨g, 0, none⟩), .int .i64 1] rfl (by (try simp only [List.map_toArray, List.map_cons, List.map_nil]); rfl) ?_; (refine (push_told w0 _ g (.slice A cols.length c) v l 1 (by with_reducible first | exact HS1.out | exact HS1.out.drewN _ | exact HS1.out.drewN 1) HM.out).mono ?_); rintro e w' ht; obtain ⟨rfl, htb, hts⟩ := ht; refine ⟨_, rfl, ?_⟩; have HT := Aside0.mk htb; have HT2 := Aside0.mk hts; clear htb hts))
  go_ret
  exact ⟨rfl, HT.out, HT2.out⟩

set_option maxHeartbeats 4000000 in
set_option maxRecDepth 100000 in
theorem step_int (w0 w : World) (g : Nat) (A : Option Addr) (c : Nat) (cols : List Int) (v : Value) (l : List Int) (o n : Int) (s : ByteArray) (h : Stk w0 w g (.slice A cols.length c) v l) (hR : Kd.C (Kd.int .i64) w0 A cols.length cols) (hcc : cols.length ≤ c) (hm : l.length ≤ 16) (ho : o = 1) :
    Calls Try.prog 29 #[.pointer (some ⟨g, 0, none⟩), .agg #[.int .i64 o, .int .i64 n, .string s]] w fun e w' => Told w0 w' g (.slice A cols.length c) (pushS 0 l) e := by
  have huT := Try.underlying41
  have huK := Try.underlying63
  have HS := Aside0.mk h
  have HR := Aside0.mk hR
  have HM := Aside0.mk hm
  clear h hR hm
  have eo01 : (o == 0) = false := beq_eq_false_iff_ne.mpr (by omega)
  have eo02 : (o != 0) = true := bne_iff_ne.mpr (by omega)
  have eo21 : (o == 2) = false := beq_eq_false_iff_ne.mpr (by omega)
  have eo22 : (o != 2) = true := bne_iff_ne.mpr (by omega)
  have eo11 : (o == 1) = true := beq_iff_eq.mpr (by omega)
  have eo12 : (o != 1) = false := bne_eq_false_iff_eq.mpr (by omega)
  clear ho
  go_enter Try.func29, Try.ntmps29
  go_wp2_with (first | ((with_reducible refine gate_dst (N := 3) rfl ?_); refine box_event ?hg (N := 3) ?hd (cs := #[.int .i64 o, .int .i64 n, .string s]) (t := 41) ?hr ?_; (case hd => rfl); (case hg => rfl); (case hr => first | (go_simp; done) | (go_simp; rfl)); intro gb hgb w1 hbox hb; have HS1 := Aside0.mk (HS.out.step hb); have HR1 := Aside0.mk (Kd.C_below HR.out (HS.out.step hb).below); have hb0 : w1.cell? ⟨gb, 0, none⟩ = some (.int .i64 o) := (blk_cell hbox 0).trans rfl; have hb1 : w1.cell? ⟨gb, 1, none⟩ = some (.int .i64 n) := (blk_cell hbox 1).trans rfl; have hb2 : w1.cell? ⟨gb, 2, none⟩ = some (.string s) := (blk_cell hbox 2).trans rfl; have hc0 : w1.cell? ⟨g, 0, none⟩ = some (.slice A cols.length c) := (blk_cell HS1.out.blk 0).trans rfl; clear hb hbox hgb) | ((with_reducible refine gate_callee (f := 43) rfl ?_); refine goesL_ (some 47) rfl rfl Try.func43 (by kernel_rfl) rfl #[.pointer (some ⟨g, 0, none⟩), .int .i64 0] rfl (by (try simp only [List.map_toArray, List.map_cons, List.map_nil]); rfl) ?_; (refine (push_told w0 _ g (.slice A cols.length c) v l 0 (by with_reducible first | exact HS1.out | exact HS1.out.drewN _ | exact HS1.out.drewN 1) HM.out).mono ?_); rintro e w' ht; obtain ⟨rfl, htb, hts⟩ := ht; refine ⟨_, rfl, ?_⟩; have HT := Aside0.mk htb; have HT2 := Aside0.mk hts; clear htb hts))
  go_ret
  exact ⟨rfl, HT.out, HT2.out⟩

set_option maxHeartbeats 4000000 in
set_option maxRecDepth 100000 in
theorem step_col_low (w0 w : World) (g : Nat) (A : Option Addr) (c : Nat) (cols : List Int) (v : Value) (l : List Int) (o n : Int) (s : ByteArray) (h : Stk w0 w g (.slice A cols.length c) v l) (hR : Kd.C (Kd.int .i64) w0 A cols.length cols) (hcc : cols.length ≤ c) (hm : l.length ≤ 16) (ho : o = 0) (hn : n < 0) :
    Calls Try.prog 29 #[.pointer (some ⟨g, 0, none⟩), .agg #[.int .i64 o, .int .i64 n, .string s]] w fun e w' => Told w0 w' g (.slice A cols.length c) ((9, l)) e := by
  have huT := Try.underlying41
  have huK := Try.underlying63
  have HS := Aside0.mk h
  have HR := Aside0.mk hR
  have HM := Aside0.mk hm
  clear h hR hm
  have eo01 : (o == 0) = true := beq_iff_eq.mpr (by omega)
  have eo02 : (o != 0) = false := bne_eq_false_iff_eq.mpr (by omega)
  have c1 : decide (n < 0) = true := decide_eq_true hn
  clear ho hn
  go_enter Try.func29, Try.ntmps29
  go_wp2_with ((with_reducible refine gate_dst (N := 3) rfl ?_); refine box_event ?hg (N := 3) ?hd (cs := #[.int .i64 o, .int .i64 n, .string s]) (t := 41) ?hr ?_; (case hd => rfl); (case hg => rfl); (case hr => first | (go_simp; done) | (go_simp; rfl)); intro gb hgb w1 hbox hb; have HS1 := Aside0.mk (HS.out.step hb); have HR1 := Aside0.mk (Kd.C_below HR.out (HS.out.step hb).below); have hb0 : w1.cell? ⟨gb, 0, none⟩ = some (.int .i64 o) := (blk_cell hbox 0).trans rfl; have hb1 : w1.cell? ⟨gb, 1, none⟩ = some (.int .i64 n) := (blk_cell hbox 1).trans rfl; have hb2 : w1.cell? ⟨gb, 2, none⟩ = some (.string s) := (blk_cell hbox 2).trans rfl; have hc0 : w1.cell? ⟨g, 0, none⟩ = some (.slice A cols.length c) := (blk_cell HS1.out.blk 0).trans rfl; clear hb hbox hgb)
  go_quiet (fail)
  go_wp2
  go_ret
  exact ⟨rfl, (HS1.out.drewN _).below, fun h => absurd h (show ¬ (9 : Int) = 0 by decide)⟩

set_option maxHeartbeats 4000000 in
set_option maxRecDepth 100000 in
theorem step_col_high (w0 w : World) (g : Nat) (A : Option Addr) (c : Nat) (cols : List Int) (v : Value) (l : List Int) (o n : Int) (s : ByteArray) (h : Stk w0 w g (.slice A cols.length c) v l) (hR : Kd.C (Kd.int .i64) w0 A cols.length cols) (hcc : cols.length ≤ c) (hm : l.length ≤ 16) (ho : o = 0) (hn : ¬ n < 0) (hk : n ≥ (cols.length : Int)) :
    Calls Try.prog 29 #[.pointer (some ⟨g, 0, none⟩), .agg #[.int .i64 o, .int .i64 n, .string s]] w fun e w' => Told w0 w' g (.slice A cols.length c) ((9, l)) e := by
  have huT := Try.underlying41
  have huK := Try.underlying63
  have HS := Aside0.mk h
  have HR := Aside0.mk hR
  have HM := Aside0.mk hm
  clear h hR hm
  have eo01 : (o == 0) = true := beq_iff_eq.mpr (by omega)
  have eo02 : (o != 0) = false := bne_eq_false_iff_eq.mpr (by omega)
  have c1 : decide (n < 0) = false := decide_eq_false hn
  have c2 : decide ((cols.length : Int) ≤ n) = true := decide_eq_true hk
  clear ho hn hk
  go_enter Try.func29, Try.ntmps29
  go_wp2_with ((with_reducible refine gate_dst (N := 3) rfl ?_); refine box_event ?hg (N := 3) ?hd (cs := #[.int .i64 o, .int .i64 n, .string s]) (t := 41) ?hr ?_; (case hd => rfl); (case hg => rfl); (case hr => first | (go_simp; done) | (go_simp; rfl)); intro gb hgb w1 hbox hb; have HS1 := Aside0.mk (HS.out.step hb); have HR1 := Aside0.mk (Kd.C_below HR.out (HS.out.step hb).below); have hb0 : w1.cell? ⟨gb, 0, none⟩ = some (.int .i64 o) := (blk_cell hbox 0).trans rfl; have hb1 : w1.cell? ⟨gb, 1, none⟩ = some (.int .i64 n) := (blk_cell hbox 1).trans rfl; have hb2 : w1.cell? ⟨gb, 2, none⟩ = some (.string s) := (blk_cell hbox 2).trans rfl; have hc0 : w1.cell? ⟨g, 0, none⟩ = some (.slice A cols.length c) := (blk_cell HS1.out.blk 0).trans rfl; clear hb hbox hgb)
  go_quiet (fail)
  go_wp2
  go_ret
  exact ⟨rfl, (HS1.out.drewN _).below, fun h => absurd h (show ¬ (9 : Int) = 0 by decide)⟩

set_option maxHeartbeats 4000000 in
set_option maxRecDepth 100000 in
theorem step_col (w0 w : World) (g : Nat) (A : Option Addr) (c : Nat) (cols : List Int) (v : Value) (l : List Int) (o n : Int) (s : ByteArray) (h : Stk w0 w g (.slice A cols.length c) v l) (hR : Kd.C (Kd.int .i64) w0 A cols.length cols) (hcc : cols.length ≤ c) (hm : l.length ≤ 16) (ho : o = 0) (hn : ¬ n < 0) (hk : ¬ n ≥ (cols.length : Int)) :
    Calls Try.prog 29 #[.pointer (some ⟨g, 0, none⟩), .agg #[.int .i64 o, .int .i64 n, .string s]] w fun e w' => Told w0 w' g (.slice A cols.length c) (pushS (rd cols n) l) e := by
  have huT := Try.underlying41
  have huK := Try.underlying63
  have HS := Aside0.mk h
  have HR := Aside0.mk hR
  have HM := Aside0.mk hm
  clear h hR hm
  have eo01 : (o == 0) = true := beq_iff_eq.mpr (by omega)
  have eo02 : (o != 0) = false := bne_eq_false_iff_eq.mpr (by omega)
  have c1 : decide (n < 0) = false := decide_eq_false hn
  have c2 : decide ((cols.length : Int) ≤ n) = false := decide_eq_false hk
  have hn0 : 0 ≤ n := by omega
  have hn1 : n < (cols.length : Int) := by omega
  clear ho hn hk
  go_enter Try.func29, Try.ntmps29
  go_wp2_with (((with_reducible refine gate_dst (N := 3) rfl ?_); refine box_event ?hg (N := 3) ?hd (cs := #[.int .i64 o, .int .i64 n, .string s]) (t := 41) ?hr ?_; (case hd => rfl); (case hg => rfl); (case hr => first | (go_simp; done) | (go_simp; rfl)); intro gb hgb w1 hbox hb; have HS1 := Aside0.mk (HS.out.step hb); have HR1 := Aside0.mk (Kd.C_below HR.out (HS.out.step hb).below); have hb0 : w1.cell? ⟨gb, 0, none⟩ = some (.int .i64 o) := (blk_cell hbox 0).trans rfl; have hb1 : w1.cell? ⟨gb, 1, none⟩ = some (.int .i64 n) := (blk_cell hbox 1).trans rfl; have hb2 : w1.cell? ⟨gb, 2, none⟩ = some (.string s) := (blk_cell hbox 2).trans rfl; have hc0 : w1.cell? ⟨g, 0, none⟩ = some (.slice A cols.length c) := (blk_cell HS1.out.blk 0).trans rfl; clear hb hbox hgb); obtain ⟨ad, e_, hcol⟩ := Kd.at_int HR1.out n hn0 hn1; subst e_)
  go_quiet (fail)
  go_wp2_with fail
  have HS2 := Aside0.mk (HS1.out.drewN nq)
  have hd1 : (w1.drewN nq).cell? ⟨gb, 1, none⟩ = some (.int .i64 n) := hb1
  have hd0 : (w1.drewN nq).cell? ⟨g, 0, none⟩ = some (.slice (some ad) cols.length c) := hc0
  have hd2 : (w1.drewN nq).cell? (ad.add n.toNat) = some (.int .i64 (rd cols n)) := hcol
  clear hb0 hb1 hb2 hc0 hcol HS1 HR1
  generalize w1.drewN nq = w2 at *
  go_still_tail 9, (by kernel_rfl)
  change wpList _ _ _ _ _ (World.drew _)
  go_wp2_with ((with_reducible refine gate_callee (f := 43) rfl ?_); refine goesL_ (some 35) rfl rfl Try.func43 (by kernel_rfl) rfl #[.pointer (some ⟨g, 0, none⟩), .int .i64 (rd cols n)] rfl (by (try simp only [List.map_toArray, List.map_cons, List.map_nil]); rfl) ?_; (refine (push_told w0 _ g (.slice (some ad) cols.length c) v l (rd cols n) (by with_reducible first | exact HS2.out.drew) HM.out).mono ?_); rintro e w' ht; obtain ⟨rfl, htb, hts⟩ := ht; refine ⟨_, rfl, ?_⟩; have HT := Aside0.mk htb; have HT2 := Aside0.mk hts; clear htb hts)
  go_ret
  exact ⟨rfl, HT.out, HT2.out⟩

set_option maxHeartbeats 4000000 in
set_option maxRecDepth 100000 in
theorem step_low (w0 w : World) (g : Nat) (A : Option Addr) (c : Nat) (cols : List Int) (v : Value) (l : List Int) (o n : Int) (s : ByteArray) (h : Stk w0 w g (.slice A cols.length c) v l) (hR : Kd.C (Kd.int .i64) w0 A cols.length cols) (hcc : cols.length ≤ c) (hm : l.length ≤ 16) (ho : o < 0) :
    Calls Try.prog 29 #[.pointer (some ⟨g, 0, none⟩), .agg #[.int .i64 o, .int .i64 n, .string s]] w fun e w' => Told w0 w' g (.slice A cols.length c) ((8, l)) e := by
  have huT := Try.underlying41
  have huK := Try.underlying63
  have HS := Aside0.mk h
  have HR := Aside0.mk hR
  have HM := Aside0.mk hm
  clear h hR hm
  have eo01 : (o == 0) = false := beq_eq_false_iff_ne.mpr (by omega)
  have eo02 : (o != 0) = true := bne_iff_ne.mpr (by omega)
  have eo21 : (o == 2) = false := beq_eq_false_iff_ne.mpr (by omega)
  have eo22 : (o != 2) = true := bne_iff_ne.mpr (by omega)
  have eo11 : (o == 1) = false := beq_eq_false_iff_ne.mpr (by omega)
  have eo12 : (o != 1) = true := bne_iff_ne.mpr (by omega)
  have c1 : decide (o < 0) = true := decide_eq_true ho
  clear ho
  go_enter Try.func29, Try.ntmps29
  go_wp2_with ((with_reducible refine gate_dst (N := 3) rfl ?_); refine box_event ?hg (N := 3) ?hd (cs := #[.int .i64 o, .int .i64 n, .string s]) (t := 41) ?hr ?_; (case hd => rfl); (case hg => rfl); (case hr => first | (go_simp; done) | (go_simp; rfl)); intro gb hgb w1 hbox hb; have HS1 := Aside0.mk (HS.out.step hb); have HR1 := Aside0.mk (Kd.C_below HR.out (HS.out.step hb).below); have hb0 : w1.cell? ⟨gb, 0, none⟩ = some (.int .i64 o) := (blk_cell hbox 0).trans rfl; have hb1 : w1.cell? ⟨gb, 1, none⟩ = some (.int .i64 n) := (blk_cell hbox 1).trans rfl; have hb2 : w1.cell? ⟨gb, 2, none⟩ = some (.string s) := (blk_cell hbox 2).trans rfl; have hc0 : w1.cell? ⟨g, 0, none⟩ = some (.slice A cols.length c) := (blk_cell HS1.out.blk 0).trans rfl; clear hb hbox hgb)
  go_ret
  exact ⟨rfl, HS1.out.below, fun h => absurd h (show ¬ (8 : Int) = 0 by decide)⟩

set_option maxHeartbeats 4000000 in
set_option maxRecDepth 100000 in
theorem step_high (w0 w : World) (g : Nat) (A : Option Addr) (c : Nat) (cols : List Int) (v : Value) (l : List Int) (o n : Int) (s : ByteArray) (h : Stk w0 w g (.slice A cols.length c) v l) (hR : Kd.C (Kd.int .i64) w0 A cols.length cols) (hcc : cols.length ≤ c) (hm : l.length ≤ 16) (ho : ¬ o < 0) (ho2 : o ≥ 19) :
    Calls Try.prog 29 #[.pointer (some ⟨g, 0, none⟩), .agg #[.int .i64 o, .int .i64 n, .string s]] w fun e w' => Told w0 w' g (.slice A cols.length c) ((8, l)) e := by
  have huT := Try.underlying41
  have huK := Try.underlying63
  have HS := Aside0.mk h
  have HR := Aside0.mk hR
  have HM := Aside0.mk hm
  clear h hR hm
  have eo01 : (o == 0) = false := beq_eq_false_iff_ne.mpr (by omega)
  have eo02 : (o != 0) = true := bne_iff_ne.mpr (by omega)
  have eo21 : (o == 2) = false := beq_eq_false_iff_ne.mpr (by omega)
  have eo22 : (o != 2) = true := bne_iff_ne.mpr (by omega)
  have eo11 : (o == 1) = false := beq_eq_false_iff_ne.mpr (by omega)
  have eo12 : (o != 1) = true := bne_iff_ne.mpr (by omega)
  have c1 : decide (o < 0) = false := decide_eq_false ho
  have c2 : decide (19 ≤ o) = true := decide_eq_true ho2
  clear ho ho2
  go_enter Try.func29, Try.ntmps29
  go_wp2_with ((with_reducible refine gate_dst (N := 3) rfl ?_); refine box_event ?hg (N := 3) ?hd (cs := #[.int .i64 o, .int .i64 n, .string s]) (t := 41) ?hr ?_; (case hd => rfl); (case hg => rfl); (case hr => first | (go_simp; done) | (go_simp; rfl)); intro gb hgb w1 hbox hb; have HS1 := Aside0.mk (HS.out.step hb); have HR1 := Aside0.mk (Kd.C_below HR.out (HS.out.step hb).below); have hb0 : w1.cell? ⟨gb, 0, none⟩ = some (.int .i64 o) := (blk_cell hbox 0).trans rfl; have hb1 : w1.cell? ⟨gb, 1, none⟩ = some (.int .i64 n) := (blk_cell hbox 1).trans rfl; have hb2 : w1.cell? ⟨gb, 2, none⟩ = some (.string s) := (blk_cell hbox 2).trans rfl; have hc0 : w1.cell? ⟨g, 0, none⟩ = some (.slice A cols.length c) := (blk_cell HS1.out.blk 0).trans rfl; clear hb hbox hgb)
  go_ret
  exact ⟨rfl, HS1.out.below, fun h => absurd h (show ¬ (8 : Int) = 0 by decide)⟩

set_option maxHeartbeats 4000000 in
set_option maxRecDepth 100000 in
theorem step_short (w0 w : World) (g : Nat) (A : Option Addr) (c : Nat) (cols : List Int) (v : Value) (l : List Int) (o n : Int) (s : ByteArray) (h : Stk w0 w g (.slice A cols.length c) v l) (hR : Kd.C (Kd.int .i64) w0 A cols.length cols) (hcc : cols.length ≤ c) (hm : l.length ≤ 16) (k : Nat) (a : Int) (ho : ¬ o < 0) (ho2 : ¬ o ≥ 19) (ho3 : o ≠ 0 ∧ o ≠ 1 ∧ o ≠ 2) (ha : expr_arity.f k o = some a) (hl : (l.length : Int) < a) :
    Calls Try.prog 29 #[.pointer (some ⟨g, 0, none⟩), .agg #[.int .i64 o, .int .i64 n, .string s]] w fun e w' => Told w0 w' g (.slice A cols.length c) ((6, l)) e := by
  have huT := Try.underlying41
  have huK := Try.underlying63
  have HS := Aside0.mk h
  have HR := Aside0.mk hR
  have HM := Aside0.mk hm
  clear h hR hm
  have eo01 : (o == 0) = false := beq_eq_false_iff_ne.mpr (by omega)
  have eo02 : (o != 0) = true := bne_iff_ne.mpr (by omega)
  have eo21 : (o == 2) = false := beq_eq_false_iff_ne.mpr (by omega)
  have eo22 : (o != 2) = true := bne_iff_ne.mpr (by omega)
  have eo11 : (o == 1) = false := beq_eq_false_iff_ne.mpr (by omega)
  have eo12 : (o != 1) = true := bne_iff_ne.mpr (by omega)
  have c1 : decide (o < 0) = false := decide_eq_false ho
  have c2 : decide (19 ≤ o) = false := decide_eq_false ho2
  have HA := Aside0.mk ha
  have HL := Aside0.mk hl
  clear ho ho2 ho3 ha hl
  go_enter Try.func29, Try.ntmps29
  go_wp2_with (first | ((with_reducible refine gate_dst (N := 3) rfl ?_); refine box_event ?hg (N := 3) ?hd (cs := #[.int .i64 o, .int .i64 n, .string s]) (t := 41) ?hr ?_; (case hd => rfl); (case hg => rfl); (case hr => first | (go_simp; done) | (go_simp; rfl)); intro gb hgb w1 hbox hb; have HS1 := Aside0.mk (HS.out.step hb); have HR1 := Aside0.mk (Kd.C_below HR.out (HS.out.step hb).below); have hb0 : w1.cell? ⟨gb, 0, none⟩ = some (.int .i64 o) := (blk_cell hbox 0).trans rfl; have hb1 : w1.cell? ⟨gb, 1, none⟩ = some (.int .i64 n) := (blk_cell hbox 1).trans rfl; have hb2 : w1.cell? ⟨gb, 2, none⟩ = some (.string s) := (blk_cell hbox 2).trans rfl; have hc0 : w1.cell? ⟨g, 0, none⟩ = some (.slice A cols.length c) := (blk_cell HS1.out.blk 0).trans rfl; clear hb hbox hgb) | ((with_reducible refine gate_callee (f := 27) rfl ?_); refine goesL_ (some 60) rfl rfl Try.func27 (by kernel_rfl) rfl #[.int .i64 o] rfl (by (try simp only [List.map_toArray, List.map_cons, List.map_nil]); rfl) ?_; (refine (expr_arity.calls k o a _ HA.out).mono ?_); rintro e w' ⟨rfl, ⟨nd, rfl⟩⟩; refine ⟨_, rfl, ?_⟩) | ((with_reducible refine gate_callee (f := 44) rfl ?_); refine goesL_ (some 61) rfl rfl Try.func44 (by kernel_rfl) rfl #[.pointer (some ⟨g, 0, none⟩), .int .i64 a] rfl (by (try simp only [List.map_toArray, List.map_cons, List.map_nil]); rfl) ?_; (refine (take_short w0 _ g (.slice A cols.length c) v l a (HS1.out.drewN _) HL.out).mono ?_); rintro e w2 ⟨rfl, rfl⟩; refine ⟨_, rfl, ?_⟩))
  go_ret
  exact ⟨rfl, (HS1.out.drewN _).below, fun h => absurd h (show ¬ (6 : Int) = 0 by decide)⟩

set_option maxHeartbeats 4000000 in
set_option maxRecDepth 100000 in
theorem step_wrong (w0 w : World) (g : Nat) (A : Option Addr) (c : Nat) (cols : List Int) (v : Value) (l : List Int) (o n : Int) (s : ByteArray) (h : Stk w0 w g (.slice A cols.length c) v l) (hR : Kd.C (Kd.int .i64) w0 A cols.length cols) (hcc : cols.length ≤ c) (hm : l.length ≤ 16) (k : Nat) (a : Int) (ys : List Int) (m1 : Int) (ho : ¬ o < 0) (ho2 : ¬ o ≥ 19) (ho3 : o ≠ 0 ∧ o ≠ 1 ∧ o ≠ 2) (ha : expr_arity.f k o = some a) (ha0 : 0 ≤ a) (hl : a ≤ (l.length : Int)) (hy : l.drop ((l.length : Int) - a).toNat = ys) (hf : expr_made.f k o ys = some (m1, false)) :
    Calls Try.prog 29 #[.pointer (some ⟨g, 0, none⟩), .agg #[.int .i64 o, .int .i64 n, .string s]] w fun e w' => Told w0 w' g (.slice A cols.length c) ((80, l)) e := by
  have huT := Try.underlying41
  have huK := Try.underlying63
  have HS := Aside0.mk h
  have HR := Aside0.mk hR
  have HM := Aside0.mk hm
  clear h hR hm
  have eo01 : (o == 0) = false := beq_eq_false_iff_ne.mpr (by omega)
  have eo02 : (o != 0) = true := bne_iff_ne.mpr (by omega)
  have eo21 : (o == 2) = false := beq_eq_false_iff_ne.mpr (by omega)
  have eo22 : (o != 2) = true := bne_iff_ne.mpr (by omega)
  have eo11 : (o == 1) = false := beq_eq_false_iff_ne.mpr (by omega)
  have eo12 : (o != 1) = true := bne_iff_ne.mpr (by omega)
  have c1 : decide (o < 0) = false := decide_eq_false ho
  have c2 : decide (19 ≤ o) = false := decide_eq_false ho2
  have HA := Aside0.mk ha
  have H0 := Aside0.mk ha0
  have HL := Aside0.mk hl
  have HY := Aside0.mk hy
  have HF := Aside0.mk hf
  clear ho ho2 ho3 ha ha0 hl hy hf
  go_enter Try.func29, Try.ntmps29
  go_wp2_with (first | ((with_reducible refine gate_dst (N := 3) rfl ?_); refine box_event ?hg (N := 3) ?hd (cs := #[.int .i64 o, .int .i64 n, .string s]) (t := 41) ?hr ?_; (case hd => rfl); (case hg => rfl); (case hr => first | (go_simp; done) | (go_simp; rfl)); intro gb hgb w1 hbox hb; have HG := Aside0.mk (show gb < (w1.drewN 0).heap.size ∧ gb ≠ g from ⟨blk_lt hbox, (by have := HS.out.lt; rw [hgb]; omega)⟩); have HS1 := Aside0.mk (HS.out.step hb); have HR1 := Aside0.mk (Kd.C_below HR.out (HS.out.step hb).below); have hb0 : w1.cell? ⟨gb, 0, none⟩ = some (.int .i64 o) := (blk_cell hbox 0).trans rfl; have hb1 : w1.cell? ⟨gb, 1, none⟩ = some (.int .i64 n) := (blk_cell hbox 1).trans rfl; have hb2 : w1.cell? ⟨gb, 2, none⟩ = some (.string s) := (blk_cell hbox 2).trans rfl; have hc0 : w1.cell? ⟨g, 0, none⟩ = some (.slice A cols.length c) := (blk_cell HS1.out.blk 0).trans rfl; clear hb hbox hgb) | ((with_reducible refine gate_callee (f := 27) rfl ?_); refine goesL_ (some 60) rfl rfl Try.func27 (by kernel_rfl) rfl #[.int .i64 o] rfl (by (try simp only [List.map_toArray, List.map_cons, List.map_nil]); rfl) ?_; (refine (expr_arity.calls k o a _ HA.out).mono ?_); rintro e w' ⟨rfl, ⟨nd, rfl⟩⟩; refine ⟨_, rfl, ?_⟩) | ((with_reducible refine gate_callee (f := 44) rfl ?_); refine goesL_ (some 61) rfl rfl Try.func44 (by kernel_rfl) rfl #[.pointer (some ⟨g, 0, none⟩), .int .i64 a] rfl (by (try simp only [List.map_toArray, List.map_cons, List.map_nil]); rfl) ?_; (refine (take_some w0 _ g (.slice A cols.length c) v l a (HS1.out.drewN _) H0.out HL.out HM.out).mono ?_); rintro e w2 ⟨v0, v', rfl, ho, hs, hk⟩; obtain ⟨A2, c2, hv0⟩ := Kd.R_slice ho; subst hv0; refine ⟨_, rfl, ?_⟩; obtain ⟨A3, c3, he3, hc3, hC3⟩ := Kd.R_reads ho; obtain ⟨rfl, rfl⟩ : A2 = A3 ∧ c2 = c3 := (by injection he3 with h1 h2 h3; exact ⟨h1, h3⟩); have hk0 : w2.cell? ⟨gb, 0, none⟩ = some (.int .i64 o) := (cell_same (hk gb HG.out.1 HG.out.2)).trans hb0; rw [HY.out] at hC3 hc3 ⊢; have HC3 := Aside0.mk hC3; have Hc3 := Aside0.mk hc3; have HS3 := Aside0.mk hs; clear he3 hC3 hc3 ho hs hk) | ((with_reducible refine gate_callee (f := 45) rfl ?_); refine goesL_ (some 71) rfl rfl Try.func45 (by kernel_rfl) rfl #[.int .i64 o, .slice A2 ys.length c2] rfl (by (try simp only [List.map_toArray, List.map_cons, List.map_nil]); rfl) ?_; (refine (expr_made.calls k o A2 c2 ys m1 false _ HC3.out Hc3.out HF.out).mono ?_); rintro e w3 ⟨rfl, hb⟩; refine ⟨_, rfl, ?_⟩; have HS4 := Aside0.mk (HS3.out.step hb); clear hb))
  go_ret
  exact ⟨rfl, HS4.out.below, fun h => absurd h (show ¬ (80 : Int) = 0 by decide)⟩

set_option maxHeartbeats 4000000 in
set_option maxRecDepth 100000 in
theorem step_made (w0 w : World) (g : Nat) (A : Option Addr) (c : Nat) (cols : List Int) (v : Value) (l : List Int) (o n : Int) (s : ByteArray) (h : Stk w0 w g (.slice A cols.length c) v l) (hR : Kd.C (Kd.int .i64) w0 A cols.length cols) (hcc : cols.length ≤ c) (hm : l.length ≤ 16) (k : Nat) (a : Int) (ys : List Int) (m1 : Int) (ho : ¬ o < 0) (ho2 : ¬ o ≥ 19) (ho3 : o ≠ 0 ∧ o ≠ 1 ∧ o ≠ 2) (ha : expr_arity.f k o = some a) (ha0 : 0 ≤ a) (hl : a ≤ (l.length : Int)) (hy : l.drop ((l.length : Int) - a).toNat = ys) (hf : expr_made.f k o ys = some (m1, true)) :
    Calls Try.prog 29 #[.pointer (some ⟨g, 0, none⟩), .agg #[.int .i64 o, .int .i64 n, .string s]] w fun e w' => Told w0 w' g (.slice A cols.length c) (pushS m1 (l.take ((l.length : Int) - a).toNat)) e := by
  have huT := Try.underlying41
  have huK := Try.underlying63
  have HS := Aside0.mk h
  have HR := Aside0.mk hR
  have HM := Aside0.mk hm
  clear h hR hm
  have eo01 : (o == 0) = false := beq_eq_false_iff_ne.mpr (by omega)
  have eo02 : (o != 0) = true := bne_iff_ne.mpr (by omega)
  have eo21 : (o == 2) = false := beq_eq_false_iff_ne.mpr (by omega)
  have eo22 : (o != 2) = true := bne_iff_ne.mpr (by omega)
  have eo11 : (o == 1) = false := beq_eq_false_iff_ne.mpr (by omega)
  have eo12 : (o != 1) = true := bne_iff_ne.mpr (by omega)
  have c1 : decide (o < 0) = false := decide_eq_false ho
  have c2 : decide (19 ≤ o) = false := decide_eq_false ho2
  have HA := Aside0.mk ha
  have H0 := Aside0.mk ha0
  have HL := Aside0.mk hl
  have HY := Aside0.mk hy
  have HF := Aside0.mk hf
  clear ho ho2 ho3 ha ha0 hl hy hf
  go_enter Try.func29, Try.ntmps29
  go_wp2_with (first | ((with_reducible refine gate_dst (N := 3) rfl ?_); refine box_event ?hg (N := 3) ?hd (cs := #[.int .i64 o, .int .i64 n, .string s]) (t := 41) ?hr ?_; (case hd => rfl); (case hg => rfl); (case hr => first | (go_simp; done) | (go_simp; rfl)); intro gb hgb w1 hbox hb; have HG := Aside0.mk (show gb < (w1.drewN 0).heap.size ∧ gb ≠ g from ⟨blk_lt hbox, (by have := HS.out.lt; rw [hgb]; omega)⟩); have HS1 := Aside0.mk (HS.out.step hb); have HR1 := Aside0.mk (Kd.C_below HR.out (HS.out.step hb).below); have hb0 : w1.cell? ⟨gb, 0, none⟩ = some (.int .i64 o) := (blk_cell hbox 0).trans rfl; have hb1 : w1.cell? ⟨gb, 1, none⟩ = some (.int .i64 n) := (blk_cell hbox 1).trans rfl; have hb2 : w1.cell? ⟨gb, 2, none⟩ = some (.string s) := (blk_cell hbox 2).trans rfl; have hc0 : w1.cell? ⟨g, 0, none⟩ = some (.slice A cols.length c) := (blk_cell HS1.out.blk 0).trans rfl; clear hb hbox hgb) | ((with_reducible refine gate_callee (f := 27) rfl ?_); refine goesL_ (some 60) rfl rfl Try.func27 (by kernel_rfl) rfl #[.int .i64 o] rfl (by (try simp only [List.map_toArray, List.map_cons, List.map_nil]); rfl) ?_; (refine (expr_arity.calls k o a _ HA.out).mono ?_); rintro e w' ⟨rfl, ⟨nd, rfl⟩⟩; refine ⟨_, rfl, ?_⟩) | ((with_reducible refine gate_callee (f := 44) rfl ?_); refine goesL_ (some 61) rfl rfl Try.func44 (by kernel_rfl) rfl #[.pointer (some ⟨g, 0, none⟩), .int .i64 a] rfl (by (try simp only [List.map_toArray, List.map_cons, List.map_nil]); rfl) ?_; (refine (take_some w0 _ g (.slice A cols.length c) v l a (HS1.out.drewN _) H0.out HL.out HM.out).mono ?_); rintro e w2 ⟨v0, v', rfl, ho, hs, hk⟩; obtain ⟨A2, c2, hv0⟩ := Kd.R_slice ho; subst hv0; refine ⟨_, rfl, ?_⟩; obtain ⟨A3, c3, he3, hc3, hC3⟩ := Kd.R_reads ho; obtain ⟨rfl, rfl⟩ : A2 = A3 ∧ c2 = c3 := (by injection he3 with h1 h2 h3; exact ⟨h1, h3⟩); have hk0 : w2.cell? ⟨gb, 0, none⟩ = some (.int .i64 o) := (cell_same (hk gb HG.out.1 HG.out.2)).trans hb0; rw [HY.out] at hC3 hc3 ⊢; have HC3 := Aside0.mk hC3; have Hc3 := Aside0.mk hc3; have HS3 := Aside0.mk hs; clear he3 hC3 hc3 ho hs hk) | ((with_reducible refine gate_callee (f := 45) rfl ?_); refine goesL_ (some 71) rfl rfl Try.func45 (by kernel_rfl) rfl #[.int .i64 o, .slice A2 ys.length c2] rfl (by (try simp only [List.map_toArray, List.map_cons, List.map_nil]); rfl) ?_; (refine (expr_made.calls k o A2 c2 ys m1 true _ HC3.out Hc3.out HF.out).mono ?_); rintro e w3 ⟨rfl, hb⟩; refine ⟨_, rfl, ?_⟩; have HS4 := Aside0.mk (HS3.out.step hb); clear hb) | ((with_reducible refine gate_callee (f := 43) rfl ?_); refine goesL_ (some 78) rfl rfl Try.func43 (by kernel_rfl) rfl #[.pointer (some ⟨g, 0, none⟩), .int .i64 m1] rfl (by (try simp only [List.map_toArray, List.map_cons, List.map_nil]); rfl) ?_; (refine (push_told w0 _ g (.slice A cols.length c) _ _ m1 (by with_reducible exact HS4.out) (by have := HM.out; rw [List.length_take]; omega)).mono ?_); rintro e w' ht; obtain ⟨rfl, htb, hts⟩ := ht; refine ⟨_, rfl, ?_⟩; have HT := Aside0.mk htb; have HT2 := Aside0.mk hts; clear htb hts))
  go_ret
  exact ⟨rfl, HT.out, HT2.out⟩

theorem step_told (k : Nat) (w0 w : World) (g : Nat) (A : Option Addr) (c : Nat) (cols : List Int) (v : Value) (l : List Int) (o n : Int) (s : ByteArray) (r : Int × List Int) (h : Stk w0 w g (.slice A cols.length c) v l) (hR : Kd.C (Kd.int .i64) w0 A cols.length cols) (hcc : cols.length ≤ c) (hm : l.length ≤ 16) (hf : stepS k cols o n s l = some r) :
    Calls Try.prog 29 #[.pointer (some ⟨g, 0, none⟩), .agg #[.int .i64 o, .int .i64 n, .string s]] w fun e w' => Told w0 w' g (.slice A cols.length c) r e := by
  unfold stepS at hf
  by_cases o0 : o = 0
  · rw [if_pos o0] at hf
    by_cases n0 : n < 0
    · rw [if_pos n0] at hf; obtain rfl := Option.some.inj hf
      exact step_col_low w0 w g A c cols v l o n s h hR hcc hm o0 n0
    · rw [if_neg n0] at hf
      by_cases n1 : n ≥ (cols.length : Int)
      · rw [if_pos n1] at hf; obtain rfl := Option.some.inj hf
        exact step_col_high w0 w g A c cols v l o n s h hR hcc hm o0 n0 n1
      · rw [if_neg n1] at hf; obtain rfl := Option.some.inj hf
        exact step_col w0 w g A c cols v l o n s h hR hcc hm o0 n0 n1
  rw [if_neg o0] at hf
  by_cases o2 : o = 2
  · rw [if_pos o2] at hf
    by_cases n0 : (s.size : Int) > 4096
    · rw [if_pos n0] at hf; obtain rfl := Option.some.inj hf
      exact step_str_long w0 w g A c cols v l o n s h hR hcc hm o2 n0
    · rw [if_neg n0] at hf; obtain rfl := Option.some.inj hf
      exact step_str w0 w g A c cols v l o n s h hR hcc hm o2 n0
  rw [if_neg o2] at hf
  by_cases o1 : o = 1
  · rw [if_pos o1] at hf; obtain rfl := Option.some.inj hf
    exact step_int w0 w g A c cols v l o n s h hR hcc hm o1
  rw [if_neg o1] at hf
  by_cases ol : o < 0
  · rw [if_pos ol] at hf; obtain rfl := Option.some.inj hf
    exact step_low w0 w g A c cols v l o n s h hR hcc hm ol
  rw [if_neg ol] at hf
  by_cases oh : o ≥ 19
  · rw [if_pos oh] at hf; obtain rfl := Option.some.inj hf
    exact step_high w0 w g A c cols v l o n s h hR hcc hm ol oh
  rw [if_neg oh] at hf
  obtain ⟨a, ha, hf⟩ := Option.bind_eq_some_iff.1 hf
  by_cases a0 : a < 0
  · rw [if_pos a0] at hf; cases hf
  rw [if_neg a0] at hf
  by_cases al : (l.length : Int) < a
  · rw [if_pos al] at hf; obtain rfl := Option.some.inj hf
    exact step_short w0 w g A c cols v l o n s h hR hcc hm k a ol oh ⟨o0, o1, o2⟩ ha al
  rw [if_neg al] at hf
  obtain ⟨⟨m1, m2⟩, hm2, hf⟩ := Option.bind_eq_some_iff.1 hf
  cases m2 with
  | true =>
    obtain rfl := Option.some.inj hf
    exact step_made w0 w g A c cols v l o n s h hR hcc hm k a _ m1 ol oh ⟨o0, o1, o2⟩ ha (by omega) (by omega) rfl hm2
  | false =>
    obtain rfl := Option.some.inj hf
    exact step_wrong w0 w g A c cols v l o n s h hR hcc hm k a _ m1 ol oh ⟨o0, o1, o2⟩ ha (by omega) (by omega) rfl hm2
theorem stepS_mono (k : Nat) (cols : List Int) (o n : Int) (s : ByteArray) (st : List Int) : LeO (stepS k cols o n s st) (stepS (k + 1) cols o n s st) := by
  unfold stepS
  repeat' first
      | (with_reducible exact LeO.refl _)
      | (with_reducible exact LeO.none _)
      | (with_reducible exact expr_arity.mono _ _)
      | (with_reducible exact expr_made.mono _ _ _)
      | (with_reducible refine LeO.ite ?_ ?_)
      | (with_reducible refine LeO.bind ?_ (fun _ => ?_))
theorem pushS_le {k : Int} {st : List Int} (h : st.length ≤ 16) : (pushS k st).2.length ≤ 16 := by
  unfold pushS
  split
  · exact h
  · simp; omega
theorem stepS_le {k : Nat} {cols : List Int} {o n : Int} {s : ByteArray} {st : List Int} {r : Int × List Int} (hf : stepS k cols o n s st = some r) (h : st.length ≤ 16) : r.2.length ≤ 16 := by
  unfold stepS at hf
  have ht : ∀ m : Nat, (st.take m).length ≤ 16 := fun m => by rw [List.length_take]; omega
  repeat' split at hf
  all_goals first | (obtain rfl := Option.some.inj hf; first | exact h | exact pushS_le h) | skip
  obtain ⟨a, ha, hf⟩ := Option.bind_eq_some_iff.1 hf
  split at hf
  · cases hf
  split at hf
  · obtain rfl := Option.some.inj hf; exact h
  obtain ⟨m, hm, hf⟩ := Option.bind_eq_some_iff.1 hf
  split at hf
  · obtain rfl := Option.some.inj hf; exact pushS_le (ht _)
  · obtain rfl := Option.some.inj hf; exact h


end Go.Proofs.Ytmamkmolgbmmaaa.QExprKinds
