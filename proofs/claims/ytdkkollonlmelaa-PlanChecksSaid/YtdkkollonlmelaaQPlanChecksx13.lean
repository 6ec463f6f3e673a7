-- Written by this session's own program (wip/tools/ownprint.sh)
import Derived.Test.YtdkkollonlmelaaQPlanChecksx0
namespace Go.Proofs.Ytdkkollonlmelaa.QPlanChecks
open Go.RowKit Go.Proofs.YtdkkollonlmelaaW.PrintWords Go.Proofs.YtdkkollonlmelaaW.PrintLast Go.Proofs.YtdkkollonlmelaaW.PrintMore
attribute [local go_sem] max2_int min2_int max_two min_two max_three min_three max_four min_four Go.Proofs.Ytdkkollonlmelaa.Hand.str_gtr Go.Proofs.Ytdkkollonlmelaa.Hand.str_leq Go.Proofs.Ytdkkollonlmelaa.Hand.str_geq   -- for this text's walks alone
set_option linter.unusedVariables false
set_option linter.unusedSimpArgs false

/-! ### runnelref08_kind: function 160 -/
mutual
def runnelref08_kind.j0 : Nat → Int → List Int → Int → Bool → Option (Int)
 | 0, _, _, _, _ => none
 | k + 1, x0, x1, x8, x9 => if x9 = true then (if 0 < (x1.length : Int) then (if 1 < (x1.length : Int) then (if (rd x1 0) = (rd x1 1) then (some 0) else (some (-1))) else (none)) else (none)) else (if x8 = 17 then (runnelref08_kind.j1 k x0 x1 x8 (x8 == 17)) else (runnelref08_kind.j1 k x0 x1 x8 (x8 == 18)))
def runnelref08_kind.j1 : Nat → Int → List Int → Int → Bool → Option (Int)
 | 0, _, _, _, _ => none
 | k + 1, x0, x1, x8, x19 => if x19 = true then (if 0 < (x1.length : Int) then (if 1 < (x1.length : Int) then (if (rd x1 0) = (rd x1 1) then (some (rd x1 0)) else (some (-1))) else (none)) else (none)) else (if x8 = 14 then (if 0 < (x1.length : Int) then (if (rd x1 0) = 0 then (if 1 < (x1.length : Int) then (if 2 < (x1.length : Int) then (if (rd x1 1) = (rd x1 2) then (some (rd x1 1)) else (some (-1))) else (none)) else (none)) else (some (-1))) else (none)) else (if x0 = 15 then (runnelref08_kind.j2 k x0 x1 0 0 true) else (runnelref08_kind.j2 k x0 x1 0 0 (x0 == 16))))
def runnelref08_kind.j2 : Nat → Int → List Int → Int → Int → Bool → Option (Int)
 | 0, _, _, _, _, _ => none
 | k + 1, x0, x1, x5, x6, x55 => if x55 = true then (runnelref08_kind.j3 k x0 x1 1 x6) else (runnelref08_kind.j3 k x0 x1 x5 x6)
def runnelref08_kind.j3 : Nat → Int → List Int → Int → Int → Option (Int)
 | 0, _, _, _, _ => none
 | k + 1, x0, x1, x5, x6 => if x0 = 16 then (runnelref08_kind.j4 k x1 x5 1) else (runnelref08_kind.j4 k x1 x5 x6)
def runnelref08_kind.j4 : Nat → List Int → Int → Int → Option (Int)
 | 0, _, _, _ => none
 | k + 1, x1, x5, x6 => runnelref08_kind.l0 k x1 x5 x6 0
def runnelref08_kind.l0 : Nat → List Int → Int → Int → Int → Option (Int)
 | 0, _, _, _, _ => none
 | k + 1, x1, x5, x6, x7 => if x7 < (x1.length : Int) then (if 0 ≤ x7 then (if (rd x1 x7) = x5 then (runnelref08_kind.l0 k x1 x5 x6 (wrap64 (x7 + 1))) else (some (-1))) else (none)) else (some x6)
end
def runnelref08_kind.f (k : Nat) (a0 : Int) (l1 : List Int) : Option (Int) := if a0 = 9 then (runnelref08_kind.j0 k a0 l1 a0 (a0 == 9)) else (runnelref08_kind.j0 k a0 l1 a0 (a0 == 10))
set_option maxHeartbeats 8000000 in
set_option maxRecDepth 100000 in
theorem runnelref08_kind.calls (k : Nat) (a0 : Int) (A1 : Option Addr) (c1 : Nat) (l1 : List Int) (r : Int) (w : World) (hr1 : Kd.C (Kd.int .i64) w A1 l1.length l1) (hc1 : l1.length ≤ c1) (h : runnelref08_kind.f k a0 l1 = some r) :
  Calls Try.prog 160 #[.int .i64 a0, .slice A1 l1.length c1] w fun e w' => e = .returned (.int .i64 r) ∧ Drawn0 w w' := by
 have HR1 := zz hr1
 have HC1 := zz hc1
 clear hr1 hc1
 have H := h
 unfold runnelref08_kind.f at H
 clear h
 have HC3 := zz H
 clear H
 go_enter Try.func160, Try.ntmps160
 go_upto_if 9 with (fail)
 repeat (go_quiet (fail); go_upto_if 9 with (fail))
 go_cut [9] (fun v9 wc => ∃ (kq : Nat) (x9_2 : Bool), v9 = .bool x9_2 ∧ Aside0 (runnelref08_kind.j0 kq a0 l1 a0 x9_2 = some r) ∧ Aside0 (kq ≤ k) ∧ Drawn0 w wc)
 case first =>
  have H := HC3.out
  clear HC3
  by_cases c4 : a0 = 9
  ·rw [if_pos c4] at H
   have c4b0 : (a0 == 9) = true := beq_iff_eq.mpr c4
   have c4b1 : (a0 != 9) = false := bne_eq_false_iff_eq.mpr c4
   clear c4
   (first | rw [c4b0] | (simp only [i64_w, i32_w]; rw [c4b0]) | skip)
   have H' := zz H
   clear H
   go_wp2
   repeat (go_quiet (fail); try go_wp2)
   go_meet
   case rel => exact ⟨_, ((a0 == 9)), (by first | rfl | (simp; done) | (simp [*]; done)), H', ⟨by first | omega | exact Nat.le_refl _⟩, by repeat (first | exact Drawn0.refl _ | apply Drawn0.step)⟩
  ·rw [if_neg c4] at H
   have c4b0 : (a0 == 9) = false := beq_eq_false_iff_ne.mpr c4
   have c4b1 : (a0 != 9) = true := bne_iff_ne.mpr c4
   (first | rw [c4b0] | (simp only [i64_w, i32_w]; rw [c4b0]) | skip)
   have H' := zz H
   clear H
   go_wp2
   repeat (go_quiet (fail); try go_wp2)
   go_meet
   case rel => exact ⟨_, ((a0 == 10)), (by first | rfl | (simp; done) | (simp [*]; done)), H', ⟨by first | omega | exact Nat.le_refl _⟩, by repeat (first | exact Drawn0.refl _ | apply Drawn0.step)⟩
 case rest =>
  clear HC3
  try clear c1
  obtain ⟨kq, x9_2, rfl, HA, HJ2, ⟨mc2, rfl⟩⟩ := hcut
  cases kq with
  | zero => exact absurd HA.out (by simp [runnelref08_kind.j0])
  | succ kj2 =>
   have H := HA.out
   clear HA
   simp only [runnelref08_kind.j0] at H
   by_cases c5 : x9_2 = true
   ·subst c5
    rw [if_pos rfl] at H
    by_cases c6 : 0 < (l1.length : Int)
    ·rw [if_pos c6] at H
     have c6b0 : decide (0 < (l1.length : Int)) = true := decide_eq_true c6
     have c6b1 : decide (0 < l1.length) = true := decide_eq_true (by omega)
     clear c6
     by_cases c7 : 1 < (l1.length : Int)
     ·rw [if_pos c7] at H
      have c7b0 : decide (1 < (l1.length : Int)) = true := decide_eq_true c7
      have c7b1 : decide (1 < l1.length) = true := decide_eq_true (by omega)
      clear c7
      by_cases c8 : (rd l1 0) = (rd l1 1)
      ·rw [if_pos c8] at H
       have c8b0 : ((rd l1 0) == (rd l1 1)) = true := beq_iff_eq.mpr c8
       have c8b1 : ((rd l1 0) != (rd l1 1)) = false := bne_eq_false_iff_eq.mpr c8
       clear c8
       obtain rfl := Option.some.inj H
       have p195 : 0 ≤ (0 : Int) := (by omega)
       have q195 : 0 < (l1.length : Int) := of_decide_eq_true (by first | (with_reducible assumption) | assumption)
       obtain ⟨ad195, e195, hx195_0⟩ := Kd.at_int HR1.out 0 p195 q195
       cases e195
       have qi195 : (0 < l1.length) = True := eq_true (by omega)
       (try rw [show ((0 : Int)).toNat = 0 from rfl] at hx195_0)
       (try rw [Addr.add_zero'] at hx195_0)
       replace p195 := eq_true p195
       replace q195 := eq_true q195
       have p196 : 0 ≤ (1 : Int) := (by omega)
       have q196 : 1 < (l1.length : Int) := of_decide_eq_true (by first | (with_reducible assumption) | assumption)
       obtain ⟨ad196, e196, hx196_0⟩ := Kd.at_int HR1.out 1 p196 q196
       obtain rfl : ad195 = ad196 := (by injection e196)
       (try simp only [show (1 : Int).toNat = 1 from rfl, Nat.reduceMul, Nat.reduceEqDiff, Go.Addr.add, ↓reduceIte] at hx196_0)
       have qi196 : (1 < l1.length) = True := eq_true (by omega)
       (try rw [show ((1 : Int)).toNat = 1 from rfl] at hx196_0)
       replace p196 := eq_true p196
       replace q196 := eq_true q196
       go_wp2
       repeat (go_quiet (fail); try go_wp2)
       go_ret
       exact ⟨by first | rfl | (simp; done) | (simp [*]; done), by repeat (first | exact Drawn0.refl _ | apply Drawn0.step)⟩
      ·rw [if_neg c8] at H
       have c8b0 : ((rd l1 0) == (rd l1 1)) = false := beq_eq_false_iff_ne.mpr c8
       have c8b1 : ((rd l1 0) != (rd l1 1)) = true := bne_iff_ne.mpr c8
       obtain rfl := Option.some.inj H
       have p195 : 0 ≤ (0 : Int) := (by omega)
       have q195 : 0 < (l1.length : Int) := of_decide_eq_true (by first | (with_reducible assumption) | assumption)
       obtain ⟨ad195, e195, hx195_0⟩ := Kd.at_int HR1.out 0 p195 q195
       cases e195
       have qi195 : (0 < l1.length) = True := eq_true (by omega)
       (try rw [show ((0 : Int)).toNat = 0 from rfl] at hx195_0)
       (try rw [Addr.add_zero'] at hx195_0)
       replace p195 := eq_true p195
       replace q195 := eq_true q195
       have p196 : 0 ≤ (1 : Int) := (by omega)
       have q196 : 1 < (l1.length : Int) := of_decide_eq_true (by first | (with_reducible assumption) | assumption)
       obtain ⟨ad196, e196, hx196_0⟩ := Kd.at_int HR1.out 1 p196 q196
       obtain rfl : ad195 = ad196 := (by injection e196)
       (try simp only [show (1 : Int).toNat = 1 from rfl, Nat.reduceMul, Nat.reduceEqDiff, Go.Addr.add, ↓reduceIte] at hx196_0)
       have qi196 : (1 < l1.length) = True := eq_true (by omega)
       (try rw [show ((1 : Int)).toNat = 1 from rfl] at hx196_0)
       replace p196 := eq_true p196
       replace q196 := eq_true q196
       go_wp2
       repeat (go_quiet (fail); try go_wp2)
       go_ret
       exact ⟨by first | rfl | (simp; done) | (simp [*]; done), by repeat (first | exact Drawn0.refl _ | apply Drawn0.step)⟩
     ·rw [if_neg c7] at H
      exact absurd H (by simp)
    ·rw [if_neg c6] at H
     exact absurd H (by simp)
   ·replace c5 := Bool.eq_false_iff.mpr c5
    subst c5
    rw [if_neg (show ¬ (false = true) by decide)] at H
    have HC9 := zz H
    clear H
    go_upto_if 19 with (fail)
    repeat (go_quiet (fail); go_upto_if 19 with (fail))
    go_cut [19] (fun v19 wc => ∃ (kq : Nat) (x19_8 : Bool), v19 = .bool x19_8 ∧ Aside0 (runnelref08_kind.j1 kq a0 l1 a0 x19_8 = some r) ∧ Aside0 (kq ≤ kj2) ∧ Drawn0 w wc)
    case first =>
     have H := HC9.out
     clear HC9
     by_cases c10 : a0 = 17
     ·rw [if_pos c10] at H
      have c10b0 : (a0 == 17) = true := beq_iff_eq.mpr c10
      have c10b1 : (a0 != 17) = false := bne_eq_false_iff_eq.mpr c10
      clear c10
      (first | rw [c10b0] | (simp only [i64_w, i32_w]; rw [c10b0]) | skip)
      have H' := zz H
      clear H
      go_wp2
      repeat (go_quiet (fail); try go_wp2)
      go_meet
      case rel => exact ⟨_, ((a0 == 17)), (by first | rfl | (simp; done) | (simp [*]; done)), H', ⟨by have := HJ2.out; first | omega | exact Nat.le_refl _⟩, by repeat (first | exact Drawn0.refl _ | apply Drawn0.step)⟩
     ·rw [if_neg c10] at H
      have c10b0 : (a0 == 17) = false := beq_eq_false_iff_ne.mpr c10
      have c10b1 : (a0 != 17) = true := bne_iff_ne.mpr c10
      (first | rw [c10b0] | (simp only [i64_w, i32_w]; rw [c10b0]) | skip)
      have H' := zz H
      clear H
      go_wp2
      repeat (go_quiet (fail); try go_wp2)
      go_meet
      case rel => exact ⟨_, ((a0 == 18)), (by first | rfl | (simp; done) | (simp [*]; done)), H', ⟨by have := HJ2.out; first | omega | exact Nat.le_refl _⟩, by repeat (first | exact Drawn0.refl _ | apply Drawn0.step)⟩
    case rest =>
     clear HC9
     try clear c1; try clear c5
     obtain ⟨kq, x19_8, rfl, HA, HJ8, ⟨mc8, rfl⟩⟩ := hcut
     cases kq with
     | zero => exact absurd HA.out (by simp [runnelref08_kind.j1])
     | succ kj8 =>
      have H := HA.out
      clear HA
      simp only [runnelref08_kind.j1] at H
      by_cases c11 : x19_8 = true
      ·subst c11
       rw [if_pos rfl] at H
       by_cases c12 : 0 < (l1.length : Int)
       ·rw [if_pos c12] at H
        have c12b0 : decide (0 < (l1.length : Int)) = true := decide_eq_true c12
        have c12b1 : decide (0 < l1.length) = true := decide_eq_true (by omega)
        clear c12
        by_cases c13 : 1 < (l1.length : Int)
        ·rw [if_pos c13] at H
         have c13b0 : decide (1 < (l1.length : Int)) = true := decide_eq_true c13
         have c13b1 : decide (1 < l1.length) = true := decide_eq_true (by omega)
         clear c13
         by_cases c14 : (rd l1 0) = (rd l1 1)
         ·rw [if_pos c14] at H
          have c14b0 : ((rd l1 0) == (rd l1 1)) = true := beq_iff_eq.mpr c14
          have c14b1 : ((rd l1 0) != (rd l1 1)) = false := bne_eq_false_iff_eq.mpr c14
          clear c14
          obtain rfl := Option.some.inj H
          have p197 : 0 ≤ (0 : Int) := (by omega)
          have q197 : 0 < (l1.length : Int) := of_decide_eq_true (by first | (with_reducible assumption) | assumption)
          obtain ⟨ad197, e197, hx197_0⟩ := Kd.at_int HR1.out 0 p197 q197
          cases e197
          have qi197 : (0 < l1.length) = True := eq_true (by omega)
          (try rw [show ((0 : Int)).toNat = 0 from rfl] at hx197_0)
          (try rw [Addr.add_zero'] at hx197_0)
          replace p197 := eq_true p197
          replace q197 := eq_true q197
          have p198 : 0 ≤ (1 : Int) := (by omega)
          have q198 : 1 < (l1.length : Int) := of_decide_eq_true (by first | (with_reducible assumption) | assumption)
          obtain ⟨ad198, e198, hx198_0⟩ := Kd.at_int HR1.out 1 p198 q198
          obtain rfl : ad197 = ad198 := (by injection e198)
          (try simp only [show (1 : Int).toNat = 1 from rfl, Nat.reduceMul, Nat.reduceEqDiff, Go.Addr.add, ↓reduceIte] at hx198_0)
          have qi198 : (1 < l1.length) = True := eq_true (by omega)
          (try rw [show ((1 : Int)).toNat = 1 from rfl] at hx198_0)
          replace p198 := eq_true p198
          replace q198 := eq_true q198
          have p199 : 0 ≤ (0 : Int) := (by omega)
          have q199 : 0 < (l1.length : Int) := of_decide_eq_true (by first | (with_reducible assumption) | assumption)
          obtain ⟨ad199, e199, hx199_0⟩ := Kd.at_int HR1.out 0 p199 q199
          obtain rfl : ad197 = ad199 := (by injection e199)
          have qi199 : (0 < l1.length) = True := eq_true (by omega)
          (try rw [show ((0 : Int)).toNat = 0 from rfl] at hx199_0)
          (try rw [Addr.add_zero'] at hx199_0)
          replace p199 := eq_true p199
          replace q199 := eq_true q199
          go_wp2
          repeat (go_quiet (fail); try go_wp2)
          go_ret
          exact ⟨by first | rfl | (simp; done) | (simp [*]; done), by repeat (first | exact Drawn0.refl _ | apply Drawn0.step)⟩
         ·rw [if_neg c14] at H
          have c14b0 : ((rd l1 0) == (rd l1 1)) = false := beq_eq_false_iff_ne.mpr c14
          have c14b1 : ((rd l1 0) != (rd l1 1)) = true := bne_iff_ne.mpr c14
          obtain rfl := Option.some.inj H
          have p197 : 0 ≤ (0 : Int) := (by omega)
          have q197 : 0 < (l1.length : Int) := of_decide_eq_true (by first | (with_reducible assumption) | assumption)
          obtain ⟨ad197, e197, hx197_0⟩ := Kd.at_int HR1.out 0 p197 q197
          cases e197
          have qi197 : (0 < l1.length) = True := eq_true (by omega)
          (try rw [show ((0 : Int)).toNat = 0 from rfl] at hx197_0)
          (try rw [Addr.add_zero'] at hx197_0)
          replace p197 := eq_true p197
          replace q197 := eq_true q197
          have p198 : 0 ≤ (1 : Int) := (by omega)
          have q198 : 1 < (l1.length : Int) := of_decide_eq_true (by first | (with_reducible assumption) | assumption)
          obtain ⟨ad198, e198, hx198_0⟩ := Kd.at_int HR1.out 1 p198 q198
          obtain rfl : ad197 = ad198 := (by injection e198)
          (try simp only [show (1 : Int).toNat = 1 from rfl, Nat.reduceMul, Nat.reduceEqDiff, Go.Addr.add, ↓reduceIte] at hx198_0)
          have qi198 : (1 < l1.length) = True := eq_true (by omega)
          (try rw [show ((1 : Int)).toNat = 1 from rfl] at hx198_0)
          replace p198 := eq_true p198
          replace q198 := eq_true q198
          go_wp2
          repeat (go_quiet (fail); try go_wp2)
          go_ret
          exact ⟨by first | rfl | (simp; done) | (simp [*]; done), by repeat (first | exact Drawn0.refl _ | apply Drawn0.step)⟩
        ·rw [if_neg c13] at H
         exact absurd H (by simp)
       ·rw [if_neg c12] at H
        exact absurd H (by simp)
      ·replace c11 := Bool.eq_false_iff.mpr c11
       subst c11
       rw [if_neg (show ¬ (false = true) by decide)] at H
       by_cases c15 : a0 = 14
       ·rw [if_pos c15] at H
        have c15b0 : (a0 == 14) = true := beq_iff_eq.mpr c15
        have c15b1 : (a0 != 14) = false := bne_eq_false_iff_eq.mpr c15
        clear c15
        by_cases c16 : 0 < (l1.length : Int)
        ·rw [if_pos c16] at H
         have c16b0 : decide (0 < (l1.length : Int)) = true := decide_eq_true c16
         have c16b1 : decide (0 < l1.length) = true := decide_eq_true (by omega)
         clear c16
         by_cases c17 : (rd l1 0) = 0
         ·rw [if_pos c17] at H
          have c17b0 : ((rd l1 0) == 0) = true := beq_iff_eq.mpr c17
          have c17b1 : ((rd l1 0) != 0) = false := bne_eq_false_iff_eq.mpr c17
          clear c17
          by_cases c18 : 1 < (l1.length : Int)
          ·rw [if_pos c18] at H
           have c18b0 : decide (1 < (l1.length : Int)) = true := decide_eq_true c18
           have c18b1 : decide (1 < l1.length) = true := decide_eq_true (by omega)
           clear c18
           by_cases c19 : 2 < (l1.length : Int)
           ·rw [if_pos c19] at H
            have c19b0 : decide (2 < (l1.length : Int)) = true := decide_eq_true c19
            have c19b1 : decide (2 < l1.length) = true := decide_eq_true (by omega)
            clear c19
            by_cases c20 : (rd l1 1) = (rd l1 2)
            ·rw [if_pos c20] at H
             have c20b0 : ((rd l1 1) == (rd l1 2)) = true := beq_iff_eq.mpr c20
             have c20b1 : ((rd l1 1) != (rd l1 2)) = false := bne_eq_false_iff_eq.mpr c20
             clear c20
             obtain rfl := Option.some.inj H
             have p200 : 0 ≤ (0 : Int) := (by omega)
             have q200 : 0 < (l1.length : Int) := of_decide_eq_true (by first | (with_reducible assumption) | assumption)
             obtain ⟨ad200, e200, hx200_0⟩ := Kd.at_int HR1.out 0 p200 q200
             cases e200
             have qi200 : (0 < l1.length) = True := eq_true (by omega)
             (try rw [show ((0 : Int)).toNat = 0 from rfl] at hx200_0)
             (try rw [Addr.add_zero'] at hx200_0)
             replace p200 := eq_true p200
             replace q200 := eq_true q200
             have p201 : 0 ≤ (1 : Int) := (by omega)
             have q201 : 1 < (l1.length : Int) := of_decide_eq_true (by first | (with_reducible assumption) | assumption)
             obtain ⟨ad201, e201, hx201_0⟩ := Kd.at_int HR1.out 1 p201 q201
             obtain rfl : ad200 = ad201 := (by injection e201)
             (try simp only [show (1 : Int).toNat = 1 from rfl, Nat.reduceMul, Nat.reduceEqDiff, Go.Addr.add, ↓reduceIte] at hx201_0)
             have qi201 : (1 < l1.length) = True := eq_true (by omega)
             (try rw [show ((1 : Int)).toNat = 1 from rfl] at hx201_0)
             replace p201 := eq_true p201
             replace q201 := eq_true q201
             have p202 : 0 ≤ (2 : Int) := (by omega)
             have q202 : 2 < (l1.length : Int) := of_decide_eq_true (by first | (with_reducible assumption) | assumption)
             obtain ⟨ad202, e202, hx202_0⟩ := Kd.at_int HR1.out 2 p202 q202
             obtain rfl : ad200 = ad202 := (by injection e202)
             (try simp only [show (2 : Int).toNat = 2 from rfl, Nat.reduceMul, Nat.reduceEqDiff, Go.Addr.add, ↓reduceIte] at hx202_0)
             have qi202 : (2 < l1.length) = True := eq_true (by omega)
             (try rw [show ((2 : Int)).toNat = 2 from rfl] at hx202_0)
             replace p202 := eq_true p202
             replace q202 := eq_true q202
             have p203 : 0 ≤ (1 : Int) := (by omega)
             have q203 : 1 < (l1.length : Int) := of_decide_eq_true (by first | (with_reducible assumption) | assumption)
             obtain ⟨ad203, e203, hx203_0⟩ := Kd.at_int HR1.out 1 p203 q203
             obtain rfl : ad200 = ad203 := (by injection e203)
             (try simp only [show (1 : Int).toNat = 1 from rfl, Nat.reduceMul, Nat.reduceEqDiff, Go.Addr.add, ↓reduceIte] at hx203_0)
             have qi203 : (1 < l1.length) = True := eq_true (by omega)
             (try rw [show ((1 : Int)).toNat = 1 from rfl] at hx203_0)
             replace p203 := eq_true p203
             replace q203 := eq_true q203
             go_wp2
             repeat (go_quiet (fail); try go_wp2)
             go_ret
             exact ⟨by first | rfl | (simp; done) | (simp [*]; done), by repeat (first | exact Drawn0.refl _ | apply Drawn0.step)⟩
            ·rw [if_neg c20] at H
             have c20b0 : ((rd l1 1) == (rd l1 2)) = false := beq_eq_false_iff_ne.mpr c20
             have c20b1 : ((rd l1 1) != (rd l1 2)) = true := bne_iff_ne.mpr c20
             obtain rfl := Option.some.inj H
             have p200 : 0 ≤ (0 : Int) := (by omega)
             have q200 : 0 < (l1.length : Int) := of_decide_eq_true (by first | (with_reducible assumption) | assumption)
             obtain ⟨ad200, e200, hx200_0⟩ := Kd.at_int HR1.out 0 p200 q200
             cases e200
             have qi200 : (0 < l1.length) = True := eq_true (by omega)
             (try rw [show ((0 : Int)).toNat = 0 from rfl] at hx200_0)
             (try rw [Addr.add_zero'] at hx200_0)
             replace p200 := eq_true p200
             replace q200 := eq_true q200
             have p201 : 0 ≤ (1 : Int) := (by omega)
             have q201 : 1 < (l1.length : Int) := of_decide_eq_true (by first | (with_reducible assumption) | assumption)
             obtain ⟨ad201, e201, hx201_0⟩ := Kd.at_int HR1.out 1 p201 q201
             obtain rfl : ad200 = ad201 := (by injection e201)
             (try simp only [show (1 : Int).toNat = 1 from rfl, Nat.reduceMul, Nat.reduceEqDiff, Go.Addr.add, ↓reduceIte] at hx201_0)
             have qi201 : (1 < l1.length) = True := eq_true (by omega)
             (try rw [show ((1 : Int)).toNat = 1 from rfl] at hx201_0)
             replace p201 := eq_true p201
             replace q201 := eq_true q201
             have p202 : 0 ≤ (2 : Int) := (by omega)
             have q202 : 2 < (l1.length : Int) := of_decide_eq_true (by first | (with_reducible assumption) | assumption)
             obtain ⟨ad202, e202, hx202_0⟩ := Kd.at_int HR1.out 2 p202 q202
             obtain rfl : ad200 = ad202 := (by injection e202)
             (try simp only [show (2 : Int).toNat = 2 from rfl, Nat.reduceMul, Nat.reduceEqDiff, Go.Addr.add, ↓reduceIte] at hx202_0)
             have qi202 : (2 < l1.length) = True := eq_true (by omega)
             (try rw [show ((2 : Int)).toNat = 2 from rfl] at hx202_0)
             replace p202 := eq_true p202
             replace q202 := eq_true q202
             go_wp2
             repeat (go_quiet (fail); try go_wp2)
             go_ret
             exact ⟨by first | rfl | (simp; done) | (simp [*]; done), by repeat (first | exact Drawn0.refl _ | apply Drawn0.step)⟩
           ·rw [if_neg c19] at H
            exact absurd H (by simp)
          ·rw [if_neg c18] at H
           exact absurd H (by simp)
         ·rw [if_neg c17] at H
          have c17b0 : ((rd l1 0) == 0) = false := beq_eq_false_iff_ne.mpr c17
          have c17b1 : ((rd l1 0) != 0) = true := bne_iff_ne.mpr c17
          obtain rfl := Option.some.inj H
          have p200 : 0 ≤ (0 : Int) := (by omega)
          have q200 : 0 < (l1.length : Int) := of_decide_eq_true (by first | (with_reducible assumption) | assumption)
          obtain ⟨ad200, e200, hx200_0⟩ := Kd.at_int HR1.out 0 p200 q200
          cases e200
          have qi200 : (0 < l1.length) = True := eq_true (by omega)
          (try rw [show ((0 : Int)).toNat = 0 from rfl] at hx200_0)
          (try rw [Addr.add_zero'] at hx200_0)
          replace p200 := eq_true p200
          replace q200 := eq_true q200
          go_wp2
          repeat (go_quiet (fail); try go_wp2)
          go_ret
          exact ⟨by first | rfl | (simp; done) | (simp [*]; done), by repeat (first | exact Drawn0.refl _ | apply Drawn0.step)⟩
        ·rw [if_neg c16] at H
         exact absurd H (by simp)
       ·rw [if_neg c15] at H
        have c15b0 : (a0 == 14) = false := beq_eq_false_iff_ne.mpr c15
        have c15b1 : (a0 != 14) = true := bne_iff_ne.mpr c15
        have HC21 := zz H
        clear H
        go_upto_region 17 with (fail)
        repeat (go_quiet (fail); go_upto_region 17 with (fail))
        go_cut [55] (fun v55 wc => ∃ (kq : Nat) (x55_20 : Bool), v55 = .bool x55_20 ∧ Aside0 (runnelref08_kind.j2 kq a0 l1 0 0 x55_20 = some r) ∧ Aside0 (kq ≤ kj8) ∧ Drawn0 w wc)
        case first =>
         have H := HC21.out
         clear HC21
         by_cases c22 : a0 = 15
         ·rw [if_pos c22] at H
          have c22b0 : (a0 == 15) = true := beq_iff_eq.mpr c22
          have c22b1 : (a0 != 15) = false := bne_eq_false_iff_eq.mpr c22
          clear c22
          (first | rw [c22b0] | (simp only [i64_w, i32_w]; rw [c22b0]) | skip)
          have H' := zz H
          clear H
          go_wp2
          repeat (go_quiet (fail); try go_wp2)
          go_meet
          case rel => exact ⟨_, (true), (by first | rfl | (simp; done) | (simp [*]; done)), H', ⟨by have := HJ2.out; have := HJ8.out; first | omega | exact Nat.le_refl _⟩, by repeat (first | exact Drawn0.refl _ | apply Drawn0.step)⟩
         ·rw [if_neg c22] at H
          have c22b0 : (a0 == 15) = false := beq_eq_false_iff_ne.mpr c22
          have c22b1 : (a0 != 15) = true := bne_iff_ne.mpr c22
          (first | rw [c22b0] | (simp only [i64_w, i32_w]; rw [c22b0]) | skip)
          have H' := zz H
          clear H
          go_wp2
          repeat (go_quiet (fail); try go_wp2)
          go_meet
          case rel => exact ⟨_, ((a0 == 16)), (by first | rfl | (simp; done) | (simp [*]; done)), H', ⟨by have := HJ2.out; have := HJ8.out; first | omega | exact Nat.le_refl _⟩, by repeat (first | exact Drawn0.refl _ | apply Drawn0.step)⟩
        case rest =>
         clear HC21
         try clear c1; try clear c5; try clear c11; try clear c15; try clear c15b0; try clear c15b1
         obtain ⟨kq, x55_20, rfl, HA, HJ20, ⟨mc20, rfl⟩⟩ := hcut
         cases kq with
         | zero => exact absurd HA.out (by simp [runnelref08_kind.j2])
         | succ kj20 =>
          have H := HA.out
          clear HA
          simp only [runnelref08_kind.j2] at H
          have HC23 := zz H
          clear H
          go_upto_if 55 with (fail)
          repeat (go_quiet (fail); go_upto_if 55 with (fail))
          go_cut [5] (fun v5 wc => ∃ (kq : Nat) (x5_22 : Int), v5 = .int .i64 x5_22 ∧ Aside0 (runnelref08_kind.j3 kq a0 l1 x5_22 0 = some r) ∧ Aside0 (kq ≤ kj20) ∧ Drawn0 w wc)
          case first =>
           have H := HC23.out
           clear HC23
           by_cases c24 : x55_20 = true
           ·subst c24
            rw [if_pos rfl] at H
            have H' := zz H
            clear H
            go_wp2
            repeat (go_quiet (fail); try go_wp2)
            go_meet
            case rel => exact ⟨_, (1), (by first | rfl | (simp; done) | (simp [*]; done)), H', ⟨by have := HJ2.out; have := HJ8.out; have := HJ20.out; first | omega | exact Nat.le_refl _⟩, by repeat (first | exact Drawn0.refl _ | apply Drawn0.step)⟩
           ·replace c24 := Bool.eq_false_iff.mpr c24
            subst c24
            rw [if_neg (show ¬ (false = true) by decide)] at H
            have H' := zz H
            clear H
            go_wp2
            repeat (go_quiet (fail); try go_wp2)
            go_meet
            case rel => exact ⟨_, (0), (by first | rfl | (simp; done) | (simp [*]; done)), H', ⟨by have := HJ2.out; have := HJ8.out; have := HJ20.out; first | omega | exact Nat.le_refl _⟩, by repeat (first | exact Drawn0.refl _ | apply Drawn0.step)⟩
          case rest =>
           clear HC23
           try clear c1; try clear c5; try clear c11; try clear c15; try clear c15b0; try clear c15b1
           obtain ⟨kq, x5_22, rfl, HA, HJ22, ⟨mc22, rfl⟩⟩ := hcut
           cases kq with
           | zero => exact absurd HA.out (by simp [runnelref08_kind.j3])
           | succ kj22 =>
            have H := HA.out
            clear HA
            simp only [runnelref08_kind.j3] at H
            have HC25 := zz H
            clear H
            go_upto_if 57 with (fail)
            repeat (go_quiet (fail); go_upto_if 57 with (fail))
            go_cut [6] (fun v6 wc => ∃ (kq : Nat) (x6_24 : Int), v6 = .int .i64 x6_24 ∧ Aside0 (runnelref08_kind.j4 kq l1 x5_22 x6_24 = some r) ∧ Aside0 (kq ≤ kj22) ∧ Drawn0 w wc)
            case first =>
             have H := HC25.out
             clear HC25
             by_cases c26 : a0 = 16
             ·rw [if_pos c26] at H
              have c26b0 : (a0 == 16) = true := beq_iff_eq.mpr c26
              have c26b1 : (a0 != 16) = false := bne_eq_false_iff_eq.mpr c26
              clear c26
              (first | rw [c26b0] | (simp only [i64_w, i32_w]; rw [c26b0]) | skip)
              have H' := zz H
              clear H
              go_wp2
              repeat (go_quiet (fail); try go_wp2)
              go_meet
              case rel => exact ⟨_, (1), (by first | rfl | (simp; done) | (simp [*]; done)), H', ⟨by have := HJ2.out; have := HJ8.out; have := HJ20.out; have := HJ22.out; first | omega | exact Nat.le_refl _⟩, by repeat (first | exact Drawn0.refl _ | apply Drawn0.step)⟩
             ·rw [if_neg c26] at H
              have c26b0 : (a0 == 16) = false := beq_eq_false_iff_ne.mpr c26
              have c26b1 : (a0 != 16) = true := bne_iff_ne.mpr c26
              (first | rw [c26b0] | (simp only [i64_w, i32_w]; rw [c26b0]) | skip)
              have H' := zz H
              clear H
              go_wp2
              repeat (go_quiet (fail); try go_wp2)
              go_meet
              case rel => exact ⟨_, (0), (by first | rfl | (simp; done) | (simp [*]; done)), H', ⟨by have := HJ2.out; have := HJ8.out; have := HJ20.out; have := HJ22.out; first | omega | exact Nat.le_refl _⟩, by repeat (first | exact Drawn0.refl _ | apply Drawn0.step)⟩
            case rest =>
             clear HC25
             try clear c1; try clear c5; try clear c11; try clear c15; try clear c15b0; try clear c15b1
             obtain ⟨kq, x6_24, rfl, HA, HJ24, ⟨mc24, rfl⟩⟩ := hcut
             cases kq with
             | zero => exact absurd HA.out (by simp [runnelref08_kind.j4])
             | succ kj24 =>
              have H := HA.out
              clear HA
              simp only [runnelref08_kind.j4] at H
              have H' := zz H
              clear H
              go_wp2
              repeat (go_quiet (fail); try go_wp2)
              go_loopg [7] kj24 (fun kq v7 w' => ∃ (x7_6 : Int), v7 = .int .i64 x7_6 ∧ Aside0 (runnelref08_kind.l0 kq l1 x5_22 x6_24 x7_6 = some r) ∧ Aside0 (kq ≤ kj24) ∧ Drawn0 w w')
              case atStart => exact ⟨(0), (by first | rfl | (simp; done) | (simp [*]; done)), H', ⟨Nat.le_refl _⟩, by repeat (first | exact Drawn0.refl _ | apply Drawn0.step)⟩
              case round =>
               clear H'
               try clear c1; try clear c5; try clear c11; try clear c15; try clear c15b0; try clear c15b1
               obtain ⟨x7_6, rfl, HA, HK6, ⟨m6, rfl⟩⟩ := hrel
               cases gk with
               | zero => exact absurd HA.out (by simp [runnelref08_kind.l0])
               | succ k6 =>
                have H := HA.out
                clear HA
                simp only [runnelref08_kind.l0] at H
                by_cases c27 : x7_6 < (l1.length : Int)
                ·rw [if_pos c27] at H
                 have c27b0 : decide (x7_6 < (l1.length : Int)) = true := decide_eq_true c27
                 clear c27
                 by_cases c28 : 0 ≤ x7_6
                 ·rw [if_pos c28] at H
                  have c28b0 : decide (0 ≤ x7_6) = true := decide_eq_true c28
                  clear c28
                  by_cases c29 : (rd l1 x7_6) = x5_22
                  ·rw [if_pos c29] at H
                   have c29b0 : ((rd l1 x7_6) == x5_22) = true := beq_iff_eq.mpr c29
                   have c29b1 : ((rd l1 x7_6) != x5_22) = false := bne_eq_false_iff_eq.mpr c29
                   clear c29
                   have H' := zz H
                   clear H
                   have p204 : 0 ≤ (x7_6 : Int) := of_decide_eq_true (by first | (with_reducible assumption) | assumption)
                   have q204 : x7_6 < (l1.length : Int) := of_decide_eq_true (by first | (with_reducible assumption) | assumption)
                   obtain ⟨ad204, e204, hx204_0⟩ := Kd.at_int HR1.out x7_6 p204 q204
                   cases e204
                   replace p204 := eq_true p204
                   replace q204 := eq_true q204
                   go_wp2
                   repeat (go_quiet (fail); try go_wp2)
                   go_roundg k6
                   case measure => have := HJ2.out; have := HJ8.out; have := HJ20.out; have := HJ22.out; have := HJ24.out; have := HK6.out; omega
                   case rel => exact ⟨(wrap64 (x7_6 + 1)), (by first | rfl | (simp; done) | (simp [*]; done)), H', ⟨by have := HJ2.out; have := HJ8.out; have := HJ20.out; have := HJ22.out; have := HJ24.out; have := HK6.out; omega⟩, by repeat (first | exact Drawn0.refl _ | apply Drawn0.step)⟩
                  ·rw [if_neg c29] at H
                   have c29b0 : ((rd l1 x7_6) == x5_22) = false := beq_eq_false_iff_ne.mpr c29
                   have c29b1 : ((rd l1 x7_6) != x5_22) = true := bne_iff_ne.mpr c29
                   obtain rfl := Option.some.inj H
                   have p204 : 0 ≤ (x7_6 : Int) := of_decide_eq_true (by first | (with_reducible assumption) | assumption)
                   have q204 : x7_6 < (l1.length : Int) := of_decide_eq_true (by first | (with_reducible assumption) | assumption)
                   obtain ⟨ad204, e204, hx204_0⟩ := Kd.at_int HR1.out x7_6 p204 q204
                   cases e204
                   replace p204 := eq_true p204
                   replace q204 := eq_true q204
                   go_wp2
                   repeat (go_quiet (fail); try go_wp2)
                   go_ret
                   exact ⟨by first | rfl | (simp; done) | (simp [*]; done), by repeat (first | exact Drawn0.refl _ | apply Drawn0.step)⟩
                 ·rw [if_neg c28] at H
                  exact absurd H (by simp)
                ·rw [if_neg c27] at H
                 have c27b0 : decide (x7_6 < (l1.length : Int)) = false := decide_eq_false c27
                 clear c27
                 obtain rfl := Option.some.inj H
                 go_wp2
                 repeat (go_quiet (fail); try go_wp2)
                 go_ret
                 exact ⟨by first | rfl | (simp; done) | (simp [*]; done), by repeat (first | exact Drawn0.refl _ | apply Drawn0.step)⟩

end Go.Proofs.Ytdkkollonlmelaa.QPlanChecks
