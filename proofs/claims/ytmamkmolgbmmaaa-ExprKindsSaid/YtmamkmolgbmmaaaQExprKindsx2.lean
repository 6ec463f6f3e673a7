-- Written by this session's own program (wip/tools/ownprint.sh)
import Derived.Test.YtmamkmolgbmmaaaQExprKindsx0
namespace Go.Proofs.Ytmamkmolgbmmaaa.QExprKinds
open Go.RowKit Go.Proofs.YtmamkmolgbmmaaaW.PrintWords Go.Proofs.YtmamkmolgbmmaaaW.PrintLast Go.Proofs.YtmamkmolgbmmaaaW.PrintMore
attribute [local go_sem] max2_int min2_int max_two min_two max_three min_three max_four min_four Go.Proofs.Ytmamkmolgbmmaaa.Hand.str_gtr Go.Proofs.Ytmamkmolgbmmaaa.Hand.str_leq Go.Proofs.Ytmamkmolgbmmaaa.Hand.str_geq   -- for this text's walks alone
set_option linter.unusedVariables false
set_option linter.unusedSimpArgs false

/-! ### runnelref03_Long: function 7 -/
def runnelref03_Long.l0 : Nat → List (S35) → Int → Option (Bool)
  | 0, _, _ => none
  | k + 1, x0, x3 => if x3 < (x0.length : Int) then (if 0 ≤ x3 then (if (((rd_T35 x0 x3).f2).size : Int) > 5000 then (some true) else (runnelref03_Long.l0 k x0 (wrap64 (x3 + 1)))) else (none)) else (some false)
def runnelref03_Long.f (k : Nat) (l0 : List (S35)) : Option (Bool) := if (l0.length : Int) > 30 then (some true) else (runnelref03_Long.l0 k l0 0)
theorem runnelref03_Long.mono_l : ∀ k, (∀ y0 y1, LeO (runnelref03_Long.l0 k y0 y1) (runnelref03_Long.l0 (k + 1) y0 y1))
  | 0 => fun _ _ r h => by simp [runnelref03_Long.l0] at h
  | k + 1 => by
    have ih0 := runnelref03_Long.mono_l k
    · intro y0 y1
      unfold runnelref03_Long.l0
      repeat' first
      | (with_reducible exact ih0 _ _)
      | (with_reducible exact LeO.refl _)
      | (with_reducible exact LeO.none _)
      | (with_reducible refine LeO.ite ?_ ?_)
      | (with_reducible refine LeO.bind ?_ (fun _ => ?_))
      | exact ih0 _ _
      | exact LeO.none _
      | refine LeO.ite ?_ ?_
      | refine LeO.bind ?_ (fun _ => ?_)
theorem runnelref03_Long.mono : ∀ a0 k, LeO (runnelref03_Long.f k a0) (runnelref03_Long.f (k + 1) a0) := by
  intro a0 k
  have ih0 := runnelref03_Long.mono_l k
  unfold runnelref03_Long.f
  repeat' first
      | (with_reducible exact ih0 _ _)
      | (with_reducible exact LeO.refl _)
      | (with_reducible exact LeO.none _)
      | (with_reducible refine LeO.ite ?_ ?_)
      | (with_reducible refine LeO.bind ?_ (fun _ => ?_))
      | exact ih0 _ _
      | exact LeO.none _
      | refine LeO.ite ?_ ?_
      | refine LeO.bind ?_ (fun _ => ?_)
set_option maxHeartbeats 8000000 in
set_option maxRecDepth 100000 in
theorem runnelref03_Long.calls (k : Nat) (A0 : Option Addr) (c0 : Nat) (l0 : List (S35)) (r : Bool) (w : World) (hr0 : Kd.C k35 w A0 l0.length l0) (hc0 : l0.length ≤ c0) (h : runnelref03_Long.f k l0 = some r) :
    Calls Try.prog 7 #[.slice A0 l0.length c0] w fun e w' => e = .returned (.bool r) ∧ Drawn0 w w' := by
  have HR0 := Aside0.mk hr0
  have HC0 := Aside0.mk hc0
  clear hr0 hc0
  have H : (if (l0.length : Int) > 30 then (some true) else (runnelref03_Long.l0 k l0 0)) = some r := h
  clear h
  by_cases c2 : (l0.length : Int) > 30
  · rw [if_pos c2] at H
    have c2b0 : decide (30 < (l0.length : Int)) = true := decide_eq_true c2
    have c2b1 : decide (30 < l0.length) = true := decide_eq_true (by omega)
    clear c2
    obtain rfl := Option.some.inj H
    go_enter Try.func7, Try.ntmps7
    go_wp2
    go_ret
    exact ⟨by first | rfl | (simp; done) | (simp [*]; done), by repeat (first | exact Drawn0.refl _ | apply Drawn0.step)⟩
  · rw [if_neg c2] at H
    have c2b0 : decide (30 < (l0.length : Int)) = false := decide_eq_false c2
    have c2b1 : decide (30 < l0.length) = false := decide_eq_false (by omega)
    clear c2
    have H' := Aside0.mk H
    clear H
    go_enter Try.func7, Try.ntmps7
    go_wp2
    go_loopg [3] k (fun kq v3 w' => ∃ (x3_1 : Int), v3 = .int .i64 x3_1 ∧ Aside0 (runnelref03_Long.l0 kq l0 x3_1 = some r) ∧ Aside0 (kq ≤ k) ∧ Drawn0 w w')
    case atStart => exact ⟨(0), (by first | rfl | (simp; done) | (simp [*]; done)), H', ⟨Nat.le_refl _⟩, by repeat (first | exact Drawn0.refl _ | apply Drawn0.step)⟩
    case round =>
      clear H'
      try clear c2
      try clear c2b0
      try clear c2b1
      try clear p2
      obtain ⟨x3_1, rfl, HA, HK1, ⟨m1, rfl⟩⟩ := hrel
      cases gk with
      | zero => exact absurd HA.out (by simp [runnelref03_Long.l0])
      | succ k1 =>
        have H := HA.out
        clear HA
        simp only [runnelref03_Long.l0] at H
        by_cases c3 : x3_1 < (l0.length : Int)
        · rw [if_pos c3] at H
          have c3b0 : decide (x3_1 < (l0.length : Int)) = true := decide_eq_true c3
          clear c3
          by_cases c4 : 0 ≤ x3_1
          · rw [if_pos c4] at H
            have c4b0 : decide (0 ≤ x3_1) = true := decide_eq_true c4
            clear c4
            by_cases c5 : (((rd_T35 l0 x3_1).f2).size : Int) > 5000
            · rw [if_pos c5] at H
              have c5b0 : decide (5000 < (((rd_T35 l0 x3_1).f2).size : Int)) = true := decide_eq_true c5
              have c5b1 : decide (5000 < ((rd_T35 l0 x3_1).f2).size) = true := decide_eq_true (by omega)
              clear c5
              obtain rfl := Option.some.inj H
              have p101 : 0 ≤ (x3_1 : Int) := of_decide_eq_true (by first | (with_reducible assumption) | assumption)
              have q101 : x3_1 < (l0.length : Int) := of_decide_eq_true (by first | (with_reducible assumption) | assumption)
              obtain ⟨ad101, e101, hx101_0, hx101_1, hx101_2⟩ := at_T35 HR0.out x3_1 p101 q101
              cases e101
              replace p101 := eq_true p101
              replace q101 := eq_true q101
              go_wp2
              go_ret
              exact ⟨by first | rfl | (simp; done) | (simp [*]; done), by repeat (first | exact Drawn0.refl _ | apply Drawn0.step)⟩
            · rw [if_neg c5] at H
              have c5b0 : decide (5000 < (((rd_T35 l0 x3_1).f2).size : Int)) = false := decide_eq_false c5
              have c5b1 : decide (5000 < ((rd_T35 l0 x3_1).f2).size) = false := decide_eq_false (by omega)
              clear c5
              have H' := Aside0.mk H
              clear H
              have p101 : 0 ≤ (x3_1 : Int) := of_decide_eq_true (by first | (with_reducible assumption) | assumption)
              have q101 : x3_1 < (l0.length : Int) := of_decide_eq_true (by first | (with_reducible assumption) | assumption)
              obtain ⟨ad101, e101, hx101_0, hx101_1, hx101_2⟩ := at_T35 HR0.out x3_1 p101 q101
              cases e101
              replace p101 := eq_true p101
              replace q101 := eq_true q101
              go_wp2
              go_roundg k1
              case measure => have := HK1.out; omega
              case rel => exact ⟨(wrap64 (x3_1 + 1)), (by first | rfl | (simp; done) | (simp [*]; done)), H', ⟨by have := HK1.out; omega⟩, by repeat (first | exact Drawn0.refl _ | apply Drawn0.step)⟩
          · rw [if_neg c4] at H
            exact absurd H (by simp)
        · rw [if_neg c3] at H
          have c3b0 : decide (x3_1 < (l0.length : Int)) = false := decide_eq_false c3
          clear c3
          obtain rfl := Option.some.inj H
          go_wp2
          go_ret
          exact ⟨by first | rfl | (simp; done) | (simp [*]; done), by repeat (first | exact Drawn0.refl _ | apply Drawn0.step)⟩

/-! ### expr_arity: function 27 -/
mutual
def expr_arity.j0 : Nat → Int → Bool → Option (Int)
  | 0, _, _ => none
  | k + 1, x3, x4 => if x4 = true then (some 0) else (if x3 = 8 then (expr_arity.j1 k x3 (x3 == 8)) else (if x3 = 11 then (expr_arity.j1 k x3 (x3 == 11)) else (expr_arity.j1 k x3 (x3 == 15))))
def expr_arity.j1 : Nat → Int → Bool → Option (Int)
  | 0, _, _ => none
  | k + 1, x3, x8 => if x8 = true then (some 1) else (if x3 = 14 then (some 3) else (some 2))
end
def expr_arity.f (k : Nat) (a0 : Int) : Option (Int) := if a0 = 0 then (expr_arity.j0 k a0 (a0 == 0)) else (if a0 = 1 then (expr_arity.j0 k a0 (a0 == 1)) else (expr_arity.j0 k a0 (a0 == 2)))
theorem expr_arity.mono_l : ∀ k, (∀ y0 y1, LeO (expr_arity.j0 k y0 y1) (expr_arity.j0 (k + 1) y0 y1)) ∧ (∀ y0 y1, LeO (expr_arity.j1 k y0 y1) (expr_arity.j1 (k + 1) y0 y1))
  | 0 => ⟨fun _ _ r h => by simp [expr_arity.j0] at h, fun _ _ r h => by simp [expr_arity.j1] at h⟩
  | k + 1 => by
    obtain ⟨ih0, ih1⟩ := expr_arity.mono_l k
    refine ⟨?_, ?_⟩
    · intro y0 y1
      unfold expr_arity.j0
      repeat' first
      | (with_reducible exact ih0 _ _)
      | (with_reducible exact ih1 _ _)
      | (with_reducible exact LeO.refl _)
      | (with_reducible exact LeO.none _)
      | (with_reducible refine LeO.ite ?_ ?_)
      | (with_reducible refine LeO.bind ?_ (fun _ => ?_))
      | exact ih0 _ _
      | exact ih1 _ _
      | exact LeO.none _
      | refine LeO.ite ?_ ?_
      | refine LeO.bind ?_ (fun _ => ?_)
    · intro y0 y1
      unfold expr_arity.j1
      repeat' first
      | (with_reducible exact ih0 _ _)
      | (with_reducible exact ih1 _ _)
      | (with_reducible exact LeO.refl _)
      | (with_reducible exact LeO.none _)
      | (with_reducible refine LeO.ite ?_ ?_)
      | (with_reducible refine LeO.bind ?_ (fun _ => ?_))
      | exact ih0 _ _
      | exact ih1 _ _
      | exact LeO.none _
      | refine LeO.ite ?_ ?_
      | refine LeO.bind ?_ (fun _ => ?_)
theorem expr_arity.mono : ∀ a0 k, LeO (expr_arity.f k a0) (expr_arity.f (k + 1) a0) := by
  intro a0 k
  obtain ⟨ih0, ih1⟩ := expr_arity.mono_l k
  unfold expr_arity.f
  repeat' first
      | (with_reducible exact ih0 _ _)
      | (with_reducible exact ih1 _ _)
      | (with_reducible exact LeO.refl _)
      | (with_reducible exact LeO.none _)
      | (with_reducible refine LeO.ite ?_ ?_)
      | (with_reducible refine LeO.bind ?_ (fun _ => ?_))
      | exact ih0 _ _
      | exact ih1 _ _
      | exact LeO.none _
      | refine LeO.ite ?_ ?_
      | refine LeO.bind ?_ (fun _ => ?_)
set_option maxHeartbeats 8000000 in
set_option maxRecDepth 100000 in
theorem expr_arity.calls (k : Nat) (a0 : Int) (r : Int) (w : World) (h : expr_arity.f k a0 = some r) :
    Calls Try.prog 27 #[.int .i64 a0] w fun e w' => e = .returned (.int .i64 r) ∧ Drawn0 w w' := by
  have H : (if a0 = 0 then (expr_arity.j0 k a0 (a0 == 0)) else (if a0 = 1 then (expr_arity.j0 k a0 (a0 == 1)) else (expr_arity.j0 k a0 (a0 == 2)))) = some r := h
  clear h
  have HC2 := Aside0.mk H
  clear H
  go_enter Try.func27, Try.ntmps27
  go_upto_if 4 with (fail)
  go_cut [4] (fun v4 wc => ∃ (kq : Nat) (x4_1 : Bool), v4 = .bool x4_1 ∧ Aside0 (expr_arity.j0 kq a0 x4_1 = some r) ∧ Aside0 (kq ≤ k) ∧ Drawn0 w wc)
  case first =>
    have H := HC2.out
    clear HC2
    by_cases c3 : a0 = 0
    · rw [if_pos c3] at H
      have c3b0 : (a0 == 0) = true := beq_iff_eq.mpr c3
      have c3b1 : (a0 != 0) = false := bne_eq_false_iff_eq.mpr c3
      clear c3
      (first | rw [c3b0] | (simp only [i64_w, i32_w]; rw [c3b0]) | skip)
      have H' := Aside0.mk H
      clear H
      go_wp2
      go_meet
      case rel => exact ⟨_, ((a0 == 0)), (by first | rfl | (simp; done) | (simp [*]; done)), H', ⟨by first | omega | exact Nat.le_refl _⟩, by repeat (first | exact Drawn0.refl _ | apply Drawn0.step)⟩
    · rw [if_neg c3] at H
      have c3b0 : (a0 == 0) = false := beq_eq_false_iff_ne.mpr c3
      have c3b1 : (a0 != 0) = true := bne_iff_ne.mpr c3
      (first | rw [c3b0] | (simp only [i64_w, i32_w]; rw [c3b0]) | skip)
      by_cases c4 : a0 = 1
      · rw [if_pos c4] at H
        have c4b0 : (a0 == 1) = true := beq_iff_eq.mpr c4
        have c4b1 : (a0 != 1) = false := bne_eq_false_iff_eq.mpr c4
        clear c4
        have H' := Aside0.mk H
        clear H
        go_wp2
        go_meet
        case rel => exact ⟨_, ((a0 == 1)), (by first | rfl | (simp; done) | (simp [*]; done)), H', ⟨by first | omega | exact Nat.le_refl _⟩, by repeat (first | exact Drawn0.refl _ | apply Drawn0.step)⟩
      · rw [if_neg c4] at H
        have c4b0 : (a0 == 1) = false := beq_eq_false_iff_ne.mpr c4
        have c4b1 : (a0 != 1) = true := bne_iff_ne.mpr c4
        have H' := Aside0.mk H
        clear H
        go_wp2
        go_meet
        case rel => exact ⟨_, ((a0 == 2)), (by first | rfl | (simp; done) | (simp [*]; done)), H', ⟨by first | omega | exact Nat.le_refl _⟩, by repeat (first | exact Drawn0.refl _ | apply Drawn0.step)⟩
  case rest =>
    clear HC2
    try clear c2
    try clear p2
    try clear c3
    try clear c3b0
    try clear c3b1
    try clear c4
    try clear c4b0
    try clear c4b1
    obtain ⟨kq, x4_1, rfl, HA, HJ1, ⟨mc1, rfl⟩⟩ := hcut
    cases kq with
    | zero => exact absurd HA.out (by simp [expr_arity.j0])
    | succ kj1 =>
      have H := HA.out
      clear HA
      simp only [expr_arity.j0] at H
      by_cases c5 : x4_1 = true
      · subst c5
        have H1 : (some 0) = some r := by rw [if_pos rfl] at H; exact H
        clear H
        have H := H1
        clear H1
        obtain rfl := Option.some.inj H
        go_wp2
        go_ret
        exact ⟨by first | rfl | (simp; done) | (simp [*]; done), by repeat (first | exact Drawn0.refl _ | apply Drawn0.step)⟩
      · replace c5 := Bool.eq_false_iff.mpr c5
        subst c5
        have H1 : (if a0 = 8 then (expr_arity.j1 kj1 a0 (a0 == 8)) else (if a0 = 11 then (expr_arity.j1 kj1 a0 (a0 == 11)) else (expr_arity.j1 kj1 a0 (a0 == 15)))) = some r := by rw [if_neg (show ¬ (false = true) by decide)] at H; exact H
        clear H
        have H := H1
        clear H1
        have HC6 := Aside0.mk H
        clear H
        go_upto_if 8 with (fail)
        go_cut [8] (fun v8 wc => ∃ (kq : Nat) (x8_5 : Bool), v8 = .bool x8_5 ∧ Aside0 (expr_arity.j1 kq a0 x8_5 = some r) ∧ Aside0 (kq ≤ kj1) ∧ Drawn0 w wc)
        case first =>
          have H := HC6.out
          clear HC6
          by_cases c7 : a0 = 8
          · rw [if_pos c7] at H
            have c7b0 : (a0 == 8) = true := beq_iff_eq.mpr c7
            have c7b1 : (a0 != 8) = false := bne_eq_false_iff_eq.mpr c7
            clear c7
            (first | rw [c7b0] | (simp only [i64_w, i32_w]; rw [c7b0]) | skip)
            have H' := Aside0.mk H
            clear H
            go_wp2
            go_meet
            case rel => exact ⟨_, ((a0 == 8)), (by first | rfl | (simp; done) | (simp [*]; done)), H', ⟨by have := HJ1.out; first | omega | exact Nat.le_refl _⟩, by repeat (first | exact Drawn0.refl _ | apply Drawn0.step)⟩
          · rw [if_neg c7] at H
            have c7b0 : (a0 == 8) = false := beq_eq_false_iff_ne.mpr c7
            have c7b1 : (a0 != 8) = true := bne_iff_ne.mpr c7
            (first | rw [c7b0] | (simp only [i64_w, i32_w]; rw [c7b0]) | skip)
            by_cases c8 : a0 = 11
            · rw [if_pos c8] at H
              have c8b0 : (a0 == 11) = true := beq_iff_eq.mpr c8
              have c8b1 : (a0 != 11) = false := bne_eq_false_iff_eq.mpr c8
              clear c8
              have H' := Aside0.mk H
              clear H
              go_wp2
              go_meet
              case rel => exact ⟨_, ((a0 == 11)), (by first | rfl | (simp; done) | (simp [*]; done)), H', ⟨by have := HJ1.out; first | omega | exact Nat.le_refl _⟩, by repeat (first | exact Drawn0.refl _ | apply Drawn0.step)⟩
            · rw [if_neg c8] at H
              have c8b0 : (a0 == 11) = false := beq_eq_false_iff_ne.mpr c8
              have c8b1 : (a0 != 11) = true := bne_iff_ne.mpr c8
              have H' := Aside0.mk H
              clear H
              go_wp2
              go_meet
              case rel => exact ⟨_, ((a0 == 15)), (by first | rfl | (simp; done) | (simp [*]; done)), H', ⟨by have := HJ1.out; first | omega | exact Nat.le_refl _⟩, by repeat (first | exact Drawn0.refl _ | apply Drawn0.step)⟩
        case rest =>
          clear HC6
          try clear c1
          try clear c2
          try clear p2
          try clear c3
          try clear c3b0
          try clear c3b1
          try clear c4
          try clear c4b0
          try clear c4b1
          try clear c5
          try clear c7
          try clear c7b0
          try clear c7b1
          try clear c8
          try clear c8b0
          try clear c8b1
          try clear p2
          obtain ⟨kq, x8_5, rfl, HA, HJ5, ⟨mc5, rfl⟩⟩ := hcut
          cases kq with
          | zero => exact absurd HA.out (by simp [expr_arity.j1])
          | succ kj5 =>
            have H := HA.out
            clear HA
            simp only [expr_arity.j1] at H
            by_cases c9 : x8_5 = true
            · subst c9
              have H1 : (some 1) = some r := by rw [if_pos rfl] at H; exact H
              clear H
              have H := H1
              clear H1
              obtain rfl := Option.some.inj H
              go_wp2
              go_ret
              exact ⟨by first | rfl | (simp; done) | (simp [*]; done), by repeat (first | exact Drawn0.refl _ | apply Drawn0.step)⟩
            · replace c9 := Bool.eq_false_iff.mpr c9
              subst c9
              have H1 : (if a0 = 14 then (some 3) else (some 2)) = some r := by rw [if_neg (show ¬ (false = true) by decide)] at H; exact H
              clear H
              have H := H1
              clear H1
              by_cases c10 : a0 = 14
              · rw [if_pos c10] at H
                have c10b0 : (a0 == 14) = true := beq_iff_eq.mpr c10
                have c10b1 : (a0 != 14) = false := bne_eq_false_iff_eq.mpr c10
                clear c10
                obtain rfl := Option.some.inj H
                go_wp2
                go_ret
                exact ⟨by first | rfl | (simp; done) | (simp [*]; done), by repeat (first | exact Drawn0.refl _ | apply Drawn0.step)⟩
              · rw [if_neg c10] at H
                have c10b0 : (a0 == 14) = false := beq_eq_false_iff_ne.mpr c10
                have c10b1 : (a0 != 14) = true := bne_iff_ne.mpr c10
                obtain rfl := Option.some.inj H
                go_wp2
                go_ret
                exact ⟨by first | rfl | (simp; done) | (simp [*]; done), by repeat (first | exact Drawn0.refl _ | apply Drawn0.step)⟩


/-! ### expr_kinds_push: function 43, by hand -/
/-- The stack of kinds at block g: what it holds; all that was there in w0 stays. -/
structure Stk (w0 w : World) (g : Nat) (cv v : Value) (l : List Int) : Prop where
  below : Below w0.heap.size w0 w
  ge : w0.heap.size ≤ g
  blk : w.heap[g]? = some (.cells #[cv, v] 63 (0, 0))
  row : Kd.R (Kd.int .i64) 3 w w0.heap.size (fun k => k ≠ g) v l
theorem Stk.lt {w0 w : World} {g : Nat} {cv v : Value} {l : List Int} (h : Stk w0 w g cv v l) : g < w.heap.size := blk_lt h.blk
theorem Stk.drewN {w0 w : World} {g : Nat} {cv v : Value} {l : List Int} (h : Stk w0 w g cv v l) (n : Nat) : Stk w0 (w.drewN n) g cv v l :=
  ⟨pw_below_drewN h.below n, h.ge, blk_drewN h.blk n, Kd.R_drewN h.row n⟩
set_option maxHeartbeats 1000000 in
set_option maxRecDepth 100000 in
theorem push_full (w0 w : World) (g : Nat) (cv v : Value) (l : List Int) (k : Int) (h : Stk w0 w g cv v l) (hl : l.length = 16) :
    Calls Try.prog 43 #[.pointer (some ⟨g, 0, none⟩), .int .i64 k] w fun e w' => e = .returned (.int .i64 3) ∧ w' = w := by
  obtain ⟨A, c, hv⟩ := Kd.R_slice h.row
  subst hv
  rw [hl] at h
  have hcell : w.cell? ⟨g, 1, none⟩ = some (.slice A 16 c) := (blk_cell h.blk 1).trans rfl
  clear h hl
  go_enter Try.func43, Try.ntmps43
  go_wp2
  go_ret
  exact ⟨rfl, rfl⟩
set_option maxHeartbeats 1000000 in
set_option maxRecDepth 100000 in
theorem push_more (w0 w : World) (g : Nat) (cv v : Value) (l : List Int) (k : Int) (h : Stk w0 w g cv v l) (hl : l.length < 16) :
    Calls Try.prog 43 #[.pointer (some ⟨g, 0, none⟩), .int .i64 k] w fun e w' => e = .returned (.int .i64 0) ∧ ∃ v', Stk w0 w' g cv v' (l ++ [k]) := by
  have huK := Try.underlying63
  obtain ⟨A, c, hv⟩ := Kd.R_slice h.row
  subst hv
  have HS := Aside0.mk h
  have hcell : w.cell? ⟨g, 1, none⟩ = some (.slice A l.length c) := (blk_cell h.blk 1).trans rfl
  have hne : ((l.length : Int) == 16) = false := beq_eq_false_iff_ne.mpr (by omega)
  have hle := Aside0.mk hl
  clear h hl
  go_enter Try.func43, Try.ntmps43
  go_wp2_with ((with_reducible refine gate_builtin (b := .append) (xs := #[.tmp 15, .tmp 17]) rfl ?_); at_builtin; refine Kd.R_append (Kd.int .i64) (w0 := w0) w0.heap.size rfl (.tmp 15) (.tmp 17) 47 3 (.int .i64 0) 8 rfl Try.underlying47 info3 rfl (by decide) (by omega) (.slice A l.length c) l k [.int .i64 k] (fun k => k ≠ g) (fun _ => False) rfl rfl ?aP (fun _ hk => hk.elim) ?aF ?aO ?aB ?aS ?aL ?_; (case aP => exact rfl); (case aB => exact HS.out.below); (case aF => exact (fun k hk => by have := HS.out.lt; omega)); (case aO => exact HS.out.row); (case aS => exact HS.out.below.size); (case aL => have := hle.out; omega); intro v1 w1 ho hb hg hat; obtain ⟨A1, c1, hv1⟩ := Kd.R_slice ho; subst hv1; simp only [List.length_append, List.length_singleton] at ho ⊢; have HO := Aside0.mk ho; have HB := Aside0.mk hb; have HG := Aside0.mk (blk_grown HS.out.blk hg (fun e => HS.out.row.1 g e.symm rfl)); have hcell1 : w1.cell? ⟨g, 1, none⟩ = some (.slice A l.length c) := (blk_cell HG.out 1).trans rfl; have hfr1 := blk_frozen HG.out 1; clear ho hb hg hat hcell)
  go_ret
  exact ⟨rfl, _, (below_set HB.out HS.out.ge), HS.out.ge, (blk_set HG.out 1 _).trans rfl, Kd.R_far HO.out (fun k hk => hk) _⟩

theorem Stk.step {w0 w w1 : World} {g : Nat} {cv v : Value} {l : List Int} (h : Stk w0 w g cv v l) (hb : Below w.heap.size w w1) : Stk w0 w1 g cv v l :=
  ⟨below_then h.below h.below.size hb, h.ge, blk_below h.blk hb, Kd.R_below h.row hb⟩

/-- One kind more on the stack, or the error that it is full. -/
def pushS (k : Int) (st : List Int) : Int × List Int := if st.length = 16 then (3, st) else (0, st ++ [k])
/-- What a step of the kinds tells: its error; without one, the stack. -/
structure Told (w0 w' : World) (g : Nat) (cv : Value) (r : Int × List Int) (e : Ending) : Prop where
  ret : e = .returned (.int .i64 r.1)
  below : Below w0.heap.size w0 w'
  stk : r.1 = 0 → ∃ v', Stk w0 w' g cv v' r.2
theorem push_told (w0 w : World) (g : Nat) (cv v : Value) (l : List Int) (k : Int) (h : Stk w0 w g cv v l) (hm : l.length ≤ 16) :
    Calls Try.prog 43 #[.pointer (some ⟨g, 0, none⟩), .int .i64 k] w fun e w' => Told w0 w' g cv (pushS k l) e := by
  unfold pushS
  by_cases hl : l.length = 16
  · rw [if_pos hl]
    refine (push_full w0 w g cv v l k h hl).mono ?_
    rintro e w' ⟨rfl, rfl⟩
    exact ⟨rfl, h.below, fun h => absurd h (show ¬ (3 : Int) = 0 by decide)⟩
  · rw [if_neg hl]
    refine (push_more w0 w g cv v l k h (by omega)).mono ?_
    rintro e w' ⟨rfl, v', h'⟩
    exact ⟨rfl, h'.below, fun _ => ⟨v', h'⟩⟩



/-! ### slices_Clone_int_int: function 52, by hand -/
set_option maxHeartbeats 1000000 in
set_option maxRecDepth 100000 in
theorem slices_Clone_int_int.calls0 (A : Option Addr) (c : Nat) (l : List Int) (w : World) (hr : Kd.C (Kd.int .i64) w A l.length l) (hc : l.length ≤ c) (hlim : l.length < 17592186044416) :
    Calls Try.prog 52 #[.slice A l.length c] w fun e w' => ∃ v0_ : Value, e = .returned (v0_) ∧ Kd.R (Kd.int .i64) 3 w' w.heap.size (fun _ => True) v0_ l ∧ Below w.heap.size w w' := by
  have HR := Aside0.mk hr
  have hnil : ∀ (x : Option Addr) (n m : Nat) (W : World), Sem.run Try.prog (binOp BinOp.eql 47 (Value.slice x n m) (Value.slice none 0 0)) W = .ok (.bool x.isNone) W := by
    intro x n m W
    cases x <;> rfl
  cases A with
  | none =>
    have hl : l = [] := by
      cases l with
      | nil => rfl
      | cons a l => obtain ⟨ad, h, _⟩ := hr.2.2 (by simp); cases h
    subst hl
    clear hr
    go_enter Try.func52, Try.ntmps52
    go_wp2
    go_ret
    exact ⟨_, rfl, Kd.R_nil _ _ _ _ _, Below.refl _ _⟩
  | some ad =>
    clear hr
    go_enter Try.func52, Try.ntmps52
    go_wp2_with (first | ((with_reducible refine gate_dst (N := 5) rfl ?_); refine Kd.R_lit (Kd.int .i64) w.heap.size 3 ?hg (N := 5) ?hd (xs := ([] : List Int)) (inner := []) (ok := fun _ => True) (okp := fun _ => True) ?hr ?hp (fun _ hk => hk) trivial (Below.refl _ _) (Nat.le_refl _) (by simp) ?_; (case hd => rfl); (case hg => rfl); (case hr => first | (go_simp; done) | (go_simp; rfl)); (case hp => exact (Reps.none _ _)); intro v5 w5 ho hb hg_ hnew_; clear hg_ hnew_; have HO := Aside0.mk ho; have HB := Aside0.mk hb; clear ho hb) | ((with_reducible refine gate_builtin (b := .append) (xs := #[.tmp 5, .tmp 6]) rfl ?_); at_builtin; refine Kd.R_append_rows (Kd.int .i64) (Rr := (Kd.int .i64).K w5) (w0 := w) w.heap.size rfl (.tmp 5) (.tmp 6) 47 3 (.int .i64 0) 8 rfl Try.underlying47 info3 rfl (by decide) (by omega) v5 [] l (some ad) l.length c (fun _ => True) (fun _ => False) rfl rfl HO.out (Kd.C_below HR.out HB.out) (fun x cs h => h) (fun _ hk => hk.elim) (fun _ _ => trivial) HB.out HB.out.size (by simp; omega) ?_; intro v7 w7 ho hb hg hat; clear hg hat; have HO7 := Aside0.mk ho; have HB7 := Aside0.mk hb; clear ho hb))
    go_ret
    exact ⟨_, rfl, by have h := HO7.out; rw [List.nil_append] at h; exact h, HB7.out⟩
def slices_Clone_int_int.f (l0 : List Int) : Option (List Int) := if l0.length < 17592186044416 then some l0 else none
theorem slices_Clone_int_int.calls (A0 : Option Addr) (c0 : Nat) (l0 : List Int) (r : List Int) (w : World) (hr0 : Kd.C (Kd.int .i64) w A0 l0.length l0) (hc0 : l0.length ≤ c0) (h : slices_Clone_int_int.f l0 = some r) :
    Calls Try.prog 52 #[.slice A0 l0.length c0] w fun e w' => ∃ v0_ : Value, e = .returned (v0_) ∧ Kd.R (Kd.int .i64) 3 w' w.heap.size (fun _ => True) v0_ r ∧ Below w.heap.size w w' := by
  unfold slices_Clone_int_int.f at h
  split at h
  · rename_i hl
    obtain rfl := Option.some.inj h
    exact slices_Clone_int_int.calls0 A0 c0 l0 w hr0 hc0 hl
  · cases h



/-! ### expr_kinds_take: function 44, by hand -/
set_option maxHeartbeats 1000000 in
set_option maxRecDepth 100000 in
theorem take_short (w0 w : World) (g : Nat) (cv v : Value) (l : List Int) (n : Int) (h : Stk w0 w g cv v l) (hl : (l.length : Int) < n) :
    Calls Try.prog 44 #[.pointer (some ⟨g, 0, none⟩), .int .i64 n] w fun e w' => e = .returned (.tuple #[.slice none 0 0, .int .i64 6]) ∧ w' = w := by
  have huK := Try.underlying63
  obtain ⟨A, c, hv⟩ := Kd.R_slice h.row
  subst hv
  have hcell : w.cell? ⟨g, 1, none⟩ = some (.slice A l.length c) := (blk_cell h.blk 1).trans rfl
  have hlt : decide ((l.length : Int) < n) = true := decide_eq_true hl
  clear h hl
  go_enter Try.func44, Try.ntmps44
  go_wp2
  go_ret2
  exact ⟨rfl, rfl⟩
theorem cut_front {α : Type} {P : Program} {d : Kd α} (t e : TypeId) {i : TypeInfo} (ht : P.underlying t = some (.slice e)) (hi : P.info? e = some i) (hsz : i.size = d.sz) (A : Option Addr) (c : Nat) (xs : List α) (j : Int) (h0 : 0 ≤ j) (hm : j ≤ xs.length) (hc : xs.length ≤ c) :
    ∃ (A' : Option Addr) (c' : Nat), (∀ W : World, (Instr.slice t (.slice A xs.length c) (some (.int .i64 j)) none none).run P W = .ok (.slice A' (xs.drop j.toNat).length c') W) ∧
      (∀ w : World, d.C w A xs.length xs → d.C w A' (xs.drop j.toNat).length (xs.drop j.toNat)) ∧ (xs.drop j.toNat).length ≤ c' := by
  refine ⟨_, c - j.toNat, fun W => ?_, fun w h => Kd.C_drop h (by omega) hc, ?_⟩
  · rw [cut_from t e .i64 ht hi d.sz hsz A xs.length c j h0 hm W, List.length_drop]
  · rw [List.length_drop]; omega
theorem Stk.cut {w0 w : World} {g m c : Nat} {cv : Value} {A : Option Addr} {l : List Int} (h : Stk w0 w g cv (.slice A l.length c) l) (hm : m ≤ l.length) :
    Stk w0 ((w.setCell ⟨g, 1, none⟩ (.slice A m c)).drew) g cv (.slice A m c) (l.take m) :=
  ⟨below_drew (below_set h.below h.ge), h.ge, blk_drew ((blk_set h.blk 1 _).trans rfl), Kd.R_drew (Kd.R_far (Kd.R_take h.row hm) (fun k hk => hk) _)⟩
set_option maxHeartbeats 2000000 in
set_option maxRecDepth 100000 in
theorem take_some (w0 w : World) (g : Nat) (cv v : Value) (l : List Int) (n : Int) (h : Stk w0 w g cv v l) (h0 : 0 ≤ n) (hl : n ≤ (l.length : Int)) (hm : l.length ≤ 16) :
    Calls Try.prog 44 #[.pointer (some ⟨g, 0, none⟩), .int .i64 n] w fun e w' => ∃ v0 v', e = .returned (.tuple #[v0, .int .i64 0]) ∧ Kd.R (Kd.int .i64) 3 w' w.heap.size (fun _ => True) v0 (l.drop ((l.length : Int) - n).toNat) ∧ Stk w0 w' g cv v' (l.take ((l.length : Int) - n).toNat) ∧ (∀ b, b < w.heap.size → b ≠ g → w'.heap[b]? = w.heap[b]?) := by
  have huK := Try.underlying63
  obtain ⟨i0, hi, hz0, hz1, hz2⟩ := info_parts info3
  obtain ⟨A, c, hv⟩ := Kd.R_slice h.row
  subst hv
  obtain ⟨A_, c_, he_, hcc, hC⟩ := Kd.R_reads h.row
  obtain ⟨rfl, rfl⟩ : A = A_ ∧ c = c_ := by injection he_ with h1 h2 h3; exact ⟨h1, h3⟩
  obtain ⟨A1, c1, hcut, hC1, hc1⟩ := cut_front (P := Try.prog) (d := Kd.int .i64) 47 3 Try.underlying47 hi hz1 A c l ((l.length : Int) - n) (by omega) (by omega) hcc
  have hcut2 := cut_to (P := Try.prog) 47 3 .i64 Try.underlying47 hi A l.length c ((l.length : Int) - n) (by omega) (by omega) hcc
  obtain ⟨ys, hys⟩ : ∃ ys, ys = l.drop ((l.length : Int) - n).toNat := ⟨_, rfl⟩
  have hyl : ys.length < 17592186044416 := by rw [hys, List.length_drop]; omega
  have HC2 := Aside0.mk (fun W hb => slices_Clone_int_int.calls0 A1 c1 ys W (by rw [hys]; exact Kd.C_below (hC1 _ hC) hb) (by rw [hys]; exact hc1) hyl)
  rw [← hys] at hcut
  have HY := Aside0.mk hys
  have HS := Aside0.mk h
  have HT := Aside0.mk (Kd.R_take (m := ((l.length : Int) - n).toNat) h.row (by omega))
  have hcell : w.cell? ⟨g, 1, none⟩ = some (.slice A l.length c) := (blk_cell h.blk 1).trans rfl
  have hlt : decide ((l.length : Int) < n) = false := decide_eq_false (by omega)
  clear h he_ hC hC1 hys hyl hc1 hi hz0 hz1 hz2
  have hs0 : 0 ≤ (l.length : Int) - n := by omega
  have hs2 : (l.length : Int) - n ≤ l.length := by omega
  have HW := Aside0.mk (show IntKind.i64.wrap ((l.length : Int) - n) = (l.length : Int) - n from IntWalk.i64_in _ (by omega))
  go_enter Try.func44, Try.ntmps44
  go_wp2
  go_still_tail 11, (by kernel_rfl)
  change wpList _ _ _ _ _ w.drew
  simp only [HW.out]
  go_wp2_with ((with_reducible refine gate_callee (f := 52) rfl ?_); refine goesL_ (some 26) rfl rfl Try.func52 (by kernel_rfl) rfl #[.slice A1 ys.length c1] rfl (by (try simp only [List.map_toArray, List.map_cons, List.map_nil]); rfl) ?_; (refine (HC2.out _ (below_drew (Below.refl _ _))).mono ?_); rintro e w2 ⟨v0, rfl, ho, hb⟩; refine ⟨_, rfl, ?_⟩; have HO := Aside0.mk ho; have HBc := Aside0.mk hb; have HS2 := Aside0.mk ((HS.out.drewN 1).step hb); have hcell2 : w2.cell? ⟨g, 1, none⟩ = some (.slice A l.length c) := (blk_cell HS2.out.blk 1).trans rfl; have hfr2 := blk_frozen HS2.out.blk 1; clear hb ho hcell)
  clear hcut
  have hcut3 : ∀ W : World, (Instr.slice 47 (.slice A l.length c) none (some (.int .i64 (IntKind.i64.wrap ((l.length : Int) - n)))) none).run Try.prog W = .ok (.slice A ((l.length : Int) - n).toNat c) W := by rw [HW.out]; exact hcut2
  go_still_tail 13, (by kernel_rfl)
  change wpList _ _ _ _ _ (World.drew _)
  go_wp2
  go_ret2
  refine ⟨v0, .slice A ((l.length : Int) - n).toNat c, rfl, ?_, ?_, ?_⟩
  · rw [← HY.out]
    exact Kd.R_drew (Kd.R_mono (Kd.R_far (Kd.R_mono (Kd.R_bound HO.out) (fun k hk => (show k ≠ g from fun e => by have h1 := hk.2.1; have h2 := HS.out.lt; rw [e] at h1; exact absurd h1 (Nat.not_le_of_lt h2)))) (fun k hk => hk) _) (fun _ _ => trivial))
  · exact HS2.out.cut (by omega)
  · intro b hb hne
    exact (Below.heap_setCell w2 ⟨g, 1, none⟩ _ b hne).trans (HBc.out.block b hb)



/-! ### slices_IndexFunc_int_int: function 82, by hand -/
-- see expr.all


/-! ### slices_ContainsFunc_int_int: function 71, by hand -/
-- see expr.all


/-! ### expr_all: function 53, by hand -/
def idx (p : Int → Bool) (l : List Int) : Int := match l.findIdx? p with | some i => (i : Int) | none => -1
theorem idx_at {p : Int → Bool} {l : List Int} {k : Nat} (hk : k < l.length) (h0 : ∀ j, j < k → p (rd l j) = false) (h1 : p (rd l k) = true) : idx p l = k := by
  have e : l.findIdx? p = some k := by
    rw [List.findIdx?_eq_some_iff_getElem]
    refine ⟨hk, ?_, fun j hj => ?_⟩
    · unfold rd at h1; rw [Int.toNat_natCast, List.getD_eq_getElem?_getD, List.getElem?_eq_getElem hk] at h1; exact h1
    · have := h0 j hj
      unfold rd at this; rw [Int.toNat_natCast, List.getD_eq_getElem?_getD, List.getElem?_eq_getElem (by omega)] at this
      simpa using this
  unfold idx; rw [e]
theorem idx_more {p : Int → Bool} {l : List Int} {k : Nat} (h0 : ∀ j, j < k → p (rd l (j : Nat)) = false) (h1 : p (rd l (k : Nat)) = false) : ∀ j, j < k + 1 → p (rd l (j : Nat)) = false := by
  intro j hj
  rcases Nat.lt_or_ge j k with h | h
  · exact h0 j h
  · obtain rfl : j = k := by omega
    exact h1
theorem idx_none {p : Int → Bool} {l : List Int} (h0 : ∀ j, j < l.length → p (rd l (j : Nat)) = false) : idx p l = -1 := by
  have e : l.findIdx? p = none := by
    rw [List.findIdx?_eq_none_iff]
    intro x hx
    obtain ⟨j, hj, rfl⟩ := List.mem_iff_getElem.1 hx
    have := h0 j hj
    unfold rd at this; rw [Int.toNat_natCast, List.getD_eq_getElem?_getD, List.getElem?_eq_getElem hj] at this
    exact this
  unfold idx; rw [e]
set_option maxHeartbeats 1000000 in
set_option maxRecDepth 100000 in
theorem index_calls {F : FuncId} {fn : Func} (hf : Try.prog.funcs[F]? = some fn) (hname : (fn.name == "runtime.NumGoroutine") = false) (hb : fn.body.isSome = true) (cap : Array Value) (p : Int → Bool) (A : Option Addr) (c : Nat) (l : List Int) (w : World) (hr : Kd.C (Kd.int .i64) w A l.length l) (hc : l.length ≤ c)
    (hp : ∀ x W, Below w.heap.size w W → Calls Try.prog F (#[.int .i64 x] ++ cap) W fun e W' => e = .returned (.bool (p x)) ∧ Below W.heap.size W W') :
    Calls Try.prog 82 #[.slice A l.length c, .func (.func F) #[] cap] w fun e w' => e = .returned (.int .i64 (idx p l)) ∧ Below w.heap.size w w' := by
  have HP := Aside0.mk hp
  have hr' := Aside0.mk hr
  have hlen := hr.2.1
  have HF := Aside0.mk hf
  have HN := Aside0.mk hname
  have HBd := Aside0.mk hb
  clear hr hp hf hname hb
  go_enter Try.func82, Try.ntmps82
  go_wp2
  go_loopw [8] (fun v8 wr => ∃ k : Nat, v8 = .int .i64 k ∧ k ≤ l.length ∧ Aside0 (∀ j, j < k → p (rd l j) = false) ∧ Aside0 (Below w.heap.size w wr)) (fun v8 _ => l.length - (intOf v8).toNat)
  case atStart => exact ⟨0, rfl, Nat.zero_le _, ⟨fun j hj => by omega⟩, ⟨Below.refl _ _⟩⟩
  case round =>
    obtain ⟨k, rfl, hk, hn, HB⟩ := hrel
    by_cases hlt : k < l.length
    · obtain ⟨ad, rfl, hcell⟩ := Kd.at_int (Kd.C_below hr'.out HB.out) (k : Int) (by omega) (by omega)
      rw [Int.toNat_natCast] at hcell
      have hi0 : (0 : Int) ≤ k := by omega
      have hi1 : (k : Int) < l.length := by omega
      have hlt1 : decide ((k : Int) < l.length) = true := decide_eq_true hi1
      have HC := HP.out (rd l k) wr HB.out
      have HC2 := Aside0.mk HC
      clear hlt HC
      cases hpk : p (rd l k) with
      | false =>
        rw [hpk] at HC2
        have HPK := Aside0.mk hpk
        clear hpk
        go_wp2_with (refine Go.Proofs.Ytmamkmolgbmmaaa.Hand.goesV_ (some 16) rfl rfl HF.out HN.out HBd.out (#[.int .i64 (rd l k)] ++ cap) rfl rfl (by simp only [List.map_toArray, List.map_cons, List.map_nil]; rfl) ?_; refine HC2.out.mono ?_; rintro e w' ⟨rfl, hb⟩; refine ⟨_, rfl, ?_⟩; have HB2 := Aside0.mk (below_then HB.out HB.out.size hb); clear hb HB)
        go_roundw
        case rel => exact ⟨k + 1, by go_num, by omega, ⟨idx_more hn.out HPK.out⟩, HB2⟩
        case measure => simp [intOf]; omega
      | true =>
        rw [hpk] at HC2
        have HPK := Aside0.mk (idx_at (by omega) hn.out hpk)
        clear hpk
        go_wp2_with (refine Go.Proofs.Ytmamkmolgbmmaaa.Hand.goesV_ (some 16) rfl rfl HF.out HN.out HBd.out (#[.int .i64 (rd l k)] ++ cap) rfl rfl (by simp only [List.map_toArray, List.map_cons, List.map_nil]; rfl) ?_; refine HC2.out.mono ?_; rintro e w' ⟨rfl, hb⟩; refine ⟨_, rfl, ?_⟩; have HB2 := Aside0.mk (below_then HB.out HB.out.size hb); clear hb HB)
        go_ret
        exact ⟨by rw [HPK.out]; rfl, HB2.out⟩
    · have hlt1 : decide ((k : Int) < l.length) = false := decide_eq_false (by omega)
      have hlt2 : decide (k < l.length) = false := decide_eq_false hlt
      have HI := Aside0.mk (idx_none (p := p) (l := l) (fun j hj => hn.out j (by omega)))
      clear hlt hk
      go_wp2
      go_ret
      exact ⟨by rw [HI.out]; rfl, HB.out⟩
set_option maxHeartbeats 1000000 in
set_option maxRecDepth 100000 in
theorem contains_calls {F : FuncId} {fn : Func} (hf : Try.prog.funcs[F]? = some fn) (hname : (fn.name == "runtime.NumGoroutine") = false) (hb : fn.body.isSome = true) (cap : Array Value) (p : Int → Bool) (A : Option Addr) (c : Nat) (l : List Int) (w : World) (hr : Kd.C (Kd.int .i64) w A l.length l) (hc : l.length ≤ c)
    (hp : ∀ x W, Below w.heap.size w W → Calls Try.prog F (#[.int .i64 x] ++ cap) W fun e W' => e = .returned (.bool (p x)) ∧ Below W.heap.size W W') :
    Calls Try.prog 71 #[.slice A l.length c, .func (.func F) #[] cap] w fun e w' => e = .returned (.bool (decide (0 ≤ idx p l))) ∧ Below w.heap.size w w' := by
  have HC := Aside0.mk (index_calls hf hname hb cap p A c l w hr hc hp)
  clear hr hp hf hname hb
  go_enter Try.func71, Try.ntmps71
  go_wp2_with ((with_reducible refine gate_callee (f := 82) rfl ?_); refine goesL_ (some 7) rfl rfl Try.func82 (by kernel_rfl) rfl #[.slice A l.length c, .func (.func F) #[] cap] rfl (by (try simp only [List.map_toArray, List.map_cons, List.map_nil]); rfl) ?_; (with_reducible refine HC.out.mono ?_); rintro e w' ⟨rfl, hb⟩; refine ⟨_, rfl, ?_⟩; have HB := Aside0.mk hb; clear hb)
  go_ret
  exact ⟨by first | rfl | simp, HB.out⟩
set_option maxHeartbeats 1000000 in
set_option maxRecDepth 100000 in
theorem all1_calls (x kind : Int) (b : Nat) (w : World) (hc : w.cell? ⟨b, 0, none⟩ = some (.int .i64 kind)) :
    Calls Try.prog 72 (#[.int .i64 x] ++ #[.pointer (some ⟨b, 0, none⟩)]) w fun e w' => e = .returned (.bool (x != kind)) ∧ Below w.heap.size w w' := by
  show Calls Try.prog 72 #[.int .i64 x, .pointer (some ⟨b, 0, none⟩)] w _
  go_enter Try.func72, Try.ntmps72
  go_wp2
  go_ret
  exact ⟨rfl, Below.refl _ _⟩
set_option maxHeartbeats 1000000 in
set_option maxRecDepth 100000 in
theorem all_calls0 (A : Option Addr) (c : Nat) (l : List Int) (kind : Int) (w : World) (hr : Kd.C (Kd.int .i64) w A l.length l) (hc : l.length ≤ c) :
    Calls Try.prog 53 #[.slice A l.length c, .int .i64 kind] w fun e w' => e = .returned (.bool (!decide (0 ≤ idx (fun k => k != kind) l))) ∧ Below w.heap.size w w' := by
  have hmf : ∀ (fn : Fn) (first cap : Array Value) (w : World), (Instr.makeFunc fn first cap).run Try.prog w = .ok (.func fn first cap) w := fun _ _ _ _ => rfl
  have HC := Aside0.mk (contains_calls (F := 72) Try.func72 (by kernel_rfl) rfl #[.pointer (some ⟨w.heap.size, 0, none⟩)] (fun k => k != kind) A c l (w.alloc (.cells #[.int .i64 kind] 3 (0, 0))) (Kd.C_below hr (below_alloc (Below.refl _ _) _)) hc (fun x W hb => all1_calls x kind w.heap.size W (pw_cell_below hb ((blk_cell (heap_alloc_new w _) 0).trans rfl))))
  clear hr
  go_enter Try.func53, Try.ntmps53
  go_wp2_with ((with_reducible refine gate_callee (f := 71) rfl ?_); refine goesL_ (some 7) rfl rfl Try.func71 (by kernel_rfl) rfl #[.slice A l.length c, .func (.func 72) #[] #[.pointer (some ⟨w.heap.size, 0, none⟩)]] rfl (by (try simp only [List.map_toArray, List.map_cons, List.map_nil]); rfl) ?_; (refine HC.out.mono ?_); rintro e w' ⟨rfl, hb⟩; refine ⟨_, rfl, ?_⟩; have HB := Aside0.mk (below_then (below_alloc (Below.refl _ _) _) (by simp) hb); clear hb)
  go_ret
  exact ⟨by first | rfl | simp, HB.out⟩
theorem idx_all (l : List Int) (a : Int) : (!decide (0 ≤ idx (fun k => k != a) l)) = l.all (fun k => k == a) := by
  by_cases h : ∃ j, ∃ hj : j < l.length, l[j] ≠ a
  · have hf : (l.findIdx? (fun k => k != a)).isSome = true := by
      rw [List.findIdx?_isSome, List.any_eq_true]
      obtain ⟨j, hj, h⟩ := h
      exact ⟨l[j], List.getElem_mem hj, by simpa using h⟩
    obtain ⟨i, hi⟩ := Option.isSome_iff_exists.1 hf
    have h2 : l.all (fun k => k == a) = false := by
      rw [List.all_eq_false]
      obtain ⟨j, hj, h⟩ := h
      exact ⟨l[j], List.getElem_mem hj, by simpa using h⟩
    rw [h2]
    unfold idx
    rw [hi]
    simp
  · have h1 : ∀ x ∈ l, x = a := by
      intro x hx
      obtain ⟨j, hj, rfl⟩ := List.mem_iff_getElem.1 hx
      exact Decidable.byContradiction fun hne => h ⟨j, hj, hne⟩
    have hf : l.findIdx? (fun k => k != a) = none := by
      rw [List.findIdx?_eq_none_iff]
      intro x hx
      rw [h1 x hx]; simp
    have h2 : l.all (fun k => k == a) = true := by
      rw [List.all_eq_true]
      intro x hx
      rw [h1 x hx]; simp
    rw [h2]
    unfold idx
    rw [hf]
    simp
def expr_all.f (l0 : List Int) (a1 : Int) : Option (Bool) := some (l0.all (fun k => k == a1))
theorem expr_all.calls (A0 : Option Addr) (c0 : Nat) (l0 : List Int) (a1 : Int) (r : Bool) (w : World) (hr0 : Kd.C (Kd.int .i64) w A0 l0.length l0) (hc0 : l0.length ≤ c0) (h : expr_all.f l0 a1 = some r) :
    Calls Try.prog 53 #[.slice A0 l0.length c0, .int .i64 a1] w fun e w' => e = .returned (.bool r) ∧ Below w.heap.size w w' := by
  have h1 := all_calls0 A0 c0 l0 a1 w hr0 hc0
  rw [idx_all, Option.some.inj h] at h1
  exact h1


end Go.Proofs.Ytmamkmolgbmmaaa.QExprKinds
