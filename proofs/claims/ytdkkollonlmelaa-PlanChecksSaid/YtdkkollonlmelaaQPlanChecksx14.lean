-- Written by this session's own program (wip/tools/ownprint.sh)
import Derived.Test.YtdkkollonlmelaaQPlanChecksx0
import Derived.Test.YtdkkollonlmelaaQPlanChecksx5
import Derived.Test.YtdkkollonlmelaaQPlanChecksx12
import Derived.Test.YtdkkollonlmelaaQPlanChecksx13
namespace Go.Proofs.Ytdkkollonlmelaa.QPlanChecks
open Go.RowKit Go.Proofs.YtdkkollonlmelaaW.PrintWords Go.Proofs.YtdkkollonlmelaaW.PrintLast Go.Proofs.YtdkkollonlmelaaW.PrintMore
attribute [local go_sem] max2_int min2_int max_two min_two max_three min_three max_four min_four Go.Proofs.Ytdkkollonlmelaa.Hand.str_gtr Go.Proofs.Ytdkkollonlmelaa.Hand.str_leq Go.Proofs.Ytdkkollonlmelaa.Hand.str_geq   -- for this text's walks alone
set_option linter.unusedVariables false
set_option maxHeartbeats 8000000
set_option maxRecDepth 100000
set_option linter.unusedSimpArgs false

/-! ### runnelref08_fits: function 159 -/
def runnelref08_fits.j0 : Nat → Int → List Int → Int → Bool → Option (Bool)
 | 0, _, _, _, _ => none
 | k + 1, x0, x1, x5, x6 => if x6 = true then (if 0 < (x1.length : Int) then (if 1 < (x1.length : Int) then (some ((rd x1 0) == (rd x1 1))) else (none)) else (none)) else (if x5 = 14 then (if 0 < (x1.length : Int) then (if (rd x1 0) = 0 then (if 1 < (x1.length : Int) then (if 2 < (x1.length : Int) then (some ((rd x1 1) == (rd x1 2))) else (none)) else (none)) else (some false)) else (none)) else ((runnelref08_kind.f k x0 x1).bind fun t210 => (some (decide (t210 ≥ 0)))))
def runnelref08_fits.f (k : Nat) (a0 : Int) (l1 : List Int) : Option (Bool) := if a0 = 9 then (runnelref08_fits.j0 k a0 l1 a0 (a0 == 9)) else (if a0 = 10 then (runnelref08_fits.j0 k a0 l1 a0 (a0 == 10)) else (if a0 = 17 then (runnelref08_fits.j0 k a0 l1 a0 (a0 == 17)) else (runnelref08_fits.j0 k a0 l1 a0 (a0 == 18))))
theorem runnelref08_fits.calls (k : Nat) (a0 : Int) (A1 : Option Addr) (c1 : Nat) (l1 : List Int) (r : Bool) (w : World) (hr1 : Kd.C (Kd.int .i64) w A1 l1.length l1) (hc1 : l1.length ≤ c1) (h : runnelref08_fits.f k a0 l1 = some r) :
  Calls Try.prog 159 #[.int .i64 a0, .slice A1 l1.length c1] w fun e w' => e = .returned (.bool r) ∧ Drawn0 w w' := by
 have HR1 := zz hr1
 have HC1 := zz hc1
 clear hr1 hc1
 have H := h
 unfold runnelref08_fits.f at H
 clear h
 have HC3 := zz H
 clear H
 go_enter Try.func159, Try.ntmps159
 go_upto_if 6 with (fail)
 repeat (go_quiet (fail); go_upto_if 6 with (fail))
 go_cut [6] (fun v6 wc => ∃ (kq : Nat) (x6_2 : Bool), v6 = .bool x6_2 ∧ Aside0 (runnelref08_fits.j0 kq a0 l1 a0 x6_2 = some r) ∧ Aside0 (kq ≤ k) ∧ Drawn0 w wc)
 case first =>
  have H := HC3.out
  clear HC3
  by_cases c4 : a0 = 9
  ·rw [if_pos c4] at H
   have c4b0 : (a0 == 9) = true := beq_iff_eq.mpr c4
   have c4b1 : (a0 != 9) = false := bne_eq_false_iff_eq.mpr c4
   clear c4
   (first | rw [c4b0] | (simp only [i64_w, i32_w]; rw [c4b0]) | skip)
   have H' := zz H
   clear H
   go_wp2
   repeat (go_quiet (fail); try go_wp2)
   go_meet
   case rel => exact ⟨_, ((a0 == 9)), (by first | rfl | (simp; done) | (simp [*]; done)), H', ⟨by first | omega | exact Nat.le_refl _⟩, by repeat (first | exact Drawn0.refl _ | apply Drawn0.step)⟩
  ·rw [if_neg c4] at H
   have c4b0 : (a0 == 9) = false := beq_eq_false_iff_ne.mpr c4
   have c4b1 : (a0 != 9) = true := bne_iff_ne.mpr c4
   (first | rw [c4b0] | (simp only [i64_w, i32_w]; rw [c4b0]) | skip)
   by_cases c5 : a0 = 10
   ·rw [if_pos c5] at H
    have c5b0 : (a0 == 10) = true := beq_iff_eq.mpr c5
    have c5b1 : (a0 != 10) = false := bne_eq_false_iff_eq.mpr c5
    clear c5
    have H' := zz H
    clear H
    go_wp2
    repeat (go_quiet (fail); try go_wp2)
    go_meet
    case rel => exact ⟨_, ((a0 == 10)), (by first | rfl | (simp; done) | (simp [*]; done)), H', ⟨by first | omega | exact Nat.le_refl _⟩, by repeat (first | exact Drawn0.refl _ | apply Drawn0.step)⟩
   ·rw [if_neg c5] at H
    have c5b0 : (a0 == 10) = false := beq_eq_false_iff_ne.mpr c5
    have c5b1 : (a0 != 10) = true := bne_iff_ne.mpr c5
    by_cases c6 : a0 = 17
    ·rw [if_pos c6] at H
     have c6b0 : (a0 == 17) = true := beq_iff_eq.mpr c6
     have c6b1 : (a0 != 17) = false := bne_eq_false_iff_eq.mpr c6
     clear c6
     have H' := zz H
     clear H
     go_wp2
     repeat (go_quiet (fail); try go_wp2)
     go_meet
     case rel => exact ⟨_, ((a0 == 17)), (by first | rfl | (simp; done) | (simp [*]; done)), H', ⟨by first | omega | exact Nat.le_refl _⟩, by repeat (first | exact Drawn0.refl _ | apply Drawn0.step)⟩
    ·rw [if_neg c6] at H
     have c6b0 : (a0 == 17) = false := beq_eq_false_iff_ne.mpr c6
     have c6b1 : (a0 != 17) = true := bne_iff_ne.mpr c6
     have H' := zz H
     clear H
     go_wp2
     repeat (go_quiet (fail); try go_wp2)
     go_meet
     case rel => exact ⟨_, ((a0 == 18)), (by first | rfl | (simp; done) | (simp [*]; done)), H', ⟨by first | omega | exact Nat.le_refl _⟩, by repeat (first | exact Drawn0.refl _ | apply Drawn0.step)⟩
 case rest =>
  clear HC3
  try clear c1
  obtain ⟨kq, x6_2, rfl, HA, HJ2, ⟨mc2, rfl⟩⟩ := hcut
  cases kq with
  | zero => exact absurd HA.out (by simp [runnelref08_fits.j0])
  | succ kj2 =>
   have H := HA.out
   clear HA
   simp only [runnelref08_fits.j0] at H
   by_cases c7 : x6_2 = true
   ·subst c7
    rw [if_pos rfl] at H
    by_cases c8 : 0 < (l1.length : Int)
    ·rw [if_pos c8] at H
     have c8b0 : decide (0 < (l1.length : Int)) = true := decide_eq_true c8
     have c8b1 : decide (0 < l1.length) = true := decide_eq_true (by omega)
     clear c8
     by_cases c9 : 1 < (l1.length : Int)
     ·rw [if_pos c9] at H
      have c9b0 : decide (1 < (l1.length : Int)) = true := decide_eq_true c9
      have c9b1 : decide (1 < l1.length) = true := decide_eq_true (by omega)
      clear c9
      obtain rfl := Option.some.inj H
      have p205 : 0 ≤ (0 : Int) := (by omega)
      have q205 : 0 < (l1.length : Int) := of_decide_eq_true (by first | (with_reducible assumption) | assumption)
      obtain ⟨ad205, e205, hx205_0⟩ := Kd.at_int HR1.out 0 p205 q205
      cases e205
      have qi205 : (0 < l1.length) = True := eq_true (by omega)
      (try rw [show ((0 : Int)).toNat = 0 from rfl] at hx205_0)
      (try rw [Addr.add_zero'] at hx205_0)
      replace p205 := eq_true p205
      replace q205 := eq_true q205
      have p206 : 0 ≤ (1 : Int) := (by omega)
      have q206 : 1 < (l1.length : Int) := of_decide_eq_true (by first | (with_reducible assumption) | assumption)
      obtain ⟨ad206, e206, hx206_0⟩ := Kd.at_int HR1.out 1 p206 q206
      obtain rfl : ad205 = ad206 := (by injection e206)
      (try simp only [show (1 : Int).toNat = 1 from rfl, Nat.reduceMul, Nat.reduceEqDiff, Go.Addr.add, ↓reduceIte] at hx206_0)
      have qi206 : (1 < l1.length) = True := eq_true (by omega)
      (try rw [show ((1 : Int)).toNat = 1 from rfl] at hx206_0)
      replace p206 := eq_true p206
      replace q206 := eq_true q206
      go_wp2
      repeat (go_quiet (fail); try go_wp2)
      go_ret
      exact ⟨by first | rfl | (simp; done) | (simp [*]; done), by repeat (first | exact Drawn0.refl _ | apply Drawn0.step)⟩
     ·rw [if_neg c9] at H
      exact absurd H (by simp)
    ·rw [if_neg c8] at H
     exact absurd H (by simp)
   ·replace c7 := Bool.eq_false_iff.mpr c7
    subst c7
    rw [if_neg (show ¬ (false = true) by decide)] at H
    by_cases c10 : a0 = 14
    ·rw [if_pos c10] at H
     have c10b0 : (a0 == 14) = true := beq_iff_eq.mpr c10
     have c10b1 : (a0 != 14) = false := bne_eq_false_iff_eq.mpr c10
     clear c10
     by_cases c11 : 0 < (l1.length : Int)
     ·rw [if_pos c11] at H
      have c11b0 : decide (0 < (l1.length : Int)) = true := decide_eq_true c11
      have c11b1 : decide (0 < l1.length) = true := decide_eq_true (by omega)
      clear c11
      by_cases c12 : (rd l1 0) = 0
      ·rw [if_pos c12] at H
       have c12b0 : ((rd l1 0) == 0) = true := beq_iff_eq.mpr c12
       have c12b1 : ((rd l1 0) != 0) = false := bne_eq_false_iff_eq.mpr c12
       clear c12
       by_cases c13 : 1 < (l1.length : Int)
       ·rw [if_pos c13] at H
        have c13b0 : decide (1 < (l1.length : Int)) = true := decide_eq_true c13
        have c13b1 : decide (1 < l1.length) = true := decide_eq_true (by omega)
        clear c13
        by_cases c14 : 2 < (l1.length : Int)
        ·rw [if_pos c14] at H
         have c14b0 : decide (2 < (l1.length : Int)) = true := decide_eq_true c14
         have c14b1 : decide (2 < l1.length) = true := decide_eq_true (by omega)
         clear c14
         obtain rfl := Option.some.inj H
         have p207 : 0 ≤ (0 : Int) := (by omega)
         have q207 : 0 < (l1.length : Int) := of_decide_eq_true (by first | (with_reducible assumption) | assumption)
         obtain ⟨ad207, e207, hx207_0⟩ := Kd.at_int HR1.out 0 p207 q207
         cases e207
         have qi207 : (0 < l1.length) = True := eq_true (by omega)
         (try rw [show ((0 : Int)).toNat = 0 from rfl] at hx207_0)
         (try rw [Addr.add_zero'] at hx207_0)
         replace p207 := eq_true p207
         replace q207 := eq_true q207
         have p208 : 0 ≤ (1 : Int) := (by omega)
         have q208 : 1 < (l1.length : Int) := of_decide_eq_true (by first | (with_reducible assumption) | assumption)
         obtain ⟨ad208, e208, hx208_0⟩ := Kd.at_int HR1.out 1 p208 q208
         obtain rfl : ad207 = ad208 := (by injection e208)
         (try simp only [show (1 : Int).toNat = 1 from rfl, Nat.reduceMul, Nat.reduceEqDiff, Go.Addr.add, ↓reduceIte] at hx208_0)
         have qi208 : (1 < l1.length) = True := eq_true (by omega)
         (try rw [show ((1 : Int)).toNat = 1 from rfl] at hx208_0)
         replace p208 := eq_true p208
         replace q208 := eq_true q208
         have p209 : 0 ≤ (2 : Int) := (by omega)
         have q209 : 2 < (l1.length : Int) := of_decide_eq_true (by first | (with_reducible assumption) | assumption)
         obtain ⟨ad209, e209, hx209_0⟩ := Kd.at_int HR1.out 2 p209 q209
         obtain rfl : ad207 = ad209 := (by injection e209)
         (try simp only [show (2 : Int).toNat = 2 from rfl, Nat.reduceMul, Nat.reduceEqDiff, Go.Addr.add, ↓reduceIte] at hx209_0)
         have qi209 : (2 < l1.length) = True := eq_true (by omega)
         (try rw [show ((2 : Int)).toNat = 2 from rfl] at hx209_0)
         replace p209 := eq_true p209
         replace q209 := eq_true q209
         go_wp2
         repeat (go_quiet (fail); try go_wp2)
         go_ret
         exact ⟨by first | rfl | (simp; done) | (simp [*]; done), by repeat (first | exact Drawn0.refl _ | apply Drawn0.step)⟩
        ·rw [if_neg c14] at H
         exact absurd H (by simp)
       ·rw [if_neg c13] at H
        exact absurd H (by simp)
      ·rw [if_neg c12] at H
       have c12b0 : ((rd l1 0) == 0) = false := beq_eq_false_iff_ne.mpr c12
       have c12b1 : ((rd l1 0) != 0) = true := bne_iff_ne.mpr c12
       obtain rfl := Option.some.inj H
       have p207 : 0 ≤ (0 : Int) := (by omega)
       have q207 : 0 < (l1.length : Int) := of_decide_eq_true (by first | (with_reducible assumption) | assumption)
       obtain ⟨ad207, e207, hx207_0⟩ := Kd.at_int HR1.out 0 p207 q207
       cases e207
       have qi207 : (0 < l1.length) = True := eq_true (by omega)
       (try rw [show ((0 : Int)).toNat = 0 from rfl] at hx207_0)
       (try rw [Addr.add_zero'] at hx207_0)
       replace p207 := eq_true p207
       replace q207 := eq_true q207
       go_wp2
       repeat (go_quiet (fail); try go_wp2)
       go_ret
       exact ⟨by first | rfl | (simp; done) | (simp [*]; done), by repeat (first | exact Drawn0.refl _ | apply Drawn0.step)⟩
     ·rw [if_neg c11] at H
      exact absurd H (by simp)
    ·rw [if_neg c10] at H
     have c10b0 : (a0 == 14) = false := beq_eq_false_iff_ne.mpr c10
     have c10b1 : (a0 != 14) = true := bne_iff_ne.mpr c10
     obtain ⟨t210, A150, H⟩ := Option.bind_eq_some_iff.mp H
     try dsimp only at H
     have A15 := zz A150
     clear A150
     obtain rfl := Option.some.inj H
     go_wp2_with (first | (go_at_call 160; (with_reducible refine (runnelref08_kind.calls kj2 a0 _ _ l1 t210 _ ?side1 ?side2 A15.out).mono ?_); (case side1 => repeat (first | exact HR1.out | (with_reducible refine Kd.C_alloc ?_ _) | (with_reducible refine Kd.C_drewN ?_ _) | (with_reducible refine Kd.C_drew ?_))); (case side2 => exact HC1.out); rintro e w' ⟨rfl, ⟨nd, rfl⟩⟩; (try first | exact ⟨rfl, _, World.drewN_drewN _ _ _⟩ | exact ⟨rfl, _, Eq.trans (World.drewN_drewN _ _ _) (congrArg (World.drewN _) (Nat.add_assoc _ _ _))⟩)))
     repeat (go_quiet (first | (go_at_call 160; (with_reducible refine (runnelref08_kind.calls kj2 a0 _ _ l1 t210 _ ?side1 ?side2 A15.out).mono ?_); (case side1 => repeat (first | exact HR1.out | (with_reducible refine Kd.C_alloc ?_ _) | (with_reducible refine Kd.C_drewN ?_ _) | (with_reducible refine Kd.C_drew ?_))); (case side2 => exact HC1.out); rintro e w' ⟨rfl, ⟨nd, rfl⟩⟩; (try first | exact ⟨rfl, _, World.drewN_drewN _ _ _⟩ | exact ⟨rfl, _, Eq.trans (World.drewN_drewN _ _ _) (congrArg (World.drewN _) (Nat.add_assoc _ _ _))⟩))); try go_wp2_with (first | (go_at_call 160; (with_reducible refine (runnelref08_kind.calls kj2 a0 _ _ l1 t210 _ ?side1 ?side2 A15.out).mono ?_); (case side1 => repeat (first | exact HR1.out | (with_reducible refine Kd.C_alloc ?_ _) | (with_reducible refine Kd.C_drewN ?_ _) | (with_reducible refine Kd.C_drew ?_))); (case side2 => exact HC1.out); rintro e w' ⟨rfl, ⟨nd, rfl⟩⟩; (try first | exact ⟨rfl, _, World.drewN_drewN _ _ _⟩ | exact ⟨rfl, _, Eq.trans (World.drewN_drewN _ _ _) (congrArg (World.drewN _) (Nat.add_assoc _ _ _))⟩))))
     go_ret
     exact ⟨by first | rfl | (simp; done) | (simp [*]; done), by repeat (first | exact Drawn0.refl _ | apply Drawn0.step)⟩


/-! ### runnelref08_Type: function 133, by hand -/
def refK (k : Nat) (cols : List Int) (o n : Int) (l : List Int) : Option (Int × Int) := if o = 0 then some (0, rd cols n) else if o = 2 then some (0, 1) else if o > 2 then (runnelref08_fits.f k o l).bind fun b => if b = true then (runnelref08_kind.f k o l).bind fun c => some (0, c) else some (80, 0) else some (0, 0)
def refE (o n m : Int) (s : ByteArray) : Int := if o < 0 ∨ o > 18 then 8 else if o = 0 ∧ (n < 0 ∨ n ≥ m) then 9 else if o = 2 ∧ (s.size : Int) > 4096 then 2 else 0
def refS (k : Nat) (cols : List Int) (o n : Int) (s : ByteArray) (st : List Int) : Option (Int × List Int) :=
 if refE o n cols.length s = 0 then (runnelref08_takes.f k o).bind fun a => if 0 ≤ a ∧ a ≤ 3 ∧ st.length ≤ 16 then (if (st.length : Int) - a < 0 then some (6, st) else (refK k cols o n (st.drop ((st.length : Int) - a).toNat)).bind fun r => if r.1 = 0 then (if (st.length : Int) - a ≥ 16 then some (3, st) else some (0, st.take ((st.length : Int) - a).toNat ++ [r.2])) else some (r.1, st)) else none
 else some (refE o n cols.length s, st)
def runnelref08_Type.l0 : Nat → List S128 → List Int → List Int → Int → Option (Int × Int × Int)
 | 0, _, _, _, _ => none
 | k + 1, x0, x1, st, i => if i < (x0.length : Int) then ((refS k x1 (rd_T128 x0 i).f0 (rd_T128 x0 i).f1 (rd_T128 x0 i).f2 st).bind fun r => if r.1 = 0 then runnelref08_Type.l0 k x0 x1 r.2 (i + 1) else some (0, r.1, i)) else if st.length = 1 then some (rd st 0, 0, (x0.length : Int)) else some (0, 6, (x0.length : Int))
def runnelref08_Type.f (k : Nat) (l0 : List S128) (l1 : List Int) : Option (Int × Int × Int) := if (l0.length : Int) = 0 then some (0, 1, 0) else if (l0.length : Int) > 64 then some (0, 3, 0) else runnelref08_Type.l0 k l0 l1 [] 0
structure RS (w0 w : World) (g : Nat) (o n : Int) (s : ByteArray) (v : Value) (l : List Int) : Prop where
 below : Below w0.heap.size w0 w
 blk : w.heap[g]? = some (.cells #[.int .i64 o, .int .i64 n, .string s] 128 (0, 0))
 row : Kd.R (Kd.int .i64) 3 w w0.heap.size (fun _ => True) v l
theorem RS.drewN {w0 w : World} {g : Nat} {o n : Int} {s : ByteArray} {v : Value} {l : List Int} (h : RS w0 w g o n s v l) (m : Nat) : RS w0 (w.drewN m) g o n s v l :=
 ⟨pw_below_drewN h.below m, blk_drewN h.blk m, Kd.R_drewN h.row m⟩
theorem RS.of_box {w0 w8 : World} {g : Nat} {o n : Int} {s : ByteArray} {v : Value} {l : List Int} (hb : Below w0.heap.size w0 w8) (hbx : w8.heap[g]? = some (.cells #[.int .i64 0, .int .i64 0, .string (⟨#[]⟩ : ByteArray)] 128 (0, 0))) (hr : Kd.R (Kd.int .i64) 3 w8 w0.heap.size (fun _ => True) v l) (hg : w0.heap.size ≤ g) :
  RS w0 (((w8.setCell ⟨g, 0, none⟩ (.int .i64 o)).setCell ⟨g, 1, none⟩ (.int .i64 n)).setCell ⟨g, 2, none⟩ (.string s)) g o n s v l :=
 ⟨below_set (below_set (below_set hb hg) hg) hg, blk_put (cs := #[.int .i64 o, .int .i64 n, .string (⟨#[]⟩ : ByteArray)]) (blk_put (cs := #[.int .i64 o, .int .i64 0, .string (⟨#[]⟩ : ByteArray)]) (blk_put (cs := #[.int .i64 0, .int .i64 0, .string (⟨#[]⟩ : ByteArray)]) hbx 0 _ rfl) 1 _ rfl) 2 _ rfl, Kd.R_mono (Kd.R_far (p := ⟨g, 2, none⟩) (Kd.R_far (p := ⟨g, 1, none⟩) (Kd.R_far (p := ⟨g, 0, none⟩) (Kd.R_types hr hbx (by decide)) (fun _ hk => hk.2) _) (fun _ hk => hk.2) _) (fun _ hk => hk.2) _) (fun _ _ => trivial)⟩
theorem runnelref08_Type.calls (k : Nat) (A0 : Option Addr) (c0 : Nat) (l0 : List S128) (A1 : Option Addr) (c1 : Nat) (l1 : List Int) (r1 : Int) (r2 : Int) (r3 : Int) (w : World) (hr0 : Kd.C k128 w A0 l0.length l0) (hc0 : l0.length ≤ c0) (hr1 : Kd.C (Kd.int .i64) w A1 l1.length l1) (hc1 : l1.length ≤ c1) (h : runnelref08_Type.f k l0 l1 = some (r1, r2, r3)) :
  Calls Try.prog 133 #[.slice A0 l0.length c0, .slice A1 l1.length c1] w fun e w' => e = .returned (.tuple #[.int .i64 r1, .int .i64 r2, .int .i64 r3]) ∧ Below w.heap.size w w' := by
 have huT := Try.underlying128
 have HR0 := zz hr0
 have HR1 := zz hr1
 have hlen := hr0.2.1
 clear hr0 hr1
 unfold runnelref08_Type.f at h
 by_cases z : (l0.length : Int) = 0
 ·rw [if_pos z] at h
  simp only [Option.some.injEq, Prod.mk.injEq] at h
  obtain ⟨rfl, rfl, rfl⟩ := h
  have e1 : ((l0.length : Int) == 0) = true := beq_iff_eq.mpr z
  have e2 : (l0.length == 0) = true := beq_iff_eq.mpr (by omega)
  clear z
  go_enter Try.func133, Try.ntmps133
  go_wp2
  go_ret3
  exact ⟨rfl, Below.refl _ _⟩
 rw [if_neg z] at h
 have e1 : ((l0.length : Int) == 0) = false := beq_eq_false_iff_ne.mpr z
 by_cases y : (l0.length : Int) > 64
 ·rw [if_pos y] at h
  simp only [Option.some.injEq, Prod.mk.injEq] at h
  obtain ⟨rfl, rfl, rfl⟩ := h
  have d1 : decide (64 < (l0.length : Int)) = true := decide_eq_true y
  have d2 : decide (64 < l0.length) = true := decide_eq_true (by omega)
  clear z y
  go_enter Try.func133, Try.ntmps133
  go_wp2
  go_ret3
  exact ⟨rfl, Below.refl _ _⟩
 rw [if_neg y] at h
 have d1 : decide (64 < (l0.length : Int)) = false := decide_eq_false y
 have d2 : decide (64 < l0.length) = false := decide_eq_false (by omega)
 have H := zz h
 clear z y h
 go_enter Try.func133, Try.ntmps133
 go_wp2
 go_loopg [7, 8] k (fun kq v7 v8 w' => ∃ (i : Int) (st : List Int), v8 = .int .i64 i ∧ 0 ≤ i ∧ i ≤ l0.length ∧ Aside0 (runnelref08_Type.l0 kq l0 l1 st i = some (r1, r2, r3)) ∧ Aside0 (kq ≤ k) ∧ Aside0 (Kd.R (Kd.int .i64) 3 w' w.heap.size (fun _ => True) v7 st) ∧ Aside0 (Below w.heap.size w w'))
 case atStart => exact ⟨0, [], rfl, by omega, by omega, H, ⟨Nat.le_refl _⟩, ⟨Kd.R_nil _ _ _ _ _⟩, ⟨Below.refl _ _⟩⟩
 case round =>
  clear H
  obtain ⟨i, st, rfl, hi0, hi1, HA, HK, HO, HB⟩ := hrel
  cases gk with
  | zero => exact absurd HA.out (by simp [runnelref08_Type.l0])
  | succ k1 =>
   have H := HA.out
   clear HA
   simp only [runnelref08_Type.l0] at H
   obtain ⟨Av, cv, hv⟩ := Kd.R_slice HO.out
   subst hv
   by_cases hlt : i < (l0.length : Int)
   ·rw [if_pos hlt] at H
    obtain ⟨⟨rc, rst⟩, hr, H⟩ := Option.bind_eq_some_iff.1 H
    have b1 : decide (i < (l0.length : Int)) = true := decide_eq_true hlt
    obtain ⟨ad, e_, hx0, hx1, hx2⟩ := at_T128 (Kd.C_below HR0.out HB.out) i hi0 hlt
    subst e_
    generalize (rd_T128 l0 i).f0 = o at hx0 hr
    generalize (rd_T128 l0 i).f1 = n at hx1 hr
    generalize (rd_T128 l0 i).f2 = s at hx2 hr
    have HH := zz H
    have HRR := zz hr
    clear H hr
    go_upto_region 10 with ((with_reducible refine gate_dst (N := 9) rfl ?_); (try (refine gate_guard (by rfl) ?_; dsimp only)); refine box_event ?hg (N := 9) ?hd (cs := #[.int .i64 0, .int .i64 0, .string (⟨#[]⟩ : ByteArray)]) (t := 128) ?hr ?_; (case hd => rfl); (case hg => rfl); (case hr => first | (go_simp; done) | (go_simp; rfl)); intro gb hg w8 hbox hb; have HO8 := zz (Kd.R_below HO.out hb); have HB8 := zz (below_step HB.out hb); have HX8 := zz hbox; have HG8 := zz ((by rw [hg]; exact (below_size HB.out)) : w.heap.size ≤ gb); obtain ⟨hcz0, hcz1, hcz2⟩ := three_cells HX8.out; have hfz0 := blk_frozen HX8.out 0; have hfz1 := blk_frozen HX8.out 1; have hfz2 := blk_frozen HX8.out 2; clear hb hbox hg)
    go_cut [35] (fun v35 wc => ∃ b : Bool, v35 = .bool b ∧ b = decide (o < 0 ∨ o > 18) ∧ Aside0 (RS w wc gb o n s (.slice Av st.length cv) st))
    case first =>
     by_cases c : o < 0
     ·have d : decide (o < 0) = true := decide_eq_true c
      have C := zz c
      clear c
      go_wp2
      go_meet
      case rel => exact ⟨true, rfl, (decide_eq_true (Or.inl C.out)).symm, ⟨RS.of_box HB8.out HX8.out HO8.out HG8.out⟩⟩
     ·have d : decide (o < 0) = false := decide_eq_false c
      have C := zz c
      clear c
      go_wp2
      go_meet
      case rel => exact ⟨decide (o > 18), rfl, decide_eq_decide.mpr ⟨Or.inr, fun h => by have := C.out; omega⟩, ⟨RS.of_box HB8.out HX8.out HO8.out HG8.out⟩⟩
    case rest =>
     obtain ⟨b, rfl, hb, HS⟩ := hcut
     clear hcz0 hcz1 hcz2 hfz0 hfz1 hfz2 hx0 hx1 hx2 HO8 HB8 HX8 HG8
     have hr := HRR.out
     have H := HH.out
     clear HRR HH
     have hcz0 : wc.cell? ⟨gb, 0, none⟩ = some (.int .i64 o) := (blk_cell HS.out.blk 0).trans rfl
     have hcz1 : wc.cell? ⟨gb, 1, none⟩ = some (.int .i64 n) := (blk_cell HS.out.blk 1).trans rfl
     have hcz2 : wc.cell? ⟨gb, 2, none⟩ = some (.string s) := (blk_cell HS.out.blk 2).trans rfl
     have hfz0 := blk_frozen HS.out.blk 0
     have hfz1 := blk_frozen HS.out.blk 1
     have hfz2 := blk_frozen HS.out.blk 2
     unfold refS at hr
     by_cases c8 : o < 0 ∨ o > 18
     ·have hE : refE o n l1.length s = 8 := if_pos c8
      rw [hE, if_neg (by decide)] at hr
      simp only [Option.some.injEq, Prod.mk.injEq] at hr
      obtain ⟨rfl, rfl⟩ := hr
      rw [if_neg (by simp)] at H
      simp only [Option.some.injEq, Prod.mk.injEq] at H
      obtain ⟨rfl, rfl, rfl⟩ := H
      rw [decide_eq_true c8] at hb
      subst hb
      clear c8 hE
      go_wp2
      go_ret3
      exact ⟨rfl, HS.out.below⟩
     rw [decide_eq_false c8] at hb
     subst hb
     by_cases c9 : o = 0 ∧ (n < 0 ∨ n ≥ (l1.length : Int))
     ·have hE : refE o n l1.length s = 9 := (if_neg c8).trans (if_pos c9)
      rw [hE, if_neg (by decide)] at hr
      simp only [Option.some.injEq, Prod.mk.injEq] at hr
      obtain ⟨rfl, rfl⟩ := hr
      rw [if_neg (by simp)] at H
      simp only [Option.some.injEq, Prod.mk.injEq] at H
      obtain ⟨rfl, rfl, rfl⟩ := H
      obtain ⟨rfl, c9⟩ := c9
      clear hE c8
      by_cases n0 : n < 0
      ·have d : decide (n < 0) = true := decide_eq_true n0
       clear c9 n0
       go_wp2
       go_ret3
       exact ⟨rfl, HS.out.below⟩
      ·have d : decide (n < 0) = false := decide_eq_false n0
       have d' : decide ((l1.length : Int) ≤ n) = true := decide_eq_true (by omega)
       clear c9 n0
       go_wp2
       go_ret3
       exact ⟨rfl, HS.out.below⟩
     have hn9 : o = 0 → 0 ≤ n ∧ n < (l1.length : Int) := fun h => by omega
     have HN9 := zz hn9
     have C8 := zz c8
     have C9 := zz c9
     clear c8 c9 hn9
     have HRR := zz hr
     have HH := zz H
     clear hr H
     go_upto_region 12 with (fail)
     go_cut [51] (fun v51 wx => v51 = .bool false ∧ wx = wc)
     case first =>
      by_cases o0 : o = 0
      ·have dn := HN9.out o0
       subst o0
       have d1 : decide (n < 0) = false := decide_eq_false (by omega)
       have d2 : decide ((l1.length : Int) ≤ n) = false := decide_eq_false (by omega)
       clear dn
       go_wp2
       go_meet
       exact ⟨rfl, rfl⟩
      ·have d1 : (o == 0) = false := beq_eq_false_iff_ne.mpr o0
       clear o0
       go_wp2
       go_meet
       exact ⟨rfl, rfl⟩
     case rest =>
     obtain ⟨rfl, rfl⟩ := hcut
     go_upto_region 14 with (fail)
     go_cut [61] (fun v61 wx => ∃ b : Bool, v61 = .bool b ∧ b = decide (o = 2 ∧ (s.size : Int) > 4096) ∧ wx = wc)
     case first =>
      by_cases o2 : o = 2
      ·subst o2
       go_wp2
       go_meet
       exact ⟨_, rfl, by simp, rfl⟩
      ·have d1 : (o == 2) = false := beq_eq_false_iff_ne.mpr o2
       have O2 := zz o2
       clear o2
       go_wp2
       go_meet
       exact ⟨_, rfl, (decide_eq_false (fun h => O2.out h.1)).symm, rfl⟩
     case rest =>
     obtain ⟨b, rfl, hb, rfl⟩ := hcut
     have hr := HRR.out
     have H := HH.out
     clear HRR HH
     by_cases c2 : o = 2 ∧ (s.size : Int) > 4096
     ·have hE : refE o n l1.length s = 2 := (if_neg C8.out).trans ((if_neg C9.out).trans (if_pos c2))
      rw [hE, if_neg (by decide)] at hr
      simp only [Option.some.injEq, Prod.mk.injEq] at hr
      obtain ⟨rfl, rfl⟩ := hr
      rw [if_neg (by simp)] at H
      simp only [Option.some.injEq, Prod.mk.injEq] at H
      obtain ⟨rfl, rfl, rfl⟩ := H
      rw [decide_eq_true c2] at hb
      subst hb
      clear c2 hE
      go_wp2
      go_ret3
      exact ⟨rfl, HS.out.below⟩
     rw [decide_eq_false c2] at hb
     subst hb
     have hE : refE o n l1.length s = 0 := (if_neg C8.out).trans ((if_neg C9.out).trans (if_neg c2))
     rw [if_pos hE] at hr
     clear c2 hE
     obtain ⟨a, ha, hr⟩ := Option.bind_eq_some_iff.1 hr
     have HT := zz ha
     clear ha
     by_cases ga : 0 ≤ a ∧ a ≤ 3 ∧ st.length ≤ 16
     case neg => rw [if_neg ga] at hr; exact absurd hr (by simp)
     rw [if_pos ga] at hr
     obtain ⟨ga0, ga3, gl⟩ := ga
     obtain ⟨j, hj⟩ : ∃ j, j = (st.length : Int) - a := ⟨_, rfl⟩
     rw [← hj] at hr
     have hw : IntKind.i64.wrap ((st.length : Int) - a) = j := (IntWalk.i64_in _ (by omega)).trans hj.symm
     have HJ := zz hj
     clear hj
     by_cases cj : j < 0
     ·rw [if_pos cj] at hr
      simp only [Option.some.injEq, Prod.mk.injEq] at hr
      obtain ⟨rfl, rfl⟩ := hr
      rw [if_neg (by simp)] at H
      simp only [Option.some.injEq, Prod.mk.injEq] at H
      obtain ⟨rfl, rfl, rfl⟩ := H
      have d : decide (j < 0) = true := decide_eq_true cj
      clear cj ga0 ga3 gl
      go_wp2_with (go_at_call 134; (with_reducible refine (runnelref08_takes.calls k1 o a _ HT.out).mono ?_); rintro e w' ⟨rfl, ⟨nd, rfl⟩⟩)
      go_ret3
      exact ⟨rfl, pw_below_drewN HS.out.below nd⟩
     rw [if_neg cj] at hr
     obtain ⟨⟨re, kd⟩, hk, hr⟩ := Option.bind_eq_some_iff.1 hr
     have d : decide (j < 0) = false := decide_eq_false cj
     have hj0 : 0 ≤ j := by omega
     have hj1 : j ≤ (st.length : Int) := by have := HJ.out; omega
     have HKD := zz hk
     have HRR := zz hr
     have HH := zz H
     have GL := zz gl
     clear hk hr H cj gl ga0 ga3
     go_upto_if 74 with (go_at_call 134; (with_reducible refine (runnelref08_takes.calls k1 o a _ HT.out).mono ?_); rintro e w' ⟨rfl, ⟨nd, rfl⟩⟩; have HS2 := zz (HS.out.drewN nd); clear hcz0 hcz1 hcz2 hfz0 hfz1 hfz2; generalize wc.drewN nd = w2 at HS2 ⊢; have hcz0 : w2.cell? ⟨gb, 0, none⟩ = some (.int .i64 o) := (blk_cell HS2.out.blk 0).trans rfl; have hcz1 : w2.cell? ⟨gb, 1, none⟩ = some (.int .i64 n) := (blk_cell HS2.out.blk 1).trans rfl; have hcz2 : w2.cell? ⟨gb, 2, none⟩ = some (.string s) := (blk_cell HS2.out.blk 2).trans rfl; have hfz0 := blk_frozen HS2.out.blk 0; have hfz1 := blk_frozen HS2.out.blk 1; have hfz2 := blk_frozen HS2.out.blk 2)
     clear hw
     obtain ⟨i0, hi, hz0, hz1, hz2⟩ := info_parts info3
     obtain ⟨A_, c_, he_, hcc, hC⟩ := Kd.R_reads HS2.out.row
     obtain ⟨rfl, rfl⟩ : Av = A_ ∧ cv = c_ := by injection he_ with h1 h2 h3; exact ⟨h1, h3⟩
     obtain ⟨Ad, cd, hcutd, hCd, hcd⟩ := cut_front (P := Try.prog) (d := Kd.int .i64) 23 3 Try.underlying23 hi hz1 Av cv st j hj0 hj1 hcc
     have hcutt := cut_to (P := Try.prog) 23 3 .i64 Try.underlying23 hi Av st.length cv j hj0 hj1 hcc
     obtain ⟨zs, hzs⟩ : ∃ zs, zs = st.drop j.toNat := ⟨_, rfl⟩
     rw [← hzs] at hcutd hCd hcd
     have HZ := zz hzs
     clear hzs
     have HCD := zz (hCd _ hC)
     have HC0 := zz hcd
     have HCT := zz hcutt
     have HCF := zz hcutd
     clear hC hCd hcd hcc he_ hcutt hcutd
     go_cut [11] (fun v11 wx => v11 = .int .i64 kd ∧ re = 0 ∧ Aside0 (RS w wx gb o n s (.slice Av st.length cv) st))
     case first =>
      have hk := HKD.out
      rw [← HZ.out] at hk
      unfold refK at hk
      by_cases o0 : o = 0
      ·obtain ⟨n0, n1⟩ := HN9.out o0
       rw [if_pos o0] at hk
       simp only [Option.some.injEq, Prod.mk.injEq] at hk
       obtain ⟨rfl, rfl⟩ := hk
       obtain ⟨ad1, e_, hx⟩ := Kd.at_int (Kd.C_below HR1.out HS2.out.below) n n0 n1
       subst e_
       have hx' : w2.cell? (ad1.add n.toNat) = some (.int .i64 (rd l1 n)) := hx
       subst o0
       have HS3 := zz HS2.out
       have d0 : decide (0 ≤ n) = true := decide_eq_true n0
       have d1 : decide (n < (l1.length : Int)) = true := decide_eq_true n1
       clear hx
       go_wp2
       go_meet
       exact ⟨by first | rfl | trivial, by first | rfl | trivial, HS3⟩
      rw [if_neg o0] at hk
      have e0 : (o == 0) = false := beq_eq_false_iff_ne.mpr o0
      have O0 := zz o0
      clear o0
      by_cases o2 : o = 2
      ·rw [if_pos o2] at hk
       simp only [Option.some.injEq, Prod.mk.injEq] at hk
       obtain ⟨rfl, rfl⟩ := hk
       subst o2
       go_wp2
       go_meet
       exact ⟨by first | rfl | trivial, by first | rfl | trivial, HS2⟩
      rw [if_neg o2] at hk
      have e2 : (o == 2) = false := beq_eq_false_iff_ne.mpr o2
      clear o2
      by_cases ol : o > 2
      case neg =>
       rw [if_neg ol] at hk
       simp only [Option.some.injEq, Prod.mk.injEq] at hk
       obtain ⟨rfl, rfl⟩ := hk
       have d2 : decide (2 < o) = false := decide_eq_false ol
       clear ol
       go_wp2
       go_meet
       exact ⟨by first | rfl | trivial, by first | rfl | trivial, HS2⟩
      rw [if_pos ol] at hk
      have d2 : decide (2 < o) = true := decide_eq_true ol
      clear ol
      obtain ⟨b, hf, hk⟩ := Option.bind_eq_some_iff.1 hk
      have HF := zz hf
      have hcutf := HCF.out
      clear hf
      cases b with
      | false =>
       rw [if_neg (by decide)] at hk
       simp only [Option.some.injEq, Prod.mk.injEq] at hk
       obtain ⟨rfl, rfl⟩ := hk
       have hr := HRR.out
       rw [if_neg (by simp)] at hr
       simp only [Option.some.injEq, Prod.mk.injEq] at hr
       obtain ⟨rfl, rfl⟩ := hr
       have H := HH.out
       rw [if_neg (by simp)] at H
       simp only [Option.some.injEq, Prod.mk.injEq] at H
       obtain ⟨rfl, rfl, rfl⟩ := H
       go_wp2
       go_quiet ((go_at_call 159; (with_reducible refine (runnelref08_fits.calls k1 o Ad cd zs false _ ?side1 ?side2 HF.out).mono ?_); (case side1 => (repeat (first | exact HCD.out | refine Kd.C_drewN ?_ _ | refine Kd.C_drew ?_))); (case side2 => exact HC0.out); rintro e w' ⟨rfl, ⟨nd, rfl⟩⟩; (try first | exact ⟨rfl, _, World.drewN_drewN _ _ _⟩ | exact ⟨rfl, _, Eq.trans (World.drewN_drewN _ _ _) (congrArg (World.drewN _) (Nat.add_assoc _ _ _))⟩)))
       go_wp2
       go_ret3
       exact ⟨rfl, pw_below_drewN HS2.out.below _⟩
      | true =>
       rw [if_pos rfl] at hk
       obtain ⟨c, hkk, hk⟩ := Option.bind_eq_some_iff.1 hk
       simp only [Option.some.injEq, Prod.mk.injEq] at hk
       obtain ⟨rfl, rfl⟩ := hk
       have HK2 := zz hkk
       clear hkk
       go_wp2
       go_quiet ((go_at_call 159; (with_reducible refine (runnelref08_fits.calls k1 o Ad cd zs true _ ?side1 ?side2 HF.out).mono ?_); (case side1 => (repeat (first | exact HCD.out | refine Kd.C_drewN ?_ _ | refine Kd.C_drew ?_))); (case side2 => exact HC0.out); rintro e w' ⟨rfl, ⟨nd, rfl⟩⟩; (try first | exact ⟨rfl, _, World.drewN_drewN _ _ _⟩ | exact ⟨rfl, _, Eq.trans (World.drewN_drewN _ _ _) (congrArg (World.drewN _) (Nat.add_assoc _ _ _))⟩)))
       go_wp2
       have HS4 := zz (HS2.out.drewN nq)
       have HC4 := zz (Kd.C_drewN HCD.out nq)
       clear hcz0 hcz1 hcz2 hfz0 hfz1 hfz2
       generalize w2.drewN nq = w4 at HS4 HC4 ⊢
       have hcz0 : w4.cell? ⟨gb, 0, none⟩ = some (.int .i64 o) := (blk_cell HS4.out.blk 0).trans rfl
       have hfz0 := blk_frozen HS4.out.blk 0
       go_quiet ((go_at_call 160; (with_reducible refine (runnelref08_kind.calls k1 o Ad cd zs c _ ?side1 ?side2 HK2.out).mono ?_); (case side1 => (repeat (first | exact HC4.out | refine Kd.C_drewN ?_ _ | refine Kd.C_drew ?_))); (case side2 => exact HC0.out); rintro e w' ⟨rfl, ⟨nd, rfl⟩⟩; (try first | exact ⟨rfl, _, World.drewN_drewN _ _ _⟩ | exact ⟨rfl, _, Eq.trans (World.drewN_drewN _ _ _) (congrArg (World.drewN _) (Nat.add_assoc _ _ _))⟩)))
       go_wp2
       go_meet
       exact ⟨by first | rfl | trivial, by first | rfl | trivial, ⟨HS4.out.drewN _⟩⟩
     case rest =>
     obtain ⟨rfl, rfl, HS3⟩ := hcut
     clear HS HS2 hcz0 hcz1 hcz2 hfz0 hfz1 hfz2 HCD HC0 HCF HKD HT
     have hr := HRR.out
     have H := HH.out
     clear HRR HH
     rw [if_pos rfl] at hr
     by_cases c16 : j ≥ 16
     ·rw [if_pos c16] at hr
      simp only [Option.some.injEq, Prod.mk.injEq] at hr
      obtain ⟨rfl, rfl⟩ := hr
      rw [if_neg (by simp)] at H
      simp only [Option.some.injEq, Prod.mk.injEq] at H
      obtain ⟨rfl, rfl, rfl⟩ := H
      have d16 : decide (16 ≤ j) = true := decide_eq_true c16
      clear c16
      go_wp2
      go_ret3
      exact ⟨rfl, HS3.out.below⟩
     rw [if_neg c16] at hr
     simp only [Option.some.injEq, Prod.mk.injEq] at hr
     obtain ⟨rfl, rfl⟩ := hr
     rw [if_pos rfl] at H
     have HH := zz H
     clear H
     have d16 : decide (16 ≤ j) = false := decide_eq_false c16
     have hll : (st.take j.toNat).length ≤ 16 := by rw [List.length_take]; omega
     have hlj : (st.take j.toNat).length = j.toNat := by rw [List.length_take]; omega
     clear c16
     have hcutt := HCT.out
     have hCt := Kd.C_take (m := j.toNat) (Kd.R_reads' HS3.out.row).2.2 (by omega)
     obtain ⟨ys, hys⟩ : ∃ ys, ys = st.take j.toNat := ⟨_, rfl⟩
     rw [← hys] at hCt hll hlj
     rw [← hlj] at hcutt
     have hyc : ys.length ≤ cv := by have := (Kd.R_reads' HS3.out.row).2.1; omega
     have HYC := zz hyc
     have HYL := zz hll
     have HCt := zz hCt
     have HYS := zz hys
     clear hCt hll hlj hys hyc
     go_wp2_with (first | ((with_reducible refine gate_dst (N := 103) rfl ?_); (try (refine gate_guard (by rfl) ?_; dsimp only)); refine Kd.R_lit (Kd.int .i64) _ 3 ?hg (N := 103) ?hd (xs := ([] : List Int)) (inner := []) (ok := fun _ => True) (okp := fun _ => True) ?hr ?hp (fun _ hk => hk) trivial (Below.refl _ _) (Nat.le_refl _) (by simp) ?_; (case hd => rfl); (case hg => rfl); (case hr => first | (go_simp; done) | (go_simp; rfl)); (case hp => exact (Reps.none _ _)); intro v5 w5 ho hb hg_ hnew_; clear hg_ hnew_; have HO5 := zz (Kd.R_lower (Kd.R_mono (Kd.R_bound ho) (fun _ _ => trivial)) (below_size HS3.out.below)); have HB5 := zz (below_step HS3.out.below hb); have HC5 := zz (Kd.C_below HCt.out hb); clear ho hb) | ((with_reducible refine gate_builtin (b := .append) (xs := #[.tmp 103, .tmp 106]) rfl ?_); at_builtin; refine Kd.R_append_rows (Kd.int .i64) (w0 := w) w.heap.size rfl (.tmp 103) (.tmp 106) 23 3 (.int .i64 0) 8 rfl Try.underlying23 info3 rfl (by decide) (by omega) v5 [] ys _ _ _ (fun _ => True) (fun _ => False) rfl rfl ?aO ?aR (fun _ _ h => h) (fun _ h => h.elim) ?aF ?aB ?aS ?aL ?_; (case aR => exact HC5.out); (case aB => exact HB5.out); (case aF => exact (fun _ _ => trivial)); (case aO => exact HO5.out); (case aS => exact below_size HB5.out); (case aL => have := HYL.out; simp only [List.length_nil]; omega); intro v6 w6 ho hb hg hat; clear hg hat; simp only [List.nil_append] at ho; have HO6 := zz ho; have HB6 := zz hb; clear ho hb) | ((with_reducible refine gate_builtin (b := .append) (xs := #[.tmp 107, .tmp 109]) rfl ?_); at_builtin; refine Kd.R_append (Kd.int .i64) (w0 := w) w.heap.size rfl (.tmp 107) (.tmp 109) 23 3 (.int .i64 0) 8 rfl Try.underlying23 info3 rfl (by decide) (by omega) v6 ys kd [.int .i64 kd] (fun _ => True) (fun _ => False) rfl rfl ?aP (fun _ hk => hk.elim) ?aF ?aO ?aB ?aS ?aL ?_; (case aP => exact rfl); (case aB => exact (by repeat (first | exact HB6.out | apply below_alloc))); (case aF => exact (fun _ _ => trivial)); (case aO => exact (by repeat (first | exact HO6.out | apply Kd.R_alloc))); (case aS => exact (below_size (by repeat (first | exact HB6.out | apply below_alloc)))); (case aL => have := HYL.out; omega); intro v7 w7 ho hb hg hat; clear hg hat; have HO7 := zz ho; have HB7 := zz hb; clear ho hb))
     go_roundg k1
     case measure => have := HK.out; omega
     case rel => exact ⟨i + 1, ys ++ [kd], rfl, by omega, by omega, ⟨by rw [HYS.out]; exact HH.out⟩, ⟨by have := HK.out; omega⟩, HO7, HB7⟩
   ·rw [if_neg hlt] at H
    have b1 : decide (i < (l0.length : Int)) = false := decide_eq_false hlt
    by_cases e1 : st.length = 1
    ·rw [if_pos e1] at H
     simp only [Option.some.injEq, Prod.mk.injEq] at H
     obtain ⟨rfl, rfl, rfl⟩ := H
     obtain ⟨A_, c_, he_, hcc, hC⟩ := Kd.R_reads HO.out
     obtain ⟨rfl, rfl⟩ : Av = A_ ∧ cv = c_ := by injection he_ with h1 h2 h3; exact ⟨h1, h3⟩
     obtain ⟨ad, e_, hx⟩ := Kd.at_int hC 0 (by omega) (by omega)
     subst e_
     have hx' : wr.cell? ad = some (.int .i64 (rd st 0)) := hx
     clear hx hC he_ hlt
     rw [e1]
     go_wp2
     go_ret3
     exact ⟨rfl, HB.out⟩
    ·rw [if_neg e1] at H
     simp only [Option.some.injEq, Prod.mk.injEq] at H
     obtain ⟨rfl, rfl, rfl⟩ := H
     have f1 : ((st.length : Int) == 1) = false := beq_eq_false_iff_ne.mpr (by omega)
     have f2 : ((st.length : Int) != 1) = true := bne_iff_ne.mpr (by omega)
     have f3 : (st.length == 1) = false := beq_eq_false_iff_ne.mpr e1
     clear e1 hlt
     go_wp2
     go_ret3
     exact ⟨rfl, HB.out⟩


/-! ### runnelref16_mapped: function 90 -/
def runnelref16_mapped.l0 : Nat → List (List (S128)) → List Int → List Int → Int → Option (List Int × Int)
 | 0, _, _, _, _ => none
 | k + 1, x0, x1, x6, x7 => if x7 < (x0.length : Int) then (if 0 ≤ x7 then ((runnelref08_Type.f k (rd_L4 x0 x7) x1).bind fun bt212 => (if bt212.2.1 = 0 then (if x6.length < 17592186044416 then (runnelref16_mapped.l0 k x0 x1 (x6 ++ [bt212.1]) (wrap64 (x7 + 1))) else (none)) else (some (([] : List Int), bt212.2.1)))) else (none)) else (some (x6, 0))
def runnelref16_mapped.f (k : Nat) (l0 : List (List (S128))) (l1 : List Int) : Option (List Int × Int) := if (l0.length : Int) = 0 then (some (([] : List Int), 1)) else (if (l0.length : Int) > 16 then (some (([] : List Int), 3)) else (runnelref16_mapped.l0 k l0 l1 ([] : List Int) 0))
theorem runnelref16_mapped.calls (k : Nat) (A0 : Option Addr) (c0 : Nat) (l0 : List (List (S128))) (A1 : Option Addr) (c1 : Nat) (l1 : List Int) (r1 : List Int) (r2 : Int) (w : World) (hr0 : Kd.C (Kd.slice 128 k128) w A0 l0.length l0) (hc0 : l0.length ≤ c0) (hr1 : Kd.C (Kd.int .i64) w A1 l1.length l1) (hc1 : l1.length ≤ c1) (h : runnelref16_mapped.f k l0 l1 = some (r1, r2)) :
  Calls Try.prog 90 #[.slice A0 l0.length c0, .slice A1 l1.length c1] w fun e w' => ∃ v0_ : Value, e = .returned (.tuple #[v0_, .int .i64 r2]) ∧ Kd.R (Kd.int .i64) 3 w' w.heap.size (fun _ => True) v0_ r1 ∧ Below w.heap.size w w' := by
 have HR0 := zz hr0
 have HC0 := zz hc0
 clear hr0 hc0
 have HR1 := zz hr1
 have HC1 := zz hc1
 clear hr1 hc1
 have HB := zz (Below.refl w.heap.size w)
 have H := h
 unfold runnelref16_mapped.f at H
 clear h
 by_cases c3 : (l0.length : Int) = 0
 ·rw [if_pos c3] at H
  have c3b0 : ((l0.length : Int) == 0) = true := beq_iff_eq.mpr c3
  have c3b1 : ((l0.length : Int) != 0) = false := bne_eq_false_iff_eq.mpr c3
  clear c3
  simp only [Option.some.injEq, Prod.mk.injEq] at H
  obtain ⟨rfl, rfl⟩ := H
  go_enter Try.func90, Try.ntmps90
  go_wp2
  go_ret2
  exact ⟨_, by first | rfl | (simp [errW_none, errW_some] <;> rfl) | (simp [*, errW_none, errW_some] <;> rfl), by first | exact Kd.R_nil _ _ _ _ _ | exact Kd.N_nil _ _ _ _ _ | exact Kd.V_nil _ _ _ _ _ | exact Kd.Q_nil _ _ _ _ _ | exact Kd.S_nil _ _ _ _ _, bel HB.out⟩
 ·rw [if_neg c3] at H
  have c3b0 : ((l0.length : Int) == 0) = false := beq_eq_false_iff_ne.mpr c3
  have c3b1 : ((l0.length : Int) != 0) = true := bne_iff_ne.mpr c3
  have c3b2 : ¬ (l0 = []) := fun h_ => c3 (by rw [h_]; rfl)
  by_cases c4 : (l0.length : Int) > 16
  ·rw [if_pos c4] at H
   have c4b0 : decide (16 < (l0.length : Int)) = true := decide_eq_true c4
   have c4b1 : decide (16 < l0.length) = true := decide_eq_true (by omega)
   clear c4
   simp only [Option.some.injEq, Prod.mk.injEq] at H
   obtain ⟨rfl, rfl⟩ := H
   go_enter Try.func90, Try.ntmps90
   go_wp2
   go_ret2
   exact ⟨_, by first | rfl | (simp [errW_none, errW_some] <;> rfl) | (simp [*, errW_none, errW_some] <;> rfl), by first | exact Kd.R_nil _ _ _ _ _ | exact Kd.N_nil _ _ _ _ _ | exact Kd.V_nil _ _ _ _ _ | exact Kd.Q_nil _ _ _ _ _ | exact Kd.S_nil _ _ _ _ _, bel HB.out⟩
  ·rw [if_neg c4] at H
   have c4b0 : decide (16 < (l0.length : Int)) = false := decide_eq_false c4
   have c4b1 : decide (16 < l0.length) = false := decide_eq_false (by omega)
   clear c4
   have H' := zz H
   clear H
   go_enter Try.func90, Try.ntmps90
   go_wp2
   go_loopg [6, 7] k (fun kq v6 v7 w' => ∃ (x6_1 : List Int) (x7_1 : Int), v7 = .int .i64 x7_1 ∧ Aside0 (runnelref16_mapped.l0 kq l0 l1 x6_1 x7_1 = some (r1, r2)) ∧ Aside0 (kq ≤ k) ∧ Aside0 (Kd.R (Kd.int .i64) 3 w' w.heap.size (fun _ => True) v6 x6_1) ∧ Aside0 (Below w.heap.size w w'))
   case atStart => exact ⟨(([] : List Int)), (0), (by first | rfl | (simp; done) | (simp [*]; done)), H', ⟨Nat.le_refl _⟩, ⟨by first | exact Kd.R_nil _ _ _ _ _ | exact Kd.N_nil _ _ _ _ _ | exact Kd.V_nil _ _ _ _ _ | exact Kd.Q_nil _ _ _ _ _ | exact Kd.S_nil _ _ _ _ _⟩, ⟨bel HB.out⟩⟩
   case round =>
    clear H'
    try clear c1; try clear c3; try clear c3b0; try clear c3b1; try clear c3b2; try clear c4; try clear c4b0; try clear c4b1
    obtain ⟨x6_1, x7_1, rfl, HA, HK1, HO_6, HB⟩ := hrel
    cases gk with
    | zero => exact absurd HA.out (by simp [runnelref16_mapped.l0])
    | succ k1 =>
     have H := HA.out
     clear HA
     simp only [runnelref16_mapped.l0] at H
     by_cases c5 : x7_1 < (l0.length : Int)
     ·rw [if_pos c5] at H
      have c5b0 : decide (x7_1 < (l0.length : Int)) = true := decide_eq_true c5
      clear c5
      by_cases c6 : 0 ≤ x7_1
      ·rw [if_pos c6] at H
       have c6b0 : decide (0 ≤ x7_1) = true := decide_eq_true c6
       clear c6
       obtain ⟨⟨t212, t213, t214⟩, A70, H⟩ := Option.bind_eq_some_iff.mp H
       try dsimp only at H
       have A7 := zz A70
       clear A70
       by_cases c8 : t213 = 0
       ·rw [if_pos c8] at H
        have c8b0 : (t213 == 0) = true := beq_iff_eq.mpr c8
        have c8b1 : (t213 != 0) = false := bne_eq_false_iff_eq.mpr c8
        clear c8
        by_cases c9 : x6_1.length < 17592186044416
        ·rw [if_pos c9] at H
         have LMc9 := zz c9
         clear c9
         obtain ⟨y215, hy215⟩ : ∃ y_ : List Int, y_ = (x6_1 ++ [t212]) := ⟨_, rfl⟩
         replace H : (runnelref16_mapped.l0 k1 l0 l1 y215 (wrap64 (x7_1 + 1))) = some (r1, r2) := by first | (rw [hy215]; with_reducible exact H) | (have H2_ := (Option.bind_some _ _).symm.trans H; rw [hy215]; with_reducible exact H2_) | (have H2_ := (Option.bind_some _ _).symm.trans H; with_reducible exact H2_) | with_reducible exact H | (rw [hy215]; exact H) | exact H
         have Ny215 := zz hy215
         clear hy215
         have H' := zz H
         clear H
         have p211 : 0 ≤ (x7_1 : Int) := of_decide_eq_true (by first | (with_reducible assumption) | assumption)
         have q211 : x7_1 < (l0.length : Int) := of_decide_eq_true (by first | (with_reducible assumption) | assumption)
         obtain ⟨ad211, A211_0, c211_0, e211, hx211_0, hl211_0, hi211_0⟩ := at_L4 HR0.out x7_1 p211 q211
         cases e211
         replace hx211_0 := (HB.out.cell (World.block_lt_of_cell? w _ hx211_0)).trans hx211_0
         have HR211_0 := zz hi211_0
         have HC211_0 := zz hl211_0
         clear hi211_0 hl211_0
         replace p211 := eq_true p211
         replace q211 := eq_true q211
         go_wp2_with (first | ((with_reducible refine gate_callee (f := 133) rfl ?_); refine goesL_ (some 29) rfl rfl Try.func133 (by kernel_rfl) rfl #[.slice A211_0 (rd_L4 l0 x7_1).length c211_0, .slice A1 l1.length c1] rfl (by (try simp only [List.map_toArray, List.map_cons, List.map_nil]); first | done | rfl | (simp only [List.length_drop, List.length_take]; rfl)) ?_; (with_reducible refine (runnelref08_Type.calls k1 _ _ (rd_L4 l0 x7_1) _ _ l1 t212 t213 t214 _ ?side1 ?side2 ?side3 ?side4 A7.out).mono ?_); (case side1 => repeat (first | exact (Kd.C_below HR211_0.out HB.out) | (with_reducible refine Kd.C_alloc ?_ _) | (with_reducible refine Kd.C_drewN ?_ _) | (with_reducible refine Kd.C_drew ?_))); (case side2 => exact HC211_0.out); (case side3 => repeat (first | exact (Kd.C_below HR1.out HB.out) | (with_reducible refine Kd.C_alloc ?_ _) | (with_reducible refine Kd.C_drewN ?_ _) | (with_reducible refine Kd.C_drew ?_))); (case side4 => exact HC1.out); rintro e w10 ⟨rfl, hb⟩; refine ⟨_, rfl, ?_⟩; have n0_ := zz (Kd.R_below (rl HO_6.out) hb); have n1_ := zz (below_step (bel HB.out) hb); clear HO_6; clear HB; have HO_6 := n0_; have HB := n1_; clear n0_ n1_; (try clear hb); (try clear hb2); (try clear hk); (try clear hi)) | ((with_reducible refine gate_builtin (b := .append) (xs := #[.tmp 36, .tmp 38]) rfl ?_); at_builtin; refine Kd.R_append (Kd.int .i64) (w0 := w) w.heap.size rfl (.tmp 36) (.tmp 38) 23 3 (.int .i64 0) 8 rfl Try.underlying23 info3 rfl (by decide) (by omega) u6 x6_1 t212 [.int .i64 t212] (fun _ => True) (fun _ => False) rfl rfl ?aP (fun _ hk => hk.elim) ?aF ?aO ?aB ?aS ?aL ?_; (case aP => exact rfl); (case aB => exact (bel HB.out)); (case aF => exact (fun _ _ => trivial)); (case aO => exact (rl HO_6.out)); (case aS => exact (below_size (bel HB.out))); (case aL => have := LMc9.out; omega); intro v216 w11 ho hb hg hat; rw [← Ny215.out] at ho; have n0_ := zz (hb); have n1_ := zz (ho); clear HB; clear HO_6; have HB := n0_; have HO217 := n1_; clear n0_ n1_; clear ho hb hg hat))
         go_roundg k1
         case measure => have := HK1.out; omega
         case rel => exact ⟨(y215), (wrap64 (x7_1 + 1)), (by first | rfl | (simp; done) | (simp [*]; done)), H', ⟨by have := HK1.out; omega⟩, ⟨rl HO217.out⟩, ⟨bel HB.out⟩⟩
        ·rw [if_neg c9] at H
         exact absurd H (by simp)
       ·rw [if_neg c8] at H
        have c8b0 : (t213 == 0) = false := beq_eq_false_iff_ne.mpr c8
        have c8b1 : (t213 != 0) = true := bne_iff_ne.mpr c8
        simp only [Option.some.injEq, Prod.mk.injEq] at H
        obtain ⟨rfl, rfl⟩ := H
        have p211 : 0 ≤ (x7_1 : Int) := of_decide_eq_true (by first | (with_reducible assumption) | assumption)
        have q211 : x7_1 < (l0.length : Int) := of_decide_eq_true (by first | (with_reducible assumption) | assumption)
        obtain ⟨ad211, A211_0, c211_0, e211, hx211_0, hl211_0, hi211_0⟩ := at_L4 HR0.out x7_1 p211 q211
        cases e211
        replace hx211_0 := (HB.out.cell (World.block_lt_of_cell? w _ hx211_0)).trans hx211_0
        have HR211_0 := zz hi211_0
        have HC211_0 := zz hl211_0
        clear hi211_0 hl211_0
        replace p211 := eq_true p211
        replace q211 := eq_true q211
        go_wp2_with (first | ((with_reducible refine gate_callee (f := 133) rfl ?_); refine goesL_ (some 29) rfl rfl Try.func133 (by kernel_rfl) rfl #[.slice A211_0 (rd_L4 l0 x7_1).length c211_0, .slice A1 l1.length c1] rfl (by (try simp only [List.map_toArray, List.map_cons, List.map_nil]); first | done | rfl | (simp only [List.length_drop, List.length_take]; rfl)) ?_; (with_reducible refine (runnelref08_Type.calls k1 _ _ (rd_L4 l0 x7_1) _ _ l1 t212 t213 t214 _ ?side1 ?side2 ?side3 ?side4 A7.out).mono ?_); (case side1 => repeat (first | exact (Kd.C_below HR211_0.out HB.out) | (with_reducible refine Kd.C_alloc ?_ _) | (with_reducible refine Kd.C_drewN ?_ _) | (with_reducible refine Kd.C_drew ?_))); (case side2 => exact HC211_0.out); (case side3 => repeat (first | exact (Kd.C_below HR1.out HB.out) | (with_reducible refine Kd.C_alloc ?_ _) | (with_reducible refine Kd.C_drewN ?_ _) | (with_reducible refine Kd.C_drew ?_))); (case side4 => exact HC1.out); rintro e w12 ⟨rfl, hb⟩; refine ⟨_, rfl, ?_⟩; have n0_ := zz (Kd.R_below (rl HO_6.out) hb); have n1_ := zz (below_step (bel HB.out) hb); clear HO_6; clear HB; have HO_6 := n0_; have HB := n1_; clear n0_ n1_; (try clear hb); (try clear hb2); (try clear hk); (try clear hi)))
        go_ret2
        exact ⟨_, by first | rfl | (simp [errW_none, errW_some] <;> rfl) | (simp [*, errW_none, errW_some] <;> rfl), by first | exact Kd.R_nil _ _ _ _ _ | exact Kd.N_nil _ _ _ _ _ | exact Kd.V_nil _ _ _ _ _ | exact Kd.Q_nil _ _ _ _ _ | exact Kd.S_nil _ _ _ _ _, bel HB.out⟩
      ·rw [if_neg c6] at H
       exact absurd H (by simp)
     ·rw [if_neg c5] at H
      have c5b0 : decide (x7_1 < (l0.length : Int)) = false := decide_eq_false c5
      clear c5
      simp only [Option.some.injEq, Prod.mk.injEq] at H
      obtain ⟨rfl, rfl⟩ := H
      go_wp2
      go_ret2
      exact ⟨_, by first | rfl | (simp [errW_none, errW_some] <;> rfl) | (simp [*, errW_none, errW_some] <;> rfl), by (with_reducible repeat (first | apply Kd.R_alloc | apply Kd.R_drewN | apply Kd.R_drew)); exact HO_6.out, bel HB.out⟩

end Go.Proofs.Ytdkkollonlmelaa.QPlanChecks
