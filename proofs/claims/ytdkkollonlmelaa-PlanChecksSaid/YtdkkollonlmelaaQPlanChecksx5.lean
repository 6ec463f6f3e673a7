-- Written by this session's own program (wip/tools/ownprint.sh)
import Derived.Test.YtdkkollonlmelaaQPlanChecksx0
import Derived.Test.YtdkkollonlmelaaQPlanChecksx2
namespace Go.Proofs.Ytdkkollonlmelaa.QPlanChecks
open Go.RowKit Go.Proofs.YtdkkollonlmelaaW.PrintWords Go.Proofs.YtdkkollonlmelaaW.PrintLast Go.Proofs.YtdkkollonlmelaaW.PrintMore
attribute [local go_sem] max2_int min2_int max_two min_two max_three min_three max_four min_four Go.Proofs.Ytdkkollonlmelaa.Hand.str_gtr Go.Proofs.Ytdkkollonlmelaa.Hand.str_leq Go.Proofs.Ytdkkollonlmelaa.Hand.str_geq   -- for this text's walks alone
set_option linter.unusedVariables false
set_option maxHeartbeats 8000000
set_option maxRecDepth 100000
set_option linter.unusedSimpArgs false

/-! ### expr_arity: function 153 -/
mutual
def expr_arity.j0 : Nat → Int → Bool → Option (Int)
 | 0, _, _ => none
 | k + 1, x3, x4 => if x4 = true then (some 0) else (if x3 = 8 then (expr_arity.j1 k x3 (x3 == 8)) else (if x3 = 11 then (expr_arity.j1 k x3 (x3 == 11)) else (expr_arity.j1 k x3 (x3 == 15))))
def expr_arity.j1 : Nat → Int → Bool → Option (Int)
 | 0, _, _ => none
 | k + 1, x3, x8 => if x8 = true then (some 1) else (if x3 = 14 then (some 3) else (some 2))
end
def expr_arity.f (k : Nat) (a0 : Int) : Option (Int) := if a0 = 0 then (expr_arity.j0 k a0 (a0 == 0)) else (if a0 = 1 then (expr_arity.j0 k a0 (a0 == 1)) else (expr_arity.j0 k a0 (a0 == 2)))
theorem expr_arity.mono_l : ∀ k, (∀ y0 y1, LeO (expr_arity.j0 k y0 y1) (expr_arity.j0 (k + 1) y0 y1)) ∧ (∀ y0 y1, LeO (expr_arity.j1 k y0 y1) (expr_arity.j1 (k + 1) y0 y1))
 | 0 => ⟨fun _ _ r h => by simp [expr_arity.j0] at h, fun _ _ r h => by simp [expr_arity.j1] at h⟩
 | k + 1 => by
  obtain ⟨ih0, ih1⟩ := expr_arity.mono_l k
  refine ⟨?_, ?_⟩
  ·intro y0 y1
   unfold expr_arity.j0
   repeat' first
   | (with_reducible exact ih0 _ _)
   | (with_reducible exact ih1 _ _)
   | (with_reducible exact LeO.refl _)
   | (with_reducible exact LeO.none _)
   | (with_reducible refine LeO.ite ?_ ?_)
   | (with_reducible refine LeO.bind ?_ (fun _ => ?_))
   | exact ih0 _ _
   | exact ih1 _ _
   | exact LeO.none _
   | refine LeO.ite ?_ ?_
   | refine LeO.bind ?_ (fun _ => ?_)
  ·intro y0 y1
   unfold expr_arity.j1
   repeat' first
   | (with_reducible exact ih0 _ _)
   | (with_reducible exact ih1 _ _)
   | (with_reducible exact LeO.refl _)
   | (with_reducible exact LeO.none _)
   | (with_reducible refine LeO.ite ?_ ?_)
   | (with_reducible refine LeO.bind ?_ (fun _ => ?_))
   | exact ih0 _ _
   | exact ih1 _ _
   | exact LeO.none _
   | refine LeO.ite ?_ ?_
   | refine LeO.bind ?_ (fun _ => ?_)
theorem expr_arity.mono : ∀ a0 k, LeO (expr_arity.f k a0) (expr_arity.f (k + 1) a0) := by
 intro a0 k
 obtain ⟨ih0, ih1⟩ := expr_arity.mono_l k
 unfold expr_arity.f
 repeat' first
   | (with_reducible exact ih0 _ _)
   | (with_reducible exact ih1 _ _)
   | (with_reducible exact LeO.refl _)
   | (with_reducible exact LeO.none _)
   | (with_reducible refine LeO.ite ?_ ?_)
   | (with_reducible refine LeO.bind ?_ (fun _ => ?_))
   | exact ih0 _ _
   | exact ih1 _ _
   | exact LeO.none _
   | refine LeO.ite ?_ ?_
   | refine LeO.bind ?_ (fun _ => ?_)
theorem expr_arity.calls (k : Nat) (a0 : Int) (r : Int) (w : World) (h : expr_arity.f k a0 = some r) :
  Calls Try.prog 153 #[.int .i64 a0] w fun e w' => e = .returned (.int .i64 r) ∧ Drawn0 w w' := by
 have H := h
 unfold expr_arity.f at H
 clear h
 have HC2 := zz H
 clear H
 go_enter Try.func153, Try.ntmps153
 go_upto_if 4 with (fail)
 go_cut [4] (fun v4 wc => ∃ (kq : Nat) (x4_1 : Bool), v4 = .bool x4_1 ∧ Aside0 (expr_arity.j0 kq a0 x4_1 = some r) ∧ Aside0 (kq ≤ k) ∧ Drawn0 w wc)
 case first =>
  have H := HC2.out
  clear HC2
  by_cases c3 : a0 = 0
  ·rw [if_pos c3] at H
   have c3b0 : (a0 == 0) = true := beq_iff_eq.mpr c3
   have c3b1 : (a0 != 0) = false := bne_eq_false_iff_eq.mpr c3
   clear c3
   (first | rw [c3b0] | (simp only [i64_w, i32_w]; rw [c3b0]) | skip)
   have H' := zz H
   clear H
   go_wp2
   go_meet
   case rel => exact ⟨_, ((a0 == 0)), (by first | rfl | (simp; done) | (simp [*]; done)), H', ⟨by first | omega | exact Nat.le_refl _⟩, by repeat (first | exact Drawn0.refl _ | apply Drawn0.step)⟩
  ·rw [if_neg c3] at H
   have c3b0 : (a0 == 0) = false := beq_eq_false_iff_ne.mpr c3
   have c3b1 : (a0 != 0) = true := bne_iff_ne.mpr c3
   (first | rw [c3b0] | (simp only [i64_w, i32_w]; rw [c3b0]) | skip)
   by_cases c4 : a0 = 1
   ·rw [if_pos c4] at H
    have c4b0 : (a0 == 1) = true := beq_iff_eq.mpr c4
    have c4b1 : (a0 != 1) = false := bne_eq_false_iff_eq.mpr c4
    clear c4
    have H' := zz H
    clear H
    go_wp2
    go_meet
    case rel => exact ⟨_, ((a0 == 1)), (by first | rfl | (simp; done) | (simp [*]; done)), H', ⟨by first | omega | exact Nat.le_refl _⟩, by repeat (first | exact Drawn0.refl _ | apply Drawn0.step)⟩
   ·rw [if_neg c4] at H
    have c4b0 : (a0 == 1) = false := beq_eq_false_iff_ne.mpr c4
    have c4b1 : (a0 != 1) = true := bne_iff_ne.mpr c4
    have H' := zz H
    clear H
    go_wp2
    go_meet
    case rel => exact ⟨_, ((a0 == 2)), (by first | rfl | (simp; done) | (simp [*]; done)), H', ⟨by first | omega | exact Nat.le_refl _⟩, by repeat (first | exact Drawn0.refl _ | apply Drawn0.step)⟩
 case rest =>
  clear HC2
  obtain ⟨kq, x4_1, rfl, HA, HJ1, ⟨mc1, rfl⟩⟩ := hcut
  cases kq with
  | zero => exact absurd HA.out (by simp [expr_arity.j0])
  | succ kj1 =>
   have H := HA.out
   clear HA
   simp only [expr_arity.j0] at H
   by_cases c5 : x4_1 = true
   ·subst c5
    rw [if_pos rfl] at H
    obtain rfl := Option.some.inj H
    go_wp2
    go_ret
    exact ⟨by first | rfl | (simp; done) | (simp [*]; done), by repeat (first | exact Drawn0.refl _ | apply Drawn0.step)⟩
   ·replace c5 := Bool.eq_false_iff.mpr c5
    subst c5
    rw [if_neg (show ¬ (false = true) by decide)] at H
    have HC6 := zz H
    clear H
    go_upto_if 8 with (fail)
    go_cut [8] (fun v8 wc => ∃ (kq : Nat) (x8_5 : Bool), v8 = .bool x8_5 ∧ Aside0 (expr_arity.j1 kq a0 x8_5 = some r) ∧ Aside0 (kq ≤ kj1) ∧ Drawn0 w wc)
    case first =>
     have H := HC6.out
     clear HC6
     by_cases c7 : a0 = 8
     ·rw [if_pos c7] at H
      have c7b0 : (a0 == 8) = true := beq_iff_eq.mpr c7
      have c7b1 : (a0 != 8) = false := bne_eq_false_iff_eq.mpr c7
      clear c7
      (first | rw [c7b0] | (simp only [i64_w, i32_w]; rw [c7b0]) | skip)
      have H' := zz H
      clear H
      go_wp2
      go_meet
      case rel => exact ⟨_, ((a0 == 8)), (by first | rfl | (simp; done) | (simp [*]; done)), H', ⟨by have := HJ1.out; first | omega | exact Nat.le_refl _⟩, by repeat (first | exact Drawn0.refl _ | apply Drawn0.step)⟩
     ·rw [if_neg c7] at H
      have c7b0 : (a0 == 8) = false := beq_eq_false_iff_ne.mpr c7
      have c7b1 : (a0 != 8) = true := bne_iff_ne.mpr c7
      (first | rw [c7b0] | (simp only [i64_w, i32_w]; rw [c7b0]) | skip)
      by_cases c8 : a0 = 11
      ·rw [if_pos c8] at H
       have c8b0 : (a0 == 11) = true := beq_iff_eq.mpr c8
       have c8b1 : (a0 != 11) = false := bne_eq_false_iff_eq.mpr c8
       clear c8
       have H' := zz H
       clear H
       go_wp2
       go_meet
       case rel => exact ⟨_, ((a0 == 11)), (by first | rfl | (simp; done) | (simp [*]; done)), H', ⟨by have := HJ1.out; first | omega | exact Nat.le_refl _⟩, by repeat (first | exact Drawn0.refl _ | apply Drawn0.step)⟩
      ·rw [if_neg c8] at H
       have c8b0 : (a0 == 11) = false := beq_eq_false_iff_ne.mpr c8
       have c8b1 : (a0 != 11) = true := bne_iff_ne.mpr c8
       have H' := zz H
       clear H
       go_wp2
       go_meet
       case rel => exact ⟨_, ((a0 == 15)), (by first | rfl | (simp; done) | (simp [*]; done)), H', ⟨by have := HJ1.out; first | omega | exact Nat.le_refl _⟩, by repeat (first | exact Drawn0.refl _ | apply Drawn0.step)⟩
    case rest =>
     clear HC6
     try clear c5
     obtain ⟨kq, x8_5, rfl, HA, HJ5, ⟨mc5, rfl⟩⟩ := hcut
     cases kq with
     | zero => exact absurd HA.out (by simp [expr_arity.j1])
     | succ kj5 =>
      have H := HA.out
      clear HA
      simp only [expr_arity.j1] at H
      by_cases c9 : x8_5 = true
      ·subst c9
       rw [if_pos rfl] at H
       obtain rfl := Option.some.inj H
       go_wp2
       go_ret
       exact ⟨by first | rfl | (simp; done) | (simp [*]; done), by repeat (first | exact Drawn0.refl _ | apply Drawn0.step)⟩
      ·replace c9 := Bool.eq_false_iff.mpr c9
       subst c9
       rw [if_neg (show ¬ (false = true) by decide)] at H
       by_cases c10 : a0 = 14
       ·rw [if_pos c10] at H
        have c10b0 : (a0 == 14) = true := beq_iff_eq.mpr c10
        have c10b1 : (a0 != 14) = false := bne_eq_false_iff_eq.mpr c10
        clear c10
        obtain rfl := Option.some.inj H
        go_wp2
        go_ret
        exact ⟨by first | rfl | (simp; done) | (simp [*]; done), by repeat (first | exact Drawn0.refl _ | apply Drawn0.step)⟩
       ·rw [if_neg c10] at H
        have c10b0 : (a0 == 14) = false := beq_eq_false_iff_ne.mpr c10
        have c10b1 : (a0 != 14) = true := bne_iff_ne.mpr c10
        obtain rfl := Option.some.inj H
        go_wp2
        go_ret
        exact ⟨by first | rfl | (simp; done) | (simp [*]; done), by repeat (first | exact Drawn0.refl _ | apply Drawn0.step)⟩


/-! ### expr_kinds_push: function 183, by hand -/
structure Stk (w0 w : World) (g : Nat) (cv v : Value) (l : List Int) : Prop where
 below : Below w0.heap.size w0 w
 ge : w0.heap.size ≤ g
 blk : w.heap[g]? = some (.cells #[cv, v] 218 (0, 0))
 row : Kd.R (Kd.int .i64) 3 w w0.heap.size (fun k => k ≠ g) v l
theorem Stk.lt {w0 w : World} {g : Nat} {cv v : Value} {l : List Int} (h : Stk w0 w g cv v l) : g < w.heap.size := blk_lt h.blk
theorem Stk.drewN {w0 w : World} {g : Nat} {cv v : Value} {l : List Int} (h : Stk w0 w g cv v l) (n : Nat) : Stk w0 (w.drewN n) g cv v l :=
 ⟨pw_below_drewN h.below n, h.ge, blk_drewN h.blk n, Kd.R_drewN h.row n⟩
theorem push_full (w0 w : World) (g : Nat) (cv v : Value) (l : List Int) (k : Int) (h : Stk w0 w g cv v l) (hl : l.length = 16) :
  Calls Try.prog 183 #[.pointer (some ⟨g, 0, none⟩), .int .i64 k] w fun e w' => e = .returned (.int .i64 3) ∧ w' = w := by
 obtain ⟨A, c, hv⟩ := Kd.R_slice h.row
 subst hv
 rw [hl] at h
 have hcell : w.cell? ⟨g, 1, none⟩ = some (.slice A 16 c) := (blk_cell h.blk 1).trans rfl
 clear h hl
 go_enter Try.func183, Try.ntmps183
 go_wp2
 go_ret
 exact ⟨rfl, rfl⟩
theorem push_more (w0 w : World) (g : Nat) (cv v : Value) (l : List Int) (k : Int) (h : Stk w0 w g cv v l) (hl : l.length < 16) :
  Calls Try.prog 183 #[.pointer (some ⟨g, 0, none⟩), .int .i64 k] w fun e w' => e = .returned (.int .i64 0) ∧ ∃ v', Stk w0 w' g cv v' (l ++ [k]) := by
 have huK := Try.underlying218
 obtain ⟨A, c, hv⟩ := Kd.R_slice h.row
 subst hv
 have HS := zz h
 have hcell : w.cell? ⟨g, 1, none⟩ = some (.slice A l.length c) := (blk_cell h.blk 1).trans rfl
 have hne : ((l.length : Int) == 16) = false := beq_eq_false_iff_ne.mpr (by omega)
 have hle := zz hl
 clear h hl
 go_enter Try.func183, Try.ntmps183
 go_wp2_with ((with_reducible refine gate_builtin (b := .append) (xs := #[.tmp 15, .tmp 17]) rfl ?_); at_builtin; refine Kd.R_append (Kd.int .i64) (w0 := w0) w0.heap.size rfl (.tmp 15) (.tmp 17) 23 3 (.int .i64 0) 8 rfl Try.underlying23 info3 rfl (by decide) (by omega) (.slice A l.length c) l k [.int .i64 k] (fun k => k ≠ g) (fun _ => False) rfl rfl ?aP (fun _ hk => hk.elim) ?aF ?aO ?aB ?aS ?aL ?_; (case aP => exact rfl); (case aB => exact HS.out.below); (case aF => exact (fun k hk => by have := HS.out.lt; omega)); (case aO => exact HS.out.row); (case aS => exact HS.out.below.size); (case aL => have := hle.out; omega); intro v1 w1 ho hb hg hat; obtain ⟨A1, c1, hv1⟩ := Kd.R_slice ho; subst hv1; simp only [List.length_append, List.length_singleton] at ho ⊢; have HO := zz ho; have HB := zz hb; have HG := zz (blk_grown HS.out.blk hg (fun e => HS.out.row.1 g e.symm rfl)); have hcell1 : w1.cell? ⟨g, 1, none⟩ = some (.slice A l.length c) := (blk_cell HG.out 1).trans rfl; have hfr1 := blk_frozen HG.out 1; clear ho hb hg hat hcell)
 go_ret
 exact ⟨rfl, _, (below_set HB.out HS.out.ge), HS.out.ge, (blk_set HG.out 1 _).trans rfl, Kd.R_far HO.out (fun k hk => hk) _⟩

theorem Stk.step {w0 w w1 : World} {g : Nat} {cv v : Value} {l : List Int} (h : Stk w0 w g cv v l) (hb : Below w.heap.size w w1) : Stk w0 w1 g cv v l :=
 ⟨below_then h.below h.below.size hb, h.ge, blk_below h.blk hb, Kd.R_below h.row hb⟩

def pushS (k : Int) (st : List Int) : Int × List Int := if st.length = 16 then (3, st) else (0, st ++ [k])
structure Told (w0 w' : World) (g : Nat) (cv : Value) (r : Int × List Int) (e : Ending) : Prop where
 ret : e = .returned (.int .i64 r.1)
 below : Below w0.heap.size w0 w'
 stk : r.1 = 0 → ∃ v', Stk w0 w' g cv v' r.2
theorem push_told (w0 w : World) (g : Nat) (cv v : Value) (l : List Int) (k : Int) (h : Stk w0 w g cv v l) (hm : l.length ≤ 16) :
  Calls Try.prog 183 #[.pointer (some ⟨g, 0, none⟩), .int .i64 k] w fun e w' => Told w0 w' g cv (pushS k l) e := by
 unfold pushS
 by_cases hl : l.length = 16
 ·rw [if_pos hl]
  refine (push_full w0 w g cv v l k h hl).mono ?_
  rintro e w' ⟨rfl, rfl⟩
  exact ⟨rfl, h.below, fun h => absurd h (show ¬ (3 : Int) = 0 by decide)⟩
 ·rw [if_neg hl]
  refine (push_more w0 w g cv v l k h (by omega)).mono ?_
  rintro e w' ⟨rfl, v', h'⟩
  exact ⟨rfl, h'.below, fun _ => ⟨v', h'⟩⟩



/-! ### expr_kinds_take: function 184, by hand -/
theorem take_short (w0 w : World) (g : Nat) (cv v : Value) (l : List Int) (n : Int) (h : Stk w0 w g cv v l) (hl : (l.length : Int) < n) :
  Calls Try.prog 184 #[.pointer (some ⟨g, 0, none⟩), .int .i64 n] w fun e w' => e = .returned (.tuple #[.slice none 0 0, .int .i64 6]) ∧ w' = w := by
 have huK := Try.underlying218
 obtain ⟨A, c, hv⟩ := Kd.R_slice h.row
 subst hv
 have hcell : w.cell? ⟨g, 1, none⟩ = some (.slice A l.length c) := (blk_cell h.blk 1).trans rfl
 have hlt : decide ((l.length : Int) < n) = true := decide_eq_true hl
 clear h hl
 go_enter Try.func184, Try.ntmps184
 go_wp2
 go_ret2
 exact ⟨rfl, rfl⟩
theorem cut_front {α : Type} {P : Program} {d : Kd α} (t e : TypeId) {i : TypeInfo} (ht : P.underlying t = some (.slice e)) (hi : P.info? e = some i) (hsz : i.size = d.sz) (A : Option Addr) (c : Nat) (xs : List α) (j : Int) (h0 : 0 ≤ j) (hm : j ≤ xs.length) (hc : xs.length ≤ c) :
  ∃ (A' : Option Addr) (c' : Nat), (∀ W : World, (Instr.slice t (.slice A xs.length c) (some (.int .i64 j)) none none).run P W = .ok (.slice A' (xs.drop j.toNat).length c') W) ∧
   (∀ w : World, d.C w A xs.length xs → d.C w A' (xs.drop j.toNat).length (xs.drop j.toNat)) ∧ (xs.drop j.toNat).length ≤ c' := by
 refine ⟨_, c - j.toNat, fun W => ?_, fun w h => Kd.C_drop h (by omega) hc, ?_⟩
 ·rw [cut_from t e .i64 ht hi d.sz hsz A xs.length c j h0 hm W, List.length_drop]
 ·rw [List.length_drop]; omega
theorem Stk.cut {w0 w : World} {g m c : Nat} {cv : Value} {A : Option Addr} {l : List Int} (h : Stk w0 w g cv (.slice A l.length c) l) (hm : m ≤ l.length) :
  Stk w0 ((w.setCell ⟨g, 1, none⟩ (.slice A m c)).drew) g cv (.slice A m c) (l.take m) :=
 ⟨below_drew (below_set h.below h.ge), h.ge, blk_drew ((blk_set h.blk 1 _).trans rfl), Kd.R_drew (Kd.R_far (Kd.R_take h.row hm) (fun k hk => hk) _)⟩
theorem take_some (w0 w : World) (g : Nat) (cv v : Value) (l : List Int) (n : Int) (h : Stk w0 w g cv v l) (h0 : 0 ≤ n) (hl : n ≤ (l.length : Int)) (hm : l.length ≤ 16) :
  Calls Try.prog 184 #[.pointer (some ⟨g, 0, none⟩), .int .i64 n] w fun e w' => ∃ v0 v', e = .returned (.tuple #[v0, .int .i64 0]) ∧ Kd.R (Kd.int .i64) 3 w' w.heap.size (fun _ => True) v0 (l.drop ((l.length : Int) - n).toNat) ∧ Stk w0 w' g cv v' (l.take ((l.length : Int) - n).toNat) ∧ (∀ b, b < w.heap.size → b ≠ g → w'.heap[b]? = w.heap[b]?) := by
 have huK := Try.underlying218
 obtain ⟨i0, hi, hz0, hz1, hz2⟩ := info_parts info3
 obtain ⟨A, c, hv⟩ := Kd.R_slice h.row
 subst hv
 obtain ⟨A_, c_, he_, hcc, hC⟩ := Kd.R_reads h.row
 obtain ⟨rfl, rfl⟩ : A = A_ ∧ c = c_ := by injection he_ with h1 h2 h3; exact ⟨h1, h3⟩
 obtain ⟨A1, c1, hcut, hC1, hc1⟩ := cut_front (P := Try.prog) (d := Kd.int .i64) 23 3 Try.underlying23 hi hz1 A c l ((l.length : Int) - n) (by omega) (by omega) hcc
 have hcut2 := cut_to (P := Try.prog) 23 3 .i64 Try.underlying23 hi A l.length c ((l.length : Int) - n) (by omega) (by omega) hcc
 obtain ⟨ys, hys⟩ : ∃ ys, ys = l.drop ((l.length : Int) - n).toNat := ⟨_, rfl⟩
 have hyl : ys.length < 17592186044416 := by rw [hys, List.length_drop]; omega
 have HC2 := zz (fun W hb => slices_Clone_int_int.calls0 A1 c1 ys W (by rw [hys]; exact Kd.C_below (hC1 _ hC) hb) (by rw [hys]; exact hc1) hyl)
 rw [← hys] at hcut
 have HY := zz hys
 have HS := zz h
 have HT := zz (Kd.R_take (m := ((l.length : Int) - n).toNat) h.row (by omega))
 have hcell : w.cell? ⟨g, 1, none⟩ = some (.slice A l.length c) := (blk_cell h.blk 1).trans rfl
 have hlt : decide ((l.length : Int) < n) = false := decide_eq_false (by omega)
 clear h he_ hC hC1 hys hyl hc1 hi hz0 hz1 hz2
 have hs0 : 0 ≤ (l.length : Int) - n := by omega
 have hs2 : (l.length : Int) - n ≤ l.length := by omega
 have HW := zz (show IntKind.i64.wrap ((l.length : Int) - n) = (l.length : Int) - n from IntWalk.i64_in _ (by omega))
 go_enter Try.func184, Try.ntmps184
 go_wp2
 go_still_tail 11, (by kernel_rfl)
 change wpList _ _ _ _ _ w.drew
 simp only [HW.out]
 go_wp2_with ((with_reducible refine gate_callee (f := 82) rfl ?_); refine goesL_ (some 26) rfl rfl Try.func82 (by kernel_rfl) rfl #[.slice A1 ys.length c1] rfl (by (try simp only [List.map_toArray, List.map_cons, List.map_nil]); rfl) ?_; (refine (HC2.out _ (below_drew (Below.refl _ _))).mono ?_); rintro e w2 ⟨v0, rfl, ho, hb⟩; refine ⟨_, rfl, ?_⟩; have HO := zz ho; have HBc := zz hb; have HS2 := zz ((HS.out.drewN 1).step hb); have hcell2 : w2.cell? ⟨g, 1, none⟩ = some (.slice A l.length c) := (blk_cell HS2.out.blk 1).trans rfl; have hfr2 := blk_frozen HS2.out.blk 1; clear hb ho hcell)
 clear hcut
 have hcut3 : ∀ W : World, (Instr.slice 23 (.slice A l.length c) none (some (.int .i64 (IntKind.i64.wrap ((l.length : Int) - n)))) none).run Try.prog W = .ok (.slice A ((l.length : Int) - n).toNat c) W := by rw [HW.out]; exact hcut2
 go_still_tail 13, (by kernel_rfl)
 change wpList _ _ _ _ _ (World.drew _)
 go_wp2
 go_ret2
 refine ⟨v0, .slice A ((l.length : Int) - n).toNat c, rfl, ?_, ?_, ?_⟩
 ·rw [← HY.out]
  exact Kd.R_drew (Kd.R_mono (Kd.R_far (Kd.R_mono (Kd.R_bound HO.out) (fun k hk => (show k ≠ g from fun e => by have h1 := hk.2.1; have h2 := HS.out.lt; rw [e] at h1; exact absurd h1 (Nat.not_le_of_lt h2)))) (fun k hk => hk) _) (fun _ _ => trivial))
 ·exact HS2.out.cut (by omega)
 ·intro b hb hne
  exact (Below.heap_setCell w2 ⟨g, 1, none⟩ _ b hne).trans (HBc.out.block b hb)



/-! ### expr_all: function 188, by hand -/
theorem all1_calls (x kind : Int) (b : Nat) (w : World) (hc : w.cell? ⟨b, 0, none⟩ = some (.int .i64 kind)) :
  Calls Try.prog 192 (#[.int .i64 x] ++ #[.pointer (some ⟨b, 0, none⟩)]) w fun e w' => e = .returned (.bool (x != kind)) ∧ Below w.heap.size w w' := by
 show Calls Try.prog 192 #[.int .i64 x, .pointer (some ⟨b, 0, none⟩)] w _
 go_enter Try.func192, Try.ntmps192
 go_wp2
 go_ret
 exact ⟨rfl, Below.refl _ _⟩
theorem all_calls0 (A : Option Addr) (c : Nat) (l : List Int) (kind : Int) (w : World) (hr : Kd.C (Kd.int .i64) w A l.length l) (hc : l.length ≤ c) :
  Calls Try.prog 188 #[.slice A l.length c, .int .i64 kind] w fun e w' => e = .returned (.bool (!decide (0 ≤ idx (fun k => k != kind) l))) ∧ Below w.heap.size w w' := by
 have hmf : ∀ (fn : Fn) (first cap : Array Value) (w : World), (Instr.makeFunc fn first cap).run Try.prog w = .ok (.func fn first cap) w := fun _ _ _ _ => rfl
 have HC := zz (contains_calls (F := 192) Try.func192 (by kernel_rfl) rfl #[.pointer (some ⟨w.heap.size, 0, none⟩)] (fun k => k != kind) A c l (w.alloc (.cells #[.int .i64 kind] 3 (0, 0))) (Kd.C_below hr (below_alloc (Below.refl _ _) _)) hc (fun x W _ hb => all1_calls x kind w.heap.size W (pw_cell_below hb ((blk_cell (heap_alloc_new w _) 0).trans rfl))))
 clear hr
 go_enter Try.func188, Try.ntmps188
 go_wp2_with ((with_reducible refine gate_callee (f := 122) rfl ?_); refine goesL_ (some 7) rfl rfl Try.func122 (by kernel_rfl) rfl #[.slice A l.length c, .func (.func 192) #[] #[.pointer (some ⟨w.heap.size, 0, none⟩)]] rfl (by (try simp only [List.map_toArray, List.map_cons, List.map_nil]); rfl) ?_; (refine HC.out.mono ?_); rintro e w' ⟨rfl, hb⟩; refine ⟨_, rfl, ?_⟩; have HB := zz (below_then (below_alloc (Below.refl _ _) _) (by simp) hb); clear hb)
 go_ret
 exact ⟨by first | rfl | simp, HB.out⟩
theorem idx_all (l : List Int) (a : Int) : (!decide (0 ≤ idx (fun k => k != a) l)) = l.all (fun k => k == a) := by
 by_cases h : ∃ j, ∃ hj : j < l.length, l[j] ≠ a
 ·have hf : (l.findIdx? (fun k => k != a)).isSome = true := by
   rw [List.findIdx?_isSome, List.any_eq_true]
   obtain ⟨j, hj, h⟩ := h
   exact ⟨l[j], List.getElem_mem hj, by simpa using h⟩
  obtain ⟨i, hi⟩ := Option.isSome_iff_exists.1 hf
  have h2 : l.all (fun k => k == a) = false := by
   rw [List.all_eq_false]
   obtain ⟨j, hj, h⟩ := h
   exact ⟨l[j], List.getElem_mem hj, by simpa using h⟩
  rw [h2]
  unfold idx
  rw [hi]
  simp
 ·have h1 : ∀ x ∈ l, x = a := by
   intro x hx
   obtain ⟨j, hj, rfl⟩ := List.mem_iff_getElem.1 hx
   exact Decidable.byContradiction fun hne => h ⟨j, hj, hne⟩
  have hf : l.findIdx? (fun k => k != a) = none := by
   rw [List.findIdx?_eq_none_iff]
   intro x hx
   rw [h1 x hx]; simp
  have h2 : l.all (fun k => k == a) = true := by
   rw [List.all_eq_true]
   intro x hx
   rw [h1 x hx]; simp
  rw [h2]
  unfold idx
  rw [hf]
  simp
def expr_all.f (l0 : List Int) (a1 : Int) : Option (Bool) := some (l0.all (fun k => k == a1))
theorem expr_all.calls (A0 : Option Addr) (c0 : Nat) (l0 : List Int) (a1 : Int) (r : Bool) (w : World) (hr0 : Kd.C (Kd.int .i64) w A0 l0.length l0) (hc0 : l0.length ≤ c0) (h : expr_all.f l0 a1 = some r) :
  Calls Try.prog 188 #[.slice A0 l0.length c0, .int .i64 a1] w fun e w' => e = .returned (.bool r) ∧ Below w.heap.size w w' := by
 have h1 := all_calls0 A0 c0 l0 a1 w hr0 hc0
 rw [idx_all, Option.some.inj h] at h1
 exact h1


/-! ### expr_made: function 185 -/
mutual
def expr_made.j0 : Nat → List Int → Int → Bool → Option (Int × Bool)
 | 0, _, _, _ => none
 | k + 1, x1, x6, x7 => if x7 = true then (if 0 < (x1.length : Int) then (if 1 < (x1.length : Int) then (some (0, ((rd x1 0) == (rd x1 1)))) else (none)) else (none)) else (if x6 = 17 then (expr_made.j1 k x1 x6 (x6 == 17)) else (expr_made.j1 k x1 x6 (x6 == 18)))
def expr_made.j1 : Nat → List Int → Int → Bool → Option (Int × Bool)
 | 0, _, _, _ => none
 | k + 1, x1, x6, x17 => if x17 = true then (if 0 < (x1.length : Int) then (if 1 < (x1.length : Int) then (some (rd x1 0, ((rd x1 0) == (rd x1 1)))) else (none)) else (none)) else (if x6 = 14 then (if 1 < (x1.length : Int) then (if 0 < (x1.length : Int) then (if (rd x1 0) = 0 then (if 2 < (x1.length : Int) then (some (rd x1 1, ((rd x1 1) == (rd x1 2)))) else (none)) else (some (rd x1 1, false))) else (none)) else (none)) else (if x6 = 15 then ((expr_all.f x1 1).bind fun t158 => (some (0, t158))) else (if x6 = 16 then ((expr_all.f x1 1).bind fun t159 => (some (1, t159))) else ((expr_all.f x1 0).bind fun t160 => (some (0, t160))))))
end
def expr_made.f (k : Nat) (a0 : Int) (l1 : List Int) : Option (Int × Bool) := if a0 = 9 then (expr_made.j0 k l1 a0 (a0 == 9)) else (expr_made.j0 k l1 a0 (a0 == 10))
theorem expr_made.mono_l : ∀ k, (∀ y0 y1 y2, LeO (expr_made.j0 k y0 y1 y2) (expr_made.j0 (k + 1) y0 y1 y2)) ∧ (∀ y0 y1 y2, LeO (expr_made.j1 k y0 y1 y2) (expr_made.j1 (k + 1) y0 y1 y2))
 | 0 => ⟨fun _ _ _ r h => by simp [expr_made.j0] at h, fun _ _ _ r h => by simp [expr_made.j1] at h⟩
 | k + 1 => by
  obtain ⟨ih0, ih1⟩ := expr_made.mono_l k
  refine ⟨?_, ?_⟩
  ·intro y0 y1 y2
   unfold expr_made.j0
   repeat' first
   | (with_reducible exact ih0 _ _ _)
   | (with_reducible exact ih1 _ _ _)
   | (with_reducible exact LeO.refl _)
   | (with_reducible exact LeO.none _)
   | (with_reducible refine LeO.ite ?_ ?_)
   | (with_reducible refine LeO.bind ?_ (fun _ => ?_))
   | exact ih0 _ _ _
   | exact ih1 _ _ _
   | exact LeO.none _
   | refine LeO.ite ?_ ?_
   | refine LeO.bind ?_ (fun _ => ?_)
  ·intro y0 y1 y2
   unfold expr_made.j1
   repeat' first
   | (with_reducible exact ih0 _ _ _)
   | (with_reducible exact ih1 _ _ _)
   | (with_reducible exact LeO.refl _)
   | (with_reducible exact LeO.none _)
   | (with_reducible refine LeO.ite ?_ ?_)
   | (with_reducible refine LeO.bind ?_ (fun _ => ?_))
   | exact ih0 _ _ _
   | exact ih1 _ _ _
   | exact LeO.none _
   | refine LeO.ite ?_ ?_
   | refine LeO.bind ?_ (fun _ => ?_)
theorem expr_made.mono : ∀ a0 a1 k, LeO (expr_made.f k a0 a1) (expr_made.f (k + 1) a0 a1) := by
 intro a0 a1 k
 obtain ⟨ih0, ih1⟩ := expr_made.mono_l k
 unfold expr_made.f
 repeat' first
   | (with_reducible exact ih0 _ _ _)
   | (with_reducible exact ih1 _ _ _)
   | (with_reducible exact LeO.refl _)
   | (with_reducible exact LeO.none _)
   | (with_reducible refine LeO.ite ?_ ?_)
   | (with_reducible refine LeO.bind ?_ (fun _ => ?_))
   | exact ih0 _ _ _
   | exact ih1 _ _ _
   | exact LeO.none _
   | refine LeO.ite ?_ ?_
   | refine LeO.bind ?_ (fun _ => ?_)
theorem expr_made.calls (k : Nat) (a0 : Int) (A1 : Option Addr) (c1 : Nat) (l1 : List Int) (r1 : Int) (r2 : Bool) (w : World) (hr1 : Kd.C (Kd.int .i64) w A1 l1.length l1) (hc1 : l1.length ≤ c1) (h : expr_made.f k a0 l1 = some (r1, r2)) :
  Calls Try.prog 185 #[.int .i64 a0, .slice A1 l1.length c1] w fun e w' => e = .returned (.tuple #[.int .i64 r1, .bool r2]) ∧ Below w.heap.size w w' := by
 have HR1 := zz hr1
 have HC1 := zz hc1
 clear hr1 hc1
 have HB := zz (Below.refl w.heap.size w)
 have H := h
 unfold expr_made.f at H
 clear h
 have HC3 := zz H
 clear H
 go_enter Try.func185, Try.ntmps185
 go_upto_if 7 with (fail)
 repeat (go_quiet (fail); go_upto_if 7 with (fail))
 go_cut [7] (fun v7 wc => ∃ (kq : Nat) (x7_2 : Bool), v7 = .bool x7_2 ∧ Aside0 (expr_made.j0 kq l1 a0 x7_2 = some (r1, r2)) ∧ Aside0 (kq ≤ k) ∧ Aside0 (Below w.heap.size w wc))
 case first =>
  have H := HC3.out
  clear HC3
  by_cases c4 : a0 = 9
  ·rw [if_pos c4] at H
   have c4b0 : (a0 == 9) = true := beq_iff_eq.mpr c4
   have c4b1 : (a0 != 9) = false := bne_eq_false_iff_eq.mpr c4
   clear c4
   (first | rw [c4b0] | (simp only [i64_w, i32_w]; rw [c4b0]) | skip)
   have H' := zz H
   clear H
   go_wp2
   repeat (go_quiet (fail); try go_wp2)
   go_meet
   case rel => exact ⟨_, ((a0 == 9)), (by first | rfl | (simp; done) | (simp [*]; done)), H', ⟨by first | omega | exact Nat.le_refl _⟩, ⟨bel HB.out⟩⟩
  ·rw [if_neg c4] at H
   have c4b0 : (a0 == 9) = false := beq_eq_false_iff_ne.mpr c4
   have c4b1 : (a0 != 9) = true := bne_iff_ne.mpr c4
   (first | rw [c4b0] | (simp only [i64_w, i32_w]; rw [c4b0]) | skip)
   have H' := zz H
   clear H
   go_wp2
   repeat (go_quiet (fail); try go_wp2)
   go_meet
   case rel => exact ⟨_, ((a0 == 10)), (by first | rfl | (simp; done) | (simp [*]; done)), H', ⟨by first | omega | exact Nat.le_refl _⟩, ⟨bel HB.out⟩⟩
 case rest =>
  clear HC3
  try clear c1
  obtain ⟨kq, x7_2, rfl, HA, HJ2, HB⟩ := hcut
  cases kq with
  | zero => exact absurd HA.out (by simp [expr_made.j0])
  | succ kj2 =>
   have H := HA.out
   clear HA
   simp only [expr_made.j0] at H
   by_cases c5 : x7_2 = true
   ·subst c5
    rw [if_pos rfl] at H
    by_cases c6 : 0 < (l1.length : Int)
    ·rw [if_pos c6] at H
     have c6b0 : decide (0 < (l1.length : Int)) = true := decide_eq_true c6
     have c6b1 : decide (0 < l1.length) = true := decide_eq_true (by omega)
     clear c6
     by_cases c7 : 1 < (l1.length : Int)
     ·rw [if_pos c7] at H
      have c7b0 : decide (1 < (l1.length : Int)) = true := decide_eq_true c7
      have c7b1 : decide (1 < l1.length) = true := decide_eq_true (by omega)
      clear c7
      simp only [Option.some.injEq, Prod.mk.injEq] at H
      obtain ⟨rfl, rfl⟩ := H
      have p149 : 0 ≤ (0 : Int) := (by omega)
      have q149 : 0 < (l1.length : Int) := of_decide_eq_true (by first | (with_reducible assumption) | assumption)
      obtain ⟨ad149, e149, hx149_0⟩ := Kd.at_int HR1.out 0 p149 q149
      cases e149
      have qi149 : (0 < l1.length) = True := eq_true (by omega)
      (try rw [show ((0 : Int)).toNat = 0 from rfl] at hx149_0)
      (try rw [Addr.add_zero'] at hx149_0)
      replace hx149_0 := (HB.out.cell (World.block_lt_of_cell? w _ hx149_0)).trans hx149_0
      replace p149 := eq_true p149
      replace q149 := eq_true q149
      have p150 : 0 ≤ (1 : Int) := (by omega)
      have q150 : 1 < (l1.length : Int) := of_decide_eq_true (by first | (with_reducible assumption) | assumption)
      obtain ⟨ad150, e150, hx150_0⟩ := Kd.at_int HR1.out 1 p150 q150
      obtain rfl : ad149 = ad150 := (by injection e150)
      (try simp only [show (1 : Int).toNat = 1 from rfl, Nat.reduceMul, Nat.reduceEqDiff, Go.Addr.add, ↓reduceIte] at hx150_0)
      have qi150 : (1 < l1.length) = True := eq_true (by omega)
      (try rw [show ((1 : Int)).toNat = 1 from rfl] at hx150_0)
      replace hx150_0 := (HB.out.cell (World.block_lt_of_cell? w _ hx150_0)).trans hx150_0
      replace p150 := eq_true p150
      replace q150 := eq_true q150
      go_wp2
      repeat (go_quiet (fail); try go_wp2)
      go_ret2
      exact ⟨by first | rfl | (simp [errW_none, errW_some] <;> rfl) | (simp [*, errW_none, errW_some] <;> rfl), bel HB.out⟩
     ·rw [if_neg c7] at H
      exact absurd H (by simp)
    ·rw [if_neg c6] at H
     exact absurd H (by simp)
   ·replace c5 := Bool.eq_false_iff.mpr c5
    subst c5
    rw [if_neg (show ¬ (false = true) by decide)] at H
    have HC8 := zz H
    clear H
    go_upto_if 17 with (fail)
    repeat (go_quiet (fail); go_upto_if 17 with (fail))
    go_cut [17] (fun v17 wc => ∃ (kq : Nat) (x17_7 : Bool), v17 = .bool x17_7 ∧ Aside0 (expr_made.j1 kq l1 a0 x17_7 = some (r1, r2)) ∧ Aside0 (kq ≤ kj2) ∧ Aside0 (Below w.heap.size w wc))
    case first =>
     have H := HC8.out
     clear HC8
     by_cases c9 : a0 = 17
     ·rw [if_pos c9] at H
      have c9b0 : (a0 == 17) = true := beq_iff_eq.mpr c9
      have c9b1 : (a0 != 17) = false := bne_eq_false_iff_eq.mpr c9
      clear c9
      (first | rw [c9b0] | (simp only [i64_w, i32_w]; rw [c9b0]) | skip)
      have H' := zz H
      clear H
      go_wp2
      repeat (go_quiet (fail); try go_wp2)
      go_meet
      case rel => exact ⟨_, ((a0 == 17)), (by first | rfl | (simp; done) | (simp [*]; done)), H', ⟨by have := HJ2.out; first | omega | exact Nat.le_refl _⟩, ⟨bel HB.out⟩⟩
     ·rw [if_neg c9] at H
      have c9b0 : (a0 == 17) = false := beq_eq_false_iff_ne.mpr c9
      have c9b1 : (a0 != 17) = true := bne_iff_ne.mpr c9
      (first | rw [c9b0] | (simp only [i64_w, i32_w]; rw [c9b0]) | skip)
      have H' := zz H
      clear H
      go_wp2
      repeat (go_quiet (fail); try go_wp2)
      go_meet
      case rel => exact ⟨_, ((a0 == 18)), (by first | rfl | (simp; done) | (simp [*]; done)), H', ⟨by have := HJ2.out; first | omega | exact Nat.le_refl _⟩, ⟨bel HB.out⟩⟩
    case rest =>
     clear HC8
     try clear c1; try clear c5
     obtain ⟨kq, x17_7, rfl, HA, HJ7, HB⟩ := hcut
     cases kq with
     | zero => exact absurd HA.out (by simp [expr_made.j1])
     | succ kj7 =>
      have H := HA.out
      clear HA
      simp only [expr_made.j1] at H
      by_cases c10 : x17_7 = true
      ·subst c10
       rw [if_pos rfl] at H
       by_cases c11 : 0 < (l1.length : Int)
       ·rw [if_pos c11] at H
        have c11b0 : decide (0 < (l1.length : Int)) = true := decide_eq_true c11
        have c11b1 : decide (0 < l1.length) = true := decide_eq_true (by omega)
        clear c11
        by_cases c12 : 1 < (l1.length : Int)
        ·rw [if_pos c12] at H
         have c12b0 : decide (1 < (l1.length : Int)) = true := decide_eq_true c12
         have c12b1 : decide (1 < l1.length) = true := decide_eq_true (by omega)
         clear c12
         simp only [Option.some.injEq, Prod.mk.injEq] at H
         obtain ⟨rfl, rfl⟩ := H
         have p151 : 0 ≤ (0 : Int) := (by omega)
         have q151 : 0 < (l1.length : Int) := of_decide_eq_true (by first | (with_reducible assumption) | assumption)
         obtain ⟨ad151, e151, hx151_0⟩ := Kd.at_int HR1.out 0 p151 q151
         cases e151
         have qi151 : (0 < l1.length) = True := eq_true (by omega)
         (try rw [show ((0 : Int)).toNat = 0 from rfl] at hx151_0)
         (try rw [Addr.add_zero'] at hx151_0)
         replace hx151_0 := (HB.out.cell (World.block_lt_of_cell? w _ hx151_0)).trans hx151_0
         replace p151 := eq_true p151
         replace q151 := eq_true q151
         have p152 : 0 ≤ (0 : Int) := (by omega)
         have q152 : 0 < (l1.length : Int) := of_decide_eq_true (by first | (with_reducible assumption) | assumption)
         obtain ⟨ad152, e152, hx152_0⟩ := Kd.at_int HR1.out 0 p152 q152
         obtain rfl : ad151 = ad152 := (by injection e152)
         have qi152 : (0 < l1.length) = True := eq_true (by omega)
         (try rw [show ((0 : Int)).toNat = 0 from rfl] at hx152_0)
         (try rw [Addr.add_zero'] at hx152_0)
         replace hx152_0 := (HB.out.cell (World.block_lt_of_cell? w _ hx152_0)).trans hx152_0
         replace p152 := eq_true p152
         replace q152 := eq_true q152
         have p153 : 0 ≤ (1 : Int) := (by omega)
         have q153 : 1 < (l1.length : Int) := of_decide_eq_true (by first | (with_reducible assumption) | assumption)
         obtain ⟨ad153, e153, hx153_0⟩ := Kd.at_int HR1.out 1 p153 q153
         obtain rfl : ad151 = ad153 := (by injection e153)
         (try simp only [show (1 : Int).toNat = 1 from rfl, Nat.reduceMul, Nat.reduceEqDiff, Go.Addr.add, ↓reduceIte] at hx153_0)
         have qi153 : (1 < l1.length) = True := eq_true (by omega)
         (try rw [show ((1 : Int)).toNat = 1 from rfl] at hx153_0)
         replace hx153_0 := (HB.out.cell (World.block_lt_of_cell? w _ hx153_0)).trans hx153_0
         replace p153 := eq_true p153
         replace q153 := eq_true q153
         go_wp2
         repeat (go_quiet (fail); try go_wp2)
         go_ret2
         exact ⟨by first | rfl | (simp [errW_none, errW_some] <;> rfl) | (simp [*, errW_none, errW_some] <;> rfl), bel HB.out⟩
        ·rw [if_neg c12] at H
         exact absurd H (by simp)
       ·rw [if_neg c11] at H
        exact absurd H (by simp)
      ·replace c10 := Bool.eq_false_iff.mpr c10
       subst c10
       rw [if_neg (show ¬ (false = true) by decide)] at H
       by_cases c13 : a0 = 14
       ·rw [if_pos c13] at H
        have c13b0 : (a0 == 14) = true := beq_iff_eq.mpr c13
        have c13b1 : (a0 != 14) = false := bne_eq_false_iff_eq.mpr c13
        clear c13
        by_cases c14 : 1 < (l1.length : Int)
        ·rw [if_pos c14] at H
         have c14b0 : decide (1 < (l1.length : Int)) = true := decide_eq_true c14
         have c14b1 : decide (1 < l1.length) = true := decide_eq_true (by omega)
         clear c14
         by_cases c15 : 0 < (l1.length : Int)
         ·rw [if_pos c15] at H
          have c15b0 : decide (0 < (l1.length : Int)) = true := decide_eq_true c15
          have c15b1 : decide (0 < l1.length) = true := decide_eq_true (by omega)
          clear c15
          by_cases c16 : (rd l1 0) = 0
          ·rw [if_pos c16] at H
           have c16b0 : ((rd l1 0) == 0) = true := beq_iff_eq.mpr c16
           have c16b1 : ((rd l1 0) != 0) = false := bne_eq_false_iff_eq.mpr c16
           clear c16
           by_cases c17 : 2 < (l1.length : Int)
           ·rw [if_pos c17] at H
            have c17b0 : decide (2 < (l1.length : Int)) = true := decide_eq_true c17
            have c17b1 : decide (2 < l1.length) = true := decide_eq_true (by omega)
            clear c17
            simp only [Option.some.injEq, Prod.mk.injEq] at H
            obtain ⟨rfl, rfl⟩ := H
            have p154 : 0 ≤ (1 : Int) := (by omega)
            have q154 : 1 < (l1.length : Int) := of_decide_eq_true (by first | (with_reducible assumption) | assumption)
            obtain ⟨ad154, e154, hx154_0⟩ := Kd.at_int HR1.out 1 p154 q154
            cases e154
            (try simp only [show (1 : Int).toNat = 1 from rfl, Nat.reduceMul, Nat.reduceEqDiff, Go.Addr.add, ↓reduceIte] at hx154_0)
            have qi154 : (1 < l1.length) = True := eq_true (by omega)
            (try rw [show ((1 : Int)).toNat = 1 from rfl] at hx154_0)
            replace hx154_0 := (HB.out.cell (World.block_lt_of_cell? w _ hx154_0)).trans hx154_0
            replace p154 := eq_true p154
            replace q154 := eq_true q154
            have p155 : 0 ≤ (0 : Int) := (by omega)
            have q155 : 0 < (l1.length : Int) := of_decide_eq_true (by first | (with_reducible assumption) | assumption)
            obtain ⟨ad155, e155, hx155_0⟩ := Kd.at_int HR1.out 0 p155 q155
            obtain rfl : ad154 = ad155 := (by injection e155)
            have qi155 : (0 < l1.length) = True := eq_true (by omega)
            (try rw [show ((0 : Int)).toNat = 0 from rfl] at hx155_0)
            (try rw [Addr.add_zero'] at hx155_0)
            replace hx155_0 := (HB.out.cell (World.block_lt_of_cell? w _ hx155_0)).trans hx155_0
            replace p155 := eq_true p155
            replace q155 := eq_true q155
            have p156 : 0 ≤ (1 : Int) := (by omega)
            have q156 : 1 < (l1.length : Int) := of_decide_eq_true (by first | (with_reducible assumption) | assumption)
            obtain ⟨ad156, e156, hx156_0⟩ := Kd.at_int HR1.out 1 p156 q156
            obtain rfl : ad154 = ad156 := (by injection e156)
            (try simp only [show (1 : Int).toNat = 1 from rfl, Nat.reduceMul, Nat.reduceEqDiff, Go.Addr.add, ↓reduceIte] at hx156_0)
            have qi156 : (1 < l1.length) = True := eq_true (by omega)
            (try rw [show ((1 : Int)).toNat = 1 from rfl] at hx156_0)
            replace hx156_0 := (HB.out.cell (World.block_lt_of_cell? w _ hx156_0)).trans hx156_0
            replace p156 := eq_true p156
            replace q156 := eq_true q156
            have p157 : 0 ≤ (2 : Int) := (by omega)
            have q157 : 2 < (l1.length : Int) := of_decide_eq_true (by first | (with_reducible assumption) | assumption)
            obtain ⟨ad157, e157, hx157_0⟩ := Kd.at_int HR1.out 2 p157 q157
            obtain rfl : ad154 = ad157 := (by injection e157)
            (try simp only [show (2 : Int).toNat = 2 from rfl, Nat.reduceMul, Nat.reduceEqDiff, Go.Addr.add, ↓reduceIte] at hx157_0)
            have qi157 : (2 < l1.length) = True := eq_true (by omega)
            (try rw [show ((2 : Int)).toNat = 2 from rfl] at hx157_0)
            replace hx157_0 := (HB.out.cell (World.block_lt_of_cell? w _ hx157_0)).trans hx157_0
            replace p157 := eq_true p157
            replace q157 := eq_true q157
            go_wp2
            repeat (go_quiet (fail); try go_wp2)
            go_ret2
            exact ⟨by first | rfl | (simp [errW_none, errW_some] <;> rfl) | (simp [*, errW_none, errW_some] <;> rfl), bel HB.out⟩
           ·rw [if_neg c17] at H
            exact absurd H (by simp)
          ·rw [if_neg c16] at H
           have c16b0 : ((rd l1 0) == 0) = false := beq_eq_false_iff_ne.mpr c16
           have c16b1 : ((rd l1 0) != 0) = true := bne_iff_ne.mpr c16
           simp only [Option.some.injEq, Prod.mk.injEq] at H
           obtain ⟨rfl, rfl⟩ := H
           have p154 : 0 ≤ (1 : Int) := (by omega)
           have q154 : 1 < (l1.length : Int) := of_decide_eq_true (by first | (with_reducible assumption) | assumption)
           obtain ⟨ad154, e154, hx154_0⟩ := Kd.at_int HR1.out 1 p154 q154
           cases e154
           (try simp only [show (1 : Int).toNat = 1 from rfl, Nat.reduceMul, Nat.reduceEqDiff, Go.Addr.add, ↓reduceIte] at hx154_0)
           have qi154 : (1 < l1.length) = True := eq_true (by omega)
           (try rw [show ((1 : Int)).toNat = 1 from rfl] at hx154_0)
           replace hx154_0 := (HB.out.cell (World.block_lt_of_cell? w _ hx154_0)).trans hx154_0
           replace p154 := eq_true p154
           replace q154 := eq_true q154
           have p155 : 0 ≤ (0 : Int) := (by omega)
           have q155 : 0 < (l1.length : Int) := of_decide_eq_true (by first | (with_reducible assumption) | assumption)
           obtain ⟨ad155, e155, hx155_0⟩ := Kd.at_int HR1.out 0 p155 q155
           obtain rfl : ad154 = ad155 := (by injection e155)
           have qi155 : (0 < l1.length) = True := eq_true (by omega)
           (try rw [show ((0 : Int)).toNat = 0 from rfl] at hx155_0)
           (try rw [Addr.add_zero'] at hx155_0)
           replace hx155_0 := (HB.out.cell (World.block_lt_of_cell? w _ hx155_0)).trans hx155_0
           replace p155 := eq_true p155
           replace q155 := eq_true q155
           go_wp2
           repeat (go_quiet (fail); try go_wp2)
           go_ret2
           exact ⟨by first | rfl | (simp [errW_none, errW_some] <;> rfl) | (simp [*, errW_none, errW_some] <;> rfl), bel HB.out⟩
         ·rw [if_neg c15] at H
          exact absurd H (by simp)
        ·rw [if_neg c14] at H
         exact absurd H (by simp)
       ·rw [if_neg c13] at H
        have c13b0 : (a0 == 14) = false := beq_eq_false_iff_ne.mpr c13
        have c13b1 : (a0 != 14) = true := bne_iff_ne.mpr c13
        by_cases c18 : a0 = 15
        ·rw [if_pos c18] at H
         have c18b0 : (a0 == 15) = true := beq_iff_eq.mpr c18
         have c18b1 : (a0 != 15) = false := bne_eq_false_iff_eq.mpr c18
         clear c18
         obtain ⟨t158, A190, H⟩ := Option.bind_eq_some_iff.mp H
         try dsimp only at H
         have A19 := zz A190
         clear A190
         simp only [Option.some.injEq, Prod.mk.injEq] at H
         obtain ⟨rfl, rfl⟩ := H
         go_wp2_with (first | (go_at_call 188; (with_reducible refine (expr_all.calls _ _ l1 1 t158 _ ?side1 ?side2 A19.out).mono ?_); (case side1 => repeat (first | exact (Kd.C_below HR1.out HB.out) | (with_reducible refine Kd.C_alloc ?_ _) | (with_reducible refine Kd.C_drewN ?_ _) | (with_reducible refine Kd.C_drew ?_))); (case side2 => exact HC1.out); rintro e w20 ⟨rfl, hb⟩; have n0_ := zz (below_step (bel HB.out) hb); clear HB; have HB := n0_; clear n0_; (try clear hb); (try clear hb2); (try clear hk); (try clear hi)))
         repeat (go_quiet (first | (go_at_call 188; (with_reducible refine (expr_all.calls _ _ l1 1 t158 _ ?side1 ?side2 A19.out).mono ?_); (case side1 => repeat (first | exact (Kd.C_below HR1.out HB.out) | (with_reducible refine Kd.C_alloc ?_ _) | (with_reducible refine Kd.C_drewN ?_ _) | (with_reducible refine Kd.C_drew ?_))); (case side2 => exact HC1.out); rintro e w20 ⟨rfl, hb⟩; have n0_ := zz (below_step (bel HB.out) hb); clear HB; have HB := n0_; clear n0_; (try clear hb); (try clear hb2); (try clear hk); (try clear hi))); try go_wp2_with (first | (go_at_call 188; (with_reducible refine (expr_all.calls _ _ l1 1 t158 _ ?side1 ?side2 A19.out).mono ?_); (case side1 => repeat (first | exact (Kd.C_below HR1.out HB.out) | (with_reducible refine Kd.C_alloc ?_ _) | (with_reducible refine Kd.C_drewN ?_ _) | (with_reducible refine Kd.C_drew ?_))); (case side2 => exact HC1.out); rintro e w20 ⟨rfl, hb⟩; have n0_ := zz (below_step (bel HB.out) hb); clear HB; have HB := n0_; clear n0_; (try clear hb); (try clear hb2); (try clear hk); (try clear hi))))
         go_ret2
         exact ⟨by first | rfl | (simp [errW_none, errW_some] <;> rfl) | (simp [*, errW_none, errW_some] <;> rfl), bel HB.out⟩
        ·rw [if_neg c18] at H
         have c18b0 : (a0 == 15) = false := beq_eq_false_iff_ne.mpr c18
         have c18b1 : (a0 != 15) = true := bne_iff_ne.mpr c18
         by_cases c21 : a0 = 16
         ·rw [if_pos c21] at H
          have c21b0 : (a0 == 16) = true := beq_iff_eq.mpr c21
          have c21b1 : (a0 != 16) = false := bne_eq_false_iff_eq.mpr c21
          clear c21
          obtain ⟨t159, A220, H⟩ := Option.bind_eq_some_iff.mp H
          try dsimp only at H
          have A22 := zz A220
          clear A220
          simp only [Option.some.injEq, Prod.mk.injEq] at H
          obtain ⟨rfl, rfl⟩ := H
          go_wp2_with (first | (go_at_call 188; (with_reducible refine (expr_all.calls _ _ l1 1 t159 _ ?side1 ?side2 A22.out).mono ?_); (case side1 => repeat (first | exact (Kd.C_below HR1.out HB.out) | (with_reducible refine Kd.C_alloc ?_ _) | (with_reducible refine Kd.C_drewN ?_ _) | (with_reducible refine Kd.C_drew ?_))); (case side2 => exact HC1.out); rintro e w23 ⟨rfl, hb⟩; have n0_ := zz (below_step (bel HB.out) hb); clear HB; have HB := n0_; clear n0_; (try clear hb); (try clear hb2); (try clear hk); (try clear hi)))
          repeat (go_quiet (first | (go_at_call 188; (with_reducible refine (expr_all.calls _ _ l1 1 t159 _ ?side1 ?side2 A22.out).mono ?_); (case side1 => repeat (first | exact (Kd.C_below HR1.out HB.out) | (with_reducible refine Kd.C_alloc ?_ _) | (with_reducible refine Kd.C_drewN ?_ _) | (with_reducible refine Kd.C_drew ?_))); (case side2 => exact HC1.out); rintro e w23 ⟨rfl, hb⟩; have n0_ := zz (below_step (bel HB.out) hb); clear HB; have HB := n0_; clear n0_; (try clear hb); (try clear hb2); (try clear hk); (try clear hi))); try go_wp2_with (first | (go_at_call 188; (with_reducible refine (expr_all.calls _ _ l1 1 t159 _ ?side1 ?side2 A22.out).mono ?_); (case side1 => repeat (first | exact (Kd.C_below HR1.out HB.out) | (with_reducible refine Kd.C_alloc ?_ _) | (with_reducible refine Kd.C_drewN ?_ _) | (with_reducible refine Kd.C_drew ?_))); (case side2 => exact HC1.out); rintro e w23 ⟨rfl, hb⟩; have n0_ := zz (below_step (bel HB.out) hb); clear HB; have HB := n0_; clear n0_; (try clear hb); (try clear hb2); (try clear hk); (try clear hi))))
          go_ret2
          exact ⟨by first | rfl | (simp [errW_none, errW_some] <;> rfl) | (simp [*, errW_none, errW_some] <;> rfl), bel HB.out⟩
         ·rw [if_neg c21] at H
          have c21b0 : (a0 == 16) = false := beq_eq_false_iff_ne.mpr c21
          have c21b1 : (a0 != 16) = true := bne_iff_ne.mpr c21
          obtain ⟨t160, A240, H⟩ := Option.bind_eq_some_iff.mp H
          try dsimp only at H
          have A24 := zz A240
          clear A240
          simp only [Option.some.injEq, Prod.mk.injEq] at H
          obtain ⟨rfl, rfl⟩ := H
          go_wp2_with (first | (go_at_call 188; (with_reducible refine (expr_all.calls _ _ l1 0 t160 _ ?side1 ?side2 A24.out).mono ?_); (case side1 => repeat (first | exact (Kd.C_below HR1.out HB.out) | (with_reducible refine Kd.C_alloc ?_ _) | (with_reducible refine Kd.C_drewN ?_ _) | (with_reducible refine Kd.C_drew ?_))); (case side2 => exact HC1.out); rintro e w25 ⟨rfl, hb⟩; have n0_ := zz (below_step (bel HB.out) hb); clear HB; have HB := n0_; clear n0_; (try clear hb); (try clear hb2); (try clear hk); (try clear hi)))
          repeat (go_quiet (first | (go_at_call 188; (with_reducible refine (expr_all.calls _ _ l1 0 t160 _ ?side1 ?side2 A24.out).mono ?_); (case side1 => repeat (first | exact (Kd.C_below HR1.out HB.out) | (with_reducible refine Kd.C_alloc ?_ _) | (with_reducible refine Kd.C_drewN ?_ _) | (with_reducible refine Kd.C_drew ?_))); (case side2 => exact HC1.out); rintro e w25 ⟨rfl, hb⟩; have n0_ := zz (below_step (bel HB.out) hb); clear HB; have HB := n0_; clear n0_; (try clear hb); (try clear hb2); (try clear hk); (try clear hi))); try go_wp2_with (first | (go_at_call 188; (with_reducible refine (expr_all.calls _ _ l1 0 t160 _ ?side1 ?side2 A24.out).mono ?_); (case side1 => repeat (first | exact (Kd.C_below HR1.out HB.out) | (with_reducible refine Kd.C_alloc ?_ _) | (with_reducible refine Kd.C_drewN ?_ _) | (with_reducible refine Kd.C_drew ?_))); (case side2 => exact HC1.out); rintro e w25 ⟨rfl, hb⟩; have n0_ := zz (below_step (bel HB.out) hb); clear HB; have HB := n0_; clear n0_; (try clear hb); (try clear hb2); (try clear hk); (try clear hi))))
          go_ret2
          exact ⟨by first | rfl | (simp [errW_none, errW_some] <;> rfl) | (simp [*, errW_none, errW_some] <;> rfl), bel HB.out⟩

end Go.Proofs.Ytdkkollonlmelaa.QPlanChecks
