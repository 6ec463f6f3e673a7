-- Written by this session's own program (wip/tools/ownprint.sh)
import Derived.Test.YtdkkollonlmelaaQPlanOrdersx0
import Derived.Test.YtdkkollonlmelaaQPlanOrdersx3
namespace Go.Proofs.Ytdkkollonlmelaa.QPlanOrders
open Go.RowKit Go.Proofs.YtdkkollonlmelaaW.PrintWords Go.Proofs.YtdkkollonlmelaaW.PrintLast Go.Proofs.YtdkkollonlmelaaW.PrintMore
attribute [local go_sem] max2_int min2_int max_two min_two max_three min_three max_four min_four Go.Proofs.Ytdkkollonlmelaa.Hand.str_gtr Go.Proofs.Ytdkkollonlmelaa.Hand.str_leq Go.Proofs.Ytdkkollonlmelaa.Hand.str_geq   -- for this text's walks alone
set_option linter.unusedVariables false
set_option linter.unusedSimpArgs false


/-! ### slices_Clone_int_int: function 82, by hand -/
set_option maxHeartbeats 1000000 in
set_option maxRecDepth 100000 in
theorem slices_Clone_int_int.calls0 (A : Option Addr) (c : Nat) (l : List Int) (w : World) (hr : Kd.C (Kd.int .i64) w A l.length l) (hc : l.length ≤ c) (hlim : l.length < 17592186044416) :
    Calls Try.prog 82 #[.slice A l.length c] w fun e w' => ∃ v0_ : Value, e = .returned (v0_) ∧ Kd.R (Kd.int .i64) 3 w' w.heap.size (fun _ => True) v0_ l ∧ Below w.heap.size w w' := by
  have HR := Aside0.mk hr
  have hnil : ∀ (x : Option Addr) (n m : Nat) (W : World), Sem.run Try.prog (binOp BinOp.eql 23 (Value.slice x n m) (Value.slice none 0 0)) W = .ok (.bool x.isNone) W := by
    intro x n m W
    cases x <;> rfl
  cases A with
  | none =>
    have hl : l = [] := by
      cases l with
      | nil => rfl
      | cons a l => obtain ⟨ad, h, _⟩ := hr.2.2 (by simp); cases h
    subst hl
    clear hr
    go_enter Try.func82, Try.ntmps82
    go_wp2
    go_ret
    exact ⟨_, rfl, Kd.R_nil _ _ _ _ _, Below.refl _ _⟩
  | some ad =>
    clear hr
    go_enter Try.func82, Try.ntmps82
    go_wp2_with (first | ((with_reducible refine gate_dst (N := 5) rfl ?_); refine Kd.R_lit (Kd.int .i64) w.heap.size 3 ?hg (N := 5) ?hd (xs := ([] : List Int)) (inner := []) (ok := fun _ => True) (okp := fun _ => True) ?hr ?hp (fun _ hk => hk) trivial (Below.refl _ _) (Nat.le_refl _) (by simp) ?_; (case hd => rfl); (case hg => rfl); (case hr => first | (go_simp; done) | (go_simp; rfl)); (case hp => exact (Reps.none _ _)); intro v5 w5 ho hb hg_ hnew_; clear hg_ hnew_; have HO := Aside0.mk ho; have HB := Aside0.mk hb; clear ho hb) | ((with_reducible refine gate_builtin (b := .append) (xs := #[.tmp 5, .tmp 6]) rfl ?_); at_builtin; refine Kd.R_append_rows (Kd.int .i64) (Rr := (Kd.int .i64).K w5) (w0 := w) w.heap.size rfl (.tmp 5) (.tmp 6) 23 3 (.int .i64 0) 8 rfl Try.underlying23 info3 rfl (by decide) (by omega) v5 [] l (some ad) l.length c (fun _ => True) (fun _ => False) rfl rfl HO.out (Kd.C_below HR.out HB.out) (fun x cs h => h) (fun _ hk => hk.elim) (fun _ _ => trivial) HB.out HB.out.size (by simp; omega) ?_; intro v7 w7 ho hb hg hat; clear hg hat; have HO7 := Aside0.mk ho; have HB7 := Aside0.mk hb; clear ho hb))
    go_ret
    exact ⟨_, rfl, by have h := HO7.out; rw [List.nil_append] at h; exact h, HB7.out⟩
def slices_Clone_int_int.f (l0 : List Int) : Option (List Int) := if l0.length < 17592186044416 then some l0 else none
theorem slices_Clone_int_int.calls (A0 : Option Addr) (c0 : Nat) (l0 : List Int) (r : List Int) (w : World) (hr0 : Kd.C (Kd.int .i64) w A0 l0.length l0) (hc0 : l0.length ≤ c0) (h : slices_Clone_int_int.f l0 = some r) :
    Calls Try.prog 82 #[.slice A0 l0.length c0] w fun e w' => ∃ v0_ : Value, e = .returned (v0_) ∧ Kd.R (Kd.int .i64) 3 w' w.heap.size (fun _ => True) v0_ r ∧ Below w.heap.size w w' := by
  unfold slices_Clone_int_int.f at h
  split at h
  · rename_i hl
    obtain rfl := Option.some.inj h
    exact slices_Clone_int_int.calls0 A0 c0 l0 w hr0 hc0 hl
  · cases h


/-! ### plan_reaches: function 124 -/
def plan_reaches.l0 : Nat → Int → List Bool → List Int → List (S42) → List Int → Int → Option (Bool)
  | 0, _, _, _, _, _, _ => none
  | k + 1, x2, x7, x8, x113000, x113001, x113002 => if (x8.length : Int) > 0 then (if 0 < (x8.length : Int) then (if 1 ≤ (x8.length : Int) then ((some (x8.drop (1 : Int).toNat : List Int)).bind fun y121 => (if (rd x8 0) = x2 then (some true) else (if 0 ≤ (rd x8 0) then (if (rd x8 0) < (x7.length : Int) then (if (rdOf false x7 (rd x8 0) = true) then (plan_reaches.l0 k x2 x7 y121 x113000 x113001 x113002) else (if (rd x8 0) < (x113000.length : Int) then (if y121.length + ((rd_T42 x113000 (rd x8 0)).f1).length < 17592186044416 then (plan_reaches.l0 k x2 (x7.set ((rd x8 0) : Int).toNat true) (y121 ++ ((rd_T42 x113000 (rd x8 0)).f1)) x113000 x113001 x113002) else (none)) else (none))) else (none)) else (none)))) else (none)) else (none)) else (some false)
def plan_reaches.f (k : Nat) (l0_0 : List (S42)) (l0_1 : List Int) (a0_2 : Int) (a1 : Int) (a2 : Int) : Option (Bool) := if 0 ≤ (l0_0.length : Int) then (if ((l0_0.length : Int) : Int).toNat ≤ 281474976710656 then (if 0 ≤ a1 then (if a1 < (l0_0.length : Int) then ((slices_Clone_int_int.f ((rd_T42 l0_0 a1).f1)).bind fun t117 => (plan_reaches.l0 k a2 (List.replicate ((l0_0.length : Int) : Int).toNat false) t117 l0_0 l0_1 a0_2)) else (none)) else (none)) else (none)) else (none)
theorem plan_reaches.mono_l : ∀ k, (∀ y0 y1 y2 y3 y4 y5, LeO (plan_reaches.l0 k y0 y1 y2 y3 y4 y5) (plan_reaches.l0 (k + 1) y0 y1 y2 y3 y4 y5))
  | 0 => fun _ _ _ _ _ _ r h => by simp [plan_reaches.l0] at h
  | k + 1 => by
    have ih0 := plan_reaches.mono_l k
    · intro y0 y1 y2 y3 y4 y5
      unfold plan_reaches.l0
      repeat' first
      | (with_reducible exact ih0 _ _ _ _ _ _)
      | (with_reducible exact LeO.refl _)
      | (with_reducible exact LeO.none _)
      | (with_reducible refine LeO.ite ?_ ?_)
      | (with_reducible refine LeO.bind ?_ (fun _ => ?_))
      | exact ih0 _ _ _ _ _ _
      | exact LeO.none _
      | refine LeO.ite ?_ ?_
      | refine LeO.bind ?_ (fun _ => ?_)
theorem plan_reaches.mono : ∀ a0 a1 a2 a3 a4 k, LeO (plan_reaches.f k a0 a1 a2 a3 a4) (plan_reaches.f (k + 1) a0 a1 a2 a3 a4) := by
  intro a0 a1 a2 a3 a4 k
  have ih0 := plan_reaches.mono_l k
  unfold plan_reaches.f
  repeat' first
      | (with_reducible exact ih0 _ _ _ _ _ _)
      | (with_reducible exact LeO.refl _)
      | (with_reducible exact LeO.none _)
      | (with_reducible refine LeO.ite ?_ ?_)
      | (with_reducible refine LeO.bind ?_ (fun _ => ?_))
      | exact ih0 _ _ _ _ _ _
      | exact LeO.none _
      | refine LeO.ite ?_ ?_
      | refine LeO.bind ?_ (fun _ => ?_)
set_option maxHeartbeats 8000000 in
set_option maxRecDepth 100000 in
theorem plan_reaches.calls (k : Nat) (A0_0 : Option Addr) (c0_0 : Nat) (l0_0 : List (S42)) (A0_1 : Option Addr) (c0_1 : Nat) (l0_1 : List Int) (a0_2 : Int) (a1 : Int) (a2 : Int) (r : Bool) (w : World) (hr0_0 : Kd.C k42 w A0_0 l0_0.length l0_0) (hc0_0 : l0_0.length ≤ c0_0) (hr0_1 : Kd.C (Kd.int .i64) w A0_1 l0_1.length l0_1) (hc0_1 : l0_1.length ≤ c0_1) (h : plan_reaches.f k l0_0 l0_1 a0_2 a1 a2 = some r) :
    Calls Try.prog 124 #[.agg #[.slice A0_0 l0_0.length c0_0, .slice A0_1 l0_1.length c0_1, .int .i64 a0_2], .int .i64 a1, .int .i64 a2] w fun e w' => e = .returned (.bool r) ∧ Below w.heap.size w w' := by
  have hu25 := Try.underlying25
  have HR0_0 := Aside0.mk hr0_0
  have HC0_0 := Aside0.mk hc0_0
  clear hr0_0 hc0_0
  have HR0_1 := Aside0.mk hr0_1
  have HC0_1 := Aside0.mk hc0_1
  clear hr0_1 hc0_1
  have HB := Aside0.mk (Below.refl w.heap.size w)
  have H : (if 0 ≤ (l0_0.length : Int) then (if ((l0_0.length : Int) : Int).toNat ≤ 281474976710656 then (if 0 ≤ a1 then (if a1 < (l0_0.length : Int) then ((slices_Clone_int_int.f ((rd_T42 l0_0 a1).f1)).bind fun t117 => (plan_reaches.l0 k a2 (List.replicate ((l0_0.length : Int) : Int).toNat false) t117 l0_0 l0_1 a0_2)) else (none)) else (none)) else (none)) else (none)) = some r := h
  clear h
  by_cases c4 : 0 ≤ (l0_0.length : Int)
  · rw [if_pos c4] at H
    have c4b0 := eq_true c4
    have c4b1 : decide (0 ≤ (l0_0.length : Int)) = true := decide_eq_true c4
    clear c4
    by_cases c5 : ((l0_0.length : Int) : Int).toNat ≤ 281474976710656
    · rw [if_pos c5] at H
      have c5b0 := eq_true c5
      have c5b1 : decide (((l0_0.length : Int) : Int).toNat ≤ 281474976710656) = true := decide_eq_true c5
      clear c5
      obtain ⟨y113, hy113⟩ : ∃ y_ : List Bool, y_ = (List.replicate ((l0_0.length : Int) : Int).toNat false) := ⟨_, rfl⟩
      replace H : (if 0 ≤ a1 then (if a1 < (l0_0.length : Int) then ((slices_Clone_int_int.f ((rd_T42 l0_0 a1).f1)).bind fun t117 => (plan_reaches.l0 k a2 y113 t117 l0_0 l0_1 a0_2)) else (none)) else (none)) = some r := by first | (rw [hy113]; with_reducible exact H) | (have H2_ := (Option.bind_some _ _).symm.trans H; rw [hy113]; with_reducible exact H2_) | (have H2_ := (Option.bind_some _ _).symm.trans H; with_reducible exact H2_) | with_reducible exact H | (rw [hy113]; exact H) | exact H
      have Ny113 := Aside0.mk hy113
      clear hy113
      by_cases c6 : 0 ≤ a1
      · rw [if_pos c6] at H
        have c6b0 : decide (0 ≤ a1) = true := decide_eq_true c6
        clear c6
        by_cases c7 : a1 < (l0_0.length : Int)
        · rw [if_pos c7] at H
          have c7b0 : decide (a1 < (l0_0.length : Int)) = true := decide_eq_true c7
          clear c7
          replace H := Option.bind_eq_some_iff.mp H
          obtain ⟨t117, A80, H⟩ := H
          replace H : (plan_reaches.l0 k a2 y113 t117 l0_0 l0_1 a0_2) = some r := H
          have A8 := Aside0.mk A80
          clear A80
          have H' := Aside0.mk H
          clear H
          go_enter Try.func124, Try.ntmps124
          go_wp2_with (first | ((with_reducible refine gate_dst (N := 3) rfl ?_); refine box_event ?hg (N := 3) ?hd (cs := #[.slice A0_0 l0_0.length c0_0, .slice A0_1 l0_1.length c0_1, .int .i64 a0_2]) (t := 25) ?hr ?_; (case hd => rfl); (case hg => rfl); (case hr => first | (go_simp; done) | (go_simp; rfl)); intro gb112 hg w9 hbox hb; have n0_ := Aside0.mk (below_step (by repeat (first | (with_reducible first | exact HB.out | apply below_alloc | apply pw_below_drewN | apply below_drew1) | exact HB.out)) hb); have n1_ := Aside0.mk (hbox); have n2_ := Aside0.mk ((by rw [hg]; exact (below_size (by repeat (first | (with_reducible first | exact HB.out | apply below_alloc | apply pw_below_drewN | apply below_drew1) | exact HB.out))) : w.heap.size ≤ gb112)); have n3_ := Aside0.mk ((by rw [hg]; exact (below_size (by repeat (first | (with_reducible first | exact HB.out | apply below_alloc | apply pw_below_drewN | apply below_drew1) | exact HB.out))) : w.heap.size ≤ gb112)); clear HB; have HB := n0_; have BK112 := n1_; have GW112 := n2_; have GE112 := n3_; clear n0_ n1_ n2_ n3_; clear hb hbox hg; have hcz10_0 : w9.cell? ⟨gb112, 0, none⟩ = some (.slice A0_0 l0_0.length c0_0) := (blk_cell BK112.out 0).trans rfl; have hcz10_1 : w9.cell? ⟨gb112, 1, none⟩ = some (.slice A0_1 l0_1.length c0_1) := (blk_cell BK112.out 1).trans rfl; have hcz10_2 : w9.cell? ⟨gb112, 2, none⟩ = some (.int .i64 a0_2) := (blk_cell BK112.out 2).trans rfl; have hfz10_0 := blk_frozen BK112.out 0; have hfz10_1 := blk_frozen BK112.out 1; have hfz10_2 := blk_frozen BK112.out 2) | ((with_reducible refine gate_dst (N := 13) rfl ?_); refine Kd.R_make Kd.bool _ 4 rfl (N := 13) rfl 43 _ _ rfl (l0_0.length : Int) rfl rfl Try.underlying43 (.bool false) 1 info4 rfl (by decide) (by omega) false (ok := fun _ => True) (okp := fun _ => True) rfl (fun _ hk => hk) trivial (of_decide_eq_true (by first | (with_reducible assumption) | assumption)) (Nat.le_trans (Nat.mul_le_mul_right _ (of_decide_eq_true (by first | (with_reducible assumption) | assumption) : (l0_0.length : Int).toNat ≤ 281474976710656)) (by omega)) (Below.refl _ _) (Nat.le_refl _) ?_; intro v114 w11 ho12 hb hg_ hnew_; clear hg_ hnew_; (first | rw [← Ny113.out] at ho12 | (simp only [Int.reduceToNat] at ho12; rw [← Ny113.out] at ho12)); have n0_ := Aside0.mk (Kd.R_lower ho12 (below_size (by repeat (first | (with_reducible first | exact HB.out | apply below_alloc | apply pw_below_drewN | apply below_drew1 | refine below_set ?_ GE112.out) | exact HB.out)))); have n1_ := Aside0.mk (blk_below (g := gb112) (o := .cells #[.slice A0_0 l0_0.length c0_0, .slice A0_1 l0_1.length c0_1, .int .i64 a0_2] 25 (0, 0)) (by (with_reducible repeat (first | refine blk_drewN ?_ _ | refine blk_drew ?_ | refine blk_alloc ?_ _)); exact BK112.out) hb); have n2_ := Aside0.mk (below_step (by repeat (first | (with_reducible first | exact HB.out | apply below_alloc | apply pw_below_drewN | apply below_drew1 | refine below_set ?_ GE112.out) | exact HB.out)) hb); clear BK112; clear HB; have HO115 := n0_; have BK112 := n1_; have HB := n2_; clear n0_ n1_ n2_; clear hb ho12; have hcz13_0 : w11.cell? ⟨gb112, 0, none⟩ = some (.slice A0_0 l0_0.length c0_0) := (blk_cell BK112.out 0).trans rfl; have hcz13_1 : w11.cell? ⟨gb112, 1, none⟩ = some (.slice A0_1 l0_1.length c0_1) := (blk_cell BK112.out 1).trans rfl; have hcz13_2 : w11.cell? ⟨gb112, 2, none⟩ = some (.int .i64 a0_2) := (blk_cell BK112.out 2).trans rfl; have hfz13_0 := blk_frozen BK112.out 0; have hfz13_1 := blk_frozen BK112.out 1; have hfz13_2 := blk_frozen BK112.out 2; have p116 : 0 ≤ (a1 : Int) := of_decide_eq_true (by first | (with_reducible assumption) | assumption); have q116 : a1 < (l0_0.length : Int) := of_decide_eq_true (by first | (with_reducible assumption) | assumption); obtain ⟨ad116, A116_1, c116_1, A116_2, c116_2, A116_3, c116_3, A116_4, c116_4, e116, hx116_0, hx116_1, hx116_2, hx116_3, hx116_4, hx116_5, hx116_6, hx116_7, hx116_8, hl116_1, hi116_1, hl116_2, hi116_2, hl116_3, hi116_3, hl116_4, hi116_4⟩ := at_T42 HR0_0.out a1 p116 q116; cases e116; replace hx116_0 := (HB.out.cell (World.block_lt_of_cell? w _ hx116_0)).trans hx116_0; replace hx116_1 := (HB.out.cell (World.block_lt_of_cell? w _ hx116_1)).trans hx116_1; replace hx116_2 := (HB.out.cell (World.block_lt_of_cell? w _ hx116_2)).trans hx116_2; replace hx116_3 := (HB.out.cell (World.block_lt_of_cell? w _ hx116_3)).trans hx116_3; replace hx116_4 := (HB.out.cell (World.block_lt_of_cell? w _ hx116_4)).trans hx116_4; replace hx116_5 := (HB.out.cell (World.block_lt_of_cell? w _ hx116_5)).trans hx116_5; replace hx116_6 := (HB.out.cell (World.block_lt_of_cell? w _ hx116_6)).trans hx116_6; replace hx116_7 := (HB.out.cell (World.block_lt_of_cell? w _ hx116_7)).trans hx116_7; replace hx116_8 := (HB.out.cell (World.block_lt_of_cell? w _ hx116_8)).trans hx116_8; have HR116_1 := Aside0.mk hi116_1; have HC116_1 := Aside0.mk hl116_1; clear hi116_1 hl116_1; have HR116_2 := Aside0.mk hi116_2; have HC116_2 := Aside0.mk hl116_2; clear hi116_2 hl116_2; have HR116_3 := Aside0.mk hi116_3; have HC116_3 := Aside0.mk hl116_3; clear hi116_3 hl116_3; have HR116_4 := Aside0.mk hi116_4; have HC116_4 := Aside0.mk hl116_4; clear hi116_4 hl116_4; replace p116 := eq_true p116; replace q116 := eq_true q116) | ((with_reducible refine gate_callee (f := 82) rfl ?_); refine goesL_ (some 20) rfl rfl Try.func82 (by kernel_rfl) rfl #[.slice A116_1 ((rd_T42 l0_0 a1).f1).length c116_1] rfl (by (try simp only [List.map_toArray, List.map_cons, List.map_nil]); first | done | rfl | (simp only [List.length_drop, List.length_take]; rfl)) ?_; (with_reducible refine (slices_Clone_int_int.calls _ _ ((rd_T42 l0_0 a1).f1) t117 _ ?side1 ?side2 A8.out).mono ?_); (case side1 => repeat (first | exact (Kd.C_below HR116_1.out HB.out) | (with_reducible refine Kd.C_alloc ?_ _) | (with_reducible refine Kd.C_drewN ?_ _) | (with_reducible refine Kd.C_drew ?_))); (case side2 => exact HC116_1.out); rintro e w14 ⟨v118, rfl, ho0, hb⟩; refine ⟨_, rfl, ?_⟩; have n0_ := Aside0.mk (Kd.R_below (by (with_reducible repeat (first | apply Kd.R_alloc | apply Kd.R_drewN | apply Kd.R_drew)); exact HO115.out) hb); have n1_ := Aside0.mk (Kd.R_lower ho0 (below_size (by repeat (first | (with_reducible first | exact HB.out | apply below_alloc | apply pw_below_drewN | apply below_drew1 | refine below_set ?_ GE112.out) | exact HB.out)))); have n2_ := Aside0.mk (blk_below (g := gb112) (o := .cells #[.slice (some ad116) l0_0.length c0_0, .slice A0_1 l0_1.length c0_1, .int .i64 a0_2] 25 (0, 0)) (by (with_reducible repeat (first | refine blk_drewN ?_ _ | refine blk_drew ?_ | refine blk_alloc ?_ _)); exact BK112.out) hb); have n3_ := Aside0.mk (below_step (by repeat (first | (with_reducible first | exact HB.out | apply below_alloc | apply pw_below_drewN | apply below_drew1 | refine below_set ?_ GE112.out) | exact HB.out)) hb); clear HO115; clear BK112; clear HB; have HO115 := n0_; have HO119 := n1_; have BK112 := n2_; have HB := n3_; clear n0_ n1_ n2_ n3_; (try clear hb); (try clear hb2); (try clear hk); (try clear hi); (try clear ho0)))
          go_loopg [8] k (fun kq v8 w' => ∃ (x7_1 : List Bool) (x8_1 : List Int), Aside0 (plan_reaches.l0 kq a2 x7_1 x8_1 l0_0 l0_1 a0_2 = some r) ∧ Aside0 (kq ≤ k) ∧ Aside0 (Kd.R Kd.bool 4 w' w.heap.size (fun _ => True) v114 x7_1) ∧ Aside0 (Kd.Q (Kd.int .i64) 3 w' w.heap.size (fun _ => True) v8 x8_1) ∧ Aside0 (w'.heap[gb112]? = some (.cells #[(.slice (some ad116) l0_0.length c0_0), (.slice A0_1 l0_1.length c0_1), .int .i64 a0_2] 25 (0, 0))) ∧ Aside0 (Below w.heap.size w w'))
          case atStart => exact ⟨(y113), (t117), H', ⟨Nat.le_refl _⟩, ⟨by (with_reducible repeat (first | apply Kd.R_alloc | apply Kd.R_drewN | apply Kd.R_drew)); exact HO115.out⟩, ⟨Kd.Q_of_R (by (with_reducible repeat (first | apply Kd.R_alloc | apply Kd.R_drewN | apply Kd.R_drew)); exact HO119.out)⟩, ⟨by (with_reducible repeat (first | refine blk_drewN ?_ _ | refine blk_drew ?_ | refine blk_alloc ?_ _)); exact BK112.out⟩, ⟨by repeat (first | (with_reducible first | exact HB.out | apply below_alloc | apply pw_below_drewN | apply below_drew1 | refine below_set ?_ GE112.out) | exact HB.out)⟩⟩
          case round =>
            clear H'
            try clear c1
            try clear p1
            try clear q1
            try clear hx1
            try clear p2
            try clear c4
            try clear c4b0
            try clear c4b1
            try clear c5
            try clear c5b0
            try clear c5b1
            try clear c6
            try clear c6b0
            try clear c7
            try clear c7b0
            try clear c8
            try clear c11
            try clear p11
            try clear q11
            try clear hx11
            try clear c12
            try clear hcz10_0
            try clear hcz10_1
            try clear hcz10_2
            try clear hcz13_0
            try clear hcz13_1
            try clear hcz13_2
            try clear hfz10_0
            try clear hfz10_1
            try clear hfz10_2
            try clear hfz13_0
            try clear hfz13_1
            try clear hfz13_2
            try clear hx116_0
            try clear hx116_1
            try clear hx116_2
            try clear hx116_3
            try clear hx116_4
            try clear hx116_5
            try clear hx116_6
            try clear hx116_7
            try clear hx116_8
            try clear p116
            try clear q116
            obtain ⟨x7_1, x8_1, HA, HK1, HO_7, HO_8, BK112, HB⟩ := hrel
            cases gk with
            | zero => exact absurd HA.out (by simp [plan_reaches.l0])
            | succ k1 =>
              have H := HA.out
              clear HA
              simp only [plan_reaches.l0] at H
              by_cases c15 : (x8_1.length : Int) > 0
              · rw [if_pos c15] at H
                have c15b0 : decide (0 < (x8_1.length : Int)) = true := decide_eq_true c15
                have c15b1 : decide (0 < x8_1.length) = true := decide_eq_true (by omega)
                clear c15
                by_cases c16 : 0 < (x8_1.length : Int)
                · rw [if_pos c16] at H
                  have c16b0 : decide (0 < (x8_1.length : Int)) = true := decide_eq_true c16
                  have c16b1 : decide (0 < x8_1.length) = true := decide_eq_true (by omega)
                  clear c16
                  by_cases c17 : 1 ≤ (x8_1.length : Int)
                  · rw [if_pos c17] at H
                    have c17b0 := eq_true c17
                    have c17b1 : decide (1 ≤ (x8_1.length : Int)) = true := decide_eq_true c17
                    clear c17
                    obtain ⟨y121, hy121⟩ : ∃ y_ : List Int, y_ = (x8_1.drop (1 : Int).toNat) := ⟨_, rfl⟩
                    replace H : (if (rd x8_1 0) = a2 then (some true) else (if 0 ≤ (rd x8_1 0) then (if (rd x8_1 0) < (x7_1.length : Int) then (if (rdOf false x7_1 (rd x8_1 0) = true) then (plan_reaches.l0 k1 a2 x7_1 y121 l0_0 l0_1 a0_2) else (if (rd x8_1 0) < (l0_0.length : Int) then (if y121.length + ((rd_T42 l0_0 (rd x8_1 0)).f1).length < 17592186044416 then (plan_reaches.l0 k1 a2 (x7_1.set ((rd x8_1 0) : Int).toNat true) (y121 ++ ((rd_T42 l0_0 (rd x8_1 0)).f1)) l0_0 l0_1 a0_2) else (none)) else (none))) else (none)) else (none))) = some r := by first | (rw [hy121]; with_reducible exact H) | (have H2_ := (Option.bind_some _ _).symm.trans H; rw [hy121]; with_reducible exact H2_) | (have H2_ := (Option.bind_some _ _).symm.trans H; with_reducible exact H2_) | with_reducible exact H | (rw [hy121]; exact H) | exact H
                    have Ny121 := Aside0.mk hy121
                    clear hy121
                    by_cases c18 : (rd x8_1 0) = a2
                    · rw [if_pos c18] at H
                      have c18b0 : ((rd x8_1 0) == a2) = true := beq_iff_eq.mpr c18
                      have c18b1 : ((rd x8_1 0) != a2) = false := bne_eq_false_iff_eq.mpr c18
                      clear c18
                      obtain rfl := Option.some.inj H
                      obtain ⟨Ao19, co19, eo19, _⟩ := Kd.Q_slice HO_8.out
                      subst eo19
                      have p120 : 0 ≤ (0 : Int) := (by omega)
                      have q120 : 0 < (x8_1.length : Int) := of_decide_eq_true (by first | (with_reducible assumption) | assumption)
                      obtain ⟨ad120, e120, hx120_0⟩ := Kd.at_int (Kd.Q_reads' HO_8.out).2.2 0 p120 q120
                      cases e120
                      have qi120 : (0 < x8_1.length) = True := eq_true (by omega)
                      (try rw [show ((0 : Int)).toNat = 0 from rfl] at hx120_0)
                      (try rw [Addr.add_zero'] at hx120_0)
                      replace p120 := eq_true p120
                      replace q120 := eq_true q120
                      have q20 : (1 : Int) ≤ ((x8_1.length : Int) : Int) := of_decide_eq_true (by first | (with_reducible assumption) | assumption)
                      obtain ⟨i020, hi020, _, hsz20, _⟩ := info_parts info3
                      have hcut20 := cut_from (P := Try.prog) 23 3 .i64 Try.underlying23 hi020 1 hsz20 (some ad120) x8_1.length co19 1 (by omega) q20
                      have hr20 := Kd.Q_drop (k := (1 : Int).toNat) HO_8.out (by omega)
                      obtain ⟨A20, hA20⟩ : ∃ A1, A1 = (if co19 = (1 : Int).toNat then (some ad120) else ((some ad120) : Option Addr).map (·.add ((1 : Int).toNat * 1))) := ⟨_, rfl⟩
                      obtain ⟨c20, hc20⟩ : ∃ c1, c1 = co19 - (1 : Int).toNat := ⟨_, rfl⟩
                      have hy20 : y121.length = x8_1.length - (1 : Int).toNat := (by rw [Ny121.out, List.length_drop])
                      rw [← Ny121.out] at hr20
                      rw [← hy20, ← hA20, ← hc20] at hcut20
                      replace hr20 : Kd.Q (Kd.int .i64) 3 wr w.heap.size (fun _ => True) (.slice A20 y121.length c20) y121 := (by rw [hA20, hc20, hy20]; exact hr20)
                      have HE20 : Aside0 ((Value.slice A20 y121.length c20).ownBlock = (.slice (some ad120) x8_1.length co19 : Value).ownBlock) := ⟨by rw [hA20]; split <;> (cases ((some ad120) : Option Addr) <;> rfl)⟩
                      clear hy20 hi020 hsz20 HO_8 hA20 hc20
                      have HO123 := Aside0.mk hr20
                      clear hr20
                      replace q20 := eq_true q20
                      go_wp2
                      go_ret
                      exact ⟨by first | rfl | (simp [errW_none, errW_some] <;> rfl) | (simp [*, errW_none, errW_some] <;> rfl), by repeat (first | (with_reducible first | exact HB.out | apply below_alloc | apply pw_below_drewN | apply below_drew1 | refine below_set ?_ GE112.out) | exact HB.out)⟩
                    · rw [if_neg c18] at H
                      have c18b0 : ((rd x8_1 0) == a2) = false := beq_eq_false_iff_ne.mpr c18
                      have c18b1 : ((rd x8_1 0) != a2) = true := bne_iff_ne.mpr c18
                      by_cases c21 : 0 ≤ (rd x8_1 0)
                      · rw [if_pos c21] at H
                        have c21b0 : decide (0 ≤ (rd x8_1 0)) = true := decide_eq_true c21
                        clear c21
                        by_cases c22 : (rd x8_1 0) < (x7_1.length : Int)
                        · rw [if_pos c22] at H
                          have c22b0 : decide ((rd x8_1 0) < (x7_1.length : Int)) = true := decide_eq_true c22
                          clear c22
                          obtain ⟨bq23, hbq23⟩ : ∃ b_ : Bool, b_ = (rdOf false x7_1 (rd x8_1 0)) := ⟨_, rfl⟩
                          replace H : (if (bq23 = true) then (plan_reaches.l0 k1 a2 x7_1 y121 l0_0 l0_1 a0_2) else (if (rd x8_1 0) < (l0_0.length : Int) then (if y121.length + ((rd_T42 l0_0 (rd x8_1 0)).f1).length < 17592186044416 then (plan_reaches.l0 k1 a2 (x7_1.set ((rd x8_1 0) : Int).toNat true) (y121 ++ ((rd_T42 l0_0 (rd x8_1 0)).f1)) l0_0 l0_1 a0_2) else (none)) else (none))) = some r := by rw [← hbq23] at H; exact H
                          have Nbq23 := Aside0.mk hbq23
                          clear hbq23
                          by_cases c24 : (bq23 = true)
                          · subst c24
                            have H1 : (plan_reaches.l0 k1 a2 x7_1 y121 l0_0 l0_1 a0_2) = some r := by rw [if_pos rfl] at H; exact H
                            clear H
                            have H := H1
                            clear H1
                            have H' := Aside0.mk H
                            clear H
                            obtain ⟨Ao25, co25, eo25, _⟩ := Kd.Q_slice HO_8.out
                            subst eo25
                            have p120 : 0 ≤ (0 : Int) := (by omega)
                            have q120 : 0 < (x8_1.length : Int) := of_decide_eq_true (by first | (with_reducible assumption) | assumption)
                            obtain ⟨ad120, e120, hx120_0⟩ := Kd.at_int (Kd.Q_reads' HO_8.out).2.2 0 p120 q120
                            cases e120
                            have qi120 : (0 < x8_1.length) = True := eq_true (by omega)
                            (try rw [show ((0 : Int)).toNat = 0 from rfl] at hx120_0)
                            (try rw [Addr.add_zero'] at hx120_0)
                            replace p120 := eq_true p120
                            replace q120 := eq_true q120
                            have q26 : (1 : Int) ≤ ((x8_1.length : Int) : Int) := of_decide_eq_true (by first | (with_reducible assumption) | assumption)
                            obtain ⟨i026, hi026, _, hsz26, _⟩ := info_parts info3
                            have hcut26 := cut_from (P := Try.prog) 23 3 .i64 Try.underlying23 hi026 1 hsz26 (some ad120) x8_1.length co25 1 (by omega) q26
                            have hr26 := Kd.Q_drop (k := (1 : Int).toNat) HO_8.out (by omega)
                            obtain ⟨A26, hA26⟩ : ∃ A1, A1 = (if co25 = (1 : Int).toNat then (some ad120) else ((some ad120) : Option Addr).map (·.add ((1 : Int).toNat * 1))) := ⟨_, rfl⟩
                            obtain ⟨c26, hc26⟩ : ∃ c1, c1 = co25 - (1 : Int).toNat := ⟨_, rfl⟩
                            have hy26 : y121.length = x8_1.length - (1 : Int).toNat := (by rw [Ny121.out, List.length_drop])
                            rw [← Ny121.out] at hr26
                            rw [← hy26, ← hA26, ← hc26] at hcut26
                            replace hr26 : Kd.Q (Kd.int .i64) 3 wr w.heap.size (fun _ => True) (.slice A26 y121.length c26) y121 := (by rw [hA26, hc26, hy26]; exact hr26)
                            have HE26 : Aside0 ((Value.slice A26 y121.length c26).ownBlock = (.slice (some ad120) x8_1.length co25 : Value).ownBlock) := ⟨by rw [hA26]; split <;> (cases ((some ad120) : Option Addr) <;> rfl)⟩
                            clear hy26 hi026 hsz26 HO_8 hA26 hc26
                            have HO123 := Aside0.mk hr26
                            clear hr26
                            replace q26 := eq_true q26
                            obtain ⟨Ao27, co27, eo27⟩ := Kd.R_slice HO_7.out
                            subst eo27
                            have p124 : 0 ≤ ((rd x8_1 0) : Int) := of_decide_eq_true (by first | (with_reducible assumption) | assumption)
                            have q124 : (rd x8_1 0) < (x7_1.length : Int) := of_decide_eq_true (by first | (with_reducible assumption) | assumption)
                            obtain ⟨ad124, e124, hx124_0⟩ := Kd.at_bool (Kd.R_reads' HO_7.out).2.2 (rd x8_1 0) p124 q124
                            (try rw [← Nbq23.out] at hx124_0)
                            cases e124
                            replace p124 := eq_true p124
                            replace q124 := eq_true q124
                            go_wp2
                            go_roundg k1
                            case measure => have := HK1.out; omega
                            case rel => exact ⟨(x7_1), (y121), H', ⟨by have := HK1.out; omega⟩, ⟨by (with_reducible repeat (first | apply Kd.R_alloc | apply Kd.R_drewN | apply Kd.R_drew)); exact HO_7.out⟩, ⟨by (with_reducible repeat (first | apply Kd.Q_alloc | apply Kd.Q_drewN | apply Kd.Q_drew)); exact HO123.out⟩, ⟨by (with_reducible repeat (first | refine blk_drewN ?_ _ | refine blk_drew ?_ | refine blk_alloc ?_ _)); exact BK112.out⟩, ⟨by repeat (first | (with_reducible first | exact HB.out | apply below_alloc | apply pw_below_drewN | apply below_drew1 | refine below_set ?_ GE112.out) | exact HB.out)⟩⟩
                          · replace c24 := Bool.eq_false_iff.mpr c24
                            subst c24
                            have H1 : (if (rd x8_1 0) < (l0_0.length : Int) then (if y121.length + ((rd_T42 l0_0 (rd x8_1 0)).f1).length < 17592186044416 then (plan_reaches.l0 k1 a2 (x7_1.set ((rd x8_1 0) : Int).toNat true) (y121 ++ ((rd_T42 l0_0 (rd x8_1 0)).f1)) l0_0 l0_1 a0_2) else (none)) else (none)) = some r := by rw [if_neg (show ¬ (false = true) by decide)] at H; exact H
                            clear H
                            have H := H1
                            clear H1
                            obtain ⟨y125, hy125⟩ : ∃ y_ : List Bool, y_ = (x7_1.set ((rd x8_1 0) : Int).toNat true) := ⟨_, rfl⟩
                            replace H : (if (rd x8_1 0) < (l0_0.length : Int) then (if y121.length + ((rd_T42 l0_0 (rd x8_1 0)).f1).length < 17592186044416 then (plan_reaches.l0 k1 a2 y125 (y121 ++ ((rd_T42 l0_0 (rd x8_1 0)).f1)) l0_0 l0_1 a0_2) else (none)) else (none)) = some r := by first | (rw [hy125]; with_reducible exact H) | (have H2_ := (Option.bind_some _ _).symm.trans H; rw [hy125]; with_reducible exact H2_) | (have H2_ := (Option.bind_some _ _).symm.trans H; with_reducible exact H2_) | with_reducible exact H | (rw [hy125]; exact H) | exact H
                            have Ny125 := Aside0.mk hy125
                            clear hy125
                            by_cases c29 : (rd x8_1 0) < (l0_0.length : Int)
                            · rw [if_pos c29] at H
                              have c29b0 : decide ((rd x8_1 0) < (l0_0.length : Int)) = true := decide_eq_true c29
                              clear c29
                              by_cases c30 : y121.length + ((rd_T42 l0_0 (rd x8_1 0)).f1).length < 17592186044416
                              · rw [if_pos c30] at H
                                have LMc30 := Aside0.mk c30
                                clear c30
                                obtain ⟨y127, hy127⟩ : ∃ y_ : List Int, y_ = (y121 ++ ((rd_T42 l0_0 (rd x8_1 0)).f1)) := ⟨_, rfl⟩
                                replace H : (plan_reaches.l0 k1 a2 y125 y127 l0_0 l0_1 a0_2) = some r := by first | (rw [hy127]; with_reducible exact H) | (have H2_ := (Option.bind_some _ _).symm.trans H; rw [hy127]; with_reducible exact H2_) | (have H2_ := (Option.bind_some _ _).symm.trans H; with_reducible exact H2_) | with_reducible exact H | (rw [hy127]; exact H) | exact H
                                have Ny127 := Aside0.mk hy127
                                clear hy127
                                have H' := Aside0.mk H
                                clear H
                                obtain ⟨Ao31, co31, eo31, _⟩ := Kd.Q_slice HO_8.out
                                subst eo31
                                have p120 : 0 ≤ (0 : Int) := (by omega)
                                have q120 : 0 < (x8_1.length : Int) := of_decide_eq_true (by first | (with_reducible assumption) | assumption)
                                obtain ⟨ad120, e120, hx120_0⟩ := Kd.at_int (Kd.Q_reads' HO_8.out).2.2 0 p120 q120
                                cases e120
                                have qi120 : (0 < x8_1.length) = True := eq_true (by omega)
                                (try rw [show ((0 : Int)).toNat = 0 from rfl] at hx120_0)
                                (try rw [Addr.add_zero'] at hx120_0)
                                replace p120 := eq_true p120
                                replace q120 := eq_true q120
                                have q32 : (1 : Int) ≤ ((x8_1.length : Int) : Int) := of_decide_eq_true (by first | (with_reducible assumption) | assumption)
                                obtain ⟨i032, hi032, _, hsz32, _⟩ := info_parts info3
                                have hcut32 := cut_from (P := Try.prog) 23 3 .i64 Try.underlying23 hi032 1 hsz32 (some ad120) x8_1.length co31 1 (by omega) q32
                                have hr32 := Kd.Q_drop (k := (1 : Int).toNat) HO_8.out (by omega)
                                obtain ⟨A32, hA32⟩ : ∃ A1, A1 = (if co31 = (1 : Int).toNat then (some ad120) else ((some ad120) : Option Addr).map (·.add ((1 : Int).toNat * 1))) := ⟨_, rfl⟩
                                obtain ⟨c32, hc32⟩ : ∃ c1, c1 = co31 - (1 : Int).toNat := ⟨_, rfl⟩
                                have hy32 : y121.length = x8_1.length - (1 : Int).toNat := (by rw [Ny121.out, List.length_drop])
                                rw [← Ny121.out] at hr32
                                rw [← hy32, ← hA32, ← hc32] at hcut32
                                replace hr32 : Kd.Q (Kd.int .i64) 3 wr w.heap.size (fun _ => True) (.slice A32 y121.length c32) y121 := (by rw [hA32, hc32, hy32]; exact hr32)
                                have HE32 : Aside0 ((Value.slice A32 y121.length c32).ownBlock = (.slice (some ad120) x8_1.length co31 : Value).ownBlock) := ⟨by rw [hA32]; split <;> (cases ((some ad120) : Option Addr) <;> rfl)⟩
                                clear hy32 hi032 hsz32 HO_8 hA32 hc32
                                have HO123 := Aside0.mk hr32
                                clear hr32
                                replace q32 := eq_true q32
                                obtain ⟨Ao33, co33, eo33⟩ := Kd.R_slice HO_7.out
                                subst eo33
                                have p124 : 0 ≤ ((rd x8_1 0) : Int) := of_decide_eq_true (by first | (with_reducible assumption) | assumption)
                                have q124 : (rd x8_1 0) < (x7_1.length : Int) := of_decide_eq_true (by first | (with_reducible assumption) | assumption)
                                obtain ⟨ad124, e124, hx124_0⟩ := Kd.at_bool (Kd.R_reads' HO_7.out).2.2 (rd x8_1 0) p124 q124
                                (try rw [← Nbq23.out] at hx124_0)
                                cases e124
                                replace p124 := eq_true p124
                                replace q124 := eq_true q124
                                have p28 : 0 ≤ ((rd x8_1 0) : Int) := of_decide_eq_true (by first | (with_reducible assumption) | assumption)
                                have q28 : ((rd x8_1 0) : Int) < ((x7_1.length : Int) : Int) := of_decide_eq_true (by first | (with_reducible assumption) | assumption)
                                obtain ⟨go28, co28, eo28, gb28, gl28, cl28, HG28⟩ := Kd.R_form HO_7.out (by omega)
                                (first | cases eo28 | (injection eo28 with ea_ en_ ec_; (first | subst ea_ | (injection ea_ with ea_; subst ea_)); subst ec_; clear en_))
                                have GB28 := Aside0.mk gb28
                                have GG28 := Aside0.mk HG28
                                clear gb28 gl28 HG28
                                (first | simp only [add_plain] at hx124_0 | skip)
                                obtain ⟨hx28_0, hf28_0⟩ := Kd.R_celln false HO_7.out ((rd x8_1 0) : Int) p28 q28
                                replace p28 := eq_true p28
                                replace q28 := eq_true q28
                                have HP34 := Kd.R_putg HO_7.out ((rd x8_1 0) : Int) true
                                go_wp2_with (first | ((with_reducible refine gate_store (t := 4) (p := 39) rfl ?_); refine store_event (t := 4) (p := 39) (v := ?vo_w35) (w1 := (wr.setCell ⟨go28, ((rd x8_1 0) : Int).toNat, none⟩ (.bool true))) ?hg ?ho ?hn ?hr ?_; (case ho => rfl); (case hg => rfl); (case hn => rfl); (case hr => first | (go_simp; done) | (go_simp; rfl)); intro w35 hw; have hg : wr.grownBy w35 (some go28) := (by rw [hw]; exact HP34.2); have hp_ : Kd.R Kd.bool 4 w35 w.heap.size (fun _ => True) (.slice (some ⟨go28, 0, none⟩) x7_1.length co33) y125 := (by rw [hw, Ny125.out]; exact HP34.1); clear HP34; have n0_ := Aside0.mk (hp_); have n1_ := Aside0.mk (Kd.Q_over' (v := (.slice (some ⟨go28, 0, none⟩) x7_1.length co33)) (by (with_reducible repeat (first | apply Kd.Q_alloc | apply Kd.Q_drewN | apply Kd.Q_drew)); exact HO123.out) (Kd.R_typed HO_7.out) (by decide) hg); have n2_ := Aside0.mk (blk_grown (g := gb112) (o := .cells #[.slice (some ad116) l0_0.length c0_0, .slice A0_1 l0_1.length c0_1, .int .i64 a0_2] 25 (0, 0)) (by (with_reducible repeat (first | refine blk_drewN ?_ _ | refine blk_drew ?_ | refine blk_alloc ?_ _)); exact BK112.out) hg (Kd.R_ne HO_7.out BK112.out (by decide))); have n3_ := Aside0.mk ((by rw [hw]; exact below_set (HB.out) GB28.out : Below w.heap.size w w35)); clear HO_7; clear HO123; clear BK112; clear HB; have HO_7 := n0_; have HO123 := n1_; have BK112 := n2_; have HB := n3_; clear n0_ n1_ n2_ n3_; clear hg hw hp_; have hcz36_0 : w35.cell? ⟨gb112, 0, none⟩ = some (.slice (some ad116) l0_0.length c0_0) := (blk_cell BK112.out 0).trans rfl; have hcz36_1 : w35.cell? ⟨gb112, 1, none⟩ = some (.slice A0_1 l0_1.length c0_1) := (blk_cell BK112.out 1).trans rfl; have hcz36_2 : w35.cell? ⟨gb112, 2, none⟩ = some (.int .i64 a0_2) := (blk_cell BK112.out 2).trans rfl; have hfz36_0 := blk_frozen BK112.out 0; have hfz36_1 := blk_frozen BK112.out 1; have hfz36_2 := blk_frozen BK112.out 2; have p126 : 0 ≤ ((rd x8_1 0) : Int) := of_decide_eq_true (by first | (with_reducible assumption) | assumption); have q126 : (rd x8_1 0) < (l0_0.length : Int) := of_decide_eq_true (by first | (with_reducible assumption) | assumption); obtain ⟨ad126, A126_1, c126_1, A126_2, c126_2, A126_3, c126_3, A126_4, c126_4, e126, hx126_0, hx126_1, hx126_2, hx126_3, hx126_4, hx126_5, hx126_6, hx126_7, hx126_8, hl126_1, hi126_1, hl126_2, hi126_2, hl126_3, hi126_3, hl126_4, hi126_4⟩ := at_T42 HR0_0.out (rd x8_1 0) p126 q126; obtain rfl : ad116 = ad126 := (by injection e126); replace hx126_0 := (HB.out.cell (World.block_lt_of_cell? w _ hx126_0)).trans hx126_0; replace hx126_1 := (HB.out.cell (World.block_lt_of_cell? w _ hx126_1)).trans hx126_1; replace hx126_2 := (HB.out.cell (World.block_lt_of_cell? w _ hx126_2)).trans hx126_2; replace hx126_3 := (HB.out.cell (World.block_lt_of_cell? w _ hx126_3)).trans hx126_3; replace hx126_4 := (HB.out.cell (World.block_lt_of_cell? w _ hx126_4)).trans hx126_4; replace hx126_5 := (HB.out.cell (World.block_lt_of_cell? w _ hx126_5)).trans hx126_5; replace hx126_6 := (HB.out.cell (World.block_lt_of_cell? w _ hx126_6)).trans hx126_6; replace hx126_7 := (HB.out.cell (World.block_lt_of_cell? w _ hx126_7)).trans hx126_7; replace hx126_8 := (HB.out.cell (World.block_lt_of_cell? w _ hx126_8)).trans hx126_8; have HR126_1 := Aside0.mk hi126_1; have HC126_1 := Aside0.mk hl126_1; clear hi126_1 hl126_1; have HR126_2 := Aside0.mk hi126_2; have HC126_2 := Aside0.mk hl126_2; clear hi126_2 hl126_2; have HR126_3 := Aside0.mk hi126_3; have HC126_3 := Aside0.mk hl126_3; clear hi126_3 hl126_3; have HR126_4 := Aside0.mk hi126_4; have HC126_4 := Aside0.mk hl126_4; clear hi126_4 hl126_4; replace p126 := eq_true p126; replace q126 := eq_true q126) | ((with_reducible refine gate_builtin (b := .append) (xs := #[.tmp 40, .tmp 46]) rfl ?_); at_builtin; refine Go.Proofs.Ytdkkollonlmelaa.Hand.Q_append_rows (Kd.int .i64) (w0 := w) w.heap.size rfl (.tmp 40) (.tmp 46) 23 3 (.int .i64 0) 8 rfl Try.underlying23 info3 rfl (by decide) (by omega) (.slice A32 y121.length c32) y121 ((rd_T42 l0_0 (rd x8_1 0)).f1) _ _ _ (fun _ => True) (fun _ => False) rfl rfl ?aO ?aR (fun _ _ h => h) (fun _ h => h.elim) ?aF ?aB ?aS ?aL ?_; (case aR => repeat (first | exact (Kd.C_below HR126_1.out HB.out) | (with_reducible refine Kd.C_alloc ?_ _) | (with_reducible refine Kd.C_drewN ?_ _) | (with_reducible refine Kd.C_drew ?_))); (case aB => exact (by repeat (first | (with_reducible first | exact HB.out | apply below_alloc | apply pw_below_drewN | apply below_drew1 | refine below_set ?_ GE112.out) | exact HB.out))); (case aF => exact (fun _ _ => trivial)); (case aO => exact (by (with_reducible repeat (first | apply Kd.Q_alloc | apply Kd.Q_drewN | apply Kd.Q_drew)); exact HO123.out)); (case aS => exact (below_size (by repeat (first | (with_reducible first | exact HB.out | apply below_alloc | apply pw_below_drewN | apply below_drew1 | refine below_set ?_ GE112.out) | exact HB.out)))); (case aL => have := LMc30.out; omega); intro v128 w37 ho hb hg hat; rw [← Ny127.out] at ho; have n0_ := Aside0.mk (Kd.R_over' (by (with_reducible repeat (first | apply Kd.R_alloc | apply Kd.R_drewN | apply Kd.R_drew)); exact HO_7.out) (Kd.Q_typed (by (with_reducible repeat (first | apply Kd.Q_alloc | apply Kd.Q_drewN | apply Kd.Q_drew)); exact HO123.out)) (by decide) hg); have n1_ := Aside0.mk (blk_grown (g := gb112) (o := .cells #[.slice (some ad116) l0_0.length c0_0, .slice A0_1 l0_1.length c0_1, .int .i64 a0_2] 25 (0, 0)) (by (with_reducible repeat (first | refine blk_drewN ?_ _ | refine blk_drew ?_ | refine blk_alloc ?_ _)); exact BK112.out) hg (Kd.Q_ne HO123.out BK112.out (by decide))); have n2_ := Aside0.mk (hb); have n3_ := Aside0.mk (ho); clear HO_7; clear BK112; clear HB; clear HO123; have HO_7 := n0_; have BK112 := n1_; have HB := n2_; have HO129 := n3_; clear n0_ n1_ n2_ n3_; clear ho hb hg hat))
                                go_roundg k1
                                case measure => have := HK1.out; omega
                                case rel => exact ⟨(y125), (y127), H', ⟨by have := HK1.out; omega⟩, ⟨by (with_reducible repeat (first | apply Kd.R_alloc | apply Kd.R_drewN | apply Kd.R_drew)); exact HO_7.out⟩, ⟨by (with_reducible repeat (first | apply Kd.Q_alloc | apply Kd.Q_drewN | apply Kd.Q_drew)); exact HO129.out⟩, ⟨by (with_reducible repeat (first | refine blk_drewN ?_ _ | refine blk_drew ?_ | refine blk_alloc ?_ _)); exact BK112.out⟩, ⟨by repeat (first | (with_reducible first | exact HB.out | apply below_alloc | apply pw_below_drewN | apply below_drew1 | refine below_set ?_ GE112.out) | exact HB.out)⟩⟩
                              · rw [if_neg c30] at H
                                exact absurd H (by simp)
                            · rw [if_neg c29] at H
                              exact absurd H (by simp)
                        · rw [if_neg c22] at H
                          exact absurd H (by simp)
                      · rw [if_neg c21] at H
                        exact absurd H (by simp)
                  · rw [if_neg c17] at H
                    exact absurd H (by simp)
                · rw [if_neg c16] at H
                  exact absurd H (by simp)
              · rw [if_neg c15] at H
                have c15b0 : decide (0 < (x8_1.length : Int)) = false := decide_eq_false c15
                have c15b1 : decide (0 < x8_1.length) = false := decide_eq_false (by omega)
                clear c15
                obtain rfl := Option.some.inj H
                obtain ⟨Ao38, co38, eo38, _⟩ := Kd.Q_slice HO_8.out
                subst eo38
                go_wp2
                go_ret
                exact ⟨by first | rfl | (simp [errW_none, errW_some] <;> rfl) | (simp [*, errW_none, errW_some] <;> rfl), by repeat (first | (with_reducible first | exact HB.out | apply below_alloc | apply pw_below_drewN | apply below_drew1 | refine below_set ?_ GE112.out) | exact HB.out)⟩
        · rw [if_neg c7] at H
          exact absurd H (by simp)
      · rw [if_neg c6] at H
        exact absurd H (by simp)
    · rw [if_neg c5] at H
      exact absurd H (by simp)
  · rw [if_neg c4] at H
    exact absurd H (by simp)


/-! ### plan_order: function 87, by hand -/
theorem nine_event2 {P : Program} {ops : Array Oper} {Q : Exit → Act → World → Prop} {L : List Oper} {a : Act} {w W : World} {g : Nat} {t : TypeId} {u0 u1 u2 u3 u4 u5 u6 u7 u8 v0 v1 v2 v3 v4 v5 v6 v7 v8 : Value} (hb : W.heap[g]? = some (.cells #[u0, u1, u2, u3, u4, u5, u6, u7, u8] t (0, 0))) (hB : Below w.heap.size w W) (hge : w.heap.size ≤ g)
    (h : ∀ w2, w2.heap[g]? = some (.cells #[v0, v1, v2, v3, v4, v5, v6, v7, v8] t (0, 0)) → Below w.heap.size w w2 → wpList P ops Q L a w2) :
    wpList P ops Q L a (((((((((W.setCell ⟨g, 0, none⟩ v0).setCell ⟨g, 1, none⟩ v1).setCell ⟨g, 2, none⟩ v2).setCell ⟨g, 3, none⟩ v3).setCell ⟨g, 4, none⟩ v4).setCell ⟨g, 5, none⟩ v5).setCell ⟨g, 6, none⟩ v6).setCell ⟨g, 7, none⟩ v7).setCell ⟨g, 8, none⟩ v8) := by
  refine h _ ?_ ?_
  · refine blk_put (cs := #[v0, v1, v2, v3, v4, v5, v6, v7, u8]) ?_ 8 v8 (by simp)
    refine blk_put (cs := #[v0, v1, v2, v3, v4, v5, v6, u7, u8]) ?_ 7 v7 (by simp)
    refine blk_put (cs := #[v0, v1, v2, v3, v4, v5, u6, u7, u8]) ?_ 6 v6 (by simp)
    refine blk_put (cs := #[v0, v1, v2, v3, v4, u5, u6, u7, u8]) ?_ 5 v5 (by simp)
    refine blk_put (cs := #[v0, v1, v2, v3, u4, u5, u6, u7, u8]) ?_ 4 v4 (by simp)
    refine blk_put (cs := #[v0, v1, v2, u3, u4, u5, u6, u7, u8]) ?_ 3 v3 (by simp)
    refine blk_put (cs := #[v0, v1, u2, u3, u4, u5, u6, u7, u8]) ?_ 2 v2 (by simp)
    refine blk_put (cs := #[v0, u1, u2, u3, u4, u5, u6, u7, u8]) ?_ 1 v1 (by simp)
    exact blk_put hb 0 v0 (by simp)
  · iterate 9 refine below_set ?_ hge
    exact hB
set_option maxHeartbeats 1000000 in
set_option maxRecDepth 100000 in
theorem order1_calls (x : Int) (b : Nat) (w : World) (A : Option Addr) (n c : Nat) (done : List Bool) (hb : w.heap[b]? = some (.cells #[.slice A n c] 43 (0, 0))) (hn : n = done.length) (hd : Kd.C Kd.bool w A done.length done) (h0 : 0 ≤ x) (h1 : x < (done.length : Int)) :
    Calls Try.prog 125 (#[.int .i64 x] ++ #[.pointer (some ⟨b, 0, none⟩)]) w fun e w' => e = .returned (.bool (!(rdOf false done x))) ∧ Below w.heap.size w w' := by
  subst hn
  have hc0 : w.cell? ⟨b, 0, none⟩ = some (.slice A done.length c) := by simp [World.cell?, hb]
  obtain ⟨ad, e, hx⟩ := Kd.at_bool hd x h0 h1
  subst e
  have p0 := eq_true h0
  have q0 := eq_true h1
  clear hb hd h0 h1
  show Calls Try.prog 125 #[.int .i64 x, .pointer (some ⟨b, 0, none⟩)] w _
  go_enter Try.func125, Try.ntmps125
  go_wp2
  go_ret
  exact ⟨by first | rfl | simp, Below.refl _ _⟩
def plan_ndone (done : List Bool) (l : List Int) : Option Bool := if l.all (fun x => decide (0 ≤ x) && decide (x < (done.length : Int))) = true then some (decide (0 ≤ idx (fun x => !(rdOf false done x)) l)) else none
theorem plan_ndone_in {done : List Bool} {l : List Int} {r : Bool} (h : plan_ndone done l = some r) : (∀ x ∈ l, 0 ≤ x ∧ x < (done.length : Int)) ∧ decide (0 ≤ idx (fun x => !(rdOf false done x)) l) = r := by
  unfold plan_ndone at h
  split at h
  · rename_i ha
    rw [List.all_eq_true] at ha
    exact ⟨fun x hx => by simpa using ha x hx, Option.some.inj h⟩
  · cases h
def plan_order.l0 : Nat → List S42 → List Int → Int → Int → Option (Bool × Int)
  | 0, _, _, _, _ => none
  | k + 1, nodes, outs, room, i => if i < (nodes.length : Int) then ((plan_reaches.f k nodes outs room i i).bind fun t => (if t = true then some (true, i) else (plan_order.l0 k nodes outs room (wrap64 (i + 1))))) else some (false, 0)
def plan_order.l2 : Nat → List S42 → List Bool → Int → Int → Option Int
  | 0, _, _, _, _ => none
  | k + 1, nodes, done, i, j => if j < (nodes.length : Int) then (if 0 ≤ j then (if i < 0 then (if j < (done.length : Int) then (if rdOf false done j = true then (plan_order.l2 k nodes done i (wrap64 (j + 1))) else ((plan_ndone done (rd_T42 nodes j).f1).bind fun t => (if t = true then (plan_order.l2 k nodes done i (wrap64 (j + 1))) else (plan_order.l2 k nodes done j (wrap64 (j + 1)))))) else none) else (plan_order.l2 k nodes done i (wrap64 (j + 1)))) else none) else some i
def plan_order.l1 : Nat → List S42 → List Bool → List Int → Option (List Int)
  | 0, _, _, _ => none
  | k + 1, nodes, done, out => if (out.length : Int) < (nodes.length : Int) then ((plan_order.l2 k nodes done (-1) 0).bind fun i => (if 0 ≤ i then (if i < (done.length : Int) then (if out.length < 17592186044416 then (plan_order.l1 k nodes (done.set i.toNat true) (out ++ [i])) else none) else none) else none)) else some out
def plan_order.f (k : Nat) (nodes : List S42) (outs : List Int) (room : Int) : Option (List Int × Int × Int) := (plan_order.l0 k nodes outs room 0).bind fun e => (if e.1 = true then some (([] : List Int), 160, e.2) else (if nodes.length ≤ 281474976710656 then ((plan_order.l1 k nodes (List.replicate nodes.length false) []).bind fun l => some (l, 0, 0)) else none))
theorem plan_order.mono_l0 : ∀ k, (∀ y0 y1 y2 y3, LeO (plan_order.l0 k y0 y1 y2 y3) (plan_order.l0 (k + 1) y0 y1 y2 y3))
  | 0 => fun _ _ _ _ r h => by simp [plan_order.l0] at h
  | k + 1 => by
    have ih0 := plan_order.mono_l0 k
    intro y0 y1 y2 y3
    unfold plan_order.l0
    repeat' first
      | (with_reducible exact ih0 _ _ _ _)
      | (with_reducible exact plan_reaches.mono _ _ _ _ _ _)
      | (with_reducible exact LeO.refl _)
      | (with_reducible exact LeO.none _)
      | (with_reducible refine LeO.ite ?_ ?_)
      | (with_reducible refine LeO.bind ?_ (fun _ => ?_))
theorem plan_order.mono_l2 : ∀ k, (∀ y0 y1 y2 y3, LeO (plan_order.l2 k y0 y1 y2 y3) (plan_order.l2 (k + 1) y0 y1 y2 y3))
  | 0 => fun _ _ _ _ r h => by simp [plan_order.l2] at h
  | k + 1 => by
    have ih0 := plan_order.mono_l2 k
    intro y0 y1 y2 y3
    unfold plan_order.l2
    repeat' first
      | (with_reducible exact ih0 _ _ _ _)
      | (with_reducible exact LeO.refl _)
      | (with_reducible exact LeO.none _)
      | (with_reducible refine LeO.ite ?_ ?_)
      | (with_reducible refine LeO.bind ?_ (fun _ => ?_))
theorem plan_order.mono_l1 : ∀ k, (∀ y0 y1 y2, LeO (plan_order.l1 k y0 y1 y2) (plan_order.l1 (k + 1) y0 y1 y2))
  | 0 => fun _ _ _ r h => by simp [plan_order.l1] at h
  | k + 1 => by
    have ih0 := plan_order.mono_l1 k
    intro y0 y1 y2
    unfold plan_order.l1
    repeat' first
      | (with_reducible exact ih0 _ _ _)
      | (with_reducible exact plan_order.mono_l2 _ _ _ _ _)
      | (with_reducible exact LeO.refl _)
      | (with_reducible exact LeO.none _)
      | (with_reducible refine LeO.ite ?_ ?_)
      | (with_reducible refine LeO.bind ?_ (fun _ => ?_))
theorem plan_order.mono : ∀ a0 a1 a2 k, LeO (plan_order.f k a0 a1 a2) (plan_order.f (k + 1) a0 a1 a2) := by
  intro a0 a1 a2 k
  unfold plan_order.f
  repeat' first
      | (with_reducible exact plan_order.mono_l0 _ _ _ _ _)
      | (with_reducible exact plan_order.mono_l1 _ _ _ _)
      | (with_reducible exact LeO.refl _)
      | (with_reducible exact LeO.none _)
      | (with_reducible refine LeO.ite ?_ ?_)
      | (with_reducible refine LeO.bind ?_ (fun _ => ?_))
set_option maxHeartbeats 8000000 in
set_option maxRecDepth 100000 in
theorem plan_order.calls (k : Nat) (An : Option Addr) (cn : Nat) (nodes : List (S42)) (Ao : Option Addr) (co : Nat) (outs : List Int) (room : Int) (r1 : List Int) (r2 : Int) (r3 : Int) (w : World) (hr0_0 : Kd.C k42 w An nodes.length nodes) (hc0_0 : nodes.length ≤ cn) (hr0_1 : Kd.C (Kd.int .i64) w Ao outs.length outs) (hc0_1 : outs.length ≤ co) (h : plan_order.f k nodes outs room = some (r1, r2, r3)) :
    Calls Try.prog 87 #[.agg #[.slice An nodes.length cn, .slice Ao outs.length co, .int .i64 room]] w fun e w' => (r2 = 0 → ∃ v0_ : Value, e = .returned (v0_) ∧ Kd.R (Kd.int .i64) 3 w' w.heap.size (fun _ => True) v0_ r1 ∧ True) ∧ (r2 ≠ 0 → e = .panicked [{ v := .iface 177 (.agg #[.int .i64 r2, .int .i64 r3]), recovered := false }]) ∧ Below w.heap.size w w' := by
  have hu25 := Try.underlying25
  have hu42 := Try.underlying42
  have HRN := Aside0.mk hr0_0
  have HCN := Aside0.mk hc0_0
  have HRO := Aside0.mk hr0_1
  have HCO := Aside0.mk hc0_1
  clear hr0_0 hc0_0 hr0_1 hc0_1
  have HB := Aside0.mk (Below.refl w.heap.size w)
  have hmf : ∀ (fn : Fn) (first cap : Array Value) (w : World), (Instr.makeFunc fn first cap).run Try.prog w = .ok (.func fn first cap) w := fun _ _ _ _ => rfl
  unfold plan_order.f at h
  replace h := Option.bind_eq_some_iff.mp h
  obtain ⟨⟨eb, ei⟩, h0, h⟩ := h
  try dsimp only at h
  have HL := Aside0.mk h0
  have HE := Aside0.mk h
  clear h0 h
  go_enter Try.func87, Try.ntmps87
  go_wp2_with (first | ((with_reducible refine gate_dst (N := 1) rfl ?_); refine box_event ?hg (N := 1) ?hd (cs := #[.slice An nodes.length cn, .slice Ao outs.length co, .int .i64 room]) (t := 25) ?hr ?_; (case hd => rfl); (case hg => rfl); (case hr => first | (go_simp; done) | (go_simp; rfl)); intro gb hg_ w1 hbox hb; have n0_ := Aside0.mk (below_step (by repeat (first | (with_reducible first | exact HB.out | apply below_alloc | apply pw_below_drewN | apply below_drew1) | exact HB.out)) hb); have BK := Aside0.mk hbox; have GEb := Aside0.mk ((by rw [hg_]; exact (below_size (by repeat (first | (with_reducible first | exact HB.out | apply below_alloc | apply pw_below_drewN | apply below_drew1) | exact HB.out)))) : w.heap.size ≤ gb); clear HB; have HB := n0_; clear n0_ hb hbox hg_; have hc1_0 : w1.cell? ⟨gb, 0, none⟩ = some (.slice An nodes.length cn) := (blk_cell BK.out 0).trans rfl; have hc1_1 : w1.cell? ⟨gb, 1, none⟩ = some (.slice Ao outs.length co) := (blk_cell BK.out 1).trans rfl; have hc1_2 : w1.cell? ⟨gb, 2, none⟩ = some (.int .i64 room) := (blk_cell BK.out 2).trans rfl))
  go_loopg [12] k (fun kq v12 w' => ∃ (i : Int), v12 = .int .i64 i ∧ Aside0 (plan_order.l0 kq nodes outs room i = some (eb, ei)) ∧ Aside0 (kq ≤ k) ∧ Aside0 (w'.heap[gb]? = some (.cells #[.slice An nodes.length cn, .slice Ao outs.length co, .int .i64 room] 25 (0, 0))) ∧ Aside0 (Below w.heap.size w w'))
  case atStart => exact ⟨0, rfl, HL, ⟨Nat.le_refl _⟩, ⟨(by (with_reducible repeat (first | refine blk_drewN ?_ _ | refine blk_drew ?_ | refine blk_alloc ?_ _)); exact BK.out)⟩, ⟨(by repeat (first | (with_reducible first | exact HB.out | apply below_alloc | apply pw_below_drewN | apply below_drew1) | exact HB.out))⟩⟩
  case round =>
    clear HL BK HB hc1_0 hc1_1 hc1_2
    obtain ⟨i, rfl, HA, HK1, BK, HB⟩ := hrel
    cases gk with
    | zero => exact absurd HA.out (by simp [plan_order.l0])
    | succ k1 =>
      have h := HA.out
      clear HA
      simp only [plan_order.l0] at h
      by_cases c1 : i < (nodes.length : Int)
      · rw [if_pos c1] at h
        have c1b : decide (i < (nodes.length : Int)) = true := decide_eq_true c1
        clear c1
        replace h := Option.bind_eq_some_iff.mp h
        obtain ⟨t, AT0, h⟩ := h
        try dsimp only at h
        have AT := Aside0.mk AT0
        clear AT0
        have hc1_0 : wr.cell? ⟨gb, 0, none⟩ = some (.slice An nodes.length cn) := (blk_cell BK.out 0).trans rfl
        have hc1_1 : wr.cell? ⟨gb, 1, none⟩ = some (.slice Ao outs.length co) := (blk_cell BK.out 1).trans rfl
        have hc1_2 : wr.cell? ⟨gb, 2, none⟩ = some (.int .i64 room) := (blk_cell BK.out 2).trans rfl
        cases t with
        | true =>
          rw [if_pos rfl] at h
          simp only [Option.some.injEq, Prod.mk.injEq] at h
          obtain ⟨rfl, rfl⟩ := h
          have h := HE.out
          clear HE
          rw [if_pos rfl] at h
          simp only [Option.some.injEq, Prod.mk.injEq] at h
          obtain ⟨rfl, rfl, rfl⟩ := h
          go_wp2_with (first | ((with_reducible refine gate_callee (f := 124) rfl ?_); refine goesL_ (some 18) rfl rfl Try.func124 (by kernel_rfl) rfl #[.agg #[.slice An nodes.length cn, .slice Ao outs.length co, .int .i64 room], .int .i64 i, .int .i64 i] rfl (by (try simp only [List.map_toArray, List.map_cons, List.map_nil]); first | done | rfl) ?_; (with_reducible refine (plan_reaches.calls k1 An cn nodes Ao co outs room i i true _ (Kd.C_below HRN.out (by repeat (first | (with_reducible first | exact HB.out | apply below_alloc | apply pw_below_drewN | apply below_drew1) | exact HB.out))) HCN.out (Kd.C_below HRO.out (by repeat (first | (with_reducible first | exact HB.out | apply below_alloc | apply pw_below_drewN | apply below_drew1) | exact HB.out))) HCO.out AT.out).mono ?_); rintro e9 w9 ⟨rfl, hb⟩; refine ⟨_, rfl, ?_⟩; have n0_ := Aside0.mk (blk_below (g := gb) (o := _) (by (with_reducible repeat (first | refine blk_drewN ?_ _ | refine blk_drew ?_ | refine blk_alloc ?_ _)); exact BK.out) hb); have n1_ := Aside0.mk (below_step (by repeat (first | (with_reducible first | exact HB.out | apply below_alloc | apply pw_below_drewN | apply below_drew1) | exact HB.out)) hb); clear BK HB; have BK := n0_; have HB := n1_; clear n0_ n1_ hb) | (go_at_call 119; (with_reducible refine (plan_fail.calls 160 i _).mono ?_); rintro e w' ⟨rfl, rfl⟩))
          ((try simp only [Exit.inBlock, Exit.then]); refine Go.Proofs.Ytdkkollonlmelaa.Hand.bodyPost_fail (by rfl) ?_)
          exact ⟨fun h_ => absurd h_ (by decide), fun _ => rfl, (by repeat (first | (with_reducible first | exact HB.out | apply below_alloc | apply pw_below_drewN | apply below_drew1) | exact HB.out))⟩
        | false =>
          rw [if_neg (by decide)] at h
          have H' := Aside0.mk h
          clear h
          go_wp2_with (first | ((with_reducible refine gate_callee (f := 124) rfl ?_); refine goesL_ (some 18) rfl rfl Try.func124 (by kernel_rfl) rfl #[.agg #[.slice An nodes.length cn, .slice Ao outs.length co, .int .i64 room], .int .i64 i, .int .i64 i] rfl (by (try simp only [List.map_toArray, List.map_cons, List.map_nil]); first | done | rfl) ?_; (with_reducible refine (plan_reaches.calls k1 An cn nodes Ao co outs room i i false _ (Kd.C_below HRN.out (by repeat (first | (with_reducible first | exact HB.out | apply below_alloc | apply pw_below_drewN | apply below_drew1) | exact HB.out))) HCN.out (Kd.C_below HRO.out (by repeat (first | (with_reducible first | exact HB.out | apply below_alloc | apply pw_below_drewN | apply below_drew1) | exact HB.out))) HCO.out AT.out).mono ?_); rintro e9 w9 ⟨rfl, hb⟩; refine ⟨_, rfl, ?_⟩; have n0_ := Aside0.mk (blk_below (g := gb) (o := _) (by (with_reducible repeat (first | refine blk_drewN ?_ _ | refine blk_drew ?_ | refine blk_alloc ?_ _)); exact BK.out) hb); have n1_ := Aside0.mk (below_step (by repeat (first | (with_reducible first | exact HB.out | apply below_alloc | apply pw_below_drewN | apply below_drew1) | exact HB.out)) hb); clear BK HB; have BK := n0_; have HB := n1_; clear n0_ n1_ hb))
          go_roundg k1
          case measure => have := HK1.out; omega
          case rel => exact ⟨(wrap64 (i + 1)), (by first | rfl | (simp; done) | (simp [*]; done)), H', ⟨by have := HK1.out; omega⟩, ⟨(by (with_reducible repeat (first | refine blk_drewN ?_ _ | refine blk_drew ?_ | refine blk_alloc ?_ _)); exact BK.out)⟩, ⟨(by repeat (first | (with_reducible first | exact HB.out | apply below_alloc | apply pw_below_drewN | apply below_drew1) | exact HB.out))⟩⟩
      · rw [if_neg c1] at h
        have c1b : decide (i < (nodes.length : Int)) = false := decide_eq_false c1
        clear c1 HK1
        simp only [Option.some.injEq, Prod.mk.injEq] at h
        obtain ⟨rfl, rfl⟩ := h
        have h := HE.out
        clear HE
        rw [if_neg (by decide)] at h
        by_cases m1 : nodes.length ≤ 281474976710656
        rotate_left
        · rw [if_neg m1] at h; exact absurd h (by simp)
        rw [if_pos m1] at h
        replace h := Option.bind_eq_some_iff.mp h
        obtain ⟨l, h0, h⟩ := h
        simp only [Option.some.injEq, Prod.mk.injEq] at h
        obtain ⟨rfl, rfl, rfl⟩ := h
        obtain ⟨y0, hy0⟩ : ∃ y_ : List Bool, y_ = List.replicate nodes.length false := ⟨_, rfl⟩
        rw [← hy0] at h0
        have HL := Aside0.mk h0
        have NY0 := Aside0.mk hy0
        have M1 := Aside0.mk m1
        clear h0 hy0 m1
        have hc1_0 : wr.cell? ⟨gb, 0, none⟩ = some (.slice An nodes.length cn) := (blk_cell BK.out 0).trans rfl
        have hc1_1 : wr.cell? ⟨gb, 1, none⟩ = some (.slice Ao outs.length co) := (blk_cell BK.out 1).trans rfl
        have hc1_2 : wr.cell? ⟨gb, 2, none⟩ = some (.int .i64 room) := (blk_cell BK.out 2).trans rfl
        go_wp2_with (first | ((with_reducible refine gate_dst (N := 25) rfl ?_); refine Kd.R_make Kd.bool _ 4 rfl (N := 25) rfl 43 _ _ rfl (nodes.length : Int) rfl rfl Try.underlying43 (.bool false) 1 info4 rfl (by decide) (by omega) false (ok := fun _ => True) (okp := fun _ => True) rfl (fun _ hk => hk) trivial (by omega) (Nat.le_trans (Nat.mul_le_mul_right _ (show (nodes.length : Int).toNat ≤ 281474976710656 from M1.out)) (by omega)) (Below.refl _ _) (Nat.le_refl _) ?_; intro v133 w14 ho15 hb hg_ hnew_; clear hg_ hnew_; rw [Int.toNat_natCast, ← NY0.out] at ho15; have HD := Aside0.mk (Kd.R_lower ho15 (below_size (by repeat (first | (with_reducible first | exact HB.out | apply below_alloc | apply pw_below_drewN | apply below_drew1) | exact HB.out)))); have n1_ := Aside0.mk (blk_below (g := gb) (o := _) (by (with_reducible repeat (first | refine blk_drewN ?_ _ | refine blk_drew ?_ | refine blk_alloc ?_ _)); exact BK.out) hb); have n2_ := Aside0.mk (below_step (by repeat (first | (with_reducible first | exact HB.out | apply below_alloc | apply pw_below_drewN | apply below_drew1) | exact HB.out)) hb); clear BK HB; have BK := n1_; have HB := n2_; clear n1_ n2_ hb ho15) | ((with_reducible refine gate_dst (N := 4) rfl ?_); refine box_event ?hg (N := 4) ?hd (cs := #[.slice none 0 0]) (t := 43) ?hr ?_; (case hd => rfl); (case hg => rfl); (case hr => first | (go_simp; done) | (go_simp; rfl)); intro gbd hg_ wd hbox hb; have n0_ := Aside0.mk (Kd.R_below (by (with_reducible repeat (first | apply Kd.R_alloc | apply Kd.R_drewN | apply Kd.R_drew)); exact HD.out) hb); have n1_ := Aside0.mk (blk_below (g := gb) (o := _) (by (with_reducible repeat (first | refine blk_drewN ?_ _ | refine blk_drew ?_ | refine blk_alloc ?_ _)); exact BK.out) hb); have NBD := Aside0.mk ((by rw [hg_]; exact Nat.ne_of_lt (blk_lt (g := gb) (o := _) (by (with_reducible repeat (first | refine blk_drewN ?_ _ | refine blk_drew ?_ | refine blk_alloc ?_ _)); exact BK.out))) : gb ≠ gbd); have GEd := Aside0.mk ((by rw [hg_]; exact (below_size (by repeat (first | (with_reducible first | exact HB.out | apply below_alloc | apply pw_below_drewN | apply below_drew1) | exact HB.out)))) : w.heap.size ≤ gbd); have n2_ := Aside0.mk (below_step (by repeat (first | (with_reducible first | exact HB.out | apply below_alloc | apply pw_below_drewN | apply below_drew1) | exact HB.out)) hb); clear HD BK HB; have HD := n0_; have BK := n1_; have HB := n2_; have BD0 := Aside0.mk hbox; clear n0_ n1_ n2_ hb hbox hg_; have hczd : wd.cell? ⟨gbd, 0, none⟩ = some (.slice none 0 0) := (blk_cell BD0.out 0).trans rfl; have hfzd := blk_frozen BD0.out 0; obtain ⟨Ad, cd, ed⟩ := Kd.R_slice HD.out; subst ed))
        obtain ⟨nd, hnd⟩ : ∃ nd, y0.length = nd := ⟨_, rfl⟩
        rw [hnd]
        have n0_ := Aside0.mk (show Kd.R Kd.bool 4 wd w.heap.size (fun _ => True) (.slice Ad nd cd) y0 from by rw [← hnd]; exact HD.out)
        clear HD
        have HD := n0_
        clear n0_ hnd
        go_loopg [5] k (fun kq v5 w' => ∃ (done : List Bool) (out : List Int), Aside0 (plan_order.l1 kq nodes done out = some l) ∧ Aside0 (kq ≤ k) ∧ Aside0 (Kd.R Kd.bool 4 w' w.heap.size (fun _ => True) (.slice Ad nd cd) done) ∧ Aside0 (Kd.R (Kd.int .i64) 3 w' w.heap.size (fun _ => True) v5 out) ∧ Aside0 (w'.heap[gb]? = some (.cells #[.slice An nodes.length cn, .slice Ao outs.length co, .int .i64 room] 25 (0, 0))) ∧ Aside0 (w'.heap[gbd]? = some (.cells #[.slice Ad nd cd] 43 (0, 0))) ∧ Aside0 (Below w.heap.size w w'))
        case atStart => exact ⟨y0, [], HL, ⟨Nat.le_refl _⟩, ⟨Kd.R_mono (Kd.R_far (p := ⟨gbd, 0, none⟩) (Kd.R_types HD.out BD0.out (by decide)) (fun _ hk => hk.2) _) (fun _ _ => trivial)⟩, ⟨Kd.R_nil _ _ _ _ _⟩, ⟨blk_far BK.out NBD.out _⟩, ⟨blk_set BD0.out 0 _⟩, ⟨(by repeat (first | (with_reducible first | exact HB.out | apply below_alloc | apply pw_below_drewN | apply below_drew1 | refine below_set ?_ GEd.out) | exact HB.out))⟩⟩
        case round =>
          clear HL HD BK BD0 HB hc1_0 hc1_1 hc1_2 hczd hfzd
          obtain ⟨done, out, HA, HK2, HD, HO, BK, BD, HB⟩ := hrel
          cases gk with
          | zero => exact absurd HA.out (by simp [plan_order.l1])
          | succ k2 =>
            have h := HA.out
            clear HA
            simp only [plan_order.l1] at h
            obtain ⟨Aq, cq, eq⟩ := Kd.R_slice HO.out
            subst eq
            have hc1_0 : wr.cell? ⟨gb, 0, none⟩ = some (.slice An nodes.length cn) := (blk_cell BK.out 0).trans rfl
            have hc1_1 : wr.cell? ⟨gb, 1, none⟩ = some (.slice Ao outs.length co) := (blk_cell BK.out 1).trans rfl
            have hc1_2 : wr.cell? ⟨gb, 2, none⟩ = some (.int .i64 room) := (blk_cell BK.out 2).trans rfl
            by_cases c2 : (out.length : Int) < (nodes.length : Int)
            · rw [if_pos c2] at h
              have c2b : decide ((out.length : Int) < (nodes.length : Int)) = true := decide_eq_true c2
              have c2c : decide (out.length < nodes.length) = true := decide_eq_true (by omega)
              clear c2
              replace h := Option.bind_eq_some_iff.mp h
              obtain ⟨ni, AI0, h⟩ := h
              try dsimp only at h
              by_cases p3 : 0 ≤ ni
              rotate_left
              · rw [if_neg p3] at h; exact absurd h (by simp)
              rw [if_pos p3] at h
              by_cases q3 : ni < (done.length : Int)
              rotate_left
              · rw [if_neg q3] at h; exact absurd h (by simp)
              rw [if_pos q3] at h
              by_cases m3 : out.length < 17592186044416
              rotate_left
              · rw [if_neg m3] at h; exact absurd h (by simp)
              rw [if_pos m3] at h
              have HN := Aside0.mk h
              have AI := Aside0.mk AI0
              have P3 := Aside0.mk p3
              have Q3 := Aside0.mk q3
              have M3 := Aside0.mk m3
              clear h AI0 p3 q3 m3
              go_wp2
              go_loopg [6, 35] k2 (fun kq v6 v35 w' => ∃ (i6 j : Int), v6 = .int .i64 i6 ∧ v35 = .int .i64 j ∧ Aside0 (plan_order.l2 kq nodes done i6 j = some ni) ∧ Aside0 (kq ≤ k2) ∧ Aside0 (Kd.R Kd.bool 4 w' w.heap.size (fun _ => True) (.slice Ad nd cd) done) ∧ Aside0 (Kd.R (Kd.int .i64) 3 w' w.heap.size (fun _ => True) (.slice Aq out.length cq) out) ∧ Aside0 (w'.heap[gb]? = some (.cells #[.slice An nodes.length cn, .slice Ao outs.length co, .int .i64 room] 25 (0, 0))) ∧ Aside0 (w'.heap[gbd]? = some (.cells #[.slice Ad nd cd] 43 (0, 0))) ∧ Aside0 (Below w.heap.size w w'))
              case atStart => exact ⟨-1, 0, (by first | rfl | (simp; done) | (simp [*]; done)), (by first | rfl | (simp; done) | (simp [*]; done)), AI, ⟨Nat.le_refl _⟩, ⟨(by (with_reducible repeat (first | apply Kd.R_alloc | apply Kd.R_drewN | apply Kd.R_drew)); exact HD.out)⟩, ⟨(by (with_reducible repeat (first | apply Kd.R_alloc | apply Kd.R_drewN | apply Kd.R_drew)); exact HO.out)⟩, ⟨(by (with_reducible repeat (first | refine blk_drewN ?_ _ | refine blk_drew ?_ | refine blk_alloc ?_ _)); exact BK.out)⟩, ⟨(by (with_reducible repeat (first | refine blk_drewN ?_ _ | refine blk_drew ?_ | refine blk_alloc ?_ _)); exact BD.out)⟩, ⟨(by repeat (first | (with_reducible first | exact HB.out | apply below_alloc | apply pw_below_drewN | apply below_drew1) | exact HB.out))⟩⟩
              case round =>
                clear AI HD HO BK BD HB hc1_0 hc1_1 hc1_2
                obtain ⟨i6, j, rfl, rfl, HA, HK3, HD, HO, BK, BD, HB⟩ := hrel
                cases gk with
                | zero => exact absurd HA.out (by simp [plan_order.l2])
                | succ k3 =>
                  have h := HA.out
                  clear HA
                  simp only [plan_order.l2] at h
                  have hc1_0 : wr.cell? ⟨gb, 0, none⟩ = some (.slice An nodes.length cn) := (blk_cell BK.out 0).trans rfl
                  have hc1_1 : wr.cell? ⟨gb, 1, none⟩ = some (.slice Ao outs.length co) := (blk_cell BK.out 1).trans rfl
                  have hc1_2 : wr.cell? ⟨gb, 2, none⟩ = some (.int .i64 room) := (blk_cell BK.out 2).trans rfl
                  have hd1 : wr.cell? ⟨gbd, 0, none⟩ = some (.slice Ad nd cd) := (blk_cell BD.out 0).trans rfl
                  have hlen := (Kd.R_reads' HD.out).1
                  by_cases c4 : j < (nodes.length : Int)
                  · rw [if_pos c4] at h
                    have c4b : decide (j < (nodes.length : Int)) = true := decide_eq_true c4
                    by_cases c5 : 0 ≤ j
                    rotate_left
                    · rw [if_neg c5] at h; exact absurd h (by simp)
                    rw [if_pos c5] at h
                    obtain ⟨ad, A1, c1, A2, c2, A3, c3, A4, c4_, e, hx0, hx1, hx2, hx3, hx4, hx5, hx6, hx7, hx8, hl1, hi1, hl2, hi2, hl3, hi3, hl4, hi4⟩ := at_T42 HRN.out j c5 c4
                    cases e
                    generalize rd_T42 nodes j = x at hx0 hx1 hx2 hx3 hx4 hx5 hx6 hx7 hx8 hl1 hi1 h
                    clear hl2 hi2 hl3 hi3 hl4 hi4
                    obtain ⟨f0, f1, f2, f3, f4, f5, f6, f7, f8⟩ := x
                    dsimp only at hx0 hx1 hx2 hx3 hx4 hx5 hx6 hx7 hx8 hl1 hi1 h
                    replace hx0 := (HB.out.cell (World.block_lt_of_cell? w _ hx0)).trans hx0
                    replace hx1 := (HB.out.cell (World.block_lt_of_cell? w _ hx1)).trans hx1
                    replace hx2 := (HB.out.cell (World.block_lt_of_cell? w _ hx2)).trans hx2
                    replace hx3 := (HB.out.cell (World.block_lt_of_cell? w _ hx3)).trans hx3
                    replace hx4 := (HB.out.cell (World.block_lt_of_cell? w _ hx4)).trans hx4
                    replace hx5 := (HB.out.cell (World.block_lt_of_cell? w _ hx5)).trans hx5
                    replace hx6 := (HB.out.cell (World.block_lt_of_cell? w _ hx6)).trans hx6
                    replace hx7 := (HB.out.cell (World.block_lt_of_cell? w _ hx7)).trans hx7
                    replace hx8 := (HB.out.cell (World.block_lt_of_cell? w _ hx8)).trans hx8
                    have HR1 := Aside0.mk hi1
                    have HC1 := Aside0.mk hl1
                    clear hi1 hl1
                    have P5 := Aside0.mk c5
                    replace c5 := eq_true c5
                    replace c4 := eq_true c4
                    by_cases c6 : i6 < 0
                    · rw [if_pos c6] at h
                      have c6b : decide (i6 < 0) = true := decide_eq_true c6
                      clear c6
                      by_cases c7 : j < (done.length : Int)
                      rotate_left
                      · rw [if_neg c7] at h; exact absurd h (by simp)
                      rw [if_pos c7] at h
                      obtain ⟨add, ea, hy⟩ := Kd.at_bool (Kd.R_reads' HD.out).2.2 j P5.out c7
                      subst ea
                      have c7n : (j < (nd : Int)) = True := eq_true (by omega)
                      clear c7 hlen
                      cases hb0 : rdOf false done j with
                      | true =>
                        rw [if_pos hb0] at h
                        rw [hb0] at hy
                        have H' := Aside0.mk h
                        clear h hb0
                        go_wp2_with (first | ((with_reducible refine gate_dst (N := 8) rfl ?_); refine box_event ?hg (N := 8) ?hd (cs := #[.int .i64 0, .slice none 0 0, .slice none 0 0, .slice none 0 0, .slice none 0 0, .int .i64 0, .int .i64 0, .int .i64 0, .int .i64 0]) (t := 42) ?hr ?_; (case hd => rfl); (case hg => rfl); (case hr => first | (go_simp; done) | (go_simp; rfl)); intro gx hg_ wz hbox hb; have BZ := Aside0.mk hbox; have HBZ := Aside0.mk hb; have GX := Aside0.mk (Nat.le_of_eq hg_.symm); clear hb hbox hg_; have hcz_0 : wz.cell? ⟨gx, 0, none⟩ = some (.int .i64 0) := (blk_cell BZ.out 0).trans rfl; have hcz_1 : wz.cell? ⟨gx, 1, none⟩ = some (.slice none 0 0) := (blk_cell BZ.out 1).trans rfl; have hcz_2 : wz.cell? ⟨gx, 2, none⟩ = some (.slice none 0 0) := (blk_cell BZ.out 2).trans rfl; have hcz_3 : wz.cell? ⟨gx, 3, none⟩ = some (.slice none 0 0) := (blk_cell BZ.out 3).trans rfl; have hcz_4 : wz.cell? ⟨gx, 4, none⟩ = some (.slice none 0 0) := (blk_cell BZ.out 4).trans rfl; have hcz_5 : wz.cell? ⟨gx, 5, none⟩ = some (.int .i64 0) := (blk_cell BZ.out 5).trans rfl; have hcz_6 : wz.cell? ⟨gx, 6, none⟩ = some (.int .i64 0) := (blk_cell BZ.out 6).trans rfl; have hcz_7 : wz.cell? ⟨gx, 7, none⟩ = some (.int .i64 0) := (blk_cell BZ.out 7).trans rfl; have hcz_8 : wz.cell? ⟨gx, 8, none⟩ = some (.int .i64 0) := (blk_cell BZ.out 8).trans rfl; have hfz_0 := blk_frozen BZ.out 0; have hfz_1 := blk_frozen BZ.out 1; have hfz_2 := blk_frozen BZ.out 2; have hfz_3 := blk_frozen BZ.out 3; have hfz_4 := blk_frozen BZ.out 4; have hfz_5 := blk_frozen BZ.out 5; have hfz_6 := blk_frozen BZ.out 6; have hfz_7 := blk_frozen BZ.out 7; have hfz_8 := blk_frozen BZ.out 8) | ((with_reducible refine gate_dst (N := 41) rfl ?_); (with_reducible refine nine_event2 BZ.out HBZ.out GX.out ?_); intro w2 hbox hb; have n0_ := Aside0.mk (Kd.R_below (by (with_reducible repeat (first | apply Kd.R_alloc | apply Kd.R_drewN | apply Kd.R_drew)); exact HD.out) hb); have n1_ := Aside0.mk (Kd.R_below (by (with_reducible repeat (first | apply Kd.R_alloc | apply Kd.R_drewN | apply Kd.R_drew)); exact HO.out) hb); have n2_ := Aside0.mk (blk_below (g := gb) (o := _) (by (with_reducible repeat (first | refine blk_drewN ?_ _ | refine blk_drew ?_ | refine blk_alloc ?_ _)); exact BK.out) hb); have n3_ := Aside0.mk (blk_below (g := gbd) (o := _) (by (with_reducible repeat (first | refine blk_drewN ?_ _ | refine blk_drew ?_ | refine blk_alloc ?_ _)); exact BD.out) hb); have n4_ := Aside0.mk (below_step (by repeat (first | (with_reducible first | exact HB.out | apply below_alloc | apply pw_below_drewN | apply below_drew1) | exact HB.out)) hb); clear HD HO BK BD HB; have HD := n0_; have HO := n1_; have BK := n2_; have BD := n3_; have HB := n4_; clear n0_ n1_ n2_ n3_ n4_; have hy2 := (hb.cell (World.block_lt_of_cell? wr _ hy)).trans hy; have BX := Aside0.mk hbox; clear hb hbox BZ HBZ; have hck_1 : w2.cell? ⟨gx, 1, none⟩ = some (.slice A1 f1.length c1) := (blk_cell BX.out 1).trans rfl; have hd2 : w2.cell? ⟨gbd, 0, none⟩ = some (.slice (some add) nd cd) := (blk_cell BD.out 0).trans rfl))
                        go_roundg k3
                        case measure => have := HK2.out; have := HK3.out; omega
                        case rel => exact ⟨i6, (wrap64 (j + 1)), (by first | rfl | (simp; done) | (simp [*]; done)), (by first | rfl | (simp; done) | (simp [*]; done)), H', ⟨by have := HK3.out; omega⟩, ⟨(by (with_reducible repeat (first | apply Kd.R_alloc | apply Kd.R_drewN | apply Kd.R_drew)); exact HD.out)⟩, ⟨(by (with_reducible repeat (first | apply Kd.R_alloc | apply Kd.R_drewN | apply Kd.R_drew)); exact HO.out)⟩, ⟨(by (with_reducible repeat (first | refine blk_drewN ?_ _ | refine blk_drew ?_ | refine blk_alloc ?_ _)); exact BK.out)⟩, ⟨(by (with_reducible repeat (first | refine blk_drewN ?_ _ | refine blk_drew ?_ | refine blk_alloc ?_ _)); exact BD.out)⟩, ⟨(by repeat (first | (with_reducible first | exact HB.out | apply below_alloc | apply pw_below_drewN | apply below_drew1) | exact HB.out))⟩⟩
                      | false =>
                        rw [hb0, if_neg (by decide)] at h
                        rw [hb0] at hy
                        clear hb0
                        replace h := Option.bind_eq_some_iff.mp h
                        obtain ⟨t, AT0, h⟩ := h
                        try dsimp only at h
                        have AT := Aside0.mk AT0
                        clear AT0
                        cases t with
                        | true =>
                          rw [if_pos rfl] at h
                          have H' := Aside0.mk h
                          clear h
                          go_wp2_with (first | ((with_reducible refine gate_dst (N := 8) rfl ?_); refine box_event ?hg (N := 8) ?hd (cs := #[.int .i64 0, .slice none 0 0, .slice none 0 0, .slice none 0 0, .slice none 0 0, .int .i64 0, .int .i64 0, .int .i64 0, .int .i64 0]) (t := 42) ?hr ?_; (case hd => rfl); (case hg => rfl); (case hr => first | (go_simp; done) | (go_simp; rfl)); intro gx hg_ wz hbox hb; have BZ := Aside0.mk hbox; have HBZ := Aside0.mk hb; have GX := Aside0.mk (Nat.le_of_eq hg_.symm); clear hb hbox hg_; have hcz_0 : wz.cell? ⟨gx, 0, none⟩ = some (.int .i64 0) := (blk_cell BZ.out 0).trans rfl; have hcz_1 : wz.cell? ⟨gx, 1, none⟩ = some (.slice none 0 0) := (blk_cell BZ.out 1).trans rfl; have hcz_2 : wz.cell? ⟨gx, 2, none⟩ = some (.slice none 0 0) := (blk_cell BZ.out 2).trans rfl; have hcz_3 : wz.cell? ⟨gx, 3, none⟩ = some (.slice none 0 0) := (blk_cell BZ.out 3).trans rfl; have hcz_4 : wz.cell? ⟨gx, 4, none⟩ = some (.slice none 0 0) := (blk_cell BZ.out 4).trans rfl; have hcz_5 : wz.cell? ⟨gx, 5, none⟩ = some (.int .i64 0) := (blk_cell BZ.out 5).trans rfl; have hcz_6 : wz.cell? ⟨gx, 6, none⟩ = some (.int .i64 0) := (blk_cell BZ.out 6).trans rfl; have hcz_7 : wz.cell? ⟨gx, 7, none⟩ = some (.int .i64 0) := (blk_cell BZ.out 7).trans rfl; have hcz_8 : wz.cell? ⟨gx, 8, none⟩ = some (.int .i64 0) := (blk_cell BZ.out 8).trans rfl; have hfz_0 := blk_frozen BZ.out 0; have hfz_1 := blk_frozen BZ.out 1; have hfz_2 := blk_frozen BZ.out 2; have hfz_3 := blk_frozen BZ.out 3; have hfz_4 := blk_frozen BZ.out 4; have hfz_5 := blk_frozen BZ.out 5; have hfz_6 := blk_frozen BZ.out 6; have hfz_7 := blk_frozen BZ.out 7; have hfz_8 := blk_frozen BZ.out 8) | ((with_reducible refine gate_dst (N := 41) rfl ?_); (with_reducible refine nine_event2 BZ.out HBZ.out GX.out ?_); intro w2 hbox hb; have n0_ := Aside0.mk (Kd.R_below (by (with_reducible repeat (first | apply Kd.R_alloc | apply Kd.R_drewN | apply Kd.R_drew)); exact HD.out) hb); have n1_ := Aside0.mk (Kd.R_below (by (with_reducible repeat (first | apply Kd.R_alloc | apply Kd.R_drewN | apply Kd.R_drew)); exact HO.out) hb); have n2_ := Aside0.mk (blk_below (g := gb) (o := _) (by (with_reducible repeat (first | refine blk_drewN ?_ _ | refine blk_drew ?_ | refine blk_alloc ?_ _)); exact BK.out) hb); have n3_ := Aside0.mk (blk_below (g := gbd) (o := _) (by (with_reducible repeat (first | refine blk_drewN ?_ _ | refine blk_drew ?_ | refine blk_alloc ?_ _)); exact BD.out) hb); have n4_ := Aside0.mk (below_step (by repeat (first | (with_reducible first | exact HB.out | apply below_alloc | apply pw_below_drewN | apply below_drew1) | exact HB.out)) hb); clear HD HO BK BD HB; have HD := n0_; have HO := n1_; have BK := n2_; have BD := n3_; have HB := n4_; clear n0_ n1_ n2_ n3_ n4_; have hy2 := (hb.cell (World.block_lt_of_cell? wr _ hy)).trans hy; have BX := Aside0.mk hbox; clear hb hbox BZ HBZ; have hck_1 : w2.cell? ⟨gx, 1, none⟩ = some (.slice A1 f1.length c1) := (blk_cell BX.out 1).trans rfl; have hd2 : w2.cell? ⟨gbd, 0, none⟩ = some (.slice (some add) nd cd) := (blk_cell BD.out 0).trans rfl) | ((with_reducible refine gate_callee (f := 122) rfl ?_); (try (refine gate_guard (by rfl) ?_; dsimp only)); refine goesL_ (some 53) rfl rfl Try.func122 (by kernel_rfl) rfl #[.slice A1 f1.length c1, .func (.func 125) #[] #[.pointer (some ⟨gbd, 0, none⟩)]] rfl (by (try simp only [List.map_toArray, List.map_cons, List.map_nil]); first | done | rfl) ?_; (with_reducible refine (contains_calls (F := 125) Try.func125 (by kernel_rfl) rfl #[.pointer (some ⟨gbd, 0, none⟩)] (fun x => !(rdOf false done x)) A1 c1 f1 _ (Kd.C_below HR1.out (by repeat (first | (with_reducible first | exact HB.out | apply below_alloc | apply pw_below_drewN | apply below_drew1) | exact HB.out))) HC1.out ?cp).mono ?_); (case cp => exact fun x W hx hb => order1_calls x gbd W (some add) nd cd done (blk_below (by (with_reducible repeat (first | refine blk_drewN ?_ _ | refine blk_drew ?_ | refine blk_alloc ?_ _)); exact BD.out) hb) (Kd.R_reads' HD.out).1 (Kd.C_below (Kd.R_reads' (by (with_reducible repeat (first | apply Kd.R_alloc | apply Kd.R_drewN | apply Kd.R_drew)); exact HD.out)).2.2 hb) ((plan_ndone_in AT.out).1 x hx).1 ((plan_ndone_in AT.out).1 x hx).2); rintro e9 w9 ⟨rfl, hb⟩; rw [(plan_ndone_in AT.out).2]; refine ⟨_, rfl, ?_⟩; have n0_ := Aside0.mk (Kd.R_below (by (with_reducible repeat (first | apply Kd.R_alloc | apply Kd.R_drewN | apply Kd.R_drew)); exact HD.out) hb); have n1_ := Aside0.mk (Kd.R_below (by (with_reducible repeat (first | apply Kd.R_alloc | apply Kd.R_drewN | apply Kd.R_drew)); exact HO.out) hb); have n2_ := Aside0.mk (blk_below (g := gb) (o := _) (by (with_reducible repeat (first | refine blk_drewN ?_ _ | refine blk_drew ?_ | refine blk_alloc ?_ _)); exact BK.out) hb); have n3_ := Aside0.mk (blk_below (g := gbd) (o := _) (by (with_reducible repeat (first | refine blk_drewN ?_ _ | refine blk_drew ?_ | refine blk_alloc ?_ _)); exact BD.out) hb); have n4_ := Aside0.mk (below_step (by repeat (first | (with_reducible first | exact HB.out | apply below_alloc | apply pw_below_drewN | apply below_drew1) | exact HB.out)) hb); clear HD HO BK BD HB; have HD := n0_; have HO := n1_; have BK := n2_; have BD := n3_; have HB := n4_; clear n0_ n1_ n2_ n3_ n4_; clear hb))
                          go_roundg k3
                          case measure => have := HK2.out; have := HK3.out; omega
                          case rel => exact ⟨i6, (wrap64 (j + 1)), (by first | rfl | (simp; done) | (simp [*]; done)), (by first | rfl | (simp; done) | (simp [*]; done)), H', ⟨by have := HK3.out; omega⟩, ⟨(by (with_reducible repeat (first | apply Kd.R_alloc | apply Kd.R_drewN | apply Kd.R_drew)); exact HD.out)⟩, ⟨(by (with_reducible repeat (first | apply Kd.R_alloc | apply Kd.R_drewN | apply Kd.R_drew)); exact HO.out)⟩, ⟨(by (with_reducible repeat (first | refine blk_drewN ?_ _ | refine blk_drew ?_ | refine blk_alloc ?_ _)); exact BK.out)⟩, ⟨(by (with_reducible repeat (first | refine blk_drewN ?_ _ | refine blk_drew ?_ | refine blk_alloc ?_ _)); exact BD.out)⟩, ⟨(by repeat (first | (with_reducible first | exact HB.out | apply below_alloc | apply pw_below_drewN | apply below_drew1) | exact HB.out))⟩⟩
                        | false =>
                          rw [if_neg (by decide)] at h
                          have H' := Aside0.mk h
                          clear h
                          go_wp2_with (first | ((with_reducible refine gate_dst (N := 8) rfl ?_); refine box_event ?hg (N := 8) ?hd (cs := #[.int .i64 0, .slice none 0 0, .slice none 0 0, .slice none 0 0, .slice none 0 0, .int .i64 0, .int .i64 0, .int .i64 0, .int .i64 0]) (t := 42) ?hr ?_; (case hd => rfl); (case hg => rfl); (case hr => first | (go_simp; done) | (go_simp; rfl)); intro gx hg_ wz hbox hb; have BZ := Aside0.mk hbox; have HBZ := Aside0.mk hb; have GX := Aside0.mk (Nat.le_of_eq hg_.symm); clear hb hbox hg_; have hcz_0 : wz.cell? ⟨gx, 0, none⟩ = some (.int .i64 0) := (blk_cell BZ.out 0).trans rfl; have hcz_1 : wz.cell? ⟨gx, 1, none⟩ = some (.slice none 0 0) := (blk_cell BZ.out 1).trans rfl; have hcz_2 : wz.cell? ⟨gx, 2, none⟩ = some (.slice none 0 0) := (blk_cell BZ.out 2).trans rfl; have hcz_3 : wz.cell? ⟨gx, 3, none⟩ = some (.slice none 0 0) := (blk_cell BZ.out 3).trans rfl; have hcz_4 : wz.cell? ⟨gx, 4, none⟩ = some (.slice none 0 0) := (blk_cell BZ.out 4).trans rfl; have hcz_5 : wz.cell? ⟨gx, 5, none⟩ = some (.int .i64 0) := (blk_cell BZ.out 5).trans rfl; have hcz_6 : wz.cell? ⟨gx, 6, none⟩ = some (.int .i64 0) := (blk_cell BZ.out 6).trans rfl; have hcz_7 : wz.cell? ⟨gx, 7, none⟩ = some (.int .i64 0) := (blk_cell BZ.out 7).trans rfl; have hcz_8 : wz.cell? ⟨gx, 8, none⟩ = some (.int .i64 0) := (blk_cell BZ.out 8).trans rfl; have hfz_0 := blk_frozen BZ.out 0; have hfz_1 := blk_frozen BZ.out 1; have hfz_2 := blk_frozen BZ.out 2; have hfz_3 := blk_frozen BZ.out 3; have hfz_4 := blk_frozen BZ.out 4; have hfz_5 := blk_frozen BZ.out 5; have hfz_6 := blk_frozen BZ.out 6; have hfz_7 := blk_frozen BZ.out 7; have hfz_8 := blk_frozen BZ.out 8) | ((with_reducible refine gate_dst (N := 41) rfl ?_); (with_reducible refine nine_event2 BZ.out HBZ.out GX.out ?_); intro w2 hbox hb; have n0_ := Aside0.mk (Kd.R_below (by (with_reducible repeat (first | apply Kd.R_alloc | apply Kd.R_drewN | apply Kd.R_drew)); exact HD.out) hb); have n1_ := Aside0.mk (Kd.R_below (by (with_reducible repeat (first | apply Kd.R_alloc | apply Kd.R_drewN | apply Kd.R_drew)); exact HO.out) hb); have n2_ := Aside0.mk (blk_below (g := gb) (o := _) (by (with_reducible repeat (first | refine blk_drewN ?_ _ | refine blk_drew ?_ | refine blk_alloc ?_ _)); exact BK.out) hb); have n3_ := Aside0.mk (blk_below (g := gbd) (o := _) (by (with_reducible repeat (first | refine blk_drewN ?_ _ | refine blk_drew ?_ | refine blk_alloc ?_ _)); exact BD.out) hb); have n4_ := Aside0.mk (below_step (by repeat (first | (with_reducible first | exact HB.out | apply below_alloc | apply pw_below_drewN | apply below_drew1) | exact HB.out)) hb); clear HD HO BK BD HB; have HD := n0_; have HO := n1_; have BK := n2_; have BD := n3_; have HB := n4_; clear n0_ n1_ n2_ n3_ n4_; have hy2 := (hb.cell (World.block_lt_of_cell? wr _ hy)).trans hy; have BX := Aside0.mk hbox; clear hb hbox BZ HBZ; have hck_1 : w2.cell? ⟨gx, 1, none⟩ = some (.slice A1 f1.length c1) := (blk_cell BX.out 1).trans rfl; have hd2 : w2.cell? ⟨gbd, 0, none⟩ = some (.slice (some add) nd cd) := (blk_cell BD.out 0).trans rfl) | ((with_reducible refine gate_callee (f := 122) rfl ?_); (try (refine gate_guard (by rfl) ?_; dsimp only)); refine goesL_ (some 53) rfl rfl Try.func122 (by kernel_rfl) rfl #[.slice A1 f1.length c1, .func (.func 125) #[] #[.pointer (some ⟨gbd, 0, none⟩)]] rfl (by (try simp only [List.map_toArray, List.map_cons, List.map_nil]); first | done | rfl) ?_; (with_reducible refine (contains_calls (F := 125) Try.func125 (by kernel_rfl) rfl #[.pointer (some ⟨gbd, 0, none⟩)] (fun x => !(rdOf false done x)) A1 c1 f1 _ (Kd.C_below HR1.out (by repeat (first | (with_reducible first | exact HB.out | apply below_alloc | apply pw_below_drewN | apply below_drew1) | exact HB.out))) HC1.out ?cp).mono ?_); (case cp => exact fun x W hx hb => order1_calls x gbd W (some add) nd cd done (blk_below (by (with_reducible repeat (first | refine blk_drewN ?_ _ | refine blk_drew ?_ | refine blk_alloc ?_ _)); exact BD.out) hb) (Kd.R_reads' HD.out).1 (Kd.C_below (Kd.R_reads' (by (with_reducible repeat (first | apply Kd.R_alloc | apply Kd.R_drewN | apply Kd.R_drew)); exact HD.out)).2.2 hb) ((plan_ndone_in AT.out).1 x hx).1 ((plan_ndone_in AT.out).1 x hx).2); rintro e9 w9 ⟨rfl, hb⟩; rw [(plan_ndone_in AT.out).2]; refine ⟨_, rfl, ?_⟩; have n0_ := Aside0.mk (Kd.R_below (by (with_reducible repeat (first | apply Kd.R_alloc | apply Kd.R_drewN | apply Kd.R_drew)); exact HD.out) hb); have n1_ := Aside0.mk (Kd.R_below (by (with_reducible repeat (first | apply Kd.R_alloc | apply Kd.R_drewN | apply Kd.R_drew)); exact HO.out) hb); have n2_ := Aside0.mk (blk_below (g := gb) (o := _) (by (with_reducible repeat (first | refine blk_drewN ?_ _ | refine blk_drew ?_ | refine blk_alloc ?_ _)); exact BK.out) hb); have n3_ := Aside0.mk (blk_below (g := gbd) (o := _) (by (with_reducible repeat (first | refine blk_drewN ?_ _ | refine blk_drew ?_ | refine blk_alloc ?_ _)); exact BD.out) hb); have n4_ := Aside0.mk (below_step (by repeat (first | (with_reducible first | exact HB.out | apply below_alloc | apply pw_below_drewN | apply below_drew1) | exact HB.out)) hb); clear HD HO BK BD HB; have HD := n0_; have HO := n1_; have BK := n2_; have BD := n3_; have HB := n4_; clear n0_ n1_ n2_ n3_ n4_; clear hb))
                          go_roundg k3
                          case measure => have := HK2.out; have := HK3.out; omega
                          case rel => exact ⟨j, (wrap64 (j + 1)), (by first | rfl | (simp; done) | (simp [*]; done)), (by first | rfl | (simp; done) | (simp [*]; done)), H', ⟨by have := HK3.out; omega⟩, ⟨(by (with_reducible repeat (first | apply Kd.R_alloc | apply Kd.R_drewN | apply Kd.R_drew)); exact HD.out)⟩, ⟨(by (with_reducible repeat (first | apply Kd.R_alloc | apply Kd.R_drewN | apply Kd.R_drew)); exact HO.out)⟩, ⟨(by (with_reducible repeat (first | refine blk_drewN ?_ _ | refine blk_drew ?_ | refine blk_alloc ?_ _)); exact BK.out)⟩, ⟨(by (with_reducible repeat (first | refine blk_drewN ?_ _ | refine blk_drew ?_ | refine blk_alloc ?_ _)); exact BD.out)⟩, ⟨(by repeat (first | (with_reducible first | exact HB.out | apply below_alloc | apply pw_below_drewN | apply below_drew1) | exact HB.out))⟩⟩
                    · rw [if_neg c6] at h
                      have c6b : decide (i6 < 0) = false := decide_eq_false c6
                      clear c6 hlen
                      have H' := Aside0.mk h
                      clear h
                      go_wp2_with (first | ((with_reducible refine gate_dst (N := 8) rfl ?_); refine box_event ?hg (N := 8) ?hd (cs := #[.int .i64 0, .slice none 0 0, .slice none 0 0, .slice none 0 0, .slice none 0 0, .int .i64 0, .int .i64 0, .int .i64 0, .int .i64 0]) (t := 42) ?hr ?_; (case hd => rfl); (case hg => rfl); (case hr => first | (go_simp; done) | (go_simp; rfl)); intro gx hg_ wz hbox hb; have BZ := Aside0.mk hbox; have HBZ := Aside0.mk hb; have GX := Aside0.mk (Nat.le_of_eq hg_.symm); clear hb hbox hg_; have hcz_0 : wz.cell? ⟨gx, 0, none⟩ = some (.int .i64 0) := (blk_cell BZ.out 0).trans rfl; have hcz_1 : wz.cell? ⟨gx, 1, none⟩ = some (.slice none 0 0) := (blk_cell BZ.out 1).trans rfl; have hcz_2 : wz.cell? ⟨gx, 2, none⟩ = some (.slice none 0 0) := (blk_cell BZ.out 2).trans rfl; have hcz_3 : wz.cell? ⟨gx, 3, none⟩ = some (.slice none 0 0) := (blk_cell BZ.out 3).trans rfl; have hcz_4 : wz.cell? ⟨gx, 4, none⟩ = some (.slice none 0 0) := (blk_cell BZ.out 4).trans rfl; have hcz_5 : wz.cell? ⟨gx, 5, none⟩ = some (.int .i64 0) := (blk_cell BZ.out 5).trans rfl; have hcz_6 : wz.cell? ⟨gx, 6, none⟩ = some (.int .i64 0) := (blk_cell BZ.out 6).trans rfl; have hcz_7 : wz.cell? ⟨gx, 7, none⟩ = some (.int .i64 0) := (blk_cell BZ.out 7).trans rfl; have hcz_8 : wz.cell? ⟨gx, 8, none⟩ = some (.int .i64 0) := (blk_cell BZ.out 8).trans rfl; have hfz_0 := blk_frozen BZ.out 0; have hfz_1 := blk_frozen BZ.out 1; have hfz_2 := blk_frozen BZ.out 2; have hfz_3 := blk_frozen BZ.out 3; have hfz_4 := blk_frozen BZ.out 4; have hfz_5 := blk_frozen BZ.out 5; have hfz_6 := blk_frozen BZ.out 6; have hfz_7 := blk_frozen BZ.out 7; have hfz_8 := blk_frozen BZ.out 8) | ((with_reducible refine gate_dst (N := 41) rfl ?_); (with_reducible refine nine_event2 BZ.out HBZ.out GX.out ?_); intro w2 hbox hb; have n0_ := Aside0.mk (Kd.R_below (by (with_reducible repeat (first | apply Kd.R_alloc | apply Kd.R_drewN | apply Kd.R_drew)); exact HD.out) hb); have n1_ := Aside0.mk (Kd.R_below (by (with_reducible repeat (first | apply Kd.R_alloc | apply Kd.R_drewN | apply Kd.R_drew)); exact HO.out) hb); have n2_ := Aside0.mk (blk_below (g := gb) (o := _) (by (with_reducible repeat (first | refine blk_drewN ?_ _ | refine blk_drew ?_ | refine blk_alloc ?_ _)); exact BK.out) hb); have n3_ := Aside0.mk (blk_below (g := gbd) (o := _) (by (with_reducible repeat (first | refine blk_drewN ?_ _ | refine blk_drew ?_ | refine blk_alloc ?_ _)); exact BD.out) hb); have n4_ := Aside0.mk (below_step (by repeat (first | (with_reducible first | exact HB.out | apply below_alloc | apply pw_below_drewN | apply below_drew1) | exact HB.out)) hb); clear HD HO BK BD HB; have HD := n0_; have HO := n1_; have BK := n2_; have BD := n3_; have HB := n4_; clear n0_ n1_ n2_ n3_ n4_; have BX := Aside0.mk hbox; clear hb hbox BZ HBZ; have hck_1 : w2.cell? ⟨gx, 1, none⟩ = some (.slice A1 f1.length c1) := (blk_cell BX.out 1).trans rfl; have hd2 : w2.cell? ⟨gbd, 0, none⟩ = some (.slice Ad nd cd) := (blk_cell BD.out 0).trans rfl))
                      go_roundg k3
                      case measure => have := HK2.out; have := HK3.out; omega
                      case rel => exact ⟨i6, (wrap64 (j + 1)), (by first | rfl | (simp; done) | (simp [*]; done)), (by first | rfl | (simp; done) | (simp [*]; done)), H', ⟨by have := HK3.out; omega⟩, ⟨(by (with_reducible repeat (first | apply Kd.R_alloc | apply Kd.R_drewN | apply Kd.R_drew)); exact HD.out)⟩, ⟨(by (with_reducible repeat (first | apply Kd.R_alloc | apply Kd.R_drewN | apply Kd.R_drew)); exact HO.out)⟩, ⟨(by (with_reducible repeat (first | refine blk_drewN ?_ _ | refine blk_drew ?_ | refine blk_alloc ?_ _)); exact BK.out)⟩, ⟨(by (with_reducible repeat (first | refine blk_drewN ?_ _ | refine blk_drew ?_ | refine blk_alloc ?_ _)); exact BD.out)⟩, ⟨(by repeat (first | (with_reducible first | exact HB.out | apply below_alloc | apply pw_below_drewN | apply below_drew1) | exact HB.out))⟩⟩
                  · rw [if_neg c4] at h
                    have c4b : decide (j < (nodes.length : Int)) = false := decide_eq_false c4
                    clear c4
                    simp only [Option.some.injEq] at h
                    subst h
                    have HQ := Aside0.mk hlen
                    have p45 := P3.out
                    have q45 : i6 < (nd : Int) := by have := Q3.out; omega
                    obtain ⟨gd, cd_, eo45, gb45, gl45, cl45, HG45⟩ := Kd.R_form HD.out (by have := P3.out; have := Q3.out; omega)
                    cases eo45
                    have GB45 := Aside0.mk gb45
                    have GG45 := Aside0.mk HG45
                    clear gb45 gl45 hlen
                    obtain ⟨hx45_0, hf45_0⟩ := Kd.R_celln false HD.out i6 p45 q45
                    replace p45 := eq_true p45
                    replace q45 := eq_true q45
                    have HP47 := Kd.R_putg HD.out i6 true
                    go_wp2_with (first | ((with_reducible refine gate_store (t := 4) (p := 60) rfl ?_); refine store_event (t := 4) (p := 60) (v := ?vo_) (w1 := (wr.setCell ⟨gd, i6.toNat, none⟩ (.bool true))) ?hg ?ho ?hn ?hr ?_; (case ho => rfl); (case hg => rfl); (case hn => rfl); (case hr => first | (go_simp; done) | (go_simp; rfl)); intro w48 hw; have hg : wr.grownBy w48 (some gd) := (by rw [hw]; exact HP47.2); have n0_ := Aside0.mk (show Kd.R Kd.bool 4 w48 w.heap.size (fun _ => True) (.slice (some ⟨gd, 0, none⟩) done.length cd) (done.set i6.toNat true) from (by rw [hw]; exact HP47.1)); clear HP47; have n1_ := Aside0.mk (Kd.R_over' (v := (.slice (some ⟨gd, 0, none⟩) done.length cd)) HO.out (Kd.R_typed HD.out) (by decide) hg); have n2_ := Aside0.mk (blk_grown (g := gb) BK.out hg (Kd.R_ne HD.out BK.out (by decide))); have n3_ := Aside0.mk (blk_grown (g := gbd) BD.out hg (Kd.R_ne HD.out BD.out (by decide))); have n4_ := Aside0.mk ((by rw [hw]; exact below_set (HB.out) GB45.out : Below w.heap.size w w48)); clear HD HO BK BD HB; have HD := n0_; have HO := n1_; have BK := n2_; have BD := n3_; have HB := n4_; clear n0_ n1_ n2_ n3_ n4_ hg hw) | ((with_reducible refine gate_builtin (b := .append) (xs := #[.tmp 61, .tmp 63]) rfl ?_); (try (refine gate_guard (by rfl) ?_; dsimp only)); at_builtin; refine Kd.R_append (Kd.int .i64) (w0 := w) w.heap.size rfl (.tmp 61) (.tmp 63) 23 3 (.int .i64 0) 8 rfl Try.underlying23 info3 rfl (by decide) (by omega) (.slice Aq out.length cq) out i6 [.int .i64 i6] (fun _ => True) (fun _ => False) rfl rfl ?aP (fun _ hk => hk.elim) ?aF ?aO ?aB ?aS ?aL ?_; (case aP => exact rfl); (case aB => exact (by repeat (first | (with_reducible first | exact HB.out | apply below_alloc | apply pw_below_drewN | apply below_drew1) | exact HB.out))); (case aF => exact (fun _ _ => trivial)); (case aO => exact (by (with_reducible repeat (first | apply Kd.R_alloc | apply Kd.R_drewN | apply Kd.R_drew)); exact HO.out)); (case aS => exact (below_size (by repeat (first | (with_reducible first | exact HB.out | apply below_alloc | apply pw_below_drewN | apply below_drew1) | exact HB.out)))); (case aL => have := M3.out; omega); intro v141 w49 ho hb hg hat; have n0_ := Aside0.mk (Kd.R_over' (by (with_reducible repeat (first | apply Kd.R_alloc | apply Kd.R_drewN | apply Kd.R_drew)); exact HD.out) (Kd.R_typed (by (with_reducible repeat (first | apply Kd.R_alloc | apply Kd.R_drewN | apply Kd.R_drew)); exact HO.out)) (by decide) hg); have n1_ := Aside0.mk (blk_grown (g := gb) (by (with_reducible repeat (first | refine blk_drewN ?_ _ | refine blk_drew ?_ | refine blk_alloc ?_ _)); exact BK.out) hg (Kd.R_ne HO.out BK.out (by decide))); have n2_ := Aside0.mk (blk_grown (g := gbd) (by (with_reducible repeat (first | refine blk_drewN ?_ _ | refine blk_drew ?_ | refine blk_alloc ?_ _)); exact BD.out) hg (Kd.R_ne HO.out BD.out (by decide))); have n3_ := Aside0.mk hb; have n4_ := Aside0.mk ho; clear HD BK BD HB HO; have HD := n0_; have BK := n1_; have BD := n2_; have HB := n3_; have HO := n4_; clear n0_ n1_ n2_ n3_ n4_ ho hb hg hat))
                    go_roundg k2
                    case measure => have := HK2.out; omega
                    case rel => exact ⟨done.set i6.toNat true, out ++ [i6], HN, ⟨by have := HK2.out; omega⟩, ⟨(by (with_reducible repeat (first | apply Kd.R_alloc | apply Kd.R_drewN | apply Kd.R_drew)); exact HD.out)⟩, ⟨(by (with_reducible repeat (first | apply Kd.R_alloc | apply Kd.R_drewN | apply Kd.R_drew)); exact HO.out)⟩, ⟨(by (with_reducible repeat (first | refine blk_drewN ?_ _ | refine blk_drew ?_ | refine blk_alloc ?_ _)); exact BK.out)⟩, ⟨(by (with_reducible repeat (first | refine blk_drewN ?_ _ | refine blk_drew ?_ | refine blk_alloc ?_ _)); exact BD.out)⟩, ⟨(by repeat (first | (with_reducible first | exact HB.out | apply below_alloc | apply pw_below_drewN | apply below_drew1) | exact HB.out))⟩⟩
            · rw [if_neg c2] at h
              have c2b : decide ((out.length : Int) < (nodes.length : Int)) = false := decide_eq_false c2
              have c2c : decide (out.length < nodes.length) = false := decide_eq_false (by omega)
              clear c2
              simp only [Option.some.injEq] at h
              subst h
              go_wp2
              go_ret
              first | (exact ⟨⟨_, by first | rfl | simp, (by (with_reducible repeat (first | apply Kd.R_alloc | apply Kd.R_drewN | apply Kd.R_drew)); exact HO.out)⟩, (by repeat (first | (with_reducible first | exact HB.out | apply below_alloc | apply pw_below_drewN | apply below_drew1) | exact HB.out))⟩) | (exact ⟨fun _ => ⟨_, by first | rfl | simp, (by (with_reducible repeat (first | apply Kd.R_alloc | apply Kd.R_drewN | apply Kd.R_drew)); exact HO.out), trivial⟩, fun h_ => absurd rfl h_, (by repeat (first | (with_reducible first | exact HB.out | apply below_alloc | apply pw_below_drewN | apply below_drew1) | exact HB.out))⟩)


/-! ### plan_Group: function 19 -/
def plan_Group.f (a0_0 : Int) (l0_1 : List Int) (l0_2 : List Int) (l0_3 : List (List (S128))) (l0_4 : List Int) (a0_5 : Int) (a0_6 : Int) (a0_7 : Int) (a0_8 : Int) : Option (Int × Bool) := if a0_0 = 9 then (some (0, true)) else (if a0_0 = 10 then (some (wrap64 ((wrap64 (a0_0 - 10)) + 1), true)) else (if a0_0 = 11 then (some (wrap64 ((wrap64 (a0_0 - 10)) + 1), true)) else (if a0_0 = 12 then (some (wrap64 ((wrap64 (a0_0 - 10)) + 1), true)) else (if a0_0 = 13 then (some (wrap64 ((wrap64 (a0_0 - 10)) + 1), true)) else (if a0_0 = 14 then (some (wrap64 ((wrap64 (a0_0 - 10)) + 1), true)) else (some (0, false)))))))
set_option maxHeartbeats 8000000 in
set_option maxRecDepth 100000 in
theorem plan_Group.calls (a0_0 : Int) (A0_1 : Option Addr) (c0_1 : Nat) (l0_1 : List Int) (A0_2 : Option Addr) (c0_2 : Nat) (l0_2 : List Int) (A0_3 : Option Addr) (c0_3 : Nat) (l0_3 : List (List (S128))) (A0_4 : Option Addr) (c0_4 : Nat) (l0_4 : List Int) (a0_5 : Int) (a0_6 : Int) (a0_7 : Int) (a0_8 : Int) (r1 : Int) (r2 : Bool) (w : World) (hr0_1 : Kd.C (Kd.int .i64) w A0_1 l0_1.length l0_1) (hc0_1 : l0_1.length ≤ c0_1) (hr0_2 : Kd.C (Kd.int .i64) w A0_2 l0_2.length l0_2) (hc0_2 : l0_2.length ≤ c0_2) (hr0_3 : Kd.C (Kd.slice 128 k128) w A0_3 l0_3.length l0_3) (hc0_3 : l0_3.length ≤ c0_3) (hr0_4 : Kd.C (Kd.int .i64) w A0_4 l0_4.length l0_4) (hc0_4 : l0_4.length ≤ c0_4) (h : plan_Group.f a0_0 l0_1 l0_2 l0_3 l0_4 a0_5 a0_6 a0_7 a0_8 = some (r1, r2)) :
    Calls Try.prog 19 #[.agg #[.int .i64 a0_0, .slice A0_1 l0_1.length c0_1, .slice A0_2 l0_2.length c0_2, .slice A0_3 l0_3.length c0_3, .slice A0_4 l0_4.length c0_4, .int .i64 a0_5, .int .i64 a0_6, .int .i64 a0_7, .int .i64 a0_8]] w fun e w' => e = .returned (.tuple #[.int .i64 r1, .bool r2]) ∧ Below w.heap.size w w' := by
  have hu42 := Try.underlying42
  have HR0_1 := Aside0.mk hr0_1
  have HC0_1 := Aside0.mk hc0_1
  clear hr0_1 hc0_1
  have HR0_2 := Aside0.mk hr0_2
  have HC0_2 := Aside0.mk hc0_2
  clear hr0_2 hc0_2
  have HR0_3 := Aside0.mk hr0_3
  have HC0_3 := Aside0.mk hc0_3
  clear hr0_3 hc0_3
  have HR0_4 := Aside0.mk hr0_4
  have HC0_4 := Aside0.mk hc0_4
  clear hr0_4 hc0_4
  have HB := Aside0.mk (Below.refl w.heap.size w)
  have H : (if a0_0 = 9 then (some (0, true)) else (if a0_0 = 10 then (some (wrap64 ((wrap64 (a0_0 - 10)) + 1), true)) else (if a0_0 = 11 then (some (wrap64 ((wrap64 (a0_0 - 10)) + 1), true)) else (if a0_0 = 12 then (some (wrap64 ((wrap64 (a0_0 - 10)) + 1), true)) else (if a0_0 = 13 then (some (wrap64 ((wrap64 (a0_0 - 10)) + 1), true)) else (if a0_0 = 14 then (some (wrap64 ((wrap64 (a0_0 - 10)) + 1), true)) else (some (0, false)))))))) = some (r1, r2) := h
  clear h
  by_cases c2 : a0_0 = 9
  · rw [if_pos c2] at H
    have c2b0 : (a0_0 == 9) = true := beq_iff_eq.mpr c2
    have c2b1 : (a0_0 != 9) = false := bne_eq_false_iff_eq.mpr c2
    clear c2
    simp only [Option.some.injEq, Prod.mk.injEq] at H
    obtain ⟨rfl, rfl⟩ := H
    go_enter Try.func19, Try.ntmps19
    go_wp2_with (first | ((with_reducible refine gate_dst (N := 1) rfl ?_); refine box_event ?hg (N := 1) ?hd (cs := #[.int .i64 a0_0, .slice A0_1 l0_1.length c0_1, .slice A0_2 l0_2.length c0_2, .slice A0_3 l0_3.length c0_3, .slice A0_4 l0_4.length c0_4, .int .i64 a0_5, .int .i64 a0_6, .int .i64 a0_7, .int .i64 a0_8]) (t := 42) ?hr ?_; (case hd => rfl); (case hg => rfl); (case hr => first | (go_simp; done) | (go_simp; rfl)); intro gb130 hg w3 hbox hb; have n0_ := Aside0.mk (below_step (by repeat (first | (with_reducible first | exact HB.out | apply below_alloc | apply pw_below_drewN | apply below_drew1) | exact HB.out)) hb); have n1_ := Aside0.mk (hbox); have n2_ := Aside0.mk ((by rw [hg]; exact (below_size (by repeat (first | (with_reducible first | exact HB.out | apply below_alloc | apply pw_below_drewN | apply below_drew1) | exact HB.out))) : w.heap.size ≤ gb130)); have n3_ := Aside0.mk ((by rw [hg]; exact (below_size (by repeat (first | (with_reducible first | exact HB.out | apply below_alloc | apply pw_below_drewN | apply below_drew1) | exact HB.out))) : w.heap.size ≤ gb130)); clear HB; have HB := n0_; have BK130 := n1_; have GW130 := n2_; have GE130 := n3_; clear n0_ n1_ n2_ n3_; clear hb hbox hg; have hcz4_0 : w3.cell? ⟨gb130, 0, none⟩ = some (.int .i64 a0_0) := (blk_cell BK130.out 0).trans rfl; have hcz4_1 : w3.cell? ⟨gb130, 1, none⟩ = some (.slice A0_1 l0_1.length c0_1) := (blk_cell BK130.out 1).trans rfl; have hcz4_2 : w3.cell? ⟨gb130, 2, none⟩ = some (.slice A0_2 l0_2.length c0_2) := (blk_cell BK130.out 2).trans rfl; have hcz4_3 : w3.cell? ⟨gb130, 3, none⟩ = some (.slice A0_3 l0_3.length c0_3) := (blk_cell BK130.out 3).trans rfl; have hcz4_4 : w3.cell? ⟨gb130, 4, none⟩ = some (.slice A0_4 l0_4.length c0_4) := (blk_cell BK130.out 4).trans rfl; have hcz4_5 : w3.cell? ⟨gb130, 5, none⟩ = some (.int .i64 a0_5) := (blk_cell BK130.out 5).trans rfl; have hcz4_6 : w3.cell? ⟨gb130, 6, none⟩ = some (.int .i64 a0_6) := (blk_cell BK130.out 6).trans rfl; have hcz4_7 : w3.cell? ⟨gb130, 7, none⟩ = some (.int .i64 a0_7) := (blk_cell BK130.out 7).trans rfl; have hcz4_8 : w3.cell? ⟨gb130, 8, none⟩ = some (.int .i64 a0_8) := (blk_cell BK130.out 8).trans rfl; have hfz4_0 := blk_frozen BK130.out 0; have hfz4_1 := blk_frozen BK130.out 1; have hfz4_2 := blk_frozen BK130.out 2; have hfz4_3 := blk_frozen BK130.out 3; have hfz4_4 := blk_frozen BK130.out 4; have hfz4_5 := blk_frozen BK130.out 5; have hfz4_6 := blk_frozen BK130.out 6; have hfz4_7 := blk_frozen BK130.out 7; have hfz4_8 := blk_frozen BK130.out 8))
    go_ret2
    exact ⟨by first | rfl | (simp [errW_none, errW_some] <;> rfl) | (simp [*, errW_none, errW_some] <;> rfl), by repeat (first | (with_reducible first | exact HB.out | apply below_alloc | apply pw_below_drewN | apply below_drew1 | refine below_set ?_ GE130.out) | exact HB.out)⟩
  · rw [if_neg c2] at H
    have c2b0 : (a0_0 == 9) = false := beq_eq_false_iff_ne.mpr c2
    have c2b1 : (a0_0 != 9) = true := bne_iff_ne.mpr c2
    by_cases c5 : a0_0 = 10
    · rw [if_pos c5] at H
      have c5b0 : (a0_0 == 10) = true := beq_iff_eq.mpr c5
      have c5b1 : (a0_0 != 10) = false := bne_eq_false_iff_eq.mpr c5
      clear c5
      simp only [Option.some.injEq, Prod.mk.injEq] at H
      obtain ⟨rfl, rfl⟩ := H
      go_enter Try.func19, Try.ntmps19
      go_wp2_with (first | ((with_reducible refine gate_dst (N := 1) rfl ?_); refine box_event ?hg (N := 1) ?hd (cs := #[.int .i64 a0_0, .slice A0_1 l0_1.length c0_1, .slice A0_2 l0_2.length c0_2, .slice A0_3 l0_3.length c0_3, .slice A0_4 l0_4.length c0_4, .int .i64 a0_5, .int .i64 a0_6, .int .i64 a0_7, .int .i64 a0_8]) (t := 42) ?hr ?_; (case hd => rfl); (case hg => rfl); (case hr => first | (go_simp; done) | (go_simp; rfl)); intro gb130 hg w6 hbox hb; have n0_ := Aside0.mk (below_step (by repeat (first | (with_reducible first | exact HB.out | apply below_alloc | apply pw_below_drewN | apply below_drew1) | exact HB.out)) hb); have n1_ := Aside0.mk (hbox); have n2_ := Aside0.mk ((by rw [hg]; exact (below_size (by repeat (first | (with_reducible first | exact HB.out | apply below_alloc | apply pw_below_drewN | apply below_drew1) | exact HB.out))) : w.heap.size ≤ gb130)); have n3_ := Aside0.mk ((by rw [hg]; exact (below_size (by repeat (first | (with_reducible first | exact HB.out | apply below_alloc | apply pw_below_drewN | apply below_drew1) | exact HB.out))) : w.heap.size ≤ gb130)); clear HB; have HB := n0_; have BK130 := n1_; have GW130 := n2_; have GE130 := n3_; clear n0_ n1_ n2_ n3_; clear hb hbox hg; have hcz7_0 : w6.cell? ⟨gb130, 0, none⟩ = some (.int .i64 a0_0) := (blk_cell BK130.out 0).trans rfl; have hcz7_1 : w6.cell? ⟨gb130, 1, none⟩ = some (.slice A0_1 l0_1.length c0_1) := (blk_cell BK130.out 1).trans rfl; have hcz7_2 : w6.cell? ⟨gb130, 2, none⟩ = some (.slice A0_2 l0_2.length c0_2) := (blk_cell BK130.out 2).trans rfl; have hcz7_3 : w6.cell? ⟨gb130, 3, none⟩ = some (.slice A0_3 l0_3.length c0_3) := (blk_cell BK130.out 3).trans rfl; have hcz7_4 : w6.cell? ⟨gb130, 4, none⟩ = some (.slice A0_4 l0_4.length c0_4) := (blk_cell BK130.out 4).trans rfl; have hcz7_5 : w6.cell? ⟨gb130, 5, none⟩ = some (.int .i64 a0_5) := (blk_cell BK130.out 5).trans rfl; have hcz7_6 : w6.cell? ⟨gb130, 6, none⟩ = some (.int .i64 a0_6) := (blk_cell BK130.out 6).trans rfl; have hcz7_7 : w6.cell? ⟨gb130, 7, none⟩ = some (.int .i64 a0_7) := (blk_cell BK130.out 7).trans rfl; have hcz7_8 : w6.cell? ⟨gb130, 8, none⟩ = some (.int .i64 a0_8) := (blk_cell BK130.out 8).trans rfl; have hfz7_0 := blk_frozen BK130.out 0; have hfz7_1 := blk_frozen BK130.out 1; have hfz7_2 := blk_frozen BK130.out 2; have hfz7_3 := blk_frozen BK130.out 3; have hfz7_4 := blk_frozen BK130.out 4; have hfz7_5 := blk_frozen BK130.out 5; have hfz7_6 := blk_frozen BK130.out 6; have hfz7_7 := blk_frozen BK130.out 7; have hfz7_8 := blk_frozen BK130.out 8))
      go_ret2
      exact ⟨by first | rfl | (simp [errW_none, errW_some] <;> rfl) | (simp [*, errW_none, errW_some] <;> rfl), by repeat (first | (with_reducible first | exact HB.out | apply below_alloc | apply pw_below_drewN | apply below_drew1 | refine below_set ?_ GE130.out) | exact HB.out)⟩
    · rw [if_neg c5] at H
      have c5b0 : (a0_0 == 10) = false := beq_eq_false_iff_ne.mpr c5
      have c5b1 : (a0_0 != 10) = true := bne_iff_ne.mpr c5
      by_cases c8 : a0_0 = 11
      · rw [if_pos c8] at H
        have c8b0 : (a0_0 == 11) = true := beq_iff_eq.mpr c8
        have c8b1 : (a0_0 != 11) = false := bne_eq_false_iff_eq.mpr c8
        clear c8
        simp only [Option.some.injEq, Prod.mk.injEq] at H
        obtain ⟨rfl, rfl⟩ := H
        go_enter Try.func19, Try.ntmps19
        go_wp2_with (first | ((with_reducible refine gate_dst (N := 1) rfl ?_); refine box_event ?hg (N := 1) ?hd (cs := #[.int .i64 a0_0, .slice A0_1 l0_1.length c0_1, .slice A0_2 l0_2.length c0_2, .slice A0_3 l0_3.length c0_3, .slice A0_4 l0_4.length c0_4, .int .i64 a0_5, .int .i64 a0_6, .int .i64 a0_7, .int .i64 a0_8]) (t := 42) ?hr ?_; (case hd => rfl); (case hg => rfl); (case hr => first | (go_simp; done) | (go_simp; rfl)); intro gb130 hg w9 hbox hb; have n0_ := Aside0.mk (below_step (by repeat (first | (with_reducible first | exact HB.out | apply below_alloc | apply pw_below_drewN | apply below_drew1) | exact HB.out)) hb); have n1_ := Aside0.mk (hbox); have n2_ := Aside0.mk ((by rw [hg]; exact (below_size (by repeat (first | (with_reducible first | exact HB.out | apply below_alloc | apply pw_below_drewN | apply below_drew1) | exact HB.out))) : w.heap.size ≤ gb130)); have n3_ := Aside0.mk ((by rw [hg]; exact (below_size (by repeat (first | (with_reducible first | exact HB.out | apply below_alloc | apply pw_below_drewN | apply below_drew1) | exact HB.out))) : w.heap.size ≤ gb130)); clear HB; have HB := n0_; have BK130 := n1_; have GW130 := n2_; have GE130 := n3_; clear n0_ n1_ n2_ n3_; clear hb hbox hg; have hcz10_0 : w9.cell? ⟨gb130, 0, none⟩ = some (.int .i64 a0_0) := (blk_cell BK130.out 0).trans rfl; have hcz10_1 : w9.cell? ⟨gb130, 1, none⟩ = some (.slice A0_1 l0_1.length c0_1) := (blk_cell BK130.out 1).trans rfl; have hcz10_2 : w9.cell? ⟨gb130, 2, none⟩ = some (.slice A0_2 l0_2.length c0_2) := (blk_cell BK130.out 2).trans rfl; have hcz10_3 : w9.cell? ⟨gb130, 3, none⟩ = some (.slice A0_3 l0_3.length c0_3) := (blk_cell BK130.out 3).trans rfl; have hcz10_4 : w9.cell? ⟨gb130, 4, none⟩ = some (.slice A0_4 l0_4.length c0_4) := (blk_cell BK130.out 4).trans rfl; have hcz10_5 : w9.cell? ⟨gb130, 5, none⟩ = some (.int .i64 a0_5) := (blk_cell BK130.out 5).trans rfl; have hcz10_6 : w9.cell? ⟨gb130, 6, none⟩ = some (.int .i64 a0_6) := (blk_cell BK130.out 6).trans rfl; have hcz10_7 : w9.cell? ⟨gb130, 7, none⟩ = some (.int .i64 a0_7) := (blk_cell BK130.out 7).trans rfl; have hcz10_8 : w9.cell? ⟨gb130, 8, none⟩ = some (.int .i64 a0_8) := (blk_cell BK130.out 8).trans rfl; have hfz10_0 := blk_frozen BK130.out 0; have hfz10_1 := blk_frozen BK130.out 1; have hfz10_2 := blk_frozen BK130.out 2; have hfz10_3 := blk_frozen BK130.out 3; have hfz10_4 := blk_frozen BK130.out 4; have hfz10_5 := blk_frozen BK130.out 5; have hfz10_6 := blk_frozen BK130.out 6; have hfz10_7 := blk_frozen BK130.out 7; have hfz10_8 := blk_frozen BK130.out 8))
        go_ret2
        exact ⟨by first | rfl | (simp [errW_none, errW_some] <;> rfl) | (simp [*, errW_none, errW_some] <;> rfl), by repeat (first | (with_reducible first | exact HB.out | apply below_alloc | apply pw_below_drewN | apply below_drew1 | refine below_set ?_ GE130.out) | exact HB.out)⟩
      · rw [if_neg c8] at H
        have c8b0 : (a0_0 == 11) = false := beq_eq_false_iff_ne.mpr c8
        have c8b1 : (a0_0 != 11) = true := bne_iff_ne.mpr c8
        by_cases c11 : a0_0 = 12
        · rw [if_pos c11] at H
          have c11b0 : (a0_0 == 12) = true := beq_iff_eq.mpr c11
          have c11b1 : (a0_0 != 12) = false := bne_eq_false_iff_eq.mpr c11
          clear c11
          simp only [Option.some.injEq, Prod.mk.injEq] at H
          obtain ⟨rfl, rfl⟩ := H
          go_enter Try.func19, Try.ntmps19
          go_wp2_with (first | ((with_reducible refine gate_dst (N := 1) rfl ?_); refine box_event ?hg (N := 1) ?hd (cs := #[.int .i64 a0_0, .slice A0_1 l0_1.length c0_1, .slice A0_2 l0_2.length c0_2, .slice A0_3 l0_3.length c0_3, .slice A0_4 l0_4.length c0_4, .int .i64 a0_5, .int .i64 a0_6, .int .i64 a0_7, .int .i64 a0_8]) (t := 42) ?hr ?_; (case hd => rfl); (case hg => rfl); (case hr => first | (go_simp; done) | (go_simp; rfl)); intro gb130 hg w12 hbox hb; have n0_ := Aside0.mk (below_step (by repeat (first | (with_reducible first | exact HB.out | apply below_alloc | apply pw_below_drewN | apply below_drew1) | exact HB.out)) hb); have n1_ := Aside0.mk (hbox); have n2_ := Aside0.mk ((by rw [hg]; exact (below_size (by repeat (first | (with_reducible first | exact HB.out | apply below_alloc | apply pw_below_drewN | apply below_drew1) | exact HB.out))) : w.heap.size ≤ gb130)); have n3_ := Aside0.mk ((by rw [hg]; exact (below_size (by repeat (first | (with_reducible first | exact HB.out | apply below_alloc | apply pw_below_drewN | apply below_drew1) | exact HB.out))) : w.heap.size ≤ gb130)); clear HB; have HB := n0_; have BK130 := n1_; have GW130 := n2_; have GE130 := n3_; clear n0_ n1_ n2_ n3_; clear hb hbox hg; have hcz13_0 : w12.cell? ⟨gb130, 0, none⟩ = some (.int .i64 a0_0) := (blk_cell BK130.out 0).trans rfl; have hcz13_1 : w12.cell? ⟨gb130, 1, none⟩ = some (.slice A0_1 l0_1.length c0_1) := (blk_cell BK130.out 1).trans rfl; have hcz13_2 : w12.cell? ⟨gb130, 2, none⟩ = some (.slice A0_2 l0_2.length c0_2) := (blk_cell BK130.out 2).trans rfl; have hcz13_3 : w12.cell? ⟨gb130, 3, none⟩ = some (.slice A0_3 l0_3.length c0_3) := (blk_cell BK130.out 3).trans rfl; have hcz13_4 : w12.cell? ⟨gb130, 4, none⟩ = some (.slice A0_4 l0_4.length c0_4) := (blk_cell BK130.out 4).trans rfl; have hcz13_5 : w12.cell? ⟨gb130, 5, none⟩ = some (.int .i64 a0_5) := (blk_cell BK130.out 5).trans rfl; have hcz13_6 : w12.cell? ⟨gb130, 6, none⟩ = some (.int .i64 a0_6) := (blk_cell BK130.out 6).trans rfl; have hcz13_7 : w12.cell? ⟨gb130, 7, none⟩ = some (.int .i64 a0_7) := (blk_cell BK130.out 7).trans rfl; have hcz13_8 : w12.cell? ⟨gb130, 8, none⟩ = some (.int .i64 a0_8) := (blk_cell BK130.out 8).trans rfl; have hfz13_0 := blk_frozen BK130.out 0; have hfz13_1 := blk_frozen BK130.out 1; have hfz13_2 := blk_frozen BK130.out 2; have hfz13_3 := blk_frozen BK130.out 3; have hfz13_4 := blk_frozen BK130.out 4; have hfz13_5 := blk_frozen BK130.out 5; have hfz13_6 := blk_frozen BK130.out 6; have hfz13_7 := blk_frozen BK130.out 7; have hfz13_8 := blk_frozen BK130.out 8))
          go_ret2
          exact ⟨by first | rfl | (simp [errW_none, errW_some] <;> rfl) | (simp [*, errW_none, errW_some] <;> rfl), by repeat (first | (with_reducible first | exact HB.out | apply below_alloc | apply pw_below_drewN | apply below_drew1 | refine below_set ?_ GE130.out) | exact HB.out)⟩
        · rw [if_neg c11] at H
          have c11b0 : (a0_0 == 12) = false := beq_eq_false_iff_ne.mpr c11
          have c11b1 : (a0_0 != 12) = true := bne_iff_ne.mpr c11
          by_cases c14 : a0_0 = 13
          · rw [if_pos c14] at H
            have c14b0 : (a0_0 == 13) = true := beq_iff_eq.mpr c14
            have c14b1 : (a0_0 != 13) = false := bne_eq_false_iff_eq.mpr c14
            clear c14
            simp only [Option.some.injEq, Prod.mk.injEq] at H
            obtain ⟨rfl, rfl⟩ := H
            go_enter Try.func19, Try.ntmps19
            go_wp2_with (first | ((with_reducible refine gate_dst (N := 1) rfl ?_); refine box_event ?hg (N := 1) ?hd (cs := #[.int .i64 a0_0, .slice A0_1 l0_1.length c0_1, .slice A0_2 l0_2.length c0_2, .slice A0_3 l0_3.length c0_3, .slice A0_4 l0_4.length c0_4, .int .i64 a0_5, .int .i64 a0_6, .int .i64 a0_7, .int .i64 a0_8]) (t := 42) ?hr ?_; (case hd => rfl); (case hg => rfl); (case hr => first | (go_simp; done) | (go_simp; rfl)); intro gb130 hg w15 hbox hb; have n0_ := Aside0.mk (below_step (by repeat (first | (with_reducible first | exact HB.out | apply below_alloc | apply pw_below_drewN | apply below_drew1) | exact HB.out)) hb); have n1_ := Aside0.mk (hbox); have n2_ := Aside0.mk ((by rw [hg]; exact (below_size (by repeat (first | (with_reducible first | exact HB.out | apply below_alloc | apply pw_below_drewN | apply below_drew1) | exact HB.out))) : w.heap.size ≤ gb130)); have n3_ := Aside0.mk ((by rw [hg]; exact (below_size (by repeat (first | (with_reducible first | exact HB.out | apply below_alloc | apply pw_below_drewN | apply below_drew1) | exact HB.out))) : w.heap.size ≤ gb130)); clear HB; have HB := n0_; have BK130 := n1_; have GW130 := n2_; have GE130 := n3_; clear n0_ n1_ n2_ n3_; clear hb hbox hg; have hcz16_0 : w15.cell? ⟨gb130, 0, none⟩ = some (.int .i64 a0_0) := (blk_cell BK130.out 0).trans rfl; have hcz16_1 : w15.cell? ⟨gb130, 1, none⟩ = some (.slice A0_1 l0_1.length c0_1) := (blk_cell BK130.out 1).trans rfl; have hcz16_2 : w15.cell? ⟨gb130, 2, none⟩ = some (.slice A0_2 l0_2.length c0_2) := (blk_cell BK130.out 2).trans rfl; have hcz16_3 : w15.cell? ⟨gb130, 3, none⟩ = some (.slice A0_3 l0_3.length c0_3) := (blk_cell BK130.out 3).trans rfl; have hcz16_4 : w15.cell? ⟨gb130, 4, none⟩ = some (.slice A0_4 l0_4.length c0_4) := (blk_cell BK130.out 4).trans rfl; have hcz16_5 : w15.cell? ⟨gb130, 5, none⟩ = some (.int .i64 a0_5) := (blk_cell BK130.out 5).trans rfl; have hcz16_6 : w15.cell? ⟨gb130, 6, none⟩ = some (.int .i64 a0_6) := (blk_cell BK130.out 6).trans rfl; have hcz16_7 : w15.cell? ⟨gb130, 7, none⟩ = some (.int .i64 a0_7) := (blk_cell BK130.out 7).trans rfl; have hcz16_8 : w15.cell? ⟨gb130, 8, none⟩ = some (.int .i64 a0_8) := (blk_cell BK130.out 8).trans rfl; have hfz16_0 := blk_frozen BK130.out 0; have hfz16_1 := blk_frozen BK130.out 1; have hfz16_2 := blk_frozen BK130.out 2; have hfz16_3 := blk_frozen BK130.out 3; have hfz16_4 := blk_frozen BK130.out 4; have hfz16_5 := blk_frozen BK130.out 5; have hfz16_6 := blk_frozen BK130.out 6; have hfz16_7 := blk_frozen BK130.out 7; have hfz16_8 := blk_frozen BK130.out 8))
            go_ret2
            exact ⟨by first | rfl | (simp [errW_none, errW_some] <;> rfl) | (simp [*, errW_none, errW_some] <;> rfl), by repeat (first | (with_reducible first | exact HB.out | apply below_alloc | apply pw_below_drewN | apply below_drew1 | refine below_set ?_ GE130.out) | exact HB.out)⟩
          · rw [if_neg c14] at H
            have c14b0 : (a0_0 == 13) = false := beq_eq_false_iff_ne.mpr c14
            have c14b1 : (a0_0 != 13) = true := bne_iff_ne.mpr c14
            by_cases c17 : a0_0 = 14
            · rw [if_pos c17] at H
              have c17b0 : (a0_0 == 14) = true := beq_iff_eq.mpr c17
              have c17b1 : (a0_0 != 14) = false := bne_eq_false_iff_eq.mpr c17
              clear c17
              simp only [Option.some.injEq, Prod.mk.injEq] at H
              obtain ⟨rfl, rfl⟩ := H
              go_enter Try.func19, Try.ntmps19
              go_wp2_with (first | ((with_reducible refine gate_dst (N := 1) rfl ?_); refine box_event ?hg (N := 1) ?hd (cs := #[.int .i64 a0_0, .slice A0_1 l0_1.length c0_1, .slice A0_2 l0_2.length c0_2, .slice A0_3 l0_3.length c0_3, .slice A0_4 l0_4.length c0_4, .int .i64 a0_5, .int .i64 a0_6, .int .i64 a0_7, .int .i64 a0_8]) (t := 42) ?hr ?_; (case hd => rfl); (case hg => rfl); (case hr => first | (go_simp; done) | (go_simp; rfl)); intro gb130 hg w18 hbox hb; have n0_ := Aside0.mk (below_step (by repeat (first | (with_reducible first | exact HB.out | apply below_alloc | apply pw_below_drewN | apply below_drew1) | exact HB.out)) hb); have n1_ := Aside0.mk (hbox); have n2_ := Aside0.mk ((by rw [hg]; exact (below_size (by repeat (first | (with_reducible first | exact HB.out | apply below_alloc | apply pw_below_drewN | apply below_drew1) | exact HB.out))) : w.heap.size ≤ gb130)); have n3_ := Aside0.mk ((by rw [hg]; exact (below_size (by repeat (first | (with_reducible first | exact HB.out | apply below_alloc | apply pw_below_drewN | apply below_drew1) | exact HB.out))) : w.heap.size ≤ gb130)); clear HB; have HB := n0_; have BK130 := n1_; have GW130 := n2_; have GE130 := n3_; clear n0_ n1_ n2_ n3_; clear hb hbox hg; have hcz19_0 : w18.cell? ⟨gb130, 0, none⟩ = some (.int .i64 a0_0) := (blk_cell BK130.out 0).trans rfl; have hcz19_1 : w18.cell? ⟨gb130, 1, none⟩ = some (.slice A0_1 l0_1.length c0_1) := (blk_cell BK130.out 1).trans rfl; have hcz19_2 : w18.cell? ⟨gb130, 2, none⟩ = some (.slice A0_2 l0_2.length c0_2) := (blk_cell BK130.out 2).trans rfl; have hcz19_3 : w18.cell? ⟨gb130, 3, none⟩ = some (.slice A0_3 l0_3.length c0_3) := (blk_cell BK130.out 3).trans rfl; have hcz19_4 : w18.cell? ⟨gb130, 4, none⟩ = some (.slice A0_4 l0_4.length c0_4) := (blk_cell BK130.out 4).trans rfl; have hcz19_5 : w18.cell? ⟨gb130, 5, none⟩ = some (.int .i64 a0_5) := (blk_cell BK130.out 5).trans rfl; have hcz19_6 : w18.cell? ⟨gb130, 6, none⟩ = some (.int .i64 a0_6) := (blk_cell BK130.out 6).trans rfl; have hcz19_7 : w18.cell? ⟨gb130, 7, none⟩ = some (.int .i64 a0_7) := (blk_cell BK130.out 7).trans rfl; have hcz19_8 : w18.cell? ⟨gb130, 8, none⟩ = some (.int .i64 a0_8) := (blk_cell BK130.out 8).trans rfl; have hfz19_0 := blk_frozen BK130.out 0; have hfz19_1 := blk_frozen BK130.out 1; have hfz19_2 := blk_frozen BK130.out 2; have hfz19_3 := blk_frozen BK130.out 3; have hfz19_4 := blk_frozen BK130.out 4; have hfz19_5 := blk_frozen BK130.out 5; have hfz19_6 := blk_frozen BK130.out 6; have hfz19_7 := blk_frozen BK130.out 7; have hfz19_8 := blk_frozen BK130.out 8))
              go_ret2
              exact ⟨by first | rfl | (simp [errW_none, errW_some] <;> rfl) | (simp [*, errW_none, errW_some] <;> rfl), by repeat (first | (with_reducible first | exact HB.out | apply below_alloc | apply pw_below_drewN | apply below_drew1 | refine below_set ?_ GE130.out) | exact HB.out)⟩
            · rw [if_neg c17] at H
              have c17b0 : (a0_0 == 14) = false := beq_eq_false_iff_ne.mpr c17
              have c17b1 : (a0_0 != 14) = true := bne_iff_ne.mpr c17
              simp only [Option.some.injEq, Prod.mk.injEq] at H
              obtain ⟨rfl, rfl⟩ := H
              go_enter Try.func19, Try.ntmps19
              go_wp2_with (first | ((with_reducible refine gate_dst (N := 1) rfl ?_); refine box_event ?hg (N := 1) ?hd (cs := #[.int .i64 a0_0, .slice A0_1 l0_1.length c0_1, .slice A0_2 l0_2.length c0_2, .slice A0_3 l0_3.length c0_3, .slice A0_4 l0_4.length c0_4, .int .i64 a0_5, .int .i64 a0_6, .int .i64 a0_7, .int .i64 a0_8]) (t := 42) ?hr ?_; (case hd => rfl); (case hg => rfl); (case hr => first | (go_simp; done) | (go_simp; rfl)); intro gb130 hg w20 hbox hb; have n0_ := Aside0.mk (below_step (by repeat (first | (with_reducible first | exact HB.out | apply below_alloc | apply pw_below_drewN | apply below_drew1) | exact HB.out)) hb); have n1_ := Aside0.mk (hbox); have n2_ := Aside0.mk ((by rw [hg]; exact (below_size (by repeat (first | (with_reducible first | exact HB.out | apply below_alloc | apply pw_below_drewN | apply below_drew1) | exact HB.out))) : w.heap.size ≤ gb130)); have n3_ := Aside0.mk ((by rw [hg]; exact (below_size (by repeat (first | (with_reducible first | exact HB.out | apply below_alloc | apply pw_below_drewN | apply below_drew1) | exact HB.out))) : w.heap.size ≤ gb130)); clear HB; have HB := n0_; have BK130 := n1_; have GW130 := n2_; have GE130 := n3_; clear n0_ n1_ n2_ n3_; clear hb hbox hg; have hcz21_0 : w20.cell? ⟨gb130, 0, none⟩ = some (.int .i64 a0_0) := (blk_cell BK130.out 0).trans rfl; have hcz21_1 : w20.cell? ⟨gb130, 1, none⟩ = some (.slice A0_1 l0_1.length c0_1) := (blk_cell BK130.out 1).trans rfl; have hcz21_2 : w20.cell? ⟨gb130, 2, none⟩ = some (.slice A0_2 l0_2.length c0_2) := (blk_cell BK130.out 2).trans rfl; have hcz21_3 : w20.cell? ⟨gb130, 3, none⟩ = some (.slice A0_3 l0_3.length c0_3) := (blk_cell BK130.out 3).trans rfl; have hcz21_4 : w20.cell? ⟨gb130, 4, none⟩ = some (.slice A0_4 l0_4.length c0_4) := (blk_cell BK130.out 4).trans rfl; have hcz21_5 : w20.cell? ⟨gb130, 5, none⟩ = some (.int .i64 a0_5) := (blk_cell BK130.out 5).trans rfl; have hcz21_6 : w20.cell? ⟨gb130, 6, none⟩ = some (.int .i64 a0_6) := (blk_cell BK130.out 6).trans rfl; have hcz21_7 : w20.cell? ⟨gb130, 7, none⟩ = some (.int .i64 a0_7) := (blk_cell BK130.out 7).trans rfl; have hcz21_8 : w20.cell? ⟨gb130, 8, none⟩ = some (.int .i64 a0_8) := (blk_cell BK130.out 8).trans rfl; have hfz21_0 := blk_frozen BK130.out 0; have hfz21_1 := blk_frozen BK130.out 1; have hfz21_2 := blk_frozen BK130.out 2; have hfz21_3 := blk_frozen BK130.out 3; have hfz21_4 := blk_frozen BK130.out 4; have hfz21_5 := blk_frozen BK130.out 5; have hfz21_6 := blk_frozen BK130.out 6; have hfz21_7 := blk_frozen BK130.out 7; have hfz21_8 := blk_frozen BK130.out 8))
              go_ret2
              exact ⟨by first | rfl | (simp [errW_none, errW_some] <;> rfl) | (simp [*, errW_none, errW_some] <;> rfl), by repeat (first | (with_reducible first | exact HB.out | apply below_alloc | apply pw_below_drewN | apply below_drew1 | refine below_set ?_ GE130.out) | exact HB.out)⟩

end Go.Proofs.Ytdkkollonlmelaa.QPlanOrders
