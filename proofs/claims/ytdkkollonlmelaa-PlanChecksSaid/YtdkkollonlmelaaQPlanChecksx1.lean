-- Written by this session's own program (wip/tools/ownprint.sh)
import Derived.Test.YtdkkollonlmelaaQPlanChecksx0
namespace Go.Proofs.Ytdkkollonlmelaa.QPlanChecks
open Go.RowKit Go.Proofs.YtdkkollonlmelaaW.PrintWords Go.Proofs.YtdkkollonlmelaaW.PrintLast Go.Proofs.YtdkkollonlmelaaW.PrintMore
attribute [local go_sem] max2_int min2_int max_two min_two max_three min_three max_four min_four Go.Proofs.Ytdkkollonlmelaa.Hand.str_gtr Go.Proofs.Ytdkkollonlmelaa.Hand.str_leq Go.Proofs.Ytdkkollonlmelaa.Hand.str_geq   -- for this text's walks alone
set_option linter.unusedVariables false
set_option maxHeartbeats 8000000
set_option maxRecDepth 100000
set_option linter.unusedSimpArgs false

/-! ### runnelref08_Long: function 48 -/
def runnelref08_Long.l0 : Nat → List (S128) → Int → Option (Bool)
 | 0, _, _ => none
 | k + 1, x0, x3 => if x3 < (x0.length : Int) then (if 0 ≤ x3 then (if (((rd_T128 x0 x3).f2).size : Int) > 5000 then (some true) else (runnelref08_Long.l0 k x0 (wrap64 (x3 + 1)))) else (none)) else (some false)
def runnelref08_Long.f (k : Nat) (l0 : List (S128)) : Option (Bool) := if (l0.length : Int) > 80 then (some true) else (runnelref08_Long.l0 k l0 0)
theorem runnelref08_Long.calls (k : Nat) (A0 : Option Addr) (c0 : Nat) (l0 : List (S128)) (r : Bool) (w : World) (hr0 : Kd.C k128 w A0 l0.length l0) (hc0 : l0.length ≤ c0) (h : runnelref08_Long.f k l0 = some r) :
  Calls Try.prog 48 #[.slice A0 l0.length c0] w fun e w' => e = .returned (.bool r) ∧ Drawn0 w w' := by
 have HR0 := zz hr0
 have HC0 := zz hc0
 clear hr0 hc0
 have H := h
 unfold runnelref08_Long.f at H
 clear h
 by_cases c2 : (l0.length : Int) > 80
 ·rw [if_pos c2] at H
  have c2b0 : decide (80 < (l0.length : Int)) = true := decide_eq_true c2
  have c2b1 : decide (80 < l0.length) = true := decide_eq_true (by omega)
  clear c2
  obtain rfl := Option.some.inj H
  go_enter Try.func48, Try.ntmps48
  go_wp2
  go_ret
  exact ⟨by first | rfl | (simp; done) | (simp [*]; done), by repeat (first | exact Drawn0.refl _ | apply Drawn0.step)⟩
 ·rw [if_neg c2] at H
  have c2b0 : decide (80 < (l0.length : Int)) = false := decide_eq_false c2
  have c2b1 : decide (80 < l0.length) = false := decide_eq_false (by omega)
  clear c2
  have H' := zz H
  clear H
  go_enter Try.func48, Try.ntmps48
  go_wp2
  go_loopg [3] k (fun kq v3 w' => ∃ (x3_1 : Int), v3 = .int .i64 x3_1 ∧ Aside0 (runnelref08_Long.l0 kq l0 x3_1 = some r) ∧ Aside0 (kq ≤ k) ∧ Drawn0 w w')
  case atStart => exact ⟨(0), (by first | rfl | (simp; done) | (simp [*]; done)), H', ⟨Nat.le_refl _⟩, by repeat (first | exact Drawn0.refl _ | apply Drawn0.step)⟩
  case round =>
   clear H'
   try clear c2; try clear c2b0; try clear c2b1
   obtain ⟨x3_1, rfl, HA, HK1, ⟨m1, rfl⟩⟩ := hrel
   cases gk with
   | zero => exact absurd HA.out (by simp [runnelref08_Long.l0])
   | succ k1 =>
    have H := HA.out
    clear HA
    simp only [runnelref08_Long.l0] at H
    by_cases c3 : x3_1 < (l0.length : Int)
    ·rw [if_pos c3] at H
     have c3b0 : decide (x3_1 < (l0.length : Int)) = true := decide_eq_true c3
     clear c3
     by_cases c4 : 0 ≤ x3_1
     ·rw [if_pos c4] at H
      have c4b0 : decide (0 ≤ x3_1) = true := decide_eq_true c4
      clear c4
      by_cases c5 : (((rd_T128 l0 x3_1).f2).size : Int) > 5000
      ·rw [if_pos c5] at H
       have c5b0 : decide (5000 < (((rd_T128 l0 x3_1).f2).size : Int)) = true := decide_eq_true c5
       have c5b1 : decide (5000 < ((rd_T128 l0 x3_1).f2).size) = true := decide_eq_true (by omega)
       clear c5
       obtain rfl := Option.some.inj H
       have p101 : 0 ≤ (x3_1 : Int) := of_decide_eq_true (by first | (with_reducible assumption) | assumption)
       have q101 : x3_1 < (l0.length : Int) := of_decide_eq_true (by first | (with_reducible assumption) | assumption)
       obtain ⟨ad101, e101, hx101_0, hx101_1, hx101_2⟩ := at_T128 HR0.out x3_1 p101 q101
       cases e101
       replace p101 := eq_true p101
       replace q101 := eq_true q101
       go_wp2
       go_ret
       exact ⟨by first | rfl | (simp; done) | (simp [*]; done), by repeat (first | exact Drawn0.refl _ | apply Drawn0.step)⟩
      ·rw [if_neg c5] at H
       have c5b0 : decide (5000 < (((rd_T128 l0 x3_1).f2).size : Int)) = false := decide_eq_false c5
       have c5b1 : decide (5000 < ((rd_T128 l0 x3_1).f2).size) = false := decide_eq_false (by omega)
       clear c5
       have H' := zz H
       clear H
       have p101 : 0 ≤ (x3_1 : Int) := of_decide_eq_true (by first | (with_reducible assumption) | assumption)
       have q101 : x3_1 < (l0.length : Int) := of_decide_eq_true (by first | (with_reducible assumption) | assumption)
       obtain ⟨ad101, e101, hx101_0, hx101_1, hx101_2⟩ := at_T128 HR0.out x3_1 p101 q101
       cases e101
       replace p101 := eq_true p101
       replace q101 := eq_true q101
       go_wp2
       go_roundg k1
       case measure => have := HK1.out; omega
       case rel => exact ⟨(wrap64 (x3_1 + 1)), (by first | rfl | (simp; done) | (simp [*]; done)), H', ⟨by have := HK1.out; omega⟩, by repeat (first | exact Drawn0.refl _ | apply Drawn0.step)⟩
     ·rw [if_neg c4] at H
      exact absurd H (by simp)
    ·rw [if_neg c3] at H
     have c3b0 : decide (x3_1 < (l0.length : Int)) = false := decide_eq_false c3
     clear c3
     obtain rfl := Option.some.inj H
     go_wp2
     go_ret
     exact ⟨by first | rfl | (simp; done) | (simp [*]; done), by repeat (first | exact Drawn0.refl _ | apply Drawn0.step)⟩


/-! ### runnelref16_Long: function 11, by hand -/
def runnelref16_Long.l1 : Nat → List (List S128) → Int → Option Bool
 | 0, _, _ => none
 | k + 1, l, q => if q < (l.length : Int) then (if 0 ≤ q then ((runnelref08_Long.f k (rd_L4 l q)).bind fun t => (if t = true then some true else (runnelref16_Long.l1 k l (wrap64 (q + 1))))) else none) else some false
def runnelref16_Long.l0 : Nat → List S42 → Int → Option Bool
 | 0, _, _ => none
 | k + 1, nodes, i => if i < (nodes.length : Int) then (if 0 ≤ i then (if ((rd_T42 nodes i).f1.length : Int) > 20 then some true else (if ((rd_T42 nodes i).f2.length : Int) > 30 then some true else (if ((rd_T42 nodes i).f3.length : Int) > 30 then some true else (if ((rd_T42 nodes i).f4.length : Int) > 30 then some true else ((runnelref16_Long.l1 k (rd_T42 nodes i).f3 0).bind fun t => (if t = true then some true else (runnelref16_Long.l0 k nodes (wrap64 (i + 1))))))))) else none) else some false
def runnelref16_Long.f (k : Nat) (nodes : List S42) (outs : List Int) (room : Int) : Option Bool := if (nodes.length : Int) > 70 then some true else (if (outs.length : Int) > 20 then some true else (runnelref16_Long.l0 k nodes 0))
theorem runnelref16_Long.calls (k : Nat) (An : Option Addr) (cn : Nat) (nodes : List (S42)) (Ao : Option Addr) (co : Nat) (outs : List Int) (room : Int) (r : Bool) (w : World) (hr0_0 : Kd.C k42 w An nodes.length nodes) (hc0_0 : nodes.length ≤ cn) (hr0_1 : Kd.C (Kd.int .i64) w Ao outs.length outs) (hc0_1 : outs.length ≤ co) (h : runnelref16_Long.f k nodes outs room = some r) :
  Calls Try.prog 11 #[.agg #[.slice An nodes.length cn, .slice Ao outs.length co, .int .i64 room]] w fun e w' => e = .returned (.bool r) ∧ Below w.heap.size w w' := by
 have hu25 := Try.underlying25
 have hu42 := Try.underlying42
 have HRN := zz hr0_0
 clear hr0_0 hc0_0 hr0_1 hc0_1
 have HB := zz (Below.refl w.heap.size w)
 unfold runnelref16_Long.f at h
 by_cases a : (nodes.length : Int) > 70
 ·rw [if_pos a] at h
  simp only [Option.some.injEq] at h
  subst h
  have aa : decide (70 < (nodes.length : Int)) = true := decide_eq_true (by omega)
  have ab : decide (70 < nodes.length) = true := decide_eq_true (by omega)
  clear a
  go_enter Try.func11, Try.ntmps11
  go_wp2_with (first | ((with_reducible refine gate_dst (N := 1) rfl ?_); refine box_event ?hg (N := 1) ?hd (cs := #[.slice An nodes.length cn, .slice Ao outs.length co, .int .i64 room]) (t := 25) ?hr ?_; (case hd => rfl); (case hg => rfl); (case hr => first | (go_simp; done) | (go_simp; rfl)); intro gb hg_ w1 hbox hb; have n0_ := zz (below_step HB.out hb); have BK := zz hbox; clear HB; have HB := n0_; clear n0_ hb hbox hg_; have hc1_0 : w1.cell? ⟨gb, 0, none⟩ = some (.slice An nodes.length cn) := (blk_cell BK.out 0).trans rfl; have hc1_1 : w1.cell? ⟨gb, 1, none⟩ = some (.slice Ao outs.length co) := (blk_cell BK.out 1).trans rfl))
  go_ret
  exact ⟨by first | rfl | simp, (bel HB.out)⟩
 rw [if_neg a] at h
 have aa : decide (70 < (nodes.length : Int)) = false := decide_eq_false (by omega)
 have ab : decide (70 < nodes.length) = false := decide_eq_false (by omega)
 clear a
 by_cases b : (outs.length : Int) > 20
 ·rw [if_pos b] at h
  simp only [Option.some.injEq] at h
  subst h
  have ba : decide (20 < (outs.length : Int)) = true := decide_eq_true (by omega)
  have bb : decide (20 < outs.length) = true := decide_eq_true (by omega)
  clear b
  go_enter Try.func11, Try.ntmps11
  go_wp2_with (first | ((with_reducible refine gate_dst (N := 1) rfl ?_); refine box_event ?hg (N := 1) ?hd (cs := #[.slice An nodes.length cn, .slice Ao outs.length co, .int .i64 room]) (t := 25) ?hr ?_; (case hd => rfl); (case hg => rfl); (case hr => first | (go_simp; done) | (go_simp; rfl)); intro gb hg_ w1 hbox hb; have n0_ := zz (below_step HB.out hb); have BK := zz hbox; clear HB; have HB := n0_; clear n0_ hb hbox hg_; have hc1_0 : w1.cell? ⟨gb, 0, none⟩ = some (.slice An nodes.length cn) := (blk_cell BK.out 0).trans rfl; have hc1_1 : w1.cell? ⟨gb, 1, none⟩ = some (.slice Ao outs.length co) := (blk_cell BK.out 1).trans rfl))
  go_ret
  exact ⟨by first | rfl | simp, (bel HB.out)⟩
 rw [if_neg b] at h
 have ba : decide (20 < (outs.length : Int)) = false := decide_eq_false (by omega)
 have bb : decide (20 < outs.length) = false := decide_eq_false (by omega)
 clear b
 have HL := zz h
 clear h
 go_enter Try.func11, Try.ntmps11
 go_wp2_with (first | ((with_reducible refine gate_dst (N := 1) rfl ?_); refine box_event ?hg (N := 1) ?hd (cs := #[.slice An nodes.length cn, .slice Ao outs.length co, .int .i64 room]) (t := 25) ?hr ?_; (case hd => rfl); (case hg => rfl); (case hr => first | (go_simp; done) | (go_simp; rfl)); intro gb hg_ w1 hbox hb; have n0_ := zz (below_step HB.out hb); have BK := zz hbox; clear HB; have HB := n0_; clear n0_ hb hbox hg_; have hc1_0 : w1.cell? ⟨gb, 0, none⟩ = some (.slice An nodes.length cn) := (blk_cell BK.out 0).trans rfl; have hc1_1 : w1.cell? ⟨gb, 1, none⟩ = some (.slice Ao outs.length co) := (blk_cell BK.out 1).trans rfl))
 go_loopg [3] k (fun kq v3 w' => ∃ (i : Int), v3 = .int .i64 i ∧ Aside0 (runnelref16_Long.l0 kq nodes i = some r) ∧ Aside0 (kq ≤ k) ∧ Aside0 (w'.heap[gb]? = some (.cells #[.slice An nodes.length cn, .slice Ao outs.length co, .int .i64 room] 25 (0, 0))) ∧ Aside0 (Below w.heap.size w w'))
 case atStart => exact ⟨0, rfl, HL, ⟨Nat.le_refl _⟩, ⟨(bk BK.out)⟩, ⟨(bel HB.out)⟩⟩
 case round =>
  clear HL BK HB hc1_0 hc1_1
  obtain ⟨i, rfl, HA, HK1, BK, HB⟩ := hrel
  cases gk with
  | zero => exact absurd HA.out (by simp [runnelref16_Long.l0])
  | succ k1 =>
   have h := HA.out
   clear HA
   simp only [runnelref16_Long.l0] at h
   have hc1_0 : wr.cell? ⟨gb, 0, none⟩ = some (.slice An nodes.length cn) := (blk_cell BK.out 0).trans rfl
   have hc1_1 : wr.cell? ⟨gb, 1, none⟩ = some (.slice Ao outs.length co) := (blk_cell BK.out 1).trans rfl
   by_cases c1 : i < (nodes.length : Int)
   rotate_left
   ·rw [if_neg c1] at h
    have c1b : decide (i < (nodes.length : Int)) = false := decide_eq_false c1
    clear c1
    simp only [Option.some.injEq] at h
    subst h
    go_wp2_with fail
    go_ret
    exact ⟨by first | rfl | simp, (bel HB.out)⟩
   rw [if_pos c1] at h
   have c1b : decide (i < (nodes.length : Int)) = true := decide_eq_true c1
   by_cases p1 : 0 ≤ i
   rotate_left
   ·rw [if_neg p1] at h; exact absurd h (by simp)
   rw [if_pos p1] at h
   obtain ⟨ad, A1, c1_, A2, c2, A3, c3, A4, c4, e, hx0, hx1, hx2, hx3, hx4, hx5, hx6, hx7, hx8, hl1, hi1, hl2, hi2, hl3, hi3, hl4, hi4⟩ := at_T42 HRN.out i p1 c1
   cases e
   generalize rd_T42 nodes i = x at hx0 hx1 hx2 hx3 hx4 hx5 hx6 hx7 hx8 hi3 h
   clear hl1 hi1 hl2 hi2 hl3 hl4 hi4
   obtain ⟨f0, f1, f2, f3, f4, f5, f6, f7, f8⟩ := x
   dsimp only at hx0 hx1 hx2 hx3 hx4 hx5 hx6 hx7 hx8 hi3 h
   replace hx0 := (HB.out.cell (World.block_lt_of_cell? w _ hx0)).trans hx0
   replace hx1 := (HB.out.cell (World.block_lt_of_cell? w _ hx1)).trans hx1
   replace hx2 := (HB.out.cell (World.block_lt_of_cell? w _ hx2)).trans hx2
   replace hx3 := (HB.out.cell (World.block_lt_of_cell? w _ hx3)).trans hx3
   replace hx4 := (HB.out.cell (World.block_lt_of_cell? w _ hx4)).trans hx4
   replace hx5 := (HB.out.cell (World.block_lt_of_cell? w _ hx5)).trans hx5
   replace hx6 := (HB.out.cell (World.block_lt_of_cell? w _ hx6)).trans hx6
   replace hx7 := (HB.out.cell (World.block_lt_of_cell? w _ hx7)).trans hx7
   replace hx8 := (HB.out.cell (World.block_lt_of_cell? w _ hx8)).trans hx8
   have HR3 := zz hi3
   clear hi3
   replace p1 := eq_true p1
   replace c1 := eq_true c1
   by_cases d0 : (f1.length : Int) > 20
   ·rw [if_pos d0] at h
    simp only [Option.some.injEq] at h
    subst h
    have d0a : decide (20 < (f1.length : Int)) = true := decide_eq_true (by omega)
    have d0b : decide (20 < f1.length) = true := decide_eq_true (by omega)
    clear d0
    go_wp2_with (first | ((with_reducible refine gate_dst (N := 4) rfl ?_); refine box_event ?hg (N := 4) ?hd (cs := #[.int .i64 0, .slice none 0 0, .slice none 0 0, .slice none 0 0, .slice none 0 0, .int .i64 0, .int .i64 0, .int .i64 0, .int .i64 0]) (t := 42) ?hr ?_; (case hd => rfl); (case hg => rfl); (case hr => first | (go_simp; done) | (go_simp; rfl)); intro gx hg_ wz hbox hb; have BZ := zz hbox; have HBZ := zz hb; have GX := zz (Nat.le_of_eq hg_.symm); clear hb hbox hg_; obtain ⟨hcz_0, hcz_1, hcz_2, hcz_3, hcz_4, hcz_5, hcz_6, hcz_7, hcz_8⟩ := nine_cells BZ.out; have hfz_0 := blk_frozen BZ.out 0; have hfz_1 := blk_frozen BZ.out 1; have hfz_2 := blk_frozen BZ.out 2; have hfz_3 := blk_frozen BZ.out 3; have hfz_4 := blk_frozen BZ.out 4; have hfz_5 := blk_frozen BZ.out 5; have hfz_6 := blk_frozen BZ.out 6; have hfz_7 := blk_frozen BZ.out 7; have hfz_8 := blk_frozen BZ.out 8) | ((with_reducible refine gate_dst (N := 28) rfl ?_); (with_reducible refine nine_event2 BZ.out HBZ.out GX.out ?_); intro w2 hbox hb; have n0_ := zz (blk_below (g := gb) (o := _) (bk BK.out) hb); have n1_ := zz (below_step (bel HB.out) hb); clear BK HB; have BK := n0_; have HB := n1_; clear n0_ n1_; have BX := zz hbox; clear hb hbox BZ HBZ; have hk1 : w2.cell? ⟨gx, 1, none⟩ = some (.slice A1 f1.length c1_) := (blk_cell BX.out 1).trans rfl; have hk2 : w2.cell? ⟨gx, 2, none⟩ = some (.slice A2 f2.length c2) := (blk_cell BX.out 2).trans rfl; have hk3 : w2.cell? ⟨gx, 3, none⟩ = some (.slice A3 f3.length c3) := (blk_cell BX.out 3).trans rfl; have hk4 : w2.cell? ⟨gx, 4, none⟩ = some (.slice A4 f4.length c4) := (blk_cell BX.out 4).trans rfl))
    go_ret
    exact ⟨by first | rfl | simp, (bel HB.out)⟩
   rw [if_neg d0] at h
   have d0a : decide (20 < (f1.length : Int)) = false := decide_eq_false (by omega)
   have d0b : decide (20 < f1.length) = false := decide_eq_false (by omega)
   clear d0
   by_cases d1 : (f2.length : Int) > 30
   ·rw [if_pos d1] at h
    simp only [Option.some.injEq] at h
    subst h
    have d1a : decide (30 < (f2.length : Int)) = true := decide_eq_true (by omega)
    have d1b : decide (30 < f2.length) = true := decide_eq_true (by omega)
    clear d1
    go_wp2_with (first | ((with_reducible refine gate_dst (N := 4) rfl ?_); refine box_event ?hg (N := 4) ?hd (cs := #[.int .i64 0, .slice none 0 0, .slice none 0 0, .slice none 0 0, .slice none 0 0, .int .i64 0, .int .i64 0, .int .i64 0, .int .i64 0]) (t := 42) ?hr ?_; (case hd => rfl); (case hg => rfl); (case hr => first | (go_simp; done) | (go_simp; rfl)); intro gx hg_ wz hbox hb; have BZ := zz hbox; have HBZ := zz hb; have GX := zz (Nat.le_of_eq hg_.symm); clear hb hbox hg_; obtain ⟨hcz_0, hcz_1, hcz_2, hcz_3, hcz_4, hcz_5, hcz_6, hcz_7, hcz_8⟩ := nine_cells BZ.out; have hfz_0 := blk_frozen BZ.out 0; have hfz_1 := blk_frozen BZ.out 1; have hfz_2 := blk_frozen BZ.out 2; have hfz_3 := blk_frozen BZ.out 3; have hfz_4 := blk_frozen BZ.out 4; have hfz_5 := blk_frozen BZ.out 5; have hfz_6 := blk_frozen BZ.out 6; have hfz_7 := blk_frozen BZ.out 7; have hfz_8 := blk_frozen BZ.out 8) | ((with_reducible refine gate_dst (N := 28) rfl ?_); (with_reducible refine nine_event2 BZ.out HBZ.out GX.out ?_); intro w2 hbox hb; have n0_ := zz (blk_below (g := gb) (o := _) (bk BK.out) hb); have n1_ := zz (below_step (bel HB.out) hb); clear BK HB; have BK := n0_; have HB := n1_; clear n0_ n1_; have BX := zz hbox; clear hb hbox BZ HBZ; have hk1 : w2.cell? ⟨gx, 1, none⟩ = some (.slice A1 f1.length c1_) := (blk_cell BX.out 1).trans rfl; have hk2 : w2.cell? ⟨gx, 2, none⟩ = some (.slice A2 f2.length c2) := (blk_cell BX.out 2).trans rfl; have hk3 : w2.cell? ⟨gx, 3, none⟩ = some (.slice A3 f3.length c3) := (blk_cell BX.out 3).trans rfl; have hk4 : w2.cell? ⟨gx, 4, none⟩ = some (.slice A4 f4.length c4) := (blk_cell BX.out 4).trans rfl))
    go_ret
    exact ⟨by first | rfl | simp, (bel HB.out)⟩
   rw [if_neg d1] at h
   have d1a : decide (30 < (f2.length : Int)) = false := decide_eq_false (by omega)
   have d1b : decide (30 < f2.length) = false := decide_eq_false (by omega)
   clear d1
   by_cases d2 : (f3.length : Int) > 30
   ·rw [if_pos d2] at h
    simp only [Option.some.injEq] at h
    subst h
    have d2a : decide (30 < (f3.length : Int)) = true := decide_eq_true (by omega)
    have d2b : decide (30 < f3.length) = true := decide_eq_true (by omega)
    clear d2
    go_wp2_with (first | ((with_reducible refine gate_dst (N := 4) rfl ?_); refine box_event ?hg (N := 4) ?hd (cs := #[.int .i64 0, .slice none 0 0, .slice none 0 0, .slice none 0 0, .slice none 0 0, .int .i64 0, .int .i64 0, .int .i64 0, .int .i64 0]) (t := 42) ?hr ?_; (case hd => rfl); (case hg => rfl); (case hr => first | (go_simp; done) | (go_simp; rfl)); intro gx hg_ wz hbox hb; have BZ := zz hbox; have HBZ := zz hb; have GX := zz (Nat.le_of_eq hg_.symm); clear hb hbox hg_; obtain ⟨hcz_0, hcz_1, hcz_2, hcz_3, hcz_4, hcz_5, hcz_6, hcz_7, hcz_8⟩ := nine_cells BZ.out; have hfz_0 := blk_frozen BZ.out 0; have hfz_1 := blk_frozen BZ.out 1; have hfz_2 := blk_frozen BZ.out 2; have hfz_3 := blk_frozen BZ.out 3; have hfz_4 := blk_frozen BZ.out 4; have hfz_5 := blk_frozen BZ.out 5; have hfz_6 := blk_frozen BZ.out 6; have hfz_7 := blk_frozen BZ.out 7; have hfz_8 := blk_frozen BZ.out 8) | ((with_reducible refine gate_dst (N := 28) rfl ?_); (with_reducible refine nine_event2 BZ.out HBZ.out GX.out ?_); intro w2 hbox hb; have n0_ := zz (blk_below (g := gb) (o := _) (bk BK.out) hb); have n1_ := zz (below_step (bel HB.out) hb); clear BK HB; have BK := n0_; have HB := n1_; clear n0_ n1_; have BX := zz hbox; clear hb hbox BZ HBZ; have hk1 : w2.cell? ⟨gx, 1, none⟩ = some (.slice A1 f1.length c1_) := (blk_cell BX.out 1).trans rfl; have hk2 : w2.cell? ⟨gx, 2, none⟩ = some (.slice A2 f2.length c2) := (blk_cell BX.out 2).trans rfl; have hk3 : w2.cell? ⟨gx, 3, none⟩ = some (.slice A3 f3.length c3) := (blk_cell BX.out 3).trans rfl; have hk4 : w2.cell? ⟨gx, 4, none⟩ = some (.slice A4 f4.length c4) := (blk_cell BX.out 4).trans rfl))
    go_ret
    exact ⟨by first | rfl | simp, (bel HB.out)⟩
   rw [if_neg d2] at h
   have d2a : decide (30 < (f3.length : Int)) = false := decide_eq_false (by omega)
   have d2b : decide (30 < f3.length) = false := decide_eq_false (by omega)
   clear d2
   by_cases d3 : (f4.length : Int) > 30
   ·rw [if_pos d3] at h
    simp only [Option.some.injEq] at h
    subst h
    have d3a : decide (30 < (f4.length : Int)) = true := decide_eq_true (by omega)
    have d3b : decide (30 < f4.length) = true := decide_eq_true (by omega)
    clear d3
    go_wp2_with (first | ((with_reducible refine gate_dst (N := 4) rfl ?_); refine box_event ?hg (N := 4) ?hd (cs := #[.int .i64 0, .slice none 0 0, .slice none 0 0, .slice none 0 0, .slice none 0 0, .int .i64 0, .int .i64 0, .int .i64 0, .int .i64 0]) (t := 42) ?hr ?_; (case hd => rfl); (case hg => rfl); (case hr => first | (go_simp; done) | (go_simp; rfl)); intro gx hg_ wz hbox hb; have BZ := zz hbox; have HBZ := zz hb; have GX := zz (Nat.le_of_eq hg_.symm); clear hb hbox hg_; obtain ⟨hcz_0, hcz_1, hcz_2, hcz_3, hcz_4, hcz_5, hcz_6, hcz_7, hcz_8⟩ := nine_cells BZ.out; have hfz_0 := blk_frozen BZ.out 0; have hfz_1 := blk_frozen BZ.out 1; have hfz_2 := blk_frozen BZ.out 2; have hfz_3 := blk_frozen BZ.out 3; have hfz_4 := blk_frozen BZ.out 4; have hfz_5 := blk_frozen BZ.out 5; have hfz_6 := blk_frozen BZ.out 6; have hfz_7 := blk_frozen BZ.out 7; have hfz_8 := blk_frozen BZ.out 8) | ((with_reducible refine gate_dst (N := 28) rfl ?_); (with_reducible refine nine_event2 BZ.out HBZ.out GX.out ?_); intro w2 hbox hb; have n0_ := zz (blk_below (g := gb) (o := _) (bk BK.out) hb); have n1_ := zz (below_step (bel HB.out) hb); clear BK HB; have BK := n0_; have HB := n1_; clear n0_ n1_; have BX := zz hbox; clear hb hbox BZ HBZ; have hk1 : w2.cell? ⟨gx, 1, none⟩ = some (.slice A1 f1.length c1_) := (blk_cell BX.out 1).trans rfl; have hk2 : w2.cell? ⟨gx, 2, none⟩ = some (.slice A2 f2.length c2) := (blk_cell BX.out 2).trans rfl; have hk3 : w2.cell? ⟨gx, 3, none⟩ = some (.slice A3 f3.length c3) := (blk_cell BX.out 3).trans rfl; have hk4 : w2.cell? ⟨gx, 4, none⟩ = some (.slice A4 f4.length c4) := (blk_cell BX.out 4).trans rfl))
    go_ret
    exact ⟨by first | rfl | simp, (bel HB.out)⟩
   rw [if_neg d3] at h
   have d3a : decide (30 < (f4.length : Int)) = false := decide_eq_false (by omega)
   have d3b : decide (30 < f4.length) = false := decide_eq_false (by omega)
   clear d3
   replace h := Option.bind_eq_some_iff.mp h
   obtain ⟨t, h0, h⟩ := h
   try dsimp only at h
   have HL3 := zz h0
   have HE3 := zz h
   clear h0 h
   go_wp2_with (first | ((with_reducible refine gate_dst (N := 4) rfl ?_); refine box_event ?hg (N := 4) ?hd (cs := #[.int .i64 0, .slice none 0 0, .slice none 0 0, .slice none 0 0, .slice none 0 0, .int .i64 0, .int .i64 0, .int .i64 0, .int .i64 0]) (t := 42) ?hr ?_; (case hd => rfl); (case hg => rfl); (case hr => first | (go_simp; done) | (go_simp; rfl)); intro gx hg_ wz hbox hb; have BZ := zz hbox; have HBZ := zz hb; have GX := zz (Nat.le_of_eq hg_.symm); clear hb hbox hg_; obtain ⟨hcz_0, hcz_1, hcz_2, hcz_3, hcz_4, hcz_5, hcz_6, hcz_7, hcz_8⟩ := nine_cells BZ.out; have hfz_0 := blk_frozen BZ.out 0; have hfz_1 := blk_frozen BZ.out 1; have hfz_2 := blk_frozen BZ.out 2; have hfz_3 := blk_frozen BZ.out 3; have hfz_4 := blk_frozen BZ.out 4; have hfz_5 := blk_frozen BZ.out 5; have hfz_6 := blk_frozen BZ.out 6; have hfz_7 := blk_frozen BZ.out 7; have hfz_8 := blk_frozen BZ.out 8) | ((with_reducible refine gate_dst (N := 28) rfl ?_); (with_reducible refine nine_event2 BZ.out HBZ.out GX.out ?_); intro w2 hbox hb; have n0_ := zz (blk_below (g := gb) (o := _) (bk BK.out) hb); have n1_ := zz (below_step (bel HB.out) hb); clear BK HB; have BK := n0_; have HB := n1_; clear n0_ n1_; have BX := zz hbox; clear hb hbox BZ HBZ; have hk1 : w2.cell? ⟨gx, 1, none⟩ = some (.slice A1 f1.length c1_) := (blk_cell BX.out 1).trans rfl; have hk2 : w2.cell? ⟨gx, 2, none⟩ = some (.slice A2 f2.length c2) := (blk_cell BX.out 2).trans rfl; have hk3 : w2.cell? ⟨gx, 3, none⟩ = some (.slice A3 f3.length c3) := (blk_cell BX.out 3).trans rfl; have hk4 : w2.cell? ⟨gx, 4, none⟩ = some (.slice A4 f4.length c4) := (blk_cell BX.out 4).trans rfl))
   go_loopg [5] k1 (fun kq v5 w' => ∃ (q : Int), v5 = .int .i64 q ∧ Aside0 (runnelref16_Long.l1 kq f3 q = some t) ∧ Aside0 (kq ≤ k1) ∧ Aside0 (w'.heap[gb]? = some (.cells #[.slice (some ad) nodes.length cn, .slice Ao outs.length co, .int .i64 room] 25 (0, 0))) ∧ Aside0 (∃ vs : Array Value, w'.heap[gx]? = some (.cells vs 42 (0, 0)) ∧ vs[3]? = some (.slice A3 f3.length c3)) ∧ Aside0 (Below w.heap.size w w'))
   case atStart => exact ⟨0, rfl, HL3, ⟨Nat.le_refl _⟩, ⟨(bk BK.out)⟩, ⟨⟨_, (bk BX.out), rfl⟩⟩, ⟨(bel HB.out)⟩⟩
   case round =>
    clear HL3 BK BX HB hk1 hk2 hk3 hk4
    obtain ⟨q, rfl, HA, HK3, BK, BX, HB⟩ := hrel
    cases gk with
    | zero => exact absurd HA.out (by simp [runnelref16_Long.l1])
    | succ k3 =>
     have h := HA.out
     clear HA
     simp only [runnelref16_Long.l1] at h
     obtain ⟨vs, bx, hv1⟩ := BX.out
     have hk3 : wr.cell? ⟨gx, 3, none⟩ = some (.slice A3 f3.length c3) := (blk_cell bx 3).trans hv1
     clear bx hv1
     by_cases c5 : q < (f3.length : Int)
     rotate_left
     ·rw [if_neg c5] at h
      have c5b : decide (q < (f3.length : Int)) = false := decide_eq_false c5
      simp only [Option.some.injEq] at h
      subst h
      have h := HE3.out
      rw [if_neg (by decide)] at h
      have H' := zz h
      clear h HE3 c5
      go_wp2_with fail
      go_roundg k1
      case measure => have := HK1.out; omega
      case rel => exact ⟨(wrap64 (i + 1)), (by first | rfl | (simp; done) | (simp [*]; done)), H', ⟨by have := HK1.out; omega⟩, ⟨(bk BK.out)⟩, ⟨(bel HB.out)⟩⟩
     rw [if_pos c5] at h
     have c5b : decide (q < (f3.length : Int)) = true := decide_eq_true c5
     by_cases p5 : 0 ≤ q
     rotate_left
     ·rw [if_neg p5] at h; exact absurd h (by simp)
     rw [if_pos p5] at h
     obtain ⟨adi, Ae, ce, ei, hy, hle, hie⟩ := at_L4 HR3.out q p5 c5
     cases ei
     replace hy := (HB.out.cell (World.block_lt_of_cell? w _ hy)).trans hy
     generalize rd_L4 f3 q = ex at hy hle hie h
     have HRE := zz hie
     have HCE := zz hle
     clear hie hle
     replace p5 := eq_true p5
     replace c5 := eq_true c5
     replace h := Option.bind_eq_some_iff.mp h
     obtain ⟨t2, h0, h⟩ := h
     try dsimp only at h
     have AI := zz h0
     clear h0
     cases t2 with
     | true =>
      rw [if_pos rfl] at h
      simp only [Option.some.injEq] at h
      subst h
      have h := HE3.out
      rw [if_pos rfl] at h
      simp only [Option.some.injEq] at h
      subst h
      go_wp2_with (first | ((with_reducible refine gate_callee (f := 48) rfl ?_); refine goesL_ (some 62) rfl rfl Try.func48 (by kernel_rfl) rfl #[.slice Ae ex.length ce] rfl (by (try simp only [List.map_toArray, List.map_cons, List.map_nil]); first | done | rfl) ?_; (with_reducible refine (runnelref08_Long.calls k3 Ae ce ex true _ (Kd.C_below HRE.out (bel HB.out)) HCE.out AI.out).mono ?_); rintro e w' ⟨rfl, ⟨nd, rfl⟩⟩; refine ⟨_, rfl, ?_⟩))
      go_ret
      exact ⟨by first | rfl | simp, (bel HB.out)⟩
     | false =>
      rw [if_neg (by decide)] at h
      have H' := zz h
      clear h
      go_wp2_with (first | ((with_reducible refine gate_callee (f := 48) rfl ?_); refine goesL_ (some 62) rfl rfl Try.func48 (by kernel_rfl) rfl #[.slice Ae ex.length ce] rfl (by (try simp only [List.map_toArray, List.map_cons, List.map_nil]); first | done | rfl) ?_; (with_reducible refine (runnelref08_Long.calls k3 Ae ce ex false _ (Kd.C_below HRE.out (bel HB.out)) HCE.out AI.out).mono ?_); rintro e w' ⟨rfl, ⟨nd, rfl⟩⟩; refine ⟨_, rfl, ?_⟩))
      go_roundg k3
      case measure => have := HK1.out; have := HK3.out; omega
      case rel => exact ⟨(wrap64 (q + 1)), (by first | rfl | (simp; done) | (simp [*]; done)), H', ⟨by have := HK3.out; omega⟩, ⟨(bk BK.out)⟩, ⟨by obtain ⟨vs, b, c⟩ := BX.out; exact ⟨vs, bk b, c⟩⟩, ⟨(bel HB.out)⟩⟩



/-! ### plan_caught: function 84, by hand -/
theorem plan_caught.panics (g h : Nat) (re ra x y : Int) (te th : TypeId) (w : World) (hg : w.heap[g]? = some (.cells #[.int .i64 x] te (0, 0))) (hh : w.heap[h]? = some (.cells #[.int .i64 y] th (0, 0))) (hne : g ≠ h) :
  CallsD Try.prog 84 #[.pointer (some ⟨g, 0, none⟩), .pointer (some ⟨h, 0, none⟩)] (.panicking [{ v := .iface 177 (.agg #[.int .i64 re, .int .i64 ra]), recovered := false }]) w fun e u' w' =>
   e = .returned (.tuple #[]) ∧ u' = .panicking [{ v := .iface 177 (.agg #[.int .i64 re, .int .i64 ra]), recovered := true }] ∧ w' = (((w.setCell ⟨g, 0, none⟩ (.int .i64 re)).setCell ⟨h, 0, none⟩ (.int .i64 ra)).alloc (.cells #[.int .i64 re, .int .i64 ra] 177)).drew := by
 have hta : ∀ (v : Value) (W : World), (Instr.typeAssert (.iface 177 v) 20 177 true).run Try.prog W = .ok (.tuple #[v, .bool true]) W := fun v W => by
  kernel_rfl
 refine callsD_of_wpS Try.func84 rfl fun c₀ cs hu => ?_
 simp only [Try.ntmps84, List.size_toArray, List.length_cons, List.length_nil, Nat.reduceAdd, Nat.reduceSub, Array.replicate_succ, Array.replicate_zero, List.push_toArray, List.append_toArray, List.nil_append, List.cons_append]
 apply wpS_seq
 apply wpS_region
 simp [wpOpsS, go_sem, recoverD, hu, Try.ntmps84, Exit.thenS]
 apply wpS_seq
 apply wpS_seq
 apply wpS_region
 simp [wpOpsS, go_sem, Exit.thenS]
 refine wpS_cond (t := false) (by simp [Act.eval, Array.replicate]) ?_
 simp only [Bool.false_eq_true, if_false]
 refine wpS_of_wp (wp_skip ?_)
 simp only [Exit.thenS]
 refine wpS_of_wp ?_
 go_wp2
 have hlg : g < w.heap.size := (Array.getElem?_eq_some_iff.1 hg).1
 have hlh : h < w.heap.size := (Array.getElem?_eq_some_iff.1 hh).1
 have hg' : (w.alloc (.cells #[.int .i64 re, .int .i64 ra] 177)).heap[g]? = _ := (Below.heap_alloc w _ g hlg).trans hg
 have hh' : (w.alloc (.cells #[.int .i64 re, .int .i64 ra] 177)).heap[h]? = _ := (Below.heap_alloc w _ h hlh).trans hh
 have cg : (w.alloc (.cells #[.int .i64 re, .int .i64 ra] 177)).cell? ⟨g, 0, none⟩ = some (.int .i64 x) := by simp [World.cell?, hg']
 have ch : (w.alloc (.cells #[.int .i64 re, .int .i64 ra] 177)).cell? ⟨h, 0, none⟩ = some (.int .i64 y) := by simp [World.cell?, hh']
 have fg : (w.alloc (.cells #[.int .i64 re, .int .i64 ra] 177)).frozen? ⟨g, 0, none⟩ = false := by simp [World.frozen?, hg']
 have fh : (w.alloc (.cells #[.int .i64 re, .int .i64 ra] 177)).frozen? ⟨h, 0, none⟩ = false := by simp [World.frozen?, hh']
 have hn1 : ({ block := g, off := 0 } : Addr) ≠ { block := h, off := 0 } := by simp [hne]
 have ch2 : ∀ v, ((w.alloc (.cells #[.int .i64 re, .int .i64 ra] 177)).setCell ⟨g, 0, none⟩ v).cell? ⟨h, 0, none⟩ = some (.int .i64 y) := fun v => (World.cell?_setCell_other _ _ _ _ hn1).trans ch
 have ch3 : ((w.setCell ⟨g, 0, none⟩ (.int .i64 re)).alloc (.cells #[.int .i64 re, .int .i64 ra] 177)).cell? ⟨h, 0, none⟩ = some (.int .i64 y) := by
  rw [World.cell?_of_block (w := w.setCell ⟨g, 0, none⟩ (.int .i64 re)) (Below.heap_alloc _ _ h (by simpa using hlh)), World.cell?_setCell_other _ _ _ _ hn1]
  simp [World.cell?, hh]
 have fh3 : ((w.setCell ⟨g, 0, none⟩ (.int .i64 re)).alloc (.cells #[.int .i64 re, .int .i64 ra] 177)).frozen? ⟨h, 0, none⟩ = false := by
  rw [World.frozen?_of_block (w := w.setCell ⟨g, 0, none⟩ (.int .i64 re)) (Below.heap_alloc _ _ h (by simpa using hlh)), World.frozen?_setCell]
  simp [World.frozen?, hh]
 go_region
 refine ⟨rfl, _, rfl, _, results_none rfl _ _ _, rfl, rfl, rfl⟩
theorem plan_caught.idle (p q : Addr) (w : World) :
  CallsD Try.prog 84 #[.pointer (some p), .pointer (some q)] .returning w fun e u' w' => e = .returned (.tuple #[]) ∧ u' = .returning ∧ w' = w := by
 refine callsD_of_wpS Try.func84 rfl fun c₀ cs hu => ?_
 simp only [Try.ntmps84, List.size_toArray, List.length_cons, List.length_nil, Nat.reduceAdd, Nat.reduceSub, Array.replicate_succ, Array.replicate_zero, List.push_toArray, List.append_toArray, List.nil_append, List.cons_append]
 apply wpS_seq
 apply wpS_region
 simp [wpOpsS, go_sem, recoverD, hu, Try.ntmps84, Exit.thenS]
 apply wpS_seq
 apply wpS_seq
 apply wpS_region
 simp [wpOpsS, go_sem, Exit.thenS]
 refine wpS_cond (t := true) (by simp [Act.eval, Array.replicate]) ?_
 simp only [if_true]
 refine wpS_of_wp (wp_ret ?_)
 cases c₀
 simp only at hu
 subst hu
 exact ⟨rfl, _, rfl, _, results_none rfl _ _ _, rfl, rfl, rfl⟩


/-! ### plan_fail: function 119, by hand -/
theorem plan_fail.calls (e at_ : Int) (w : World) :
  Calls Try.prog 119 #[.int .i64 e, .int .i64 at_] w fun en w' => en = .panicked [{ v := .iface 177 (.agg #[.int .i64 e, .int .i64 at_]), recovered := false }] ∧ w' = w := by
 have hu := Try.underlying177
 go_enter Try.func119, Try.ntmps119
 go_wp2
 rw [show (Instr.panic (.iface 177 (.agg #[Value.int .i64 e, Value.int .i64 at_]))).run Try.prog w = .halt (.panic (.iface 177 (.agg #[Value.int .i64 e, Value.int .i64 at_]))) w from rfl]
 go_simp
 exact ⟨rfl, rfl, rfl⟩


/-! ### plan_between: function 120 -/
def plan_between.f (a0 : Int) (a1 : Int) (a2 : Int) : Option (Bool) := if a0 ≥ a1 then (some (decide (a0 ≤ a2))) else (some false)
theorem plan_between.calls (a0 : Int) (a1 : Int) (a2 : Int) (r : Bool) (w : World) (h : plan_between.f a0 a1 a2 = some r) :
  Calls Try.prog 120 #[.int .i64 a0, .int .i64 a1, .int .i64 a2] w fun e w' => e = .returned (.bool r) ∧ Drawn0 w w' := by
 have H := h
 unfold plan_between.f at H
 clear h
 by_cases c4 : a0 ≥ a1
 ·rw [if_pos c4] at H
  have c4b0 : decide (a1 ≤ a0) = true := decide_eq_true c4
  clear c4
  obtain rfl := Option.some.inj H
  go_enter Try.func120, Try.ntmps120
  go_wp2
  go_ret
  exact ⟨by first | rfl | (simp; done) | (simp [*]; done), by repeat (first | exact Drawn0.refl _ | apply Drawn0.step)⟩
 ·rw [if_neg c4] at H
  have c4b0 : decide (a1 ≤ a0) = false := decide_eq_false c4
  clear c4
  obtain rfl := Option.some.inj H
  go_enter Try.func120, Try.ntmps120
  go_wp2
  go_ret
  exact ⟨by first | rfl | (simp; done) | (simp [*]; done), by repeat (first | exact Drawn0.refl _ | apply Drawn0.step)⟩

/-! ### plan_whole: function 85 -/
mutual
def plan_whole.j0 : Nat → Int → Bool → List (S42) → List Int → Int → Option (Int × Int)
 | 0, _, _, _, _, _ => none
 | k + 1, x2, x8, x103000, x103001, x103002 => if x8 = true then (some (3, x2)) else (if x2 = 0 then (some (1, x2)) else (if (x103001.length : Int) = 0 then (some (1, x2)) else ((plan_between.f x103002 1 65536).bind fun t103 => (if t103 = true then (plan_whole.l0 k x2 x103001 (x103001.length : Int) 0) else (some (1, x2))))))
def plan_whole.l0 : Nat → Int → List Int → Int → Int → Option (Int × Int)
 | 0, _, _, _, _ => none
 | k + 1, x2, x31, x32, x33 => if x33 < x32 then (if 0 ≤ x33 then (if x33 < (x31.length : Int) then ((plan_between.f (rd x31 x33) 0 (wrap64 (x2 - 1))).bind fun t105 => (if t105 = true then (plan_whole.l0 k x2 x31 x32 (wrap64 (x33 + 1))) else (some (9, x2)))) else (none)) else (none)) else (some (0, 0))
end
def plan_whole.f (k : Nat) (l0_0 : List (S42)) (l0_1 : List Int) (a0_2 : Int) : Option (Int × Int) := if (l0_0.length : Int) > 64 then (plan_whole.j0 k (l0_0.length : Int) (decide ((l0_0.length : Int) > 64)) l0_0 l0_1 a0_2) else (plan_whole.j0 k (l0_0.length : Int) (decide ((l0_1.length : Int) > 8)) l0_0 l0_1 a0_2)
theorem plan_whole.mono_l : ∀ k, (∀ y0 y1 y2 y3 y4, LeO (plan_whole.j0 k y0 y1 y2 y3 y4) (plan_whole.j0 (k + 1) y0 y1 y2 y3 y4)) ∧ (∀ y0 y1 y2 y3, LeO (plan_whole.l0 k y0 y1 y2 y3) (plan_whole.l0 (k + 1) y0 y1 y2 y3))
 | 0 => ⟨fun _ _ _ _ _ r h => by simp [plan_whole.j0] at h, fun _ _ _ _ r h => by simp [plan_whole.l0] at h⟩
 | k + 1 => by
  obtain ⟨ih0, ih1⟩ := plan_whole.mono_l k
  refine ⟨?_, ?_⟩
  ·intro y0 y1 y2 y3 y4
   unfold plan_whole.j0
   repeat' first
   | (with_reducible exact ih0 _ _ _ _ _)
   | (with_reducible exact ih1 _ _ _ _)
   | (with_reducible exact LeO.refl _)
   | (with_reducible exact LeO.none _)
   | (with_reducible refine LeO.ite ?_ ?_)
   | (with_reducible refine LeO.bind ?_ (fun _ => ?_))
   | exact ih0 _ _ _ _ _
   | exact ih1 _ _ _ _
   | exact LeO.none _
   | refine LeO.ite ?_ ?_
   | refine LeO.bind ?_ (fun _ => ?_)
  ·intro y0 y1 y2 y3
   unfold plan_whole.l0
   repeat' first
   | (with_reducible exact ih0 _ _ _ _ _)
   | (with_reducible exact ih1 _ _ _ _)
   | (with_reducible exact LeO.refl _)
   | (with_reducible exact LeO.none _)
   | (with_reducible refine LeO.ite ?_ ?_)
   | (with_reducible refine LeO.bind ?_ (fun _ => ?_))
   | exact ih0 _ _ _ _ _
   | exact ih1 _ _ _ _
   | exact LeO.none _
   | refine LeO.ite ?_ ?_
   | refine LeO.bind ?_ (fun _ => ?_)
theorem plan_whole.mono : ∀ a0 a1 a2 k, LeO (plan_whole.f k a0 a1 a2) (plan_whole.f (k + 1) a0 a1 a2) := by
 intro a0 a1 a2 k
 obtain ⟨ih0, ih1⟩ := plan_whole.mono_l k
 unfold plan_whole.f
 repeat' first
   | (with_reducible exact ih0 _ _ _ _ _)
   | (with_reducible exact ih1 _ _ _ _)
   | (with_reducible exact LeO.refl _)
   | (with_reducible exact LeO.none _)
   | (with_reducible refine LeO.ite ?_ ?_)
   | (with_reducible refine LeO.bind ?_ (fun _ => ?_))
   | exact ih0 _ _ _ _ _
   | exact ih1 _ _ _ _
   | exact LeO.none _
   | refine LeO.ite ?_ ?_
   | refine LeO.bind ?_ (fun _ => ?_)
theorem plan_whole.calls (k : Nat) (A0_0 : Option Addr) (c0_0 : Nat) (l0_0 : List (S42)) (A0_1 : Option Addr) (c0_1 : Nat) (l0_1 : List Int) (a0_2 : Int) (r1 : Int) (r2 : Int) (w : World) (hr0_0 : Kd.C k42 w A0_0 l0_0.length l0_0) (hc0_0 : l0_0.length ≤ c0_0) (hr0_1 : Kd.C (Kd.int .i64) w A0_1 l0_1.length l0_1) (hc0_1 : l0_1.length ≤ c0_1) (h : plan_whole.f k l0_0 l0_1 a0_2 = some (r1, r2)) :
  Calls Try.prog 85 #[.agg #[.slice A0_0 l0_0.length c0_0, .slice A0_1 l0_1.length c0_1, .int .i64 a0_2]] w fun e w' => (r1 = 0 → e = .returned (.tuple #[]) ∧ True) ∧ (r1 ≠ 0 → e = .panicked [{ v := .iface 177 (.agg #[.int .i64 r1, .int .i64 r2]), recovered := false }]) ∧ Below w.heap.size w w' := by
 have hu25 := Try.underlying25
 have HR0_0 := zz hr0_0
 have HC0_0 := zz hc0_0
 clear hr0_0 hc0_0
 have HR0_1 := zz hr0_1
 have HC0_1 := zz hc0_1
 clear hr0_1 hc0_1
 have HB := zz (Below.refl w.heap.size w)
 have H := h
 unfold plan_whole.f at H
 clear h
 have HC2 := zz H
 clear H
 go_enter Try.func85, Try.ntmps85
 go_upto_if 8 with (first | ((with_reducible refine gate_dst (N := 1) rfl ?_); refine box_event ?hg (N := 1) ?hd (cs := #[.slice A0_0 l0_0.length c0_0, .slice A0_1 l0_1.length c0_1, .int .i64 a0_2]) (t := 25) ?hr ?_; (case hd => rfl); (case hg => rfl); (case hr => first | (go_simp; done) | (go_simp; rfl)); intro gb102 hg w3 hbox hb; have n0_ := zz (below_step (bel HB.out) hb); have n1_ := zz (hbox); have n2_ := zz ((by rw [hg]; exact (below_size (bel HB.out)) : w.heap.size ≤ gb102)); have n3_ := zz ((by rw [hg]; exact (below_size (bel HB.out)) : w.heap.size ≤ gb102)); clear HB; have HB := n0_; have BK102 := n1_; have GW102 := n2_; have GE102 := n3_; clear n0_ n1_ n2_ n3_; clear hb hbox hg; obtain ⟨hcz4_0, hcz4_1, hcz4_2⟩ := three_cells BK102.out; have hfz4_0 := blk_frozen BK102.out 0; have hfz4_1 := blk_frozen BK102.out 1; have hfz4_2 := blk_frozen BK102.out 2))
 (try simp only [Act.put, List.setIfInBounds_toArray, List.set_cons_zero, List.set_cons_succ])
 go_cut [8] (fun v8 wc => ∃ (kq : Nat) (x8_1 : Bool), v8 = .bool x8_1 ∧ Aside0 (plan_whole.j0 kq (l0_0.length : Int) x8_1 l0_0 l0_1 a0_2 = some (r1, r2)) ∧ Aside0 (kq ≤ k) ∧ Aside0 (wc.heap[gb102]? = some (.cells #[(.slice A0_0 l0_0.length c0_0), (.slice A0_1 l0_1.length c0_1), .int .i64 a0_2] 25 (0, 0))) ∧ Aside0 (Below w.heap.size w wc))
 case first =>
  have H := HC2.out
  clear HC2
  by_cases c5 : (l0_0.length : Int) > 64
  ·rw [if_pos c5] at H
   have c5b0 : decide (64 < (l0_0.length : Int)) = true := decide_eq_true c5
   have c5b1 : decide (64 < l0_0.length) = true := decide_eq_true (by omega)
   clear c5
   (first | rw [c5b0] | (simp only [i64_w, i32_w]; rw [c5b0]) | skip)
   have H' := zz H
   clear H
   go_wp2
   go_meet
   case rel => exact ⟨_, (decide ((l0_0.length : Int) > 64)), (by first | rfl | (simp; done) | (simp [*]; done)), H', ⟨by first | omega | exact Nat.le_refl _⟩, ⟨bk BK102.out⟩, ⟨by repeat (first | (with_reducible first | exact HB.out | apply below_alloc | apply pw_below_drewN | apply below_drew1 | refine below_set ?_ GE102.out) | exact HB.out)⟩⟩
  ·rw [if_neg c5] at H
   have c5b0 : decide (64 < (l0_0.length : Int)) = false := decide_eq_false c5
   have c5b1 : decide (64 < l0_0.length) = false := decide_eq_false (by omega)
   clear c5
   (first | rw [c5b0] | (simp only [i64_w, i32_w]; rw [c5b0]) | skip)
   have H' := zz H
   clear H
   obtain ⟨hcz6_0, hcz6_1, hcz6_2⟩ := three_cells BK102.out
   have hfz6_0 := blk_frozen BK102.out 0
   have hfz6_1 := blk_frozen BK102.out 1
   have hfz6_2 := blk_frozen BK102.out 2
   go_wp2
   go_meet
   case rel => exact ⟨_, (decide ((l0_1.length : Int) > 8)), (by first | rfl | (simp; done) | (simp [*]; done)), H', ⟨by first | omega | exact Nat.le_refl _⟩, ⟨bk BK102.out⟩, ⟨by repeat (first | (with_reducible first | exact HB.out | apply below_alloc | apply pw_below_drewN | apply below_drew1 | refine below_set ?_ GE102.out) | exact HB.out)⟩⟩
 case rest =>
  clear HC2
  try clear hcz4_0; try clear hcz4_1; try clear hcz4_2; try clear hfz4_0; try clear hfz4_1; try clear hfz4_2
  obtain ⟨kq, x8_1, rfl, HA, HJ1, BK102, HB⟩ := hcut
  cases kq with
  | zero => exact absurd HA.out (by simp [plan_whole.j0])
  | succ kj1 =>
   have H := HA.out
   clear HA
   simp only [plan_whole.j0] at H
   by_cases c7 : x8_1 = true
   ·subst c7
    rw [if_pos rfl] at H
    simp only [Option.some.injEq, Prod.mk.injEq] at H
    obtain ⟨rfl, rfl⟩ := H
    go_wp2_with (first | (go_at_call 119; (with_reducible refine (plan_fail.calls 3 (l0_0.length : Int) _).mono ?_); rintro e w' ⟨rfl, rfl⟩))
    ((try simp only [Exit.inBlock, Exit.then]); refine Go.Proofs.Ytdkkollonlmelaa.Hand.bodyPost_fail (by rfl) ?_)
    exact ⟨fun h_ => absurd h_ (by first | decide | exact HNE.out | (intro z_; simp_all)), fun _ => rfl, by repeat (first | (with_reducible first | exact HB.out | apply below_alloc | apply pw_below_drewN | apply below_drew1 | refine below_set ?_ GE102.out) | exact HB.out)⟩
   ·replace c7 := Bool.eq_false_iff.mpr c7
    subst c7
    rw [if_neg (show ¬ (false = true) by decide)] at H
    by_cases c8 : (l0_0.length : Int) = 0
    ·rw [if_pos c8] at H
     have c8b0 : ((l0_0.length : Int) == 0) = true := beq_iff_eq.mpr c8
     have c8b1 : ((l0_0.length : Int) != 0) = false := bne_eq_false_iff_eq.mpr c8
     clear c8
     simp only [Option.some.injEq, Prod.mk.injEq] at H
     obtain ⟨rfl, rfl⟩ := H
     go_wp2_with (first | (go_at_call 119; (with_reducible refine (plan_fail.calls 1 (l0_0.length : Int) _).mono ?_); rintro e w' ⟨rfl, rfl⟩))
     ((try simp only [Exit.inBlock, Exit.then]); refine Go.Proofs.Ytdkkollonlmelaa.Hand.bodyPost_fail (by rfl) ?_)
     exact ⟨fun h_ => absurd h_ (by first | decide | exact HNE.out | (intro z_; simp_all)), fun _ => rfl, by repeat (first | (with_reducible first | exact HB.out | apply below_alloc | apply pw_below_drewN | apply below_drew1 | refine below_set ?_ GE102.out) | exact HB.out)⟩
    ·rw [if_neg c8] at H
     have c8b0 : ((l0_0.length : Int) == 0) = false := beq_eq_false_iff_ne.mpr c8
     have c8b1 : ((l0_0.length : Int) != 0) = true := bne_iff_ne.mpr c8
     have c8b2 : ¬ (l0_0 = []) := fun h_ => c8 (by rw [h_]; rfl)
     by_cases c9 : (l0_1.length : Int) = 0
     ·rw [if_pos c9] at H
      have c9b0 : ((l0_1.length : Int) == 0) = true := beq_iff_eq.mpr c9
      have c9b1 : ((l0_1.length : Int) != 0) = false := bne_eq_false_iff_eq.mpr c9
      clear c9
      simp only [Option.some.injEq, Prod.mk.injEq] at H
      obtain ⟨rfl, rfl⟩ := H
      obtain ⟨hcz10_0, hcz10_1, hcz10_2⟩ := three_cells BK102.out
      have hfz10_0 := blk_frozen BK102.out 0
      have hfz10_1 := blk_frozen BK102.out 1
      have hfz10_2 := blk_frozen BK102.out 2
      go_wp2_with (first | (go_at_call 119; (with_reducible refine (plan_fail.calls 1 (l0_0.length : Int) _).mono ?_); rintro e w' ⟨rfl, rfl⟩))
      ((try simp only [Exit.inBlock, Exit.then]); refine Go.Proofs.Ytdkkollonlmelaa.Hand.bodyPost_fail (by rfl) ?_)
      exact ⟨fun h_ => absurd h_ (by first | decide | exact HNE.out | (intro z_; simp_all)), fun _ => rfl, by repeat (first | (with_reducible first | exact HB.out | apply below_alloc | apply pw_below_drewN | apply below_drew1 | refine below_set ?_ GE102.out) | exact HB.out)⟩
     ·rw [if_neg c9] at H
      have c9b0 : ((l0_1.length : Int) == 0) = false := beq_eq_false_iff_ne.mpr c9
      have c9b1 : ((l0_1.length : Int) != 0) = true := bne_iff_ne.mpr c9
      have c9b2 : ¬ (l0_1 = []) := fun h_ => c9 (by rw [h_]; rfl)
      obtain ⟨t103, A110, H⟩ := Option.bind_eq_some_iff.mp H
      try dsimp only at H
      have A11 := zz A110
      clear A110
      by_cases c12 : t103 = true
      ·subst c12
       rw [if_pos rfl] at H
       have H' := zz H
       clear H
       obtain ⟨hcz13_0, hcz13_1, hcz13_2⟩ := three_cells BK102.out
       have hfz13_0 := blk_frozen BK102.out 0
       have hfz13_1 := blk_frozen BK102.out 1
       have hfz13_2 := blk_frozen BK102.out 2
       go_wp2_with (first | ((with_reducible refine gate_callee (f := 120) rfl ?_); refine goesL_ (some 26) rfl rfl Try.func120 (by kernel_rfl) rfl #[.int .i64 a0_2, .int .i64 1, .int .i64 65536] rfl (by (try simp only [List.map_toArray, List.map_cons, List.map_nil]); first | done | rfl | (simp only [List.length_drop, List.length_take]; rfl)) ?_; (with_reducible refine (plan_between.calls a0_2 1 65536 true _ A11.out).mono ?_); rintro e w' ⟨rfl, ⟨nd, rfl⟩⟩; refine ⟨_, rfl, ?_⟩))
       go_loopg [33] kj1 (fun kq v33 w' => ∃ (x33_2 : Int), v33 = .int .i64 x33_2 ∧ Aside0 (plan_whole.l0 kq (l0_0.length : Int) l0_1 (l0_1.length : Int) x33_2 = some (r1, r2)) ∧ Aside0 (kq ≤ kj1) ∧ Aside0 (w'.heap[gb102]? = some (.cells #[(.slice A0_0 l0_0.length c0_0), (.slice A0_1 l0_1.length c0_1), .int .i64 a0_2] 25 (0, 0))) ∧ Aside0 (Below w.heap.size w w'))
       case atStart => exact ⟨(0), (by first | rfl | (simp; done) | (simp [*]; done)), H', ⟨Nat.le_refl _⟩, ⟨bk BK102.out⟩, ⟨by repeat (first | (with_reducible first | exact HB.out | apply below_alloc | apply pw_below_drewN | apply below_drew1 | refine below_set ?_ GE102.out) | exact HB.out)⟩⟩
       case round =>
        clear H'
        try clear c7; try clear c8; try clear c8b0; try clear c8b1; try clear c8b2; try clear c9; try clear c9b0; try clear c9b1; try clear c9b2; try clear c12; try clear hcz13_0; try clear hcz13_1; try clear hcz13_2; try clear hcz4_0; try clear hcz4_1; try clear hcz4_2; try clear hfz13_0; try clear hfz13_1; try clear hfz13_2; try clear hfz4_0; try clear hfz4_1; try clear hfz4_2
        obtain ⟨x33_2, rfl, HA, HK2, BK102, HB⟩ := hrel
        cases gk with
        | zero => exact absurd HA.out (by simp [plan_whole.l0])
        | succ k2 =>
         have H := HA.out
         clear HA
         simp only [plan_whole.l0] at H
         by_cases c14 : x33_2 < (l0_1.length : Int)
         ·rw [if_pos c14] at H
          have c14b0 : decide (x33_2 < (l0_1.length : Int)) = true := decide_eq_true c14
          clear c14
          by_cases c15 : 0 ≤ x33_2
          ·rw [if_pos c15] at H
           have c15b0 : decide (0 ≤ x33_2) = true := decide_eq_true c15
           clear c15
           by_cases c16 : x33_2 < (l0_1.length : Int)
           ·rw [if_pos c16] at H
            have c16b0 : decide (x33_2 < (l0_1.length : Int)) = true := decide_eq_true c16
            clear c16
            obtain ⟨t105, A170, H⟩ := Option.bind_eq_some_iff.mp H
            try dsimp only at H
            have A17 := zz A170
            clear A170
            by_cases c18 : t105 = true
            ·subst c18
             rw [if_pos rfl] at H
             have H' := zz H
             clear H
             have p104 : 0 ≤ (x33_2 : Int) := of_decide_eq_true (by first | (with_reducible assumption) | assumption)
             have q104 : x33_2 < (l0_1.length : Int) := of_decide_eq_true (by first | (with_reducible assumption) | assumption)
             obtain ⟨ad104, e104, hx104_0⟩ := Kd.at_int HR0_1.out x33_2 p104 q104
             cases e104
             replace hx104_0 := (HB.out.cell (World.block_lt_of_cell? w _ hx104_0)).trans hx104_0
             replace p104 := eq_true p104
             replace q104 := eq_true q104
             go_wp2_with (first | ((with_reducible refine gate_callee (f := 120) rfl ?_); refine goesL_ (some 40) rfl rfl Try.func120 (by kernel_rfl) rfl #[.int .i64 (rd l0_1 x33_2), .int .i64 0, .int .i64 (wrap64 ((l0_0.length : Int) - 1))] rfl (by (try simp only [List.map_toArray, List.map_cons, List.map_nil]); first | done | rfl | (simp only [List.length_drop, List.length_take]; rfl)) ?_; (with_reducible refine (plan_between.calls (rd l0_1 x33_2) 0 (wrap64 ((l0_0.length : Int) - 1)) true _ A17.out).mono ?_); rintro e w' ⟨rfl, ⟨nd, rfl⟩⟩; refine ⟨_, rfl, ?_⟩))
             go_roundg k2
             case measure => have := HJ1.out; have := HK2.out; omega
             case rel => exact ⟨(wrap64 (x33_2 + 1)), (by first | rfl | (simp; done) | (simp [*]; done)), H', ⟨by have := HJ1.out; have := HK2.out; omega⟩, ⟨bk BK102.out⟩, ⟨by repeat (first | (with_reducible first | exact HB.out | apply below_alloc | apply pw_below_drewN | apply below_drew1 | refine below_set ?_ GE102.out) | exact HB.out)⟩⟩
            ·replace c18 := Bool.eq_false_iff.mpr c18
             subst c18
             rw [if_neg (show ¬ (false = true) by decide)] at H
             simp only [Option.some.injEq, Prod.mk.injEq] at H
             obtain ⟨rfl, rfl⟩ := H
             have p104 : 0 ≤ (x33_2 : Int) := of_decide_eq_true (by first | (with_reducible assumption) | assumption)
             have q104 : x33_2 < (l0_1.length : Int) := of_decide_eq_true (by first | (with_reducible assumption) | assumption)
             obtain ⟨ad104, e104, hx104_0⟩ := Kd.at_int HR0_1.out x33_2 p104 q104
             cases e104
             replace hx104_0 := (HB.out.cell (World.block_lt_of_cell? w _ hx104_0)).trans hx104_0
             replace p104 := eq_true p104
             replace q104 := eq_true q104
             go_wp2_with (first | ((with_reducible refine gate_callee (f := 120) rfl ?_); refine goesL_ (some 40) rfl rfl Try.func120 (by kernel_rfl) rfl #[.int .i64 (rd l0_1 x33_2), .int .i64 0, .int .i64 (wrap64 ((l0_0.length : Int) - 1))] rfl (by (try simp only [List.map_toArray, List.map_cons, List.map_nil]); first | done | rfl | (simp only [List.length_drop, List.length_take]; rfl)) ?_; (with_reducible refine (plan_between.calls (rd l0_1 x33_2) 0 (wrap64 ((l0_0.length : Int) - 1)) false _ A17.out).mono ?_); rintro e w' ⟨rfl, ⟨nd, rfl⟩⟩; refine ⟨_, rfl, ?_⟩) | (go_at_call 119; (with_reducible refine (plan_fail.calls 9 (l0_0.length : Int) _).mono ?_); rintro e w' ⟨rfl, rfl⟩))
             ((try simp only [Exit.inBlock, Exit.then]); refine Go.Proofs.Ytdkkollonlmelaa.Hand.bodyPost_fail (by rfl) ?_)
             exact ⟨fun h_ => absurd h_ (by first | decide | exact HNE.out | (intro z_; simp_all)), fun _ => rfl, by repeat (first | (with_reducible first | exact HB.out | apply below_alloc | apply pw_below_drewN | apply below_drew1 | refine below_set ?_ GE102.out) | exact HB.out)⟩
           ·rw [if_neg c16] at H
            exact absurd H (by simp)
          ·rw [if_neg c15] at H
           exact absurd H (by simp)
         ·rw [if_neg c14] at H
          have c14b0 : decide (x33_2 < (l0_1.length : Int)) = false := decide_eq_false c14
          clear c14
          simp only [Option.some.injEq, Prod.mk.injEq] at H
          obtain ⟨rfl, rfl⟩ := H
          go_wp2
          first | go_end0 | ((try simp only [Exit.inBlock, Exit.then]); refine bodyPost_ret (results_none rfl _ _ _) rfl ?_)
          first | (exact ⟨fun _ => ⟨by first | rfl | (simp [errW_none, errW_some] <;> rfl) | (simp [*, errW_none, errW_some] <;> rfl), trivial⟩, fun h_ => absurd rfl h_, by repeat (first | (with_reducible first | exact HB.out | apply below_alloc | apply pw_below_drewN | apply below_drew1 | refine below_set ?_ GE102.out) | exact HB.out)⟩) | (exact ⟨(by first | rfl | (simp [errW_none, errW_some] <;> rfl) | (simp [*, errW_none, errW_some] <;> rfl)), by repeat (first | (with_reducible first | exact HB.out | apply below_alloc | apply pw_below_drewN | apply below_drew1 | refine below_set ?_ GE102.out) | exact HB.out)⟩)
      ·replace c12 := Bool.eq_false_iff.mpr c12
       subst c12
       rw [if_neg (show ¬ (false = true) by decide)] at H
       simp only [Option.some.injEq, Prod.mk.injEq] at H
       obtain ⟨rfl, rfl⟩ := H
       obtain ⟨hcz19_0, hcz19_1, hcz19_2⟩ := three_cells BK102.out
       have hfz19_0 := blk_frozen BK102.out 0
       have hfz19_1 := blk_frozen BK102.out 1
       have hfz19_2 := blk_frozen BK102.out 2
       go_wp2_with (first | ((with_reducible refine gate_callee (f := 120) rfl ?_); refine goesL_ (some 26) rfl rfl Try.func120 (by kernel_rfl) rfl #[.int .i64 a0_2, .int .i64 1, .int .i64 65536] rfl (by (try simp only [List.map_toArray, List.map_cons, List.map_nil]); first | done | rfl | (simp only [List.length_drop, List.length_take]; rfl)) ?_; (with_reducible refine (plan_between.calls a0_2 1 65536 false _ A11.out).mono ?_); rintro e w' ⟨rfl, ⟨nd, rfl⟩⟩; refine ⟨_, rfl, ?_⟩) | (go_at_call 119; (with_reducible refine (plan_fail.calls 1 (l0_0.length : Int) _).mono ?_); rintro e w' ⟨rfl, rfl⟩))
       ((try simp only [Exit.inBlock, Exit.then]); refine Go.Proofs.Ytdkkollonlmelaa.Hand.bodyPost_fail (by rfl) ?_)
       exact ⟨fun h_ => absurd h_ (by first | decide | exact HNE.out | (intro z_; simp_all)), fun _ => rfl, by repeat (first | (with_reducible first | exact HB.out | apply below_alloc | apply pw_below_drewN | apply below_drew1 | refine below_set ?_ GE102.out) | exact HB.out)⟩

/-! ### plan_ins: function 121 -/
def plan_ins.f (a0 : Int) (a1 : Int) : Option (Bool) := if a0 = 0 then (some (a1 == 0)) else (if a0 = 4 then ((plan_between.f a1 1 8).bind fun t106 => (some t106)) else (if a0 = 15 then (some (a1 == 2)) else (some (a1 == 1))))
theorem plan_ins.calls (a0 : Int) (a1 : Int) (r : Bool) (w : World) (h : plan_ins.f a0 a1 = some r) :
  Calls Try.prog 121 #[.int .i64 a0, .int .i64 a1] w fun e w' => e = .returned (.bool r) ∧ Drawn0 w w' := by
 have H := h
 unfold plan_ins.f at H
 clear h
 by_cases c3 : a0 = 0
 ·rw [if_pos c3] at H
  have c3b0 : (a0 == 0) = true := beq_iff_eq.mpr c3
  have c3b1 : (a0 != 0) = false := bne_eq_false_iff_eq.mpr c3
  clear c3
  obtain rfl := Option.some.inj H
  go_enter Try.func121, Try.ntmps121
  go_wp2
  go_ret
  exact ⟨by first | rfl | (simp; done) | (simp [*]; done), by repeat (first | exact Drawn0.refl _ | apply Drawn0.step)⟩
 ·rw [if_neg c3] at H
  have c3b0 : (a0 == 0) = false := beq_eq_false_iff_ne.mpr c3
  have c3b1 : (a0 != 0) = true := bne_iff_ne.mpr c3
  by_cases c4 : a0 = 4
  ·rw [if_pos c4] at H
   have c4b0 : (a0 == 4) = true := beq_iff_eq.mpr c4
   have c4b1 : (a0 != 4) = false := bne_eq_false_iff_eq.mpr c4
   clear c4
   obtain ⟨t106, A50, H⟩ := Option.bind_eq_some_iff.mp H
   try dsimp only at H
   have A5 := zz A50
   clear A50
   obtain rfl := Option.some.inj H
   go_enter Try.func121, Try.ntmps121
   go_wp2_with (first | ((with_reducible refine gate_callee (f := 120) rfl ?_); refine goesL_ (some 13) rfl rfl Try.func120 (by kernel_rfl) rfl #[.int .i64 a1, .int .i64 1, .int .i64 8] rfl (by (try simp only [List.map_toArray, List.map_cons, List.map_nil]); first | done | rfl | (simp only [List.length_drop, List.length_take]; rfl)) ?_; (with_reducible refine (plan_between.calls a1 1 8 t106 _ A5.out).mono ?_); rintro e w' ⟨rfl, ⟨nd, rfl⟩⟩; refine ⟨_, rfl, ?_⟩))
   go_ret
   exact ⟨by first | rfl | (simp; done) | (simp [*]; done), by repeat (first | exact Drawn0.refl _ | apply Drawn0.step)⟩
  ·rw [if_neg c4] at H
   have c4b0 : (a0 == 4) = false := beq_eq_false_iff_ne.mpr c4
   have c4b1 : (a0 != 4) = true := bne_iff_ne.mpr c4
   by_cases c6 : a0 = 15
   ·rw [if_pos c6] at H
    have c6b0 : (a0 == 15) = true := beq_iff_eq.mpr c6
    have c6b1 : (a0 != 15) = false := bne_eq_false_iff_eq.mpr c6
    clear c6
    obtain rfl := Option.some.inj H
    go_enter Try.func121, Try.ntmps121
    go_wp2
    go_ret
    exact ⟨by first | rfl | (simp; done) | (simp [*]; done), by repeat (first | exact Drawn0.refl _ | apply Drawn0.step)⟩
   ·rw [if_neg c6] at H
    have c6b0 : (a0 == 15) = false := beq_eq_false_iff_ne.mpr c6
    have c6b1 : (a0 != 15) = true := bne_iff_ne.mpr c6
    obtain rfl := Option.some.inj H
    go_enter Try.func121, Try.ntmps121
    go_wp2
    go_ret
    exact ⟨by first | rfl | (simp; done) | (simp [*]; done), by repeat (first | exact Drawn0.refl _ | apply Drawn0.step)⟩

end Go.Proofs.Ytdkkollonlmelaa.QPlanChecks
