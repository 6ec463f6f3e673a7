-- Written by this session's own program (wip/tools/ownprint.sh)
import Derived.Test.YtdkkollonlmelaaQPlanChecksx0
import Derived.Test.YtdkkollonlmelaaQPlanChecksx1
import Derived.Test.YtdkkollonlmelaaQPlanChecksx2
import Derived.Test.YtdkkollonlmelaaQPlanChecksx3
import Derived.Test.YtdkkollonlmelaaQPlanChecksx4
import Derived.Test.YtdkkollonlmelaaQPlanChecksx6
import Derived.Test.YtdkkollonlmelaaQPlanChecksx7
namespace Go.Proofs.Ytdkkollonlmelaa.QPlanChecks
open Go.RowKit Go.Proofs.YtdkkollonlmelaaW.PrintWords Go.Proofs.YtdkkollonlmelaaW.PrintLast Go.Proofs.YtdkkollonlmelaaW.PrintMore
attribute [local go_sem] max2_int min2_int max_two min_two max_three min_three max_four min_four Go.Proofs.Ytdkkollonlmelaa.Hand.str_gtr Go.Proofs.Ytdkkollonlmelaa.Hand.str_leq Go.Proofs.Ytdkkollonlmelaa.Hand.str_geq   -- for this text's walks alone
set_option linter.unusedVariables false
set_option linter.unusedSimpArgs false


/-! ### plan_typer_of: function 88, by hand -/
def plan_typer_of.l0 : Nat → List Int → List (List Int) → List Int → Int → Int → Option (List Int × Int × Int)
 | 0, _, _, _, _, _ => none
 | k + 1, ins, kinds, cols, at_, i => if i < (ins.length : Int) then (if 0 ≤ i then (if 0 ≤ rd ins i then (if rd ins i < (kinds.length : Int) then ((slices_Equal_int_int.f k (rd_L3 kinds (rd ins i)) cols).bind fun t => (if t = true then (plan_typer_of.l0 k ins kinds cols at_ (wrap64 (i + 1))) else (some (([] : List Int), 80, at_)))) else none) else none) else none) else ((slices_Clone_int_int.f cols).bind fun t => some (t, 0, 0))
def plan_typer_of.h (k : Nat) (f0 : Int) (f1 : List Int) (f2 : List Int) (f3 : List (List S128)) (f4 : List Int) (f5 f6 f7 f8 : Int) (kinds : List (List Int)) (cols : List Int) (at_ : Int) : Option (List Int × Int × Int) :=
 (plan_Group.f f0 f1 f2 f3 f4 f5 f6 f7 f8).bind fun go => (if go.2 = true then ((group_Check.f k go.1 f5 f6 cols).bind fun le => ((plan_must.f le.2 at_).bind fun r => (if r.1 = 0 then (some (le.1, 0, 0)) else (some (([] : List Int), r.1, r.2))))) else (
  if f0 = 1 then (plan_mapped.f k f3 cols at_) else (
  if f0 = 2 then (if (f3.length : Int) = 1 then ((plan_mapped.f k f3 cols at_).bind fun r => (if r.2.1 = 0 then (if 0 < (r.1.length : Int) then (if rd r.1 0 = 0 then ((slices_Clone_int_int.f cols).bind fun t => some (t, 0, 0)) else (some (([] : List Int), 80, at_))) else none) else (some (([] : List Int), r.2.1, r.2.2)))) else (some (([] : List Int), 1, at_))) else (
  if f0 = 3 then (plan_projected.f k f4 cols at_) else (
  if f0 = 4 then (plan_typer_of.l0 k f1 kinds cols at_ 0) else (
  if f0 = 7 then (plan_bucketed.f k f0 f1 f2 f3 f4 f5 f6 f7 f8 cols at_) else (
  if f0 = 15 then (if 1 < (f1.length : Int) then (if 0 ≤ rd f1 1 then (if rd f1 1 < (kinds.length : Int) then (plan_joined.f k f5 cols (rd_L3 kinds (rd f1 1)) at_) else none) else none) else none) else (
  if f0 = 8 then ((plan_between.f f5 0 (cols.length : Int)).bind fun t => (if t = true then ((slices_Clone_int_int.f cols).bind fun t => some (t, 0, 0)) else (some (([] : List Int), 9, at_)))) else ((slices_Clone_int_int.f cols).bind fun t => some (t, 0, 0))))))))))
def plan_typer_of.g (k : Nat) (x : S42) (kinds : List (List Int)) (at_ : Int) : Option (List Int × Int × Int) :=
 if x.f0 = 0 then (plan_input.f k x.f2 at_) else (if 0 < (x.f1.length : Int) then (if 0 ≤ rd x.f1 0 then (if rd x.f1 0 < (kinds.length : Int) then (plan_typer_of.h k x.f0 x.f1 x.f2 x.f3 x.f4 x.f5 x.f6 x.f7 x.f8 kinds (rd_L3 kinds (rd x.f1 0)) at_) else none) else none) else none)
def plan_typer_of.f (k : Nat) (nodes : List S42) (kinds : List (List Int)) (at_ : Int) : Option (List Int × Int × Int) :=
 if 0 ≤ at_ then (if at_ < (nodes.length : Int) then (plan_typer_of.g k (rd_T42 nodes at_) kinds at_) else none) else none
theorem plan_typer_of.mono_l : ∀ k, (∀ y0 y1 y2 y3 y4, LeO (plan_typer_of.l0 k y0 y1 y2 y3 y4) (plan_typer_of.l0 (k + 1) y0 y1 y2 y3 y4))
 | 0 => fun _ _ _ _ _ r h => by simp [plan_typer_of.l0] at h
 | k + 1 => by
  have ih0 := plan_typer_of.mono_l k
  ·intro y0 y1 y2 y3 y4
   unfold plan_typer_of.l0
   repeat' first
   | (with_reducible exact ih0 _ _ _ _ _)
   | (with_reducible exact plan_input.mono _ _ _)
   | (with_reducible exact group_Check.mono _ _ _ _ _)
   | (with_reducible exact plan_mapped.mono _ _ _ _)
   | (with_reducible exact plan_projected.mono _ _ _ _)
   | (with_reducible exact plan_bucketed.mono _ _ _ _ _ _ _ _ _ _ _ _)
   | (with_reducible exact plan_joined.mono _ _ _ _ _)
   | (with_reducible exact slices_Equal_int_int.mono _ _ _)
   | (with_reducible exact LeO.refl _)
   | (with_reducible exact LeO.none _)
   | (with_reducible refine LeO.ite ?_ ?_)
   | (with_reducible refine LeO.bind ?_ (fun _ => ?_))
theorem plan_typer_of.mono : ∀ a0 a1 a2 k, LeO (plan_typer_of.f k a0 a1 a2) (plan_typer_of.f (k + 1) a0 a1 a2) := by
 intro a0 a1 a2 k
 have ih0 := plan_typer_of.mono_l k
 unfold plan_typer_of.f plan_typer_of.g plan_typer_of.h
 repeat' first
   | (with_reducible exact ih0 _ _ _ _ _)
   | (with_reducible exact plan_input.mono _ _ _)
   | (with_reducible exact group_Check.mono _ _ _ _ _)
   | (with_reducible exact plan_mapped.mono _ _ _ _)
   | (with_reducible exact plan_projected.mono _ _ _ _)
   | (with_reducible exact plan_bucketed.mono _ _ _ _ _ _ _ _ _ _ _ _)
   | (with_reducible exact plan_joined.mono _ _ _ _ _)
   | (with_reducible exact slices_Equal_int_int.mono _ _ _)
   | (with_reducible exact LeO.refl _)
   | (with_reducible exact LeO.none _)
   | (with_reducible refine LeO.ite ?_ ?_)
   | (with_reducible refine LeO.bind ?_ (fun _ => ?_))
set_option maxHeartbeats 8000000 in
set_option maxRecDepth 100000 in
theorem plan_typer_of.calls (k : Nat) (g : Nat) (An : Option Addr) (cn : Nat) (nodes : List S42) (Ao : Option Addr) (lo co : Nat) (room : Int) (Ak : Option Addr) (ck : Nat) (kinds : List (List Int)) (at_ : Int) (r1 : List Int) (r2 r3 : Int) (w : World) (hg : w.heap[g]? = some (.cells #[.slice An nodes.length cn, .slice Ao lo co, .int .i64 room, .slice Ak kinds.length ck] 135 (0, 0))) (hrn : Kd.C k42 w An nodes.length nodes) (hrk : Kd.C (Kd.slice 3 (Kd.int .i64)) w Ak kinds.length kinds) (h : plan_typer_of.f k nodes kinds at_ = some (r1, r2, r3)) :
  Calls Try.prog 88 #[.pointer (some ⟨g, 0, none⟩), .int .i64 at_] w fun e w' => (r2 = 0 → ∃ v0_ : Value, e = .returned (v0_) ∧ Kd.R (Kd.int .i64) 3 w' w.heap.size (fun _ => True) v0_ r1 ∧ True) ∧ (r2 ≠ 0 → e = .panicked [{ v := .iface 177 (.agg #[.int .i64 r2, .int .i64 r3]), recovered := false }]) ∧ Below w.heap.size w w' := by
 have hu25 := Try.underlying25
 have hu42 := Try.underlying42
 have hu135 := Try.underlying135
 have HB := zz (Below.refl w.heap.size w)
 unfold plan_typer_of.f at h
 by_cases p0 : 0 ≤ at_
 rotate_left
 ·rw [if_neg p0] at h; exact absurd h (by simp)
 rw [if_pos p0] at h
 by_cases q0 : at_ < (nodes.length : Int)
 rotate_left
 ·rw [if_neg q0] at h; exact absurd h (by simp)
 rw [if_pos q0] at h
 obtain ⟨ad, A1, c1, A2, c2, A3, c3, A4, c4, e, hx0, hx1, hx2, hx3, hx4, hx5, hx6, hx7, hx8, hl1, hi1, hl2, hi2, hl3, hi3, hl4, hi4⟩ := at_T42 hrn at_ p0 q0
 subst e
 generalize rd_T42 nodes at_ = x at hx0 hx1 hx2 hx3 hx4 hx5 hx6 hx7 hx8 hl1 hi1 hl2 hi2 hl3 hi3 hl4 hi4 h
 obtain ⟨f0, f1, f2, f3, f4, f5, f6, f7, f8⟩ := x
 dsimp only at hx0 hx1 hx2 hx3 hx4 hx5 hx6 hx7 hx8 hl1 hi1 hl2 hi2 hl3 hi3 hl4 hi4
 unfold plan_typer_of.g at h
 try dsimp only at h
 have HR1 := zz hi1
 have HC1 := zz hl1
 have HR2 := zz hi2
 have HC2 := zz hl2
 have HR3 := zz hi3
 have HC3 := zz hl3
 have HR4 := zz hi4
 have HC4 := zz hl4
 have hg0 : w.cell? ⟨g, 0, none⟩ = some (.slice (some ad) nodes.length cn) := by simp [World.cell?, hg]
 have HGK := zz (show w.cell? ⟨g, 3, none⟩ = some (.slice Ak kinds.length ck) by simp [World.cell?, hg])
 have HRK := zz hrk
 clear hg hrn hrk hl2 hi2 hl3 hi3 hl4 hi4
 replace p0 := eq_true p0
 replace q0 := eq_true q0
 by_cases z0 : f0 = 0
 ·rw [if_pos z0] at h
  subst z0
  clear hi1 hl1
  have AH := zz h
  clear h
  by_cases e2 : r2 = 0
  ·subst e2
   go_enter Try.func88, Try.ntmps88
   go_wp2_with (first | ((with_reducible refine gate_dst (N := 5) rfl ?_); refine box_event ?hg (N := 5) ?hd (cs := #[.int .i64 0, .slice none 0 0, .slice none 0 0, .slice none 0 0, .slice none 0 0, .int .i64 0, .int .i64 0, .int .i64 0, .int .i64 0]) (t := 42) ?hr ?_; (case hd => rfl); (case hg => rfl); (case hr => first | (go_simp; done) | (go_simp; rfl)); intro gb hg_ wz hbox hb; have n0_ := zz (below_step (bel HB.out) hb); have n1_ := zz hbox; have n2_ := zz ((by rw [hg_]; exact (below_size (bel HB.out))) : w.heap.size ≤ gb); clear HB; have HB := n0_; have BZ := n1_; have GE := n2_; clear n0_ n1_ n2_ hb hbox hg_; obtain ⟨hcz_0, hcz_1, hcz_2, hcz_3, hcz_4, hcz_5, hcz_6, hcz_7, hcz_8⟩ := nine_cells BZ.out; have hfz_0 := blk_frozen BZ.out 0; have hfz_1 := blk_frozen BZ.out 1; have hfz_2 := blk_frozen BZ.out 2; have hfz_3 := blk_frozen BZ.out 3; have hfz_4 := blk_frozen BZ.out 4; have hfz_5 := blk_frozen BZ.out 5; have hfz_6 := blk_frozen BZ.out 6; have hfz_7 := blk_frozen BZ.out 7; have hfz_8 := blk_frozen BZ.out 8) | ((with_reducible refine gate_dst (N := 22) rfl ?_); (with_reducible refine nine_event2 BZ.out HB.out GE.out ?_); intro w2 hbox hb; have BK := zz hbox; have n0_ := zz hb; clear HB; have HB := n0_; clear n0_ hbox hb BZ; obtain ⟨hck_0, hck_1, hck_2, hck_3, hck_4, hck_5, hck_6, hck_7, hck_8⟩ := nine_cells BK.out; skip) | ((with_reducible refine gate_callee (f := 126) rfl ?_); refine goesL_ (some 28) rfl rfl Try.func126 (by kernel_rfl) rfl #[.slice A2 f2.length c2, .int .i64 at_] rfl (by (try simp only [List.map_toArray, List.map_cons, List.map_nil]); first | done | rfl) ?_; (with_reducible refine (plan_input.calls k A2 c2 f2 at_ r1 0 r3 _ (Kd.C_below HR2.out (bel HB.out)) HC2.out AH.out).mono ?_); rintro e w9 ⟨hok_, -, hb⟩; obtain ⟨v0_, rfl, hr_, -⟩ := hok_ rfl; refine ⟨_, rfl, ?_⟩; have HO := zz (Kd.R_mono (ok' := fun _ => True) (Kd.R_lower hr_ (below_size (bel HB.out))) (fun _ _ => trivial)); have n1_ := zz (below_step (bel HB.out) hb); clear HB hr_ hok_; have HB := n1_; clear n1_ hb))
   go_ret
   first | (exact ⟨⟨_, by first | rfl | simp, (rl HO.out)⟩, (by repeat (first | (with_reducible first | exact HB.out | apply below_alloc | apply pw_below_drewN | apply below_drew1 | refine below_set ?_ GE.out) | exact HB.out))⟩) | (exact ⟨fun _ => ⟨_, by first | rfl | simp, (rl HO.out), trivial⟩, fun h_ => absurd rfl h_, (by repeat (first | (with_reducible first | exact HB.out | apply below_alloc | apply pw_below_drewN | apply below_drew1 | refine below_set ?_ GE.out) | exact HB.out))⟩)
  ·have HNE := zz e2
   clear e2
   go_enter Try.func88, Try.ntmps88
   go_wp2_with (first | ((with_reducible refine gate_dst (N := 5) rfl ?_); refine box_event ?hg (N := 5) ?hd (cs := #[.int .i64 0, .slice none 0 0, .slice none 0 0, .slice none 0 0, .slice none 0 0, .int .i64 0, .int .i64 0, .int .i64 0, .int .i64 0]) (t := 42) ?hr ?_; (case hd => rfl); (case hg => rfl); (case hr => first | (go_simp; done) | (go_simp; rfl)); intro gb hg_ wz hbox hb; have n0_ := zz (below_step (bel HB.out) hb); have n1_ := zz hbox; have n2_ := zz ((by rw [hg_]; exact (below_size (bel HB.out))) : w.heap.size ≤ gb); clear HB; have HB := n0_; have BZ := n1_; have GE := n2_; clear n0_ n1_ n2_ hb hbox hg_; obtain ⟨hcz_0, hcz_1, hcz_2, hcz_3, hcz_4, hcz_5, hcz_6, hcz_7, hcz_8⟩ := nine_cells BZ.out; have hfz_0 := blk_frozen BZ.out 0; have hfz_1 := blk_frozen BZ.out 1; have hfz_2 := blk_frozen BZ.out 2; have hfz_3 := blk_frozen BZ.out 3; have hfz_4 := blk_frozen BZ.out 4; have hfz_5 := blk_frozen BZ.out 5; have hfz_6 := blk_frozen BZ.out 6; have hfz_7 := blk_frozen BZ.out 7; have hfz_8 := blk_frozen BZ.out 8) | ((with_reducible refine gate_dst (N := 22) rfl ?_); (with_reducible refine nine_event2 BZ.out HB.out GE.out ?_); intro w2 hbox hb; have BK := zz hbox; have n0_ := zz hb; clear HB; have HB := n0_; clear n0_ hbox hb BZ; obtain ⟨hck_0, hck_1, hck_2, hck_3, hck_4, hck_5, hck_6, hck_7, hck_8⟩ := nine_cells BK.out; skip) | (go_at_call 126; (with_reducible refine (plan_input.calls k A2 c2 f2 at_ r1 r2 r3 _ (Kd.C_below HR2.out (bel HB.out)) HC2.out AH.out).mono ?_); rintro e w9 ⟨-, hno_, hb⟩; obtain rfl := hno_ HNE.out; have n1_ := zz (below_step (bel HB.out) hb); clear HB; have HB := n1_; clear n1_ hb))
   ((try simp only [Exit.inBlock, Exit.then]); refine Go.Proofs.Ytdkkollonlmelaa.Hand.bodyPost_fail (by rfl) ?_)
   exact ⟨fun h_ => absurd h_ (by first | decide | exact HNE.out), fun _ => rfl, (by repeat (first | (with_reducible first | exact HB.out | apply below_alloc | apply pw_below_drewN | apply below_drew1 | refine below_set ?_ GE.out) | exact HB.out))⟩
 ·rw [if_neg z0] at h
  have z0b : (f0 == 0) = false := beq_eq_false_iff_ne.mpr z0
  clear z0
  by_cases n1 : 0 < (f1.length : Int)
  rotate_left
  ·rw [if_neg n1] at h; exact absurd h (by simp)
  rw [if_pos n1] at h
  by_cases p1 : 0 ≤ rd f1 0
  rotate_left
  ·rw [if_neg p1] at h; exact absurd h (by simp)
  rw [if_pos p1] at h
  by_cases q1 : rd f1 0 < (kinds.length : Int)
  rotate_left
  ·rw [if_neg q1] at h; exact absurd h (by simp)
  rw [if_pos q1] at h
  obtain ⟨adi, e, hi0⟩ := Kd.at_int hi1 0 (by decide) n1
  subst e
  replace hi0 : w.cell? adi = some (.int .i64 (rd f1 0)) := (congrArg (World.cell? w) (show adi = adi.add (0 : Int).toNat by cases adi; rfl)).trans hi0
  obtain ⟨adk, Ac, cc, e, hk0, hlc, hic⟩ := at_L3 HRK.out (rd f1 0) p1 q1
  subst e
  generalize rd_L3 kinds (rd f1 0) = cols at hk0 hlc hic h
  generalize rd f1 0 = j0 at hi0 hk0 p1 q1
  have HI0 := zz hi0
  have HK0 := zz hk0
  have HRc := zz hic
  have HCc := zz hlc
  clear hi0 hk0 hic hlc hi1 hl1
  replace p1 := eq_true p1
  replace q1 := eq_true q1
  have n1n : (0 < f1.length) = True := eq_true (by omega)
  replace n1 := eq_true n1
  unfold plan_typer_of.h at h
  replace h := Option.bind_eq_some_iff.mp h
  obtain ⟨⟨gn, go_⟩, AG0, h⟩ := h
  try dsimp only at h
  have AG := zz AG0
  have AH := zz h
  clear AG0 h
  go_enter Try.func88, Try.ntmps88
  go_wp2_with (first | ((with_reducible refine gate_dst (N := 5) rfl ?_); refine box_event ?hg (N := 5) ?hd (cs := #[.int .i64 0, .slice none 0 0, .slice none 0 0, .slice none 0 0, .slice none 0 0, .int .i64 0, .int .i64 0, .int .i64 0, .int .i64 0]) (t := 42) ?hr ?_; (case hd => rfl); (case hg => rfl); (case hr => first | (go_simp; done) | (go_simp; rfl)); intro gb hg_ wz hbox hb; have n0_ := zz (below_step (bel HB.out) hb); have n1_ := zz hbox; have n2_ := zz ((by rw [hg_]; exact (below_size (bel HB.out))) : w.heap.size ≤ gb); clear HB; have HB := n0_; have BZ := n1_; have GE := n2_; clear n0_ n1_ n2_ hb hbox hg_; obtain ⟨hcz_0, hcz_1, hcz_2, hcz_3, hcz_4, hcz_5, hcz_6, hcz_7, hcz_8⟩ := nine_cells BZ.out; have hfz_0 := blk_frozen BZ.out 0; have hfz_1 := blk_frozen BZ.out 1; have hfz_2 := blk_frozen BZ.out 2; have hfz_3 := blk_frozen BZ.out 3; have hfz_4 := blk_frozen BZ.out 4; have hfz_5 := blk_frozen BZ.out 5; have hfz_6 := blk_frozen BZ.out 6; have hfz_7 := blk_frozen BZ.out 7; have hfz_8 := blk_frozen BZ.out 8) | ((with_reducible refine gate_dst (N := 22) rfl ?_); (with_reducible refine nine_event2 BZ.out HB.out GE.out ?_); intro w2 hbox hb; have BK := zz hbox; have n0_ := zz hb; clear HB; have HB := n0_; clear n0_ hbox hb BZ; obtain ⟨hck_0, hck_1, hck_2, hck_3, hck_4, hck_5, hck_6, hck_7, hck_8⟩ := nine_cells BK.out; have hgk2 := ol HB.out HGK.out; have hi02 := ol HB.out HI0.out; have hk02 := ol HB.out HK0.out))
  go_quiet (fail)
  have h := AH.out
  clear AH
  cases go_ with
  | true =>
   rw [if_pos rfl] at h
   replace h := Option.bind_eq_some_iff.mp h
   obtain ⟨⟨l, e⟩, AC0, h⟩ := h
   try dsimp only at h
   replace h := Option.bind_eq_some_iff.mp h
   obtain ⟨⟨re, ra⟩, AM0, h⟩ := h
   try dsimp only at h
   have AK := zz AC0
   have AM := zz AM0
   clear AC0 AM0
   by_cases e2 : re = 0
   ·subst e2
    rw [if_pos rfl] at h
    simp only [Option.some.injEq, Prod.mk.injEq] at h
    obtain ⟨rfl, rfl, rfl⟩ := h
    go_wp2_with (first | ((with_reducible refine gate_callee (f := 19) rfl ?_); refine goesL_ (some 41) rfl rfl Try.func19 (by kernel_rfl) rfl #[.agg #[.int .i64 f0, .slice (some adi) f1.length c1, .slice A2 f2.length c2, .slice A3 f3.length c3, .slice A4 f4.length c4, .int .i64 f5, .int .i64 f6, .int .i64 f7, .int .i64 f8]] rfl (by (try simp only [List.map_toArray, List.map_cons, List.map_nil]); first | done | rfl) ?_; (with_reducible refine (plan_Group.calls f0 (some adi) c1 f1 A2 c2 f2 A3 c3 f3 A4 c4 f4 f5 f6 f7 f8 gn true _ (Kd.C_below HR1.out (bel HB.out)) HC1.out (Kd.C_below HR2.out (bel HB.out)) HC2.out (Kd.C_below HR3.out (bel HB.out)) HC3.out (Kd.C_below HR4.out (bel HB.out)) HC4.out AG.out).mono ?_); rintro e w3 ⟨rfl, hb⟩; refine ⟨_, rfl, ?_⟩; have n0_ := zz (blk_below (g := gb) (o := _) (bk BK.out) hb); have n1_ := zz (below_step (bel HB.out) hb); clear BK HB; have BK := n0_; have HB := n1_; clear n0_ n1_ hb; obtain ⟨hc3_0, hc3_1, hc3_2, hc3_3, hc3_4, hc3_5, hc3_6, hc3_7, hc3_8⟩ := nine_cells BK.out; have hgk3 := ol HB.out HGK.out; have hi03 := ol HB.out HI0.out; have hk03 := ol HB.out HK0.out) | ((with_reducible refine gate_callee (f := 45) rfl ?_); refine goesL_ (some 52) rfl rfl Try.func45 (by kernel_rfl) rfl #[.int .i64 gn, .int .i64 f5, .int .i64 f6, .slice Ac cols.length cc] rfl (by (try simp only [List.map_toArray, List.map_cons, List.map_nil]); first | done | rfl) ?_; (with_reducible refine (group_Check.calls k gn f5 f6 Ac cc cols l e _ (Kd.C_below HRc.out (bel HB.out)) HCc.out AK.out).mono ?_); rintro e9 w9 ⟨v0_, rfl, hr_, hb⟩; refine ⟨_, rfl, ?_⟩; have HO0 := zz (Kd.R_lower hr_ (below_size (bel HB.out))); have n1_ := zz (below_step (bel HB.out) hb); clear HB hr_; have HB := n1_; clear n1_ hb) | ((with_reducible refine gate_callee (f := 127) rfl ?_); refine goesL_ (some 57) rfl rfl Try.func127 (by kernel_rfl) rfl #[.int .i64 e, .int .i64 at_] rfl (by (try simp only [List.map_toArray, List.map_cons, List.map_nil]); first | done | rfl) ?_; (with_reducible refine (plan_must.calls e at_ 0 ra _ AM.out).mono ?_); rintro e9 w8 ⟨hok_, -, hb⟩; obtain ⟨rfl, -⟩ := hok_ rfl; refine ⟨_, rfl, ?_⟩; have HO := zz (Kd.R_below HO0.out hb); have n1_ := zz (below_step (bel HB.out) hb); clear HB hok_; have HB := n1_; clear n1_ hb))
    go_ret
    first | (exact ⟨⟨_, by first | rfl | simp, (rl HO.out)⟩, (by repeat (first | (with_reducible first | exact HB.out | apply below_alloc | apply pw_below_drewN | apply below_drew1 | refine below_set ?_ GE.out) | exact HB.out))⟩) | (exact ⟨fun _ => ⟨_, by first | rfl | simp, (rl HO.out), trivial⟩, fun h_ => absurd rfl h_, (by repeat (first | (with_reducible first | exact HB.out | apply below_alloc | apply pw_below_drewN | apply below_drew1 | refine below_set ?_ GE.out) | exact HB.out))⟩)
   ·rw [if_neg e2] at h
    have HNE := zz e2
    clear e2
    simp only [Option.some.injEq, Prod.mk.injEq] at h
    obtain ⟨rfl, rfl, rfl⟩ := h
    go_wp2_with (first | ((with_reducible refine gate_callee (f := 19) rfl ?_); refine goesL_ (some 41) rfl rfl Try.func19 (by kernel_rfl) rfl #[.agg #[.int .i64 f0, .slice (some adi) f1.length c1, .slice A2 f2.length c2, .slice A3 f3.length c3, .slice A4 f4.length c4, .int .i64 f5, .int .i64 f6, .int .i64 f7, .int .i64 f8]] rfl (by (try simp only [List.map_toArray, List.map_cons, List.map_nil]); first | done | rfl) ?_; (with_reducible refine (plan_Group.calls f0 (some adi) c1 f1 A2 c2 f2 A3 c3 f3 A4 c4 f4 f5 f6 f7 f8 gn true _ (Kd.C_below HR1.out (bel HB.out)) HC1.out (Kd.C_below HR2.out (bel HB.out)) HC2.out (Kd.C_below HR3.out (bel HB.out)) HC3.out (Kd.C_below HR4.out (bel HB.out)) HC4.out AG.out).mono ?_); rintro e w3 ⟨rfl, hb⟩; refine ⟨_, rfl, ?_⟩; have n0_ := zz (blk_below (g := gb) (o := _) (bk BK.out) hb); have n1_ := zz (below_step (bel HB.out) hb); clear BK HB; have BK := n0_; have HB := n1_; clear n0_ n1_ hb; obtain ⟨hc3_0, hc3_1, hc3_2, hc3_3, hc3_4, hc3_5, hc3_6, hc3_7, hc3_8⟩ := nine_cells BK.out; have hgk3 := ol HB.out HGK.out; have hi03 := ol HB.out HI0.out; have hk03 := ol HB.out HK0.out) | ((with_reducible refine gate_callee (f := 45) rfl ?_); refine goesL_ (some 52) rfl rfl Try.func45 (by kernel_rfl) rfl #[.int .i64 gn, .int .i64 f5, .int .i64 f6, .slice Ac cols.length cc] rfl (by (try simp only [List.map_toArray, List.map_cons, List.map_nil]); first | done | rfl) ?_; (with_reducible refine (group_Check.calls k gn f5 f6 Ac cc cols l e _ (Kd.C_below HRc.out (bel HB.out)) HCc.out AK.out).mono ?_); rintro e9 w9 ⟨v0_, rfl, hr_, hb⟩; refine ⟨_, rfl, ?_⟩; have HO0 := zz (Kd.R_lower hr_ (below_size (bel HB.out))); have n1_ := zz (below_step (bel HB.out) hb); clear HB hr_; have HB := n1_; clear n1_ hb) | (go_at_call 127; (with_reducible refine (plan_must.calls e at_ re ra _ AM.out).mono ?_); rintro e w9 ⟨-, hno_, hb⟩; obtain rfl := hno_ HNE.out; have n1_ := zz (below_step (bel HB.out) hb); clear HB; have HB := n1_; clear n1_ hb))
    ((try simp only [Exit.inBlock, Exit.then]); refine Go.Proofs.Ytdkkollonlmelaa.Hand.bodyPost_fail (by rfl) ?_)
    exact ⟨fun h_ => absurd h_ (by first | decide | exact HNE.out), fun _ => rfl, (by repeat (first | (with_reducible first | exact HB.out | apply below_alloc | apply pw_below_drewN | apply below_drew1 | refine below_set ?_ GE.out) | exact HB.out))⟩
  | false =>
   rw [if_neg (by decide)] at h
   by_cases k1 : f0 = 1
   ·rw [if_pos k1] at h
    have kb1 : (f0 == 1) = true := beq_iff_eq.mpr k1
    clear k1
    have AH := zz h
    clear h
    by_cases e2 : r2 = 0
    ·subst e2
     go_wp2_with (first | ((with_reducible refine gate_callee (f := 19) rfl ?_); refine goesL_ (some 41) rfl rfl Try.func19 (by kernel_rfl) rfl #[.agg #[.int .i64 f0, .slice (some adi) f1.length c1, .slice A2 f2.length c2, .slice A3 f3.length c3, .slice A4 f4.length c4, .int .i64 f5, .int .i64 f6, .int .i64 f7, .int .i64 f8]] rfl (by (try simp only [List.map_toArray, List.map_cons, List.map_nil]); first | done | rfl) ?_; (with_reducible refine (plan_Group.calls f0 (some adi) c1 f1 A2 c2 f2 A3 c3 f3 A4 c4 f4 f5 f6 f7 f8 gn false _ (Kd.C_below HR1.out (bel HB.out)) HC1.out (Kd.C_below HR2.out (bel HB.out)) HC2.out (Kd.C_below HR3.out (bel HB.out)) HC3.out (Kd.C_below HR4.out (bel HB.out)) HC4.out AG.out).mono ?_); rintro e w3 ⟨rfl, hb⟩; refine ⟨_, rfl, ?_⟩; have n0_ := zz (blk_below (g := gb) (o := _) (bk BK.out) hb); have n1_ := zz (below_step (bel HB.out) hb); clear BK HB; have BK := n0_; have HB := n1_; clear n0_ n1_ hb; obtain ⟨hc3_0, hc3_1, hc3_2, hc3_3, hc3_4, hc3_5, hc3_6, hc3_7, hc3_8⟩ := nine_cells BK.out; have hgk3 := ol HB.out HGK.out; have hi03 := ol HB.out HI0.out; have hk03 := ol HB.out HK0.out) | ((with_reducible refine gate_callee (f := 128) rfl ?_); refine goesL_ (some 82) rfl rfl Try.func128 (by kernel_rfl) rfl #[.slice A3 f3.length c3, .slice Ac cols.length cc, .int .i64 at_] rfl (by (try simp only [List.map_toArray, List.map_cons, List.map_nil]); first | done | rfl) ?_; (with_reducible refine (plan_mapped.calls k A3 c3 f3 Ac cc cols at_ r1 0 r3 _ (Kd.C_below HR3.out (bel HB.out)) HC3.out (Kd.C_below HRc.out (bel HB.out)) HCc.out AH.out).mono ?_); rintro e w9 ⟨hok_, -, hb⟩; obtain ⟨v0_, rfl, hr_, -⟩ := hok_ rfl; refine ⟨_, rfl, ?_⟩; have HO := zz (Kd.R_mono (ok' := fun _ => True) (Kd.R_lower hr_ (below_size (bel HB.out))) (fun _ _ => trivial)); have n1_ := zz (below_step (bel HB.out) hb); clear HB hr_ hok_; have HB := n1_; clear n1_ hb))
     go_ret
     first | (exact ⟨⟨_, by first | rfl | simp, (rl HO.out)⟩, (by repeat (first | (with_reducible first | exact HB.out | apply below_alloc | apply pw_below_drewN | apply below_drew1 | refine below_set ?_ GE.out) | exact HB.out))⟩) | (exact ⟨fun _ => ⟨_, by first | rfl | simp, (rl HO.out), trivial⟩, fun h_ => absurd rfl h_, (by repeat (first | (with_reducible first | exact HB.out | apply below_alloc | apply pw_below_drewN | apply below_drew1 | refine below_set ?_ GE.out) | exact HB.out))⟩)
    ·have HNE := zz e2
     clear e2
     go_wp2_with (first | ((with_reducible refine gate_callee (f := 19) rfl ?_); refine goesL_ (some 41) rfl rfl Try.func19 (by kernel_rfl) rfl #[.agg #[.int .i64 f0, .slice (some adi) f1.length c1, .slice A2 f2.length c2, .slice A3 f3.length c3, .slice A4 f4.length c4, .int .i64 f5, .int .i64 f6, .int .i64 f7, .int .i64 f8]] rfl (by (try simp only [List.map_toArray, List.map_cons, List.map_nil]); first | done | rfl) ?_; (with_reducible refine (plan_Group.calls f0 (some adi) c1 f1 A2 c2 f2 A3 c3 f3 A4 c4 f4 f5 f6 f7 f8 gn false _ (Kd.C_below HR1.out (bel HB.out)) HC1.out (Kd.C_below HR2.out (bel HB.out)) HC2.out (Kd.C_below HR3.out (bel HB.out)) HC3.out (Kd.C_below HR4.out (bel HB.out)) HC4.out AG.out).mono ?_); rintro e w3 ⟨rfl, hb⟩; refine ⟨_, rfl, ?_⟩; have n0_ := zz (blk_below (g := gb) (o := _) (bk BK.out) hb); have n1_ := zz (below_step (bel HB.out) hb); clear BK HB; have BK := n0_; have HB := n1_; clear n0_ n1_ hb; obtain ⟨hc3_0, hc3_1, hc3_2, hc3_3, hc3_4, hc3_5, hc3_6, hc3_7, hc3_8⟩ := nine_cells BK.out; have hgk3 := ol HB.out HGK.out; have hi03 := ol HB.out HI0.out; have hk03 := ol HB.out HK0.out) | (go_at_call 128; (with_reducible refine (plan_mapped.calls k A3 c3 f3 Ac cc cols at_ r1 r2 r3 _ (Kd.C_below HR3.out (bel HB.out)) HC3.out (Kd.C_below HRc.out (bel HB.out)) HCc.out AH.out).mono ?_); rintro e w9 ⟨-, hno_, hb⟩; obtain rfl := hno_ HNE.out; have n1_ := zz (below_step (bel HB.out) hb); clear HB; have HB := n1_; clear n1_ hb))
     ((try simp only [Exit.inBlock, Exit.then]); refine Go.Proofs.Ytdkkollonlmelaa.Hand.bodyPost_fail (by rfl) ?_)
     exact ⟨fun h_ => absurd h_ (by first | decide | exact HNE.out), fun _ => rfl, (by repeat (first | (with_reducible first | exact HB.out | apply below_alloc | apply pw_below_drewN | apply below_drew1 | refine below_set ?_ GE.out) | exact HB.out))⟩
   rw [if_neg k1] at h
   have kb1 : (f0 == 1) = false := beq_eq_false_iff_ne.mpr k1
   clear k1
   by_cases k2 : f0 = 2
   ·rw [if_pos k2] at h
    have kb2 : (f0 == 2) = true := beq_iff_eq.mpr k2
    clear k2
    by_cases n2 : (f3.length : Int) = 1
    ·rw [if_pos n2] at h
     have m1 : ((f3.length : Int) == 1) = true := beq_iff_eq.mpr n2
     have m2 : ((f3.length : Int) != 1) = false := bne_eq_false_iff_eq.mpr n2
     have m3 : (f3.length == 1) = true := beq_iff_eq.mpr (by omega)
     have m4 : (f3.length != 1) = false := bne_eq_false_iff_eq.mpr (by omega)
     clear n2
     replace h := Option.bind_eq_some_iff.mp h
     obtain ⟨⟨l, re, ra⟩, AM0, h⟩ := h
     try dsimp only at h
     have AM := zz AM0
     clear AM0
     by_cases e2 : re = 0
     ·subst e2
      rw [if_pos rfl] at h
      by_cases n3 : 0 < (l.length : Int)
      rotate_left
      ·rw [if_neg n3] at h; exact absurd h (by simp)
      rw [if_pos n3] at h
      have N3 := zz n3
      have n3n : (0 < l.length) = True := eq_true (by omega)
      replace n3 := eq_true n3
      by_cases e3 : rd l 0 = 0
      ·rw [if_pos e3] at h
       have eb1 : (rd l 0 == 0) = true := beq_iff_eq.mpr e3
       have eb2 : (rd l 0 != 0) = false := bne_eq_false_iff_eq.mpr e3
       clear e3
       replace h := Option.bind_eq_some_iff.mp h
       obtain ⟨t, AC0, h⟩ := h
       try dsimp only at h
       simp only [Option.some.injEq, Prod.mk.injEq] at h
       obtain ⟨rfl, rfl, rfl⟩ := h
       have AC := zz AC0
       clear AC0
       go_wp2_with (first | ((with_reducible refine gate_callee (f := 19) rfl ?_); refine goesL_ (some 41) rfl rfl Try.func19 (by kernel_rfl) rfl #[.agg #[.int .i64 f0, .slice (some adi) f1.length c1, .slice A2 f2.length c2, .slice A3 f3.length c3, .slice A4 f4.length c4, .int .i64 f5, .int .i64 f6, .int .i64 f7, .int .i64 f8]] rfl (by (try simp only [List.map_toArray, List.map_cons, List.map_nil]); first | done | rfl) ?_; (with_reducible refine (plan_Group.calls f0 (some adi) c1 f1 A2 c2 f2 A3 c3 f3 A4 c4 f4 f5 f6 f7 f8 gn false _ (Kd.C_below HR1.out (bel HB.out)) HC1.out (Kd.C_below HR2.out (bel HB.out)) HC2.out (Kd.C_below HR3.out (bel HB.out)) HC3.out (Kd.C_below HR4.out (bel HB.out)) HC4.out AG.out).mono ?_); rintro e w3 ⟨rfl, hb⟩; refine ⟨_, rfl, ?_⟩; have n0_ := zz (blk_below (g := gb) (o := _) (bk BK.out) hb); have n1_ := zz (below_step (bel HB.out) hb); clear BK HB; have BK := n0_; have HB := n1_; clear n0_ n1_ hb; obtain ⟨hc3_0, hc3_1, hc3_2, hc3_3, hc3_4, hc3_5, hc3_6, hc3_7, hc3_8⟩ := nine_cells BK.out; have hgk3 := ol HB.out HGK.out; have hi03 := ol HB.out HI0.out; have hk03 := ol HB.out HK0.out) | ((with_reducible refine gate_callee (f := 128) rfl ?_); refine goesL_ (some 93) rfl rfl Try.func128 (by kernel_rfl) rfl #[.slice A3 f3.length c3, .slice Ac cols.length cc, .int .i64 at_] rfl (by (try simp only [List.map_toArray, List.map_cons, List.map_nil]); first | done | rfl) ?_; (with_reducible refine (plan_mapped.calls k A3 c3 f3 Ac cc cols at_ l 0 ra _ (Kd.C_below HR3.out (bel HB.out)) HC3.out (Kd.C_below HRc.out (bel HB.out)) HCc.out AM.out).mono ?_); rintro e w9 ⟨hok_, -, hb⟩; obtain ⟨v0_, rfl, hr_, -⟩ := hok_ rfl; refine ⟨_, rfl, ?_⟩; obtain ⟨Ar, cr, rfl⟩ := Kd.R_slice hr_; obtain ⟨adr, er, hl0⟩ := Kd.at_int (Kd.R_reads' hr_).2.2 0 (by decide) N3.out; subst er; replace hl0 : w9.cell? adr = some (.int .i64 (rd l 0)) := (congrArg (World.cell? w9) (show adr = adr.add (0 : Int).toNat by cases adr; rfl)).trans hl0; have n1_ := zz (below_step (bel HB.out) hb); clear HB hr_ hok_; have HB := n1_; clear n1_ hb) | ((with_reducible refine gate_callee (f := 82) rfl ?_); refine goesL_ (some 153) rfl rfl Try.func82 (by kernel_rfl) rfl #[.slice Ac cols.length cc] rfl (by (try simp only [List.map_toArray, List.map_cons, List.map_nil]); first | done | rfl) ?_; (with_reducible refine (slices_Clone_int_int.calls Ac cc cols _ _ (Kd.C_below HRc.out (bel HB.out)) HCc.out AC.out).mono ?_); rintro e w9 ⟨v0_, rfl, hr_, hb⟩; refine ⟨_, rfl, ?_⟩; have HO := zz (Kd.R_lower hr_ (below_size (bel HB.out))); have n1_ := zz (below_step (bel HB.out) hb); clear HB hr_; have HB := n1_; clear n1_ hb))
       go_ret
       first | (exact ⟨⟨_, by first | rfl | simp, (rl HO.out)⟩, (by repeat (first | (with_reducible first | exact HB.out | apply below_alloc | apply pw_below_drewN | apply below_drew1 | refine below_set ?_ GE.out) | exact HB.out))⟩) | (exact ⟨fun _ => ⟨_, by first | rfl | simp, (rl HO.out), trivial⟩, fun h_ => absurd rfl h_, (by repeat (first | (with_reducible first | exact HB.out | apply below_alloc | apply pw_below_drewN | apply below_drew1 | refine below_set ?_ GE.out) | exact HB.out))⟩)
      ·rw [if_neg e3] at h
       have eb1 : (rd l 0 == 0) = false := beq_eq_false_iff_ne.mpr e3
       have eb2 : (rd l 0 != 0) = true := bne_iff_ne.mpr e3
       clear e3
       simp only [Option.some.injEq, Prod.mk.injEq] at h
       obtain ⟨rfl, rfl, rfl⟩ := h
       go_wp2_with (first | ((with_reducible refine gate_callee (f := 19) rfl ?_); refine goesL_ (some 41) rfl rfl Try.func19 (by kernel_rfl) rfl #[.agg #[.int .i64 f0, .slice (some adi) f1.length c1, .slice A2 f2.length c2, .slice A3 f3.length c3, .slice A4 f4.length c4, .int .i64 f5, .int .i64 f6, .int .i64 f7, .int .i64 f8]] rfl (by (try simp only [List.map_toArray, List.map_cons, List.map_nil]); first | done | rfl) ?_; (with_reducible refine (plan_Group.calls f0 (some adi) c1 f1 A2 c2 f2 A3 c3 f3 A4 c4 f4 f5 f6 f7 f8 gn false _ (Kd.C_below HR1.out (bel HB.out)) HC1.out (Kd.C_below HR2.out (bel HB.out)) HC2.out (Kd.C_below HR3.out (bel HB.out)) HC3.out (Kd.C_below HR4.out (bel HB.out)) HC4.out AG.out).mono ?_); rintro e w3 ⟨rfl, hb⟩; refine ⟨_, rfl, ?_⟩; have n0_ := zz (blk_below (g := gb) (o := _) (bk BK.out) hb); have n1_ := zz (below_step (bel HB.out) hb); clear BK HB; have BK := n0_; have HB := n1_; clear n0_ n1_ hb; obtain ⟨hc3_0, hc3_1, hc3_2, hc3_3, hc3_4, hc3_5, hc3_6, hc3_7, hc3_8⟩ := nine_cells BK.out; have hgk3 := ol HB.out HGK.out; have hi03 := ol HB.out HI0.out; have hk03 := ol HB.out HK0.out) | ((with_reducible refine gate_callee (f := 128) rfl ?_); refine goesL_ (some 93) rfl rfl Try.func128 (by kernel_rfl) rfl #[.slice A3 f3.length c3, .slice Ac cols.length cc, .int .i64 at_] rfl (by (try simp only [List.map_toArray, List.map_cons, List.map_nil]); first | done | rfl) ?_; (with_reducible refine (plan_mapped.calls k A3 c3 f3 Ac cc cols at_ l 0 ra _ (Kd.C_below HR3.out (bel HB.out)) HC3.out (Kd.C_below HRc.out (bel HB.out)) HCc.out AM.out).mono ?_); rintro e w9 ⟨hok_, -, hb⟩; obtain ⟨v0_, rfl, hr_, -⟩ := hok_ rfl; refine ⟨_, rfl, ?_⟩; obtain ⟨Ar, cr, rfl⟩ := Kd.R_slice hr_; obtain ⟨adr, er, hl0⟩ := Kd.at_int (Kd.R_reads' hr_).2.2 0 (by decide) N3.out; subst er; replace hl0 : w9.cell? adr = some (.int .i64 (rd l 0)) := (congrArg (World.cell? w9) (show adr = adr.add (0 : Int).toNat by cases adr; rfl)).trans hl0; have n1_ := zz (below_step (bel HB.out) hb); clear HB hr_ hok_; have HB := n1_; clear n1_ hb) | (go_at_call 119; (with_reducible refine (plan_fail.calls 80 at_ _).mono ?_); rintro e w' ⟨rfl, rfl⟩))
       ((try simp only [Exit.inBlock, Exit.then]); refine Go.Proofs.Ytdkkollonlmelaa.Hand.bodyPost_fail (by rfl) ?_)
       exact ⟨fun h_ => absurd h_ (by first | decide | exact HNE.out), fun _ => rfl, (by repeat (first | (with_reducible first | exact HB.out | apply below_alloc | apply pw_below_drewN | apply below_drew1 | refine below_set ?_ GE.out) | exact HB.out))⟩
     ·rw [if_neg e2] at h
      have HNE := zz e2
      clear e2
      simp only [Option.some.injEq, Prod.mk.injEq] at h
      obtain ⟨rfl, rfl, rfl⟩ := h
      go_wp2_with (first | ((with_reducible refine gate_callee (f := 19) rfl ?_); refine goesL_ (some 41) rfl rfl Try.func19 (by kernel_rfl) rfl #[.agg #[.int .i64 f0, .slice (some adi) f1.length c1, .slice A2 f2.length c2, .slice A3 f3.length c3, .slice A4 f4.length c4, .int .i64 f5, .int .i64 f6, .int .i64 f7, .int .i64 f8]] rfl (by (try simp only [List.map_toArray, List.map_cons, List.map_nil]); first | done | rfl) ?_; (with_reducible refine (plan_Group.calls f0 (some adi) c1 f1 A2 c2 f2 A3 c3 f3 A4 c4 f4 f5 f6 f7 f8 gn false _ (Kd.C_below HR1.out (bel HB.out)) HC1.out (Kd.C_below HR2.out (bel HB.out)) HC2.out (Kd.C_below HR3.out (bel HB.out)) HC3.out (Kd.C_below HR4.out (bel HB.out)) HC4.out AG.out).mono ?_); rintro e w3 ⟨rfl, hb⟩; refine ⟨_, rfl, ?_⟩; have n0_ := zz (blk_below (g := gb) (o := _) (bk BK.out) hb); have n1_ := zz (below_step (bel HB.out) hb); clear BK HB; have BK := n0_; have HB := n1_; clear n0_ n1_ hb; obtain ⟨hc3_0, hc3_1, hc3_2, hc3_3, hc3_4, hc3_5, hc3_6, hc3_7, hc3_8⟩ := nine_cells BK.out; have hgk3 := ol HB.out HGK.out; have hi03 := ol HB.out HI0.out; have hk03 := ol HB.out HK0.out) | (go_at_call 128; (with_reducible refine (plan_mapped.calls k A3 c3 f3 Ac cc cols at_ l re ra _ (Kd.C_below HR3.out (bel HB.out)) HC3.out (Kd.C_below HRc.out (bel HB.out)) HCc.out AM.out).mono ?_); rintro e w9 ⟨-, hno_, hb⟩; obtain rfl := hno_ HNE.out; have n1_ := zz (below_step (bel HB.out) hb); clear HB; have HB := n1_; clear n1_ hb))
      ((try simp only [Exit.inBlock, Exit.then]); refine Go.Proofs.Ytdkkollonlmelaa.Hand.bodyPost_fail (by rfl) ?_)
      exact ⟨fun h_ => absurd h_ (by first | decide | exact HNE.out), fun _ => rfl, (by repeat (first | (with_reducible first | exact HB.out | apply below_alloc | apply pw_below_drewN | apply below_drew1 | refine below_set ?_ GE.out) | exact HB.out))⟩
    ·rw [if_neg n2] at h
     have m1 : ((f3.length : Int) == 1) = false := beq_eq_false_iff_ne.mpr n2
     have m2 : ((f3.length : Int) != 1) = true := bne_iff_ne.mpr n2
     have m3 : (f3.length == 1) = false := beq_eq_false_iff_ne.mpr (by omega)
     have m4 : (f3.length != 1) = true := bne_iff_ne.mpr (by omega)
     clear n2
     simp only [Option.some.injEq, Prod.mk.injEq] at h
     obtain ⟨rfl, rfl, rfl⟩ := h
     go_wp2_with (first | ((with_reducible refine gate_callee (f := 19) rfl ?_); refine goesL_ (some 41) rfl rfl Try.func19 (by kernel_rfl) rfl #[.agg #[.int .i64 f0, .slice (some adi) f1.length c1, .slice A2 f2.length c2, .slice A3 f3.length c3, .slice A4 f4.length c4, .int .i64 f5, .int .i64 f6, .int .i64 f7, .int .i64 f8]] rfl (by (try simp only [List.map_toArray, List.map_cons, List.map_nil]); first | done | rfl) ?_; (with_reducible refine (plan_Group.calls f0 (some adi) c1 f1 A2 c2 f2 A3 c3 f3 A4 c4 f4 f5 f6 f7 f8 gn false _ (Kd.C_below HR1.out (bel HB.out)) HC1.out (Kd.C_below HR2.out (bel HB.out)) HC2.out (Kd.C_below HR3.out (bel HB.out)) HC3.out (Kd.C_below HR4.out (bel HB.out)) HC4.out AG.out).mono ?_); rintro e w3 ⟨rfl, hb⟩; refine ⟨_, rfl, ?_⟩; have n0_ := zz (blk_below (g := gb) (o := _) (bk BK.out) hb); have n1_ := zz (below_step (bel HB.out) hb); clear BK HB; have BK := n0_; have HB := n1_; clear n0_ n1_ hb; obtain ⟨hc3_0, hc3_1, hc3_2, hc3_3, hc3_4, hc3_5, hc3_6, hc3_7, hc3_8⟩ := nine_cells BK.out; have hgk3 := ol HB.out HGK.out; have hi03 := ol HB.out HI0.out; have hk03 := ol HB.out HK0.out) | (go_at_call 119; (with_reducible refine (plan_fail.calls 1 at_ _).mono ?_); rintro e w' ⟨rfl, rfl⟩))
     ((try simp only [Exit.inBlock, Exit.then]); refine Go.Proofs.Ytdkkollonlmelaa.Hand.bodyPost_fail (by rfl) ?_)
     exact ⟨fun h_ => absurd h_ (by first | decide | exact HNE.out), fun _ => rfl, (by repeat (first | (with_reducible first | exact HB.out | apply below_alloc | apply pw_below_drewN | apply below_drew1 | refine below_set ?_ GE.out) | exact HB.out))⟩
   rw [if_neg k2] at h
   have kb2 : (f0 == 2) = false := beq_eq_false_iff_ne.mpr k2
   clear k2
   by_cases k3 : f0 = 3
   ·rw [if_pos k3] at h
    have kb3 : (f0 == 3) = true := beq_iff_eq.mpr k3
    clear k3
    have AH := zz h
    clear h
    by_cases e2 : r2 = 0
    ·subst e2
     go_wp2_with (first | ((with_reducible refine gate_callee (f := 19) rfl ?_); refine goesL_ (some 41) rfl rfl Try.func19 (by kernel_rfl) rfl #[.agg #[.int .i64 f0, .slice (some adi) f1.length c1, .slice A2 f2.length c2, .slice A3 f3.length c3, .slice A4 f4.length c4, .int .i64 f5, .int .i64 f6, .int .i64 f7, .int .i64 f8]] rfl (by (try simp only [List.map_toArray, List.map_cons, List.map_nil]); first | done | rfl) ?_; (with_reducible refine (plan_Group.calls f0 (some adi) c1 f1 A2 c2 f2 A3 c3 f3 A4 c4 f4 f5 f6 f7 f8 gn false _ (Kd.C_below HR1.out (bel HB.out)) HC1.out (Kd.C_below HR2.out (bel HB.out)) HC2.out (Kd.C_below HR3.out (bel HB.out)) HC3.out (Kd.C_below HR4.out (bel HB.out)) HC4.out AG.out).mono ?_); rintro e w3 ⟨rfl, hb⟩; refine ⟨_, rfl, ?_⟩; have n0_ := zz (blk_below (g := gb) (o := _) (bk BK.out) hb); have n1_ := zz (below_step (bel HB.out) hb); clear BK HB; have BK := n0_; have HB := n1_; clear n0_ n1_ hb; obtain ⟨hc3_0, hc3_1, hc3_2, hc3_3, hc3_4, hc3_5, hc3_6, hc3_7, hc3_8⟩ := nine_cells BK.out; have hgk3 := ol HB.out HGK.out; have hi03 := ol HB.out HI0.out; have hk03 := ol HB.out HK0.out) | ((with_reducible refine gate_callee (f := 129) rfl ?_); refine goesL_ (some 104) rfl rfl Try.func129 (by kernel_rfl) rfl #[.slice A4 f4.length c4, .slice Ac cols.length cc, .int .i64 at_] rfl (by (try simp only [List.map_toArray, List.map_cons, List.map_nil]); first | done | rfl) ?_; (with_reducible refine (plan_projected.calls k A4 c4 f4 Ac cc cols at_ r1 0 r3 _ (Kd.C_below HR4.out (bel HB.out)) HC4.out (Kd.C_below HRc.out (bel HB.out)) HCc.out AH.out).mono ?_); rintro e w9 ⟨hok_, -, hb⟩; obtain ⟨v0_, rfl, hr_, -⟩ := hok_ rfl; refine ⟨_, rfl, ?_⟩; have HO := zz (Kd.R_mono (ok' := fun _ => True) (Kd.R_lower hr_ (below_size (bel HB.out))) (fun _ _ => trivial)); have n1_ := zz (below_step (bel HB.out) hb); clear HB hr_ hok_; have HB := n1_; clear n1_ hb))
     go_ret
     first | (exact ⟨⟨_, by first | rfl | simp, (rl HO.out)⟩, (by repeat (first | (with_reducible first | exact HB.out | apply below_alloc | apply pw_below_drewN | apply below_drew1 | refine below_set ?_ GE.out) | exact HB.out))⟩) | (exact ⟨fun _ => ⟨_, by first | rfl | simp, (rl HO.out), trivial⟩, fun h_ => absurd rfl h_, (by repeat (first | (with_reducible first | exact HB.out | apply below_alloc | apply pw_below_drewN | apply below_drew1 | refine below_set ?_ GE.out) | exact HB.out))⟩)
    ·have HNE := zz e2
     clear e2
     go_wp2_with (first | ((with_reducible refine gate_callee (f := 19) rfl ?_); refine goesL_ (some 41) rfl rfl Try.func19 (by kernel_rfl) rfl #[.agg #[.int .i64 f0, .slice (some adi) f1.length c1, .slice A2 f2.length c2, .slice A3 f3.length c3, .slice A4 f4.length c4, .int .i64 f5, .int .i64 f6, .int .i64 f7, .int .i64 f8]] rfl (by (try simp only [List.map_toArray, List.map_cons, List.map_nil]); first | done | rfl) ?_; (with_reducible refine (plan_Group.calls f0 (some adi) c1 f1 A2 c2 f2 A3 c3 f3 A4 c4 f4 f5 f6 f7 f8 gn false _ (Kd.C_below HR1.out (bel HB.out)) HC1.out (Kd.C_below HR2.out (bel HB.out)) HC2.out (Kd.C_below HR3.out (bel HB.out)) HC3.out (Kd.C_below HR4.out (bel HB.out)) HC4.out AG.out).mono ?_); rintro e w3 ⟨rfl, hb⟩; refine ⟨_, rfl, ?_⟩; have n0_ := zz (blk_below (g := gb) (o := _) (bk BK.out) hb); have n1_ := zz (below_step (bel HB.out) hb); clear BK HB; have BK := n0_; have HB := n1_; clear n0_ n1_ hb; obtain ⟨hc3_0, hc3_1, hc3_2, hc3_3, hc3_4, hc3_5, hc3_6, hc3_7, hc3_8⟩ := nine_cells BK.out; have hgk3 := ol HB.out HGK.out; have hi03 := ol HB.out HI0.out; have hk03 := ol HB.out HK0.out) | (go_at_call 129; (with_reducible refine (plan_projected.calls k A4 c4 f4 Ac cc cols at_ r1 r2 r3 _ (Kd.C_below HR4.out (bel HB.out)) HC4.out (Kd.C_below HRc.out (bel HB.out)) HCc.out AH.out).mono ?_); rintro e w9 ⟨-, hno_, hb⟩; obtain rfl := hno_ HNE.out; have n1_ := zz (below_step (bel HB.out) hb); clear HB; have HB := n1_; clear n1_ hb))
     ((try simp only [Exit.inBlock, Exit.then]); refine Go.Proofs.Ytdkkollonlmelaa.Hand.bodyPost_fail (by rfl) ?_)
     exact ⟨fun h_ => absurd h_ (by first | decide | exact HNE.out), fun _ => rfl, (by repeat (first | (with_reducible first | exact HB.out | apply below_alloc | apply pw_below_drewN | apply below_drew1 | refine below_set ?_ GE.out) | exact HB.out))⟩
   rw [if_neg k3] at h
   have kb3 : (f0 == 3) = false := beq_eq_false_iff_ne.mpr k3
   clear k3
   by_cases k4 : f0 = 4
   ·rw [if_pos k4] at h
    have kb4 : (f0 == 4) = true := beq_iff_eq.mpr k4
    clear k4
    have AH := zz h
    clear h
    go_wp2_with (first | ((with_reducible refine gate_callee (f := 19) rfl ?_); refine goesL_ (some 41) rfl rfl Try.func19 (by kernel_rfl) rfl #[.agg #[.int .i64 f0, .slice (some adi) f1.length c1, .slice A2 f2.length c2, .slice A3 f3.length c3, .slice A4 f4.length c4, .int .i64 f5, .int .i64 f6, .int .i64 f7, .int .i64 f8]] rfl (by (try simp only [List.map_toArray, List.map_cons, List.map_nil]); first | done | rfl) ?_; (with_reducible refine (plan_Group.calls f0 (some adi) c1 f1 A2 c2 f2 A3 c3 f3 A4 c4 f4 f5 f6 f7 f8 gn false _ (Kd.C_below HR1.out (bel HB.out)) HC1.out (Kd.C_below HR2.out (bel HB.out)) HC2.out (Kd.C_below HR3.out (bel HB.out)) HC3.out (Kd.C_below HR4.out (bel HB.out)) HC4.out AG.out).mono ?_); rintro e w3 ⟨rfl, hb⟩; refine ⟨_, rfl, ?_⟩; have n0_ := zz (blk_below (g := gb) (o := _) (bk BK.out) hb); have n1_ := zz (below_step (bel HB.out) hb); clear BK HB; have BK := n0_; have HB := n1_; clear n0_ n1_ hb; obtain ⟨hc3_0, hc3_1, hc3_2, hc3_3, hc3_4, hc3_5, hc3_6, hc3_7, hc3_8⟩ := nine_cells BK.out; have hgk3 := ol HB.out HGK.out; have hi03 := ol HB.out HI0.out; have hk03 := ol HB.out HK0.out))
    go_loopg [108] k (fun kq v108 w' => ∃ (i : Int), v108 = .int .i64 i ∧ Aside0 (plan_typer_of.l0 kq f1 kinds cols at_ i = some (r1, r2, r3)) ∧ Aside0 (kq ≤ k) ∧ Aside0 (w'.heap[gb]? = some (.cells #[.int .i64 f0, .slice (some adi) f1.length c1, .slice A2 f2.length c2, .slice A3 f3.length c3, .slice A4 f4.length c4, .int .i64 f5, .int .i64 f6, .int .i64 f7, .int .i64 f8] 42 (0, 0))) ∧ Aside0 (Below w.heap.size w w'))
    case atStart => exact ⟨0, rfl, AH, ⟨Nat.le_refl _⟩, ⟨(bk BK.out)⟩, ⟨(by repeat (first | (with_reducible first | exact HB.out | apply below_alloc | apply pw_below_drewN | apply below_drew1 | refine below_set ?_ GE.out) | exact HB.out))⟩⟩
    case round =>
     clear AH BK HB
     clear hck_0 hc3_0 hck_1 hc3_1 hck_2 hc3_2 hck_3 hc3_3 hck_4 hc3_4 hck_5 hc3_5 hck_6 hc3_6 hck_7 hc3_7 hck_8 hc3_8
     clear hgk2 hi02 hk02 hgk3 hi03 hk03
     obtain ⟨i, rfl, HA, HK9, BK, HB⟩ := hrel
     cases gk with
     | zero => exact absurd HA.out (by simp [plan_typer_of.l0])
     | succ k1 =>
      have h := HA.out
      clear HA
      simp only [plan_typer_of.l0] at h
      by_cases c4 : i < (f1.length : Int)
      ·rw [if_pos c4] at h
       have c4b : decide (i < (f1.length : Int)) = true := decide_eq_true c4
       by_cases p5 : 0 ≤ i
       rotate_left
       ·rw [if_neg p5] at h; exact absurd h (by simp)
       rw [if_pos p5] at h
       by_cases p6 : 0 ≤ rd f1 i
       rotate_left
       ·rw [if_neg p6] at h; exact absurd h (by simp)
       rw [if_pos p6] at h
       by_cases q6 : rd f1 i < (kinds.length : Int)
       rotate_left
       ·rw [if_neg q6] at h; exact absurd h (by simp)
       rw [if_pos q6] at h
       obtain ⟨adj, e, hi9⟩ := Kd.at_int HR1.out i p5 c4
       cases e
       obtain ⟨adq, Ad, cd, e, hk9, hld, hid⟩ := at_L3 HRK.out (rd f1 i) p6 q6
       cases e
       generalize rd_L3 kinds (rd f1 i) = colz at hk9 hld hid h
       generalize rd f1 i = j1 at hi9 hk9 p6 q6
       replace h := Option.bind_eq_some_iff.mp h
       obtain ⟨t, AT0, h⟩ := h
       try dsimp only at h
       have AT := zz AT0
       clear AT0
       have HI9 := zz hi9
       have HK9_ := zz hk9
       have HRd := zz hid
       have HCd := zz hld
       clear hi9 hk9 hid hld
       replace p5 := eq_true p5
       replace c4 := eq_true c4
       replace p6 := eq_true p6
       replace q6 := eq_true q6
       have hi9 := (HB.out.cell (World.block_lt_of_cell? w _ HI9.out)).trans HI9.out
       have hk9 := (HB.out.cell (World.block_lt_of_cell? w _ HK9_.out)).trans HK9_.out
       have hgk9 := (HB.out.cell (World.block_lt_of_cell? w _ HGK.out)).trans HGK.out
       cases t with
       | true =>
        rw [if_pos rfl] at h
        have H' := zz h
        clear h
        go_wp2_with (first | ((with_reducible refine gate_callee (f := 130) rfl ?_); refine goesL_ (some 120) rfl rfl Try.func130 (by kernel_rfl) rfl #[.slice Ad colz.length cd, .slice Ac cols.length cc] rfl (by (try simp only [List.map_toArray, List.map_cons, List.map_nil]); first | done | rfl) ?_; (with_reducible refine (slices_Equal_int_int.calls k1 Ad cd colz Ac cc cols true _ (Kd.C_below HRd.out (bel HB.out)) HCd.out (Kd.C_below HRc.out (bel HB.out)) HCc.out AT.out).mono ?_); rintro e w' ⟨rfl, ⟨nd, rfl⟩⟩; refine ⟨_, rfl, ?_⟩))
        go_roundg k1
        case measure => have := HK9.out; omega
        case rel => exact ⟨(wrap64 (i + 1)), (by first | rfl | (simp; done) | (simp [*]; done)), H', ⟨by have := HK9.out; omega⟩, ⟨(bk BK.out)⟩, ⟨(by repeat (first | (with_reducible first | exact HB.out | apply below_alloc | apply pw_below_drewN | apply below_drew1 | refine below_set ?_ GE.out) | exact HB.out))⟩⟩
       | false =>
        rw [if_neg (by decide)] at h
        simp only [Option.some.injEq, Prod.mk.injEq] at h
        obtain ⟨rfl, rfl, rfl⟩ := h
        go_wp2_with (first | ((with_reducible refine gate_callee (f := 130) rfl ?_); refine goesL_ (some 120) rfl rfl Try.func130 (by kernel_rfl) rfl #[.slice Ad colz.length cd, .slice Ac cols.length cc] rfl (by (try simp only [List.map_toArray, List.map_cons, List.map_nil]); first | done | rfl) ?_; (with_reducible refine (slices_Equal_int_int.calls k1 Ad cd colz Ac cc cols false _ (Kd.C_below HRd.out (bel HB.out)) HCd.out (Kd.C_below HRc.out (bel HB.out)) HCc.out AT.out).mono ?_); rintro e w' ⟨rfl, ⟨nd, rfl⟩⟩; refine ⟨_, rfl, ?_⟩) | (go_at_call 119; (with_reducible refine (plan_fail.calls 80 at_ _).mono ?_); rintro e w' ⟨rfl, rfl⟩))
        ((try simp only [Exit.inBlock, Exit.then]); refine Go.Proofs.Ytdkkollonlmelaa.Hand.bodyPost_fail (by rfl) ?_)
        exact ⟨fun h_ => absurd h_ (by first | decide | exact HNE.out), fun _ => rfl, (by repeat (first | (with_reducible first | exact HB.out | apply below_alloc | apply pw_below_drewN | apply below_drew1 | refine below_set ?_ GE.out) | exact HB.out))⟩
      ·rw [if_neg c4] at h
       have c4b : decide (i < (f1.length : Int)) = false := decide_eq_false c4
       clear c4
       replace h := Option.bind_eq_some_iff.mp h
       obtain ⟨t, AC0, h⟩ := h
       try dsimp only at h
       simp only [Option.some.injEq, Prod.mk.injEq] at h
       obtain ⟨rfl, rfl, rfl⟩ := h
       have AC := zz AC0
       clear AC0
       go_wp2_with (first | ((with_reducible refine gate_callee (f := 82) rfl ?_); refine goesL_ (some 153) rfl rfl Try.func82 (by kernel_rfl) rfl #[.slice Ac cols.length cc] rfl (by (try simp only [List.map_toArray, List.map_cons, List.map_nil]); first | done | rfl) ?_; (with_reducible refine (slices_Clone_int_int.calls Ac cc cols _ _ (Kd.C_below HRc.out (bel HB.out)) HCc.out AC.out).mono ?_); rintro e w9 ⟨v0_, rfl, hr_, hb⟩; refine ⟨_, rfl, ?_⟩; have HO := zz (Kd.R_lower hr_ (below_size (bel HB.out))); have n1_ := zz (below_step (bel HB.out) hb); clear HB hr_; have HB := n1_; clear n1_ hb))
       go_ret
       first | (exact ⟨⟨_, by first | rfl | simp, (rl HO.out)⟩, (by repeat (first | (with_reducible first | exact HB.out | apply below_alloc | apply pw_below_drewN | apply below_drew1 | refine below_set ?_ GE.out) | exact HB.out))⟩) | (exact ⟨fun _ => ⟨_, by first | rfl | simp, (rl HO.out), trivial⟩, fun h_ => absurd rfl h_, (by repeat (first | (with_reducible first | exact HB.out | apply below_alloc | apply pw_below_drewN | apply below_drew1 | refine below_set ?_ GE.out) | exact HB.out))⟩)
   rw [if_neg k4] at h
   have kb4 : (f0 == 4) = false := beq_eq_false_iff_ne.mpr k4
   clear k4
   by_cases k7 : f0 = 7
   ·rw [if_pos k7] at h
    have kb7 : (f0 == 7) = true := beq_iff_eq.mpr k7
    clear k7
    have AH := zz h
    clear h
    by_cases e2 : r2 = 0
    ·subst e2
     go_wp2_with (first | ((with_reducible refine gate_callee (f := 19) rfl ?_); refine goesL_ (some 41) rfl rfl Try.func19 (by kernel_rfl) rfl #[.agg #[.int .i64 f0, .slice (some adi) f1.length c1, .slice A2 f2.length c2, .slice A3 f3.length c3, .slice A4 f4.length c4, .int .i64 f5, .int .i64 f6, .int .i64 f7, .int .i64 f8]] rfl (by (try simp only [List.map_toArray, List.map_cons, List.map_nil]); first | done | rfl) ?_; (with_reducible refine (plan_Group.calls f0 (some adi) c1 f1 A2 c2 f2 A3 c3 f3 A4 c4 f4 f5 f6 f7 f8 gn false _ (Kd.C_below HR1.out (bel HB.out)) HC1.out (Kd.C_below HR2.out (bel HB.out)) HC2.out (Kd.C_below HR3.out (bel HB.out)) HC3.out (Kd.C_below HR4.out (bel HB.out)) HC4.out AG.out).mono ?_); rintro e w3 ⟨rfl, hb⟩; refine ⟨_, rfl, ?_⟩; have n0_ := zz (blk_below (g := gb) (o := _) (bk BK.out) hb); have n1_ := zz (below_step (bel HB.out) hb); clear BK HB; have BK := n0_; have HB := n1_; clear n0_ n1_ hb; obtain ⟨hc3_0, hc3_1, hc3_2, hc3_3, hc3_4, hc3_5, hc3_6, hc3_7, hc3_8⟩ := nine_cells BK.out; have hgk3 := ol HB.out HGK.out; have hi03 := ol HB.out HI0.out; have hk03 := ol HB.out HK0.out) | ((with_reducible refine gate_callee (f := 131) rfl ?_); refine goesL_ (some 128) rfl rfl Try.func131 (by kernel_rfl) rfl #[.agg #[.int .i64 f0, .slice (some adi) f1.length c1, .slice A2 f2.length c2, .slice A3 f3.length c3, .slice A4 f4.length c4, .int .i64 f5, .int .i64 f6, .int .i64 f7, .int .i64 f8], .slice Ac cols.length cc, .int .i64 at_] rfl (by (try simp only [List.map_toArray, List.map_cons, List.map_nil]); first | done | rfl) ?_; (with_reducible refine (plan_bucketed.calls k f0 (some adi) c1 f1 A2 c2 f2 A3 c3 f3 A4 c4 f4 f5 f6 f7 f8 Ac cc cols at_ r1 0 r3 _ (Kd.C_below HR1.out (bel HB.out)) HC1.out (Kd.C_below HR2.out (bel HB.out)) HC2.out (Kd.C_below HR3.out (bel HB.out)) HC3.out (Kd.C_below HR4.out (bel HB.out)) HC4.out (Kd.C_below HRc.out (bel HB.out)) HCc.out AH.out).mono ?_); rintro e w9 ⟨hok_, -, hb⟩; obtain ⟨v0_, rfl, hr_, -⟩ := hok_ rfl; refine ⟨_, rfl, ?_⟩; have HO := zz (Kd.R_mono (ok' := fun _ => True) (Kd.R_lower hr_ (below_size (bel HB.out))) (fun _ _ => trivial)); have n1_ := zz (below_step (bel HB.out) hb); clear HB hr_ hok_; have HB := n1_; clear n1_ hb))
     go_ret
     first | (exact ⟨⟨_, by first | rfl | simp, (rl HO.out)⟩, (by repeat (first | (with_reducible first | exact HB.out | apply below_alloc | apply pw_below_drewN | apply below_drew1 | refine below_set ?_ GE.out) | exact HB.out))⟩) | (exact ⟨fun _ => ⟨_, by first | rfl | simp, (rl HO.out), trivial⟩, fun h_ => absurd rfl h_, (by repeat (first | (with_reducible first | exact HB.out | apply below_alloc | apply pw_below_drewN | apply below_drew1 | refine below_set ?_ GE.out) | exact HB.out))⟩)
    ·have HNE := zz e2
     clear e2
     go_wp2_with (first | ((with_reducible refine gate_callee (f := 19) rfl ?_); refine goesL_ (some 41) rfl rfl Try.func19 (by kernel_rfl) rfl #[.agg #[.int .i64 f0, .slice (some adi) f1.length c1, .slice A2 f2.length c2, .slice A3 f3.length c3, .slice A4 f4.length c4, .int .i64 f5, .int .i64 f6, .int .i64 f7, .int .i64 f8]] rfl (by (try simp only [List.map_toArray, List.map_cons, List.map_nil]); first | done | rfl) ?_; (with_reducible refine (plan_Group.calls f0 (some adi) c1 f1 A2 c2 f2 A3 c3 f3 A4 c4 f4 f5 f6 f7 f8 gn false _ (Kd.C_below HR1.out (bel HB.out)) HC1.out (Kd.C_below HR2.out (bel HB.out)) HC2.out (Kd.C_below HR3.out (bel HB.out)) HC3.out (Kd.C_below HR4.out (bel HB.out)) HC4.out AG.out).mono ?_); rintro e w3 ⟨rfl, hb⟩; refine ⟨_, rfl, ?_⟩; have n0_ := zz (blk_below (g := gb) (o := _) (bk BK.out) hb); have n1_ := zz (below_step (bel HB.out) hb); clear BK HB; have BK := n0_; have HB := n1_; clear n0_ n1_ hb; obtain ⟨hc3_0, hc3_1, hc3_2, hc3_3, hc3_4, hc3_5, hc3_6, hc3_7, hc3_8⟩ := nine_cells BK.out; have hgk3 := ol HB.out HGK.out; have hi03 := ol HB.out HI0.out; have hk03 := ol HB.out HK0.out) | (go_at_call 131; (with_reducible refine (plan_bucketed.calls k f0 (some adi) c1 f1 A2 c2 f2 A3 c3 f3 A4 c4 f4 f5 f6 f7 f8 Ac cc cols at_ r1 r2 r3 _ (Kd.C_below HR1.out (bel HB.out)) HC1.out (Kd.C_below HR2.out (bel HB.out)) HC2.out (Kd.C_below HR3.out (bel HB.out)) HC3.out (Kd.C_below HR4.out (bel HB.out)) HC4.out (Kd.C_below HRc.out (bel HB.out)) HCc.out AH.out).mono ?_); rintro e w9 ⟨-, hno_, hb⟩; obtain rfl := hno_ HNE.out; have n1_ := zz (below_step (bel HB.out) hb); clear HB; have HB := n1_; clear n1_ hb))
     ((try simp only [Exit.inBlock, Exit.then]); refine Go.Proofs.Ytdkkollonlmelaa.Hand.bodyPost_fail (by rfl) ?_)
     exact ⟨fun h_ => absurd h_ (by first | decide | exact HNE.out), fun _ => rfl, (by repeat (first | (with_reducible first | exact HB.out | apply below_alloc | apply pw_below_drewN | apply below_drew1 | refine below_set ?_ GE.out) | exact HB.out))⟩
   rw [if_neg k7] at h
   have kb7 : (f0 == 7) = false := beq_eq_false_iff_ne.mpr k7
   clear k7
   by_cases k15 : f0 = 15
   ·rw [if_pos k15] at h
    have kb15 : (f0 == 15) = true := beq_iff_eq.mpr k15
    clear k15
    by_cases n4 : 1 < (f1.length : Int)
    rotate_left
    ·rw [if_neg n4] at h; exact absurd h (by simp)
    rw [if_pos n4] at h
    by_cases p4 : 0 ≤ rd f1 1
    rotate_left
    ·rw [if_neg p4] at h; exact absurd h (by simp)
    rw [if_pos p4] at h
    by_cases q4 : rd f1 1 < (kinds.length : Int)
    rotate_left
    ·rw [if_neg q4] at h; exact absurd h (by simp)
    rw [if_pos q4] at h
    obtain ⟨adj, e, hi1⟩ := Kd.at_int HR1.out 1 (by decide) n4
    cases e
    replace hi1 : w.cell? ⟨adi.block, adi.off + 1, none⟩ = some (.int .i64 (rd f1 1)) := hi1
    obtain ⟨adq, Ad, cd, e, hk1, hld, hid⟩ := at_L3 HRK.out (rd f1 1) p4 q4
    cases e
    generalize rd_L3 kinds (rd f1 1) = colz at hk1 hld hid h
    generalize rd f1 1 = j1 at hi1 hk1 p4 q4
    have HI1 := zz hi1
    have HK1 := zz hk1
    have HRd := zz hid
    have HCd := zz hld
    clear hi1 hk1 hid hld
    replace p4 := eq_true p4
    replace q4 := eq_true q4
    have n4n : (1 < f1.length) = True := eq_true (by omega)
    replace n4 := eq_true n4
    have AH := zz h
    clear h
    by_cases e2 : r2 = 0
    ·subst e2
     go_wp2_with (first | ((with_reducible refine gate_callee (f := 19) rfl ?_); refine goesL_ (some 41) rfl rfl Try.func19 (by kernel_rfl) rfl #[.agg #[.int .i64 f0, .slice (some adi) f1.length c1, .slice A2 f2.length c2, .slice A3 f3.length c3, .slice A4 f4.length c4, .int .i64 f5, .int .i64 f6, .int .i64 f7, .int .i64 f8]] rfl (by (try simp only [List.map_toArray, List.map_cons, List.map_nil]); first | done | rfl) ?_; (with_reducible refine (plan_Group.calls f0 (some adi) c1 f1 A2 c2 f2 A3 c3 f3 A4 c4 f4 f5 f6 f7 f8 gn false _ (Kd.C_below HR1.out (bel HB.out)) HC1.out (Kd.C_below HR2.out (bel HB.out)) HC2.out (Kd.C_below HR3.out (bel HB.out)) HC3.out (Kd.C_below HR4.out (bel HB.out)) HC4.out AG.out).mono ?_); rintro e w3 ⟨rfl, hb⟩; refine ⟨_, rfl, ?_⟩; have n0_ := zz (blk_below (g := gb) (o := _) (bk BK.out) hb); have n1_ := zz (below_step (bel HB.out) hb); clear BK HB; have BK := n0_; have HB := n1_; clear n0_ n1_ hb; obtain ⟨hc3_0, hc3_1, hc3_2, hc3_3, hc3_4, hc3_5, hc3_6, hc3_7, hc3_8⟩ := nine_cells BK.out; have hgk3 := ol HB.out HGK.out; have hi03 := ol HB.out HI0.out; have hk03 := ol HB.out HK0.out; have hi13 := ol HB.out HI1.out; have hk13 := ol HB.out HK1.out))
     go_still_tail 14, (by kernel_rfl)
     change wpList _ _ _ _ _ (World.drew _)
     go_wp2_with (first | ((with_reducible refine gate_callee (f := 132) rfl ?_); refine goesL_ (some 143) rfl rfl Try.func132 (by kernel_rfl) rfl #[.int .i64 f5, .slice Ac cols.length cc, .slice Ad colz.length cd, .int .i64 at_] rfl (by (try simp only [List.map_toArray, List.map_cons, List.map_nil]); first | done | rfl) ?_; (with_reducible refine (plan_joined.calls k f5 _ Ac cc cols _ Ad cd colz at_ r1 0 r3 _ (Kd.V_mk (e := 3) (base := _) HCc.out (Kd.C_F (Kd.heap_int .i64) (Kd.C_below HRc.out (bel HB.out)))) (Kd.V_mk (e := 3) (base := _) HCd.out (Kd.C_F (Kd.heap_int .i64) (Kd.C_below HRd.out (bel HB.out)))) AH.out).mono ?_); rintro e w9 ⟨hok_, -, hb⟩; obtain ⟨v0_, rfl, hr_, -⟩ := hok_ rfl; refine ⟨_, rfl, ?_⟩; have HO := zz (Kd.R_mono (ok' := fun _ => True) (Kd.R_lower hr_ (below_size (bel HB.out))) (fun _ _ => trivial)); have n1_ := zz (below_step (bel HB.out) hb); clear HB hr_ hok_; have HB := n1_; clear n1_ hb))
     go_ret
     first | (exact ⟨⟨_, by first | rfl | simp, (rl HO.out)⟩, (by repeat (first | (with_reducible first | exact HB.out | apply below_alloc | apply pw_below_drewN | apply below_drew1 | refine below_set ?_ GE.out) | exact HB.out))⟩) | (exact ⟨fun _ => ⟨_, by first | rfl | simp, (rl HO.out), trivial⟩, fun h_ => absurd rfl h_, (by repeat (first | (with_reducible first | exact HB.out | apply below_alloc | apply pw_below_drewN | apply below_drew1 | refine below_set ?_ GE.out) | exact HB.out))⟩)
    ·have HNE := zz e2
     clear e2
     go_wp2_with (first | ((with_reducible refine gate_callee (f := 19) rfl ?_); refine goesL_ (some 41) rfl rfl Try.func19 (by kernel_rfl) rfl #[.agg #[.int .i64 f0, .slice (some adi) f1.length c1, .slice A2 f2.length c2, .slice A3 f3.length c3, .slice A4 f4.length c4, .int .i64 f5, .int .i64 f6, .int .i64 f7, .int .i64 f8]] rfl (by (try simp only [List.map_toArray, List.map_cons, List.map_nil]); first | done | rfl) ?_; (with_reducible refine (plan_Group.calls f0 (some adi) c1 f1 A2 c2 f2 A3 c3 f3 A4 c4 f4 f5 f6 f7 f8 gn false _ (Kd.C_below HR1.out (bel HB.out)) HC1.out (Kd.C_below HR2.out (bel HB.out)) HC2.out (Kd.C_below HR3.out (bel HB.out)) HC3.out (Kd.C_below HR4.out (bel HB.out)) HC4.out AG.out).mono ?_); rintro e w3 ⟨rfl, hb⟩; refine ⟨_, rfl, ?_⟩; have n0_ := zz (blk_below (g := gb) (o := _) (bk BK.out) hb); have n1_ := zz (below_step (bel HB.out) hb); clear BK HB; have BK := n0_; have HB := n1_; clear n0_ n1_ hb; obtain ⟨hc3_0, hc3_1, hc3_2, hc3_3, hc3_4, hc3_5, hc3_6, hc3_7, hc3_8⟩ := nine_cells BK.out; have hgk3 := ol HB.out HGK.out; have hi03 := ol HB.out HI0.out; have hk03 := ol HB.out HK0.out; have hi13 := ol HB.out HI1.out; have hk13 := ol HB.out HK1.out))
     go_still_tail 14, (by kernel_rfl)
     change wpList _ _ _ _ _ (World.drew _)
     go_wp2_with (first | (go_at_call 132; (with_reducible refine (plan_joined.calls k f5 _ Ac cc cols _ Ad cd colz at_ r1 r2 r3 _ (Kd.V_mk (e := 3) (base := _) HCc.out (Kd.C_F (Kd.heap_int .i64) (Kd.C_below HRc.out (bel HB.out)))) (Kd.V_mk (e := 3) (base := _) HCd.out (Kd.C_F (Kd.heap_int .i64) (Kd.C_below HRd.out (bel HB.out)))) AH.out).mono ?_); rintro e w9 ⟨-, hno_, hb⟩; obtain rfl := hno_ HNE.out; have n1_ := zz (below_step (bel HB.out) hb); clear HB; have HB := n1_; clear n1_ hb))
     ((try simp only [Exit.inBlock, Exit.then]); refine Go.Proofs.Ytdkkollonlmelaa.Hand.bodyPost_fail (by rfl) ?_)
     exact ⟨fun h_ => absurd h_ (by first | decide | exact HNE.out), fun _ => rfl, (by repeat (first | (with_reducible first | exact HB.out | apply below_alloc | apply pw_below_drewN | apply below_drew1 | refine below_set ?_ GE.out) | exact HB.out))⟩
   rw [if_neg k15] at h
   have kb15 : (f0 == 15) = false := beq_eq_false_iff_ne.mpr k15
   clear k15
   by_cases k8 : f0 = 8
   ·rw [if_pos k8] at h
    have kb8 : (f0 == 8) = true := beq_iff_eq.mpr k8
    clear k8
    replace h := Option.bind_eq_some_iff.mp h
    obtain ⟨t, AT0, h⟩ := h
    try dsimp only at h
    have AT := zz AT0
    clear AT0
    cases t with
    | true =>
     rw [if_pos rfl] at h
     replace h := Option.bind_eq_some_iff.mp h
     obtain ⟨t, AC0, h⟩ := h
     try dsimp only at h
     simp only [Option.some.injEq, Prod.mk.injEq] at h
     obtain ⟨rfl, rfl, rfl⟩ := h
     have AC := zz AC0
     clear AC0
     go_wp2_with (first | ((with_reducible refine gate_callee (f := 19) rfl ?_); refine goesL_ (some 41) rfl rfl Try.func19 (by kernel_rfl) rfl #[.agg #[.int .i64 f0, .slice (some adi) f1.length c1, .slice A2 f2.length c2, .slice A3 f3.length c3, .slice A4 f4.length c4, .int .i64 f5, .int .i64 f6, .int .i64 f7, .int .i64 f8]] rfl (by (try simp only [List.map_toArray, List.map_cons, List.map_nil]); first | done | rfl) ?_; (with_reducible refine (plan_Group.calls f0 (some adi) c1 f1 A2 c2 f2 A3 c3 f3 A4 c4 f4 f5 f6 f7 f8 gn false _ (Kd.C_below HR1.out (bel HB.out)) HC1.out (Kd.C_below HR2.out (bel HB.out)) HC2.out (Kd.C_below HR3.out (bel HB.out)) HC3.out (Kd.C_below HR4.out (bel HB.out)) HC4.out AG.out).mono ?_); rintro e w3 ⟨rfl, hb⟩; refine ⟨_, rfl, ?_⟩; have n0_ := zz (blk_below (g := gb) (o := _) (bk BK.out) hb); have n1_ := zz (below_step (bel HB.out) hb); clear BK HB; have BK := n0_; have HB := n1_; clear n0_ n1_ hb; obtain ⟨hc3_0, hc3_1, hc3_2, hc3_3, hc3_4, hc3_5, hc3_6, hc3_7, hc3_8⟩ := nine_cells BK.out; have hgk3 := ol HB.out HGK.out; have hi03 := ol HB.out HI0.out; have hk03 := ol HB.out HK0.out) | ((with_reducible refine gate_callee (f := 120) rfl ?_); refine goesL_ (some 148) rfl rfl Try.func120 (by kernel_rfl) rfl #[.int .i64 f5, .int .i64 0, .int .i64 (cols.length : Int)] rfl (by (try simp only [List.map_toArray, List.map_cons, List.map_nil]); first | done | rfl) ?_; (with_reducible refine (plan_between.calls f5 0 (cols.length : Int) true _ AT.out).mono ?_); rintro e w' ⟨rfl, ⟨nd, rfl⟩⟩; refine ⟨_, rfl, ?_⟩) | ((with_reducible refine gate_callee (f := 82) rfl ?_); refine goesL_ (some 153) rfl rfl Try.func82 (by kernel_rfl) rfl #[.slice Ac cols.length cc] rfl (by (try simp only [List.map_toArray, List.map_cons, List.map_nil]); first | done | rfl) ?_; (with_reducible refine (slices_Clone_int_int.calls Ac cc cols _ _ (Kd.C_below HRc.out (bel HB.out)) HCc.out AC.out).mono ?_); rintro e w9 ⟨v0_, rfl, hr_, hb⟩; refine ⟨_, rfl, ?_⟩; have HO := zz (Kd.R_lower hr_ (below_size (bel HB.out))); have n1_ := zz (below_step (bel HB.out) hb); clear HB hr_; have HB := n1_; clear n1_ hb))
     go_ret
     first | (exact ⟨⟨_, by first | rfl | simp, (rl HO.out)⟩, (by repeat (first | (with_reducible first | exact HB.out | apply below_alloc | apply pw_below_drewN | apply below_drew1 | refine below_set ?_ GE.out) | exact HB.out))⟩) | (exact ⟨fun _ => ⟨_, by first | rfl | simp, (rl HO.out), trivial⟩, fun h_ => absurd rfl h_, (by repeat (first | (with_reducible first | exact HB.out | apply below_alloc | apply pw_below_drewN | apply below_drew1 | refine below_set ?_ GE.out) | exact HB.out))⟩)
    | false =>
     rw [if_neg (by decide)] at h
     simp only [Option.some.injEq, Prod.mk.injEq] at h
     obtain ⟨rfl, rfl, rfl⟩ := h
     go_wp2_with (first | ((with_reducible refine gate_callee (f := 19) rfl ?_); refine goesL_ (some 41) rfl rfl Try.func19 (by kernel_rfl) rfl #[.agg #[.int .i64 f0, .slice (some adi) f1.length c1, .slice A2 f2.length c2, .slice A3 f3.length c3, .slice A4 f4.length c4, .int .i64 f5, .int .i64 f6, .int .i64 f7, .int .i64 f8]] rfl (by (try simp only [List.map_toArray, List.map_cons, List.map_nil]); first | done | rfl) ?_; (with_reducible refine (plan_Group.calls f0 (some adi) c1 f1 A2 c2 f2 A3 c3 f3 A4 c4 f4 f5 f6 f7 f8 gn false _ (Kd.C_below HR1.out (bel HB.out)) HC1.out (Kd.C_below HR2.out (bel HB.out)) HC2.out (Kd.C_below HR3.out (bel HB.out)) HC3.out (Kd.C_below HR4.out (bel HB.out)) HC4.out AG.out).mono ?_); rintro e w3 ⟨rfl, hb⟩; refine ⟨_, rfl, ?_⟩; have n0_ := zz (blk_below (g := gb) (o := _) (bk BK.out) hb); have n1_ := zz (below_step (bel HB.out) hb); clear BK HB; have BK := n0_; have HB := n1_; clear n0_ n1_ hb; obtain ⟨hc3_0, hc3_1, hc3_2, hc3_3, hc3_4, hc3_5, hc3_6, hc3_7, hc3_8⟩ := nine_cells BK.out; have hgk3 := ol HB.out HGK.out; have hi03 := ol HB.out HI0.out; have hk03 := ol HB.out HK0.out) | ((with_reducible refine gate_callee (f := 120) rfl ?_); refine goesL_ (some 148) rfl rfl Try.func120 (by kernel_rfl) rfl #[.int .i64 f5, .int .i64 0, .int .i64 (cols.length : Int)] rfl (by (try simp only [List.map_toArray, List.map_cons, List.map_nil]); first | done | rfl) ?_; (with_reducible refine (plan_between.calls f5 0 (cols.length : Int) false _ AT.out).mono ?_); rintro e w' ⟨rfl, ⟨nd, rfl⟩⟩; refine ⟨_, rfl, ?_⟩) | (go_at_call 119; (with_reducible refine (plan_fail.calls 9 at_ _).mono ?_); rintro e w' ⟨rfl, rfl⟩))
     ((try simp only [Exit.inBlock, Exit.then]); refine Go.Proofs.Ytdkkollonlmelaa.Hand.bodyPost_fail (by rfl) ?_)
     exact ⟨fun h_ => absurd h_ (by first | decide | exact HNE.out), fun _ => rfl, (by repeat (first | (with_reducible first | exact HB.out | apply below_alloc | apply pw_below_drewN | apply below_drew1 | refine below_set ?_ GE.out) | exact HB.out))⟩
   rw [if_neg k8] at h
   have kb8 : (f0 == 8) = false := beq_eq_false_iff_ne.mpr k8
   clear k8
   by_cases k5 : f0 = 5
   ·have kb5 : (f0 == 5) = true := beq_iff_eq.mpr k5
    clear k5
    replace h := Option.bind_eq_some_iff.mp h
    obtain ⟨t, AC0, h⟩ := h
    try dsimp only at h
    simp only [Option.some.injEq, Prod.mk.injEq] at h
    obtain ⟨rfl, rfl, rfl⟩ := h
    have AC := zz AC0
    clear AC0
    go_wp2_with (first | ((with_reducible refine gate_callee (f := 19) rfl ?_); refine goesL_ (some 41) rfl rfl Try.func19 (by kernel_rfl) rfl #[.agg #[.int .i64 f0, .slice (some adi) f1.length c1, .slice A2 f2.length c2, .slice A3 f3.length c3, .slice A4 f4.length c4, .int .i64 f5, .int .i64 f6, .int .i64 f7, .int .i64 f8]] rfl (by (try simp only [List.map_toArray, List.map_cons, List.map_nil]); first | done | rfl) ?_; (with_reducible refine (plan_Group.calls f0 (some adi) c1 f1 A2 c2 f2 A3 c3 f3 A4 c4 f4 f5 f6 f7 f8 gn false _ (Kd.C_below HR1.out (bel HB.out)) HC1.out (Kd.C_below HR2.out (bel HB.out)) HC2.out (Kd.C_below HR3.out (bel HB.out)) HC3.out (Kd.C_below HR4.out (bel HB.out)) HC4.out AG.out).mono ?_); rintro e w3 ⟨rfl, hb⟩; refine ⟨_, rfl, ?_⟩; have n0_ := zz (blk_below (g := gb) (o := _) (bk BK.out) hb); have n1_ := zz (below_step (bel HB.out) hb); clear BK HB; have BK := n0_; have HB := n1_; clear n0_ n1_ hb; obtain ⟨hc3_0, hc3_1, hc3_2, hc3_3, hc3_4, hc3_5, hc3_6, hc3_7, hc3_8⟩ := nine_cells BK.out; have hgk3 := ol HB.out HGK.out; have hi03 := ol HB.out HI0.out; have hk03 := ol HB.out HK0.out) | ((with_reducible refine gate_callee (f := 82) rfl ?_); refine goesL_ (some 153) rfl rfl Try.func82 (by kernel_rfl) rfl #[.slice Ac cols.length cc] rfl (by (try simp only [List.map_toArray, List.map_cons, List.map_nil]); first | done | rfl) ?_; (with_reducible refine (slices_Clone_int_int.calls Ac cc cols _ _ (Kd.C_below HRc.out (bel HB.out)) HCc.out AC.out).mono ?_); rintro e w9 ⟨v0_, rfl, hr_, hb⟩; refine ⟨_, rfl, ?_⟩; have HO := zz (Kd.R_lower hr_ (below_size (bel HB.out))); have n1_ := zz (below_step (bel HB.out) hb); clear HB hr_; have HB := n1_; clear n1_ hb))
    go_ret
    first | (exact ⟨⟨_, by first | rfl | simp, (rl HO.out)⟩, (by repeat (first | (with_reducible first | exact HB.out | apply below_alloc | apply pw_below_drewN | apply below_drew1 | refine below_set ?_ GE.out) | exact HB.out))⟩) | (exact ⟨fun _ => ⟨_, by first | rfl | simp, (rl HO.out), trivial⟩, fun h_ => absurd rfl h_, (by repeat (first | (with_reducible first | exact HB.out | apply below_alloc | apply pw_below_drewN | apply below_drew1 | refine below_set ?_ GE.out) | exact HB.out))⟩)
   have kb5 : (f0 == 5) = false := beq_eq_false_iff_ne.mpr k5
   clear k5
   by_cases k6 : f0 = 6
   ·have kb6 : (f0 == 6) = true := beq_iff_eq.mpr k6
    clear k6
    replace h := Option.bind_eq_some_iff.mp h
    obtain ⟨t, AC0, h⟩ := h
    try dsimp only at h
    simp only [Option.some.injEq, Prod.mk.injEq] at h
    obtain ⟨rfl, rfl, rfl⟩ := h
    have AC := zz AC0
    clear AC0
    go_wp2_with (first | ((with_reducible refine gate_callee (f := 19) rfl ?_); refine goesL_ (some 41) rfl rfl Try.func19 (by kernel_rfl) rfl #[.agg #[.int .i64 f0, .slice (some adi) f1.length c1, .slice A2 f2.length c2, .slice A3 f3.length c3, .slice A4 f4.length c4, .int .i64 f5, .int .i64 f6, .int .i64 f7, .int .i64 f8]] rfl (by (try simp only [List.map_toArray, List.map_cons, List.map_nil]); first | done | rfl) ?_; (with_reducible refine (plan_Group.calls f0 (some adi) c1 f1 A2 c2 f2 A3 c3 f3 A4 c4 f4 f5 f6 f7 f8 gn false _ (Kd.C_below HR1.out (bel HB.out)) HC1.out (Kd.C_below HR2.out (bel HB.out)) HC2.out (Kd.C_below HR3.out (bel HB.out)) HC3.out (Kd.C_below HR4.out (bel HB.out)) HC4.out AG.out).mono ?_); rintro e w3 ⟨rfl, hb⟩; refine ⟨_, rfl, ?_⟩; have n0_ := zz (blk_below (g := gb) (o := _) (bk BK.out) hb); have n1_ := zz (below_step (bel HB.out) hb); clear BK HB; have BK := n0_; have HB := n1_; clear n0_ n1_ hb; obtain ⟨hc3_0, hc3_1, hc3_2, hc3_3, hc3_4, hc3_5, hc3_6, hc3_7, hc3_8⟩ := nine_cells BK.out; have hgk3 := ol HB.out HGK.out; have hi03 := ol HB.out HI0.out; have hk03 := ol HB.out HK0.out) | ((with_reducible refine gate_callee (f := 82) rfl ?_); refine goesL_ (some 153) rfl rfl Try.func82 (by kernel_rfl) rfl #[.slice Ac cols.length cc] rfl (by (try simp only [List.map_toArray, List.map_cons, List.map_nil]); first | done | rfl) ?_; (with_reducible refine (slices_Clone_int_int.calls Ac cc cols _ _ (Kd.C_below HRc.out (bel HB.out)) HCc.out AC.out).mono ?_); rintro e w9 ⟨v0_, rfl, hr_, hb⟩; refine ⟨_, rfl, ?_⟩; have HO := zz (Kd.R_lower hr_ (below_size (bel HB.out))); have n1_ := zz (below_step (bel HB.out) hb); clear HB hr_; have HB := n1_; clear n1_ hb))
    go_ret
    first | (exact ⟨⟨_, by first | rfl | simp, (rl HO.out)⟩, (by repeat (first | (with_reducible first | exact HB.out | apply below_alloc | apply pw_below_drewN | apply below_drew1 | refine below_set ?_ GE.out) | exact HB.out))⟩) | (exact ⟨fun _ => ⟨_, by first | rfl | simp, (rl HO.out), trivial⟩, fun h_ => absurd rfl h_, (by repeat (first | (with_reducible first | exact HB.out | apply below_alloc | apply pw_below_drewN | apply below_drew1 | refine below_set ?_ GE.out) | exact HB.out))⟩)
   have kb6 : (f0 == 6) = false := beq_eq_false_iff_ne.mpr k6
   clear k6
   replace h := Option.bind_eq_some_iff.mp h
   obtain ⟨t, AC0, h⟩ := h
   try dsimp only at h
   simp only [Option.some.injEq, Prod.mk.injEq] at h
   obtain ⟨rfl, rfl, rfl⟩ := h
   have AC := zz AC0
   clear AC0
   go_wp2_with (first | ((with_reducible refine gate_callee (f := 19) rfl ?_); refine goesL_ (some 41) rfl rfl Try.func19 (by kernel_rfl) rfl #[.agg #[.int .i64 f0, .slice (some adi) f1.length c1, .slice A2 f2.length c2, .slice A3 f3.length c3, .slice A4 f4.length c4, .int .i64 f5, .int .i64 f6, .int .i64 f7, .int .i64 f8]] rfl (by (try simp only [List.map_toArray, List.map_cons, List.map_nil]); first | done | rfl) ?_; (with_reducible refine (plan_Group.calls f0 (some adi) c1 f1 A2 c2 f2 A3 c3 f3 A4 c4 f4 f5 f6 f7 f8 gn false _ (Kd.C_below HR1.out (bel HB.out)) HC1.out (Kd.C_below HR2.out (bel HB.out)) HC2.out (Kd.C_below HR3.out (bel HB.out)) HC3.out (Kd.C_below HR4.out (bel HB.out)) HC4.out AG.out).mono ?_); rintro e w3 ⟨rfl, hb⟩; refine ⟨_, rfl, ?_⟩; have n0_ := zz (blk_below (g := gb) (o := _) (bk BK.out) hb); have n1_ := zz (below_step (bel HB.out) hb); clear BK HB; have BK := n0_; have HB := n1_; clear n0_ n1_ hb; obtain ⟨hc3_0, hc3_1, hc3_2, hc3_3, hc3_4, hc3_5, hc3_6, hc3_7, hc3_8⟩ := nine_cells BK.out; have hgk3 := ol HB.out HGK.out; have hi03 := ol HB.out HI0.out; have hk03 := ol HB.out HK0.out) | ((with_reducible refine gate_callee (f := 82) rfl ?_); refine goesL_ (some 153) rfl rfl Try.func82 (by kernel_rfl) rfl #[.slice Ac cols.length cc] rfl (by (try simp only [List.map_toArray, List.map_cons, List.map_nil]); first | done | rfl) ?_; (with_reducible refine (slices_Clone_int_int.calls Ac cc cols _ _ (Kd.C_below HRc.out (bel HB.out)) HCc.out AC.out).mono ?_); rintro e w9 ⟨v0_, rfl, hr_, hb⟩; refine ⟨_, rfl, ?_⟩; have HO := zz (Kd.R_lower hr_ (below_size (bel HB.out))); have n1_ := zz (below_step (bel HB.out) hb); clear HB hr_; have HB := n1_; clear n1_ hb))
   go_ret
   first | (exact ⟨⟨_, by first | rfl | simp, (rl HO.out)⟩, (by repeat (first | (with_reducible first | exact HB.out | apply below_alloc | apply pw_below_drewN | apply below_drew1 | refine below_set ?_ GE.out) | exact HB.out))⟩) | (exact ⟨fun _ => ⟨_, by first | rfl | simp, (rl HO.out), trivial⟩, fun h_ => absurd rfl h_, (by repeat (first | (with_reducible first | exact HB.out | apply below_alloc | apply pw_below_drewN | apply below_drew1 | refine below_set ?_ GE.out) | exact HB.out))⟩)


end Go.Proofs.Ytdkkollonlmelaa.QPlanChecks
