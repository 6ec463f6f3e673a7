-- Written by this session's own program (wip/tools/ownprint.sh)
import Derived.Test.YtdkkollonlmelaaQPlanChecksx0
import Derived.Test.YtdkkollonlmelaaQPlanChecksx9
namespace Go.Proofs.Ytdkkollonlmelaa.QPlanChecks
open Go.RowKit Go.Proofs.YtdkkollonlmelaaW.PrintWords Go.Proofs.YtdkkollonlmelaaW.PrintLast Go.Proofs.YtdkkollonlmelaaW.PrintMore
attribute [local go_sem] max2_int min2_int max_two min_two max_three min_three max_four min_four Go.Proofs.Ytdkkollonlmelaa.Hand.str_gtr Go.Proofs.Ytdkkollonlmelaa.Hand.str_leq Go.Proofs.Ytdkkollonlmelaa.Hand.str_geq   -- for this text's walks alone
set_option linter.unusedVariables false
set_option maxHeartbeats 8000000
set_option maxRecDepth 100000
set_option linter.unusedSimpArgs false


/-! ### runnellaw16_live: function 12, by hand -/
def live_nodes (x : Int) : List S42 := [⟨0, [], [0], [], [], 0, 0, 0, 0⟩, ⟨9, [x], [], [], [], 0, 0, 0, 0⟩, ⟨15, [0, 1], [], [], [], 1, 0, 0, 0⟩]
theorem C_ints {w : World} {g : Nat} (l : List Int) (hb : w.heap[g]? = some (.cells (l.map (Value.int .i64)).toArray 3 (0, 0))) (hl : l.length ≤ 9223372036854775807) : Kd.C (Kd.int .i64) w (some ⟨g, 0, none⟩) l.length l :=
 ⟨rfl, hl, fun _ => ⟨⟨g, 0, none⟩, rfl, fun j x hj => ⟨[.int .i64 x], rfl, rfl, fun i u hi => by
  have hs : (Kd.int .i64).sz = 1 := rfl
  rcases i with _ | i
  ·simp at hi
   subst hi
   rw [hs, Addr.add_lit, Nat.zero_add, Nat.mul_one, Nat.add_zero, blk_cell hb j]
   simp [hj]
  ·simp at hi⟩⟩⟩
theorem C_int1 {w : World} {g : Nat} {x : Int} (hb : w.heap[g]? = some (.cells #[.int .i64 x] 3 (0, 0))) : Kd.C (Kd.int .i64) w (some ⟨g, 0, none⟩) ([x] : List Int).length [x] := C_ints [x] hb (by simp)
theorem C_nodes {w : World} {g12 g6 g8 g10 : Nat} {x : Int} (hb : w.heap[g12]? = some (.cells #[.int .i64 0, .slice none 0 0, .slice (some ⟨g6, 0, none⟩) 1 1, .slice none 0 0, .slice none 0 0, .int .i64 0, .int .i64 0, .int .i64 0, .int .i64 0, .int .i64 9, .slice (some ⟨g8, 0, none⟩) 1 1, .slice none 0 0, .slice none 0 0, .slice none 0 0, .int .i64 0, .int .i64 0, .int .i64 0, .int .i64 0, .int .i64 15, .slice (some ⟨g10, 0, none⟩) 2 2, .slice none 0 0, .slice none 0 0, .slice none 0 0, .int .i64 1, .int .i64 0, .int .i64 0, .int .i64 0] 42 (0, 0))) (h6 : w.heap[g6]? = some (.cells #[.int .i64 0] 3 (0, 0))) (h8 : w.heap[g8]? = some (.cells #[.int .i64 x] 3 (0, 0))) (h10 : w.heap[g10]? = some (.cells #[.int .i64 0, .int .i64 1] 3 (0, 0))) : Kd.C k42 w (some ⟨g12, 0, none⟩) 3 (live_nodes x) := by
 have nI : Kd.C (Kd.int .i64) w none 0 ([] : List Int) := Kd.C_nil _ _
 have nE : Kd.C (Kd.slice 128 k128) w none 0 ([] : List (List S128)) := Kd.C_nil _ _
 refine ⟨rfl, by decide, fun _ => ⟨⟨g12, 0, none⟩, rfl, fun j p hj => ?_⟩⟩
 have hcell : ∀ m, w.cell? ⟨g12, m, none⟩ = (#[.int .i64 0, .slice none 0 0, .slice (some ⟨g6, 0, none⟩) 1 1, .slice none 0 0, .slice none 0 0, .int .i64 0, .int .i64 0, .int .i64 0, .int .i64 0, .int .i64 9, .slice (some ⟨g8, 0, none⟩) 1 1, .slice none 0 0, .slice none 0 0, .slice none 0 0, .int .i64 0, .int .i64 0, .int .i64 0, .int .i64 0, .int .i64 15, .slice (some ⟨g10, 0, none⟩) 2 2, .slice none 0 0, .slice none 0 0, .slice none 0 0, .int .i64 1, .int .i64 0, .int .i64 0, .int .i64 0] : Array Value)[m]? := fun m => blk_cell hb m
 have hs : k42.sz = 9 := rfl
 rcases j with _ | _ | _ | j
 ·have hp : ⟨0, [], [0], [], [], 0, 0, 0, 0⟩ = p := by simpa [live_nodes] using hj
  subst hp
  refine ⟨_, rfl, k42_mk w ⟨0, [], [0], [], [], 0, 0, 0, 0⟩ (c1 := 0) (Nat.le_refl _) nI (c2 := 1) (Nat.le_refl _) (C_ints [0] h6 (by decide)) (c3 := 0) (Nat.le_refl _) nE (c4 := 0) (Nat.le_refl _) nI, fun i u hi => ?_⟩
  rw [hs, Addr.add_lit, hcell]
  rcases i with _ | _ | _ | _ | _ | _ | _ | _ | _ | i <;> first | (simp at hi; done) | (simpa using hi)
 ·have hp : ⟨9, [x], [], [], [], 0, 0, 0, 0⟩ = p := by simpa [live_nodes] using hj
  subst hp
  refine ⟨_, rfl, k42_mk w ⟨9, [x], [], [], [], 0, 0, 0, 0⟩ (c1 := 1) (Nat.le_refl _) (C_ints [x] h8 (by simp)) (c2 := 0) (Nat.le_refl _) nI (c3 := 0) (Nat.le_refl _) nE (c4 := 0) (Nat.le_refl _) nI, fun i u hi => ?_⟩
  rw [hs, Addr.add_lit, hcell]
  rcases i with _ | _ | _ | _ | _ | _ | _ | _ | _ | i <;> first | (simp at hi; done) | (simpa using hi)
 ·have hp : ⟨15, [0, 1], [], [], [], 1, 0, 0, 0⟩ = p := by simpa [live_nodes] using hj
  subst hp
  refine ⟨_, rfl, k42_mk w ⟨15, [0, 1], [], [], [], 1, 0, 0, 0⟩ (c1 := 2) (Nat.le_refl _) (C_ints [0, 1] h10 (by decide)) (c2 := 0) (Nat.le_refl _) nI (c3 := 0) (Nat.le_refl _) nE (c4 := 0) (Nat.le_refl _) nI, fun i u hi => ?_⟩
  rw [hs, Addr.add_lit, hcell]
  rcases i with _ | _ | _ | _ | _ | _ | _ | _ | _ | i <;> first | (simp at hi; done) | (simpa using hi)
 ·simp [live_nodes] at hj
theorem lit_event {P : Program} {ops : Array Oper} {Q : Exit → Act → World → Prop} {rest : List Oper} {o : Oper} {a : Act} {W : World} (hgd : o.guard = none) {N : Tmp} (_hd : o.dst = some N) {cs : Array Value} {t : TypeId} {n m : Nat}
  (hrun : (execOp a.eval o).run P W = .ok (.value (.slice (some ⟨W.heap.size, 0, none⟩) n m)) (W.alloc (.cells cs t (0, 0))))
  (h : ∀ g, g = W.heap.size → ∀ w1, w1.heap[g]? = some (.cells cs t (0, 0)) → Below W.heap.size W w1 → wpList P ops Q rest (a.put o.dst (.slice (some ⟨g, 0, none⟩) n m)) w1) : wpList P ops Q (o :: rest) a W :=
 Kd.event_run hgd hrun (h _ rfl _ (blk_new W _) (below_alloc (Below.refl _ _) _))
theorem three_event {P : Program} {ops : Array Oper} {Q : Exit → Act → World → Prop} {L : List Oper} {a : Act} {w W : World} {g : Nat} {t : TypeId} {u0 u1 u2 v0 v1 v2 : Value} (hb : W.heap[g]? = some (.cells #[u0, u1, u2] t (0, 0))) (hB : Below w.heap.size w W) (hge : w.heap.size ≤ g)
  (h : ∀ w2, w2.heap[g]? = some (.cells #[v0, v1, v2] t (0, 0)) → Below w.heap.size w w2 → wpList P ops Q L a w2) :
  wpList P ops Q L a (((W.setCell ⟨g, 0, none⟩ v0).setCell ⟨g, 1, none⟩ v1).setCell ⟨g, 2, none⟩ v2) := by
 refine h _ ?_ ?_
 ·refine blk_put (cs := #[v0, v1, u2]) ?_ 2 v2 (by simp)
  refine blk_put (cs := #[v0, u1, u2]) ?_ 1 v1 (by simp)
  exact blk_put hb 0 v0 (by simp)
 ·iterate 3 refine below_set ?_ hge
  exact hB
def runnellaw16_live.f (k : Nat) : Option Bool := (plan_Kinds.f k (live_nodes 0) [2] 9).bind fun a => (if a.2 = 0 then (if a.1.length = 3 then (if (rd_L3 a.1 2).length = 1 then ((plan_Check.f k (live_nodes 1) [2] 9).bind fun b => (if b.1 = 160 then (if b.2 = 1 then some true else none) else none)) else none) else none) else none)
theorem runnellaw16_live.mono : ∀ k, LeO (runnellaw16_live.f k) (runnellaw16_live.f (k + 1)) := by
 intro k
 unfold runnellaw16_live.f
 repeat' first
   | (with_reducible exact plan_Kinds.mono _ _ _ _)
   | (with_reducible exact plan_Check.mono _ _ _ _)
   | (with_reducible exact LeO.refl _)
   | (with_reducible exact LeO.none _)
   | (with_reducible refine LeO.ite ?_ ?_)
   | (with_reducible refine LeO.bind ?_ (fun _ => ?_))
theorem runnellaw16_live.calls (k : Nat) (r : Bool) (w : World) (h : runnellaw16_live.f k = some r) :
  Calls Try.prog 12 #[] w fun e w' => e = .returned (.bool r) ∧ Below w.heap.size w w' := by
 have hu25 := Try.underlying25
 have hu42 := Try.underlying42
 have HB := zz (Below.refl w.heap.size w)
 unfold runnellaw16_live.f at h
 replace h := Option.bind_eq_some_iff.mp h
 obtain ⟨⟨kd, e⟩, h0, h⟩ := h
 dsimp only at h
 have AK := zz h0
 clear h0
 by_cases z : e = 0
 rotate_left
 ·rw [if_neg z] at h; exact absurd h (by simp)
 rw [if_pos z] at h
 by_cases n3 : kd.length = 3
 rotate_left
 ·rw [if_neg n3] at h; exact absurd h (by simp)
 rw [if_pos n3] at h
 by_cases n1 : (rd_L3 kd 2).length = 1
 rotate_left
 ·rw [if_neg n1] at h; exact absurd h (by simp)
 rw [if_pos n1] at h
 subst z
 replace h := Option.bind_eq_some_iff.mp h
 obtain ⟨⟨f, at_⟩, h0, h⟩ := h
 dsimp only at h
 have AC := zz h0
 clear h0
 by_cases z1 : f = 160
 rotate_left
 ·rw [if_neg z1] at h; exact absurd h (by simp)
 rw [if_pos z1] at h
 by_cases z2 : at_ = 1
 rotate_left
 ·rw [if_neg z2] at h; exact absurd h (by simp)
 rw [if_pos z2] at h
 subst z1
 subst z2
 simp only [Option.some.injEq] at h
 subst h
 have N3 := zz n3
 have N1 := zz n1
 clear n3 n1
 go_enter Try.func12, Try.ntmps12
 go_wp2_with (first | ((with_reducible refine gate_dst (N := 6) rfl ?_); refine lit_event (cs := #[.int .i64 0]) (t := 3) (n := 1) (m := 1) ?hg (N := 6) ?hd ?hr ?_; (case hd => rfl); (case hg => rfl); (case hr => first | (go_simp; done) | (go_simp; rfl)); intro g6 hg_ w6 hbox hb; have G6 := zz ((by rw [hg_]; exact (below_size (bel HB.out))) : w.heap.size ≤ g6); skip; have mb_ := zz (below_step (bel HB.out) hb); clear  HB hb; have HB := mb_; clear  mb_; have B6 := zz hbox; clear hbox hg_) | ((with_reducible refine gate_dst (N := 8) rfl ?_); refine lit_event (cs := #[.int .i64 0]) (t := 3) (n := 1) (m := 1) ?hg (N := 8) ?hd ?hr ?_; (case hd => rfl); (case hg => rfl); (case hr => first | (go_simp; done) | (go_simp; rfl)); intro g8 hg_ w8 hbox hb; have G8 := zz ((by rw [hg_]; exact (below_size (bel HB.out))) : w.heap.size ≤ g8); have L6_8 := zz ((by rw [hg_]; exact blk_lt (g := g6) (o := _) (bk B6.out)) : g6 < g8); have m0_ := zz (blk_below (g := g6) (o := _) (bk B6.out) hb); have mb_ := zz (below_step (bel HB.out) hb); clear B6 HB hb; have B6 := m0_; have HB := mb_; clear m0_ mb_; have B8 := zz hbox; clear hbox hg_) | ((with_reducible refine gate_dst (N := 10) rfl ?_); refine lit_event (cs := #[.int .i64 0, .int .i64 1]) (t := 3) (n := 2) (m := 2) ?hg (N := 10) ?hd ?hr ?_; (case hd => rfl); (case hg => rfl); (case hr => first | (go_simp; done) | (go_simp; rfl)); intro g10 hg_ w10 hbox hb; have G10 := zz ((by rw [hg_]; exact (below_size (bel HB.out))) : w.heap.size ≤ g10); have L6_10 := zz ((by rw [hg_]; exact blk_lt (g := g6) (o := _) (bk B6.out)) : g6 < g10); have L8_10 := zz ((by rw [hg_]; exact blk_lt (g := g8) (o := _) (bk B8.out)) : g8 < g10); have m0_ := zz (blk_below (g := g6) (o := _) (bk B6.out) hb); have m1_ := zz (blk_below (g := g8) (o := _) (bk B8.out) hb); have mb_ := zz (below_step (bel HB.out) hb); clear B6 B8 HB hb; have B6 := m0_; have B8 := m1_; have HB := mb_; clear m0_ m1_ mb_; have B10 := zz hbox; clear hbox hg_) | ((with_reducible refine gate_dst (N := 12) rfl ?_); refine lit_event (cs := #[.int .i64 0, .slice none 0 0, .slice (some ⟨g6, 0, none⟩) 1 1, .slice none 0 0, .slice none 0 0, .int .i64 0, .int .i64 0, .int .i64 0, .int .i64 0, .int .i64 9, .slice (some ⟨g8, 0, none⟩) 1 1, .slice none 0 0, .slice none 0 0, .slice none 0 0, .int .i64 0, .int .i64 0, .int .i64 0, .int .i64 0, .int .i64 15, .slice (some ⟨g10, 0, none⟩) 2 2, .slice none 0 0, .slice none 0 0, .slice none 0 0, .int .i64 1, .int .i64 0, .int .i64 0, .int .i64 0]) (t := 42) (n := 3) (m := 3) ?hg (N := 12) ?hd ?hr ?_; (case hd => rfl); (case hg => rfl); (case hr => first | (go_simp; done) | (go_simp; rfl)); intro g12 hg_ w12 hbox hb; have G12 := zz ((by rw [hg_]; exact (below_size (bel HB.out))) : w.heap.size ≤ g12); have L6_12 := zz ((by rw [hg_]; exact blk_lt (g := g6) (o := _) (bk B6.out)) : g6 < g12); have L8_12 := zz ((by rw [hg_]; exact blk_lt (g := g8) (o := _) (bk B8.out)) : g8 < g12); have L10_12 := zz ((by rw [hg_]; exact blk_lt (g := g10) (o := _) (bk B10.out)) : g10 < g12); have m0_ := zz (blk_below (g := g6) (o := _) (bk B6.out) hb); have m1_ := zz (blk_below (g := g8) (o := _) (bk B8.out) hb); have m2_ := zz (blk_below (g := g10) (o := _) (bk B10.out) hb); have mb_ := zz (below_step (bel HB.out) hb); clear B6 B8 B10 HB hb; have B6 := m0_; have B8 := m1_; have B10 := m2_; have HB := mb_; clear m0_ m1_ m2_ mb_; have B12 := zz hbox; clear hbox hg_) | ((with_reducible refine gate_dst (N := 13) rfl ?_); refine lit_event (cs := #[.int .i64 2]) (t := 3) (n := 1) (m := 1) ?hg (N := 13) ?hd ?hr ?_; (case hd => rfl); (case hg => rfl); (case hr => first | (go_simp; done) | (go_simp; rfl)); intro g13 hg_ w13 hbox hb; have G13 := zz ((by rw [hg_]; exact (below_size (bel HB.out))) : w.heap.size ≤ g13); have L6_13 := zz ((by rw [hg_]; exact blk_lt (g := g6) (o := _) (bk B6.out)) : g6 < g13); have L8_13 := zz ((by rw [hg_]; exact blk_lt (g := g8) (o := _) (bk B8.out)) : g8 < g13); have L10_13 := zz ((by rw [hg_]; exact blk_lt (g := g10) (o := _) (bk B10.out)) : g10 < g13); have L12_13 := zz ((by rw [hg_]; exact blk_lt (g := g12) (o := _) (bk B12.out)) : g12 < g13); have m0_ := zz (blk_below (g := g6) (o := _) (bk B6.out) hb); have m1_ := zz (blk_below (g := g8) (o := _) (bk B8.out) hb); have m2_ := zz (blk_below (g := g10) (o := _) (bk B10.out) hb); have m3_ := zz (blk_below (g := g12) (o := _) (bk B12.out) hb); have mb_ := zz (below_step (bel HB.out) hb); clear B6 B8 B10 B12 HB hb; have B6 := m0_; have B8 := m1_; have B10 := m2_; have B12 := m3_; have HB := mb_; clear m0_ m1_ m2_ m3_ mb_; have B13 := zz hbox; clear hbox hg_) | ((with_reducible refine gate_dst (N := 1) rfl ?_); refine box_event ?hg (N := 1) ?hd (cs := #[.slice none 0 0, .slice none 0 0, .int .i64 0]) (t := 25) ?hr ?_; (case hd => rfl); (case hg => rfl); (case hr => first | (go_simp; done) | (go_simp; rfl)); intro gp hg_ wz hbox hb; have BZ := zz hbox; have HBZ := zz hb; have GZ := zz (Nat.le_of_eq hg_.symm); have Gp := zz ((by rw [hg_]; exact (below_size (bel HB.out))) : w.heap.size ≤ gp); clear hb hbox hg_; obtain ⟨hz0, hz1, hz2⟩ := three_cells BZ.out; have hfz0 := blk_frozen BZ.out 0; have hfz1 := blk_frozen BZ.out 1; have hfz2 := blk_frozen BZ.out 2) | ((with_reducible refine gate_dst (N := 16) rfl ?_); (with_reducible refine three_event BZ.out HBZ.out GZ.out ?_); intro w2 hbox hb; have m0_ := zz (blk_below (g := g6) (o := _) (bk B6.out) hb); have m1_ := zz (blk_below (g := g8) (o := _) (bk B8.out) hb); have m2_ := zz (blk_below (g := g10) (o := _) (bk B10.out) hb); have m3_ := zz (blk_below (g := g12) (o := _) (bk B12.out) hb); have m4_ := zz (blk_below (g := g13) (o := _) (bk B13.out) hb); have mb_ := zz (below_step (bel HB.out) hb); clear B6 B8 B10 B12 B13 HB hb; have B6 := m0_; have B8 := m1_; have B10 := m2_; have B12 := m3_; have B13 := m4_; have HB := mb_; clear m0_ m1_ m2_ m3_ m4_ mb_; have BP := zz hbox; clear hbox BZ HBZ; obtain ⟨hpw2_0, hpw2_1, hpw2_2⟩ := three_cells BP.out) | ((with_reducible refine gate_callee (f := 15) rfl ?_); refine goesL_ (some 17) rfl rfl Try.func15 (by kernel_rfl) rfl #[.agg #[.slice (some ⟨g12, 0, none⟩) 3 3, .slice (some ⟨g13, 0, none⟩) 1 1, .int .i64 9]] rfl (by (try simp only [List.map_toArray, List.map_cons, List.map_nil]); first | done | rfl) ?_; (refine (plan_Kinds.calls k (some ⟨g12, 0, none⟩) 3 (live_nodes 0) (some ⟨g13, 0, none⟩) 1 [2] 9 kd 0 _ (C_nodes (x := 0) (bk B12.out) (bk B6.out) (bk B8.out) (bk B10.out)) (Nat.le_refl _) (C_int1 (x := 2) (bk B13.out)) (Nat.le_refl _) AK.out).mono ?_); rintro e9 w3 ⟨v0_, rfl, hr_, hb⟩; refine ⟨_, rfl, ?_⟩; obtain ⟨Ak, ck, ev0⟩ := Kd.R_slice hr_; subst ev0; have HK := zz hr_; have S2 := zz (show g8 < w2.heap.size from blk_lt B8.out); clear hr_; have m0_ := zz (blk_below (g := g6) (o := _) (bk B6.out) hb); have m1_ := zz (blk_below (g := g8) (o := _) (bk B8.out) hb); have m2_ := zz (blk_below (g := g10) (o := _) (bk B10.out) hb); have m3_ := zz (blk_below (g := g12) (o := _) (bk B12.out) hb); have m4_ := zz (blk_below (g := g13) (o := _) (bk B13.out) hb); have m5_ := zz (blk_below (g := gp) (o := _) (bk BP.out) hb); have mb_ := zz (below_step (bel HB.out) hb); clear B6 B8 B10 B12 B13 BP HB hb; have B6 := m0_; have B8 := m1_; have B10 := m2_; have B12 := m3_; have B13 := m4_; have BP := m5_; have HB := mb_; clear m0_ m1_ m2_ m3_ m4_ m5_ mb_; obtain ⟨hpw3_0, hpw3_1, hpw3_2⟩ := three_cells BP.out; have hn10 : w3.cell? ⟨g12, 10, none⟩ = some (.slice (some ⟨g8, 0, none⟩) 1 1) := (blk_cell B12.out 10).trans rfl; have h8 : w3.cell? ⟨g8, 0, none⟩ = some (.int .i64 0) := (blk_cell B8.out 0).trans rfl; have hf8 := blk_frozen B8.out 0) | ((with_reducible refine gate_store (t := 3) (p := 25) rfl ?_); refine store_event (t := 3) (p := 25) (v := ?vo_) (w1 := (w3.setCell ⟨g8, 0, none⟩ (.int .i64 1))) ?hg ?ho ?hn ?hr ?_; (case ho => rfl); (case hg => rfl); (case hn => rfl); (case hr => first | (go_simp; done) | (go_simp; rfl)); intro w4 hw; have nB6_ := zz (show w4.heap[g6]? = some (.cells #[.int .i64 0] 3 (0, 0)) from by rw [hw]; exact blk_far B6.out (p := ⟨g8, 0, none⟩) (Nat.ne_of_lt L6_8.out) _); have nB10_ := zz (show w4.heap[g10]? = some (.cells #[.int .i64 0, .int .i64 1] 3 (0, 0)) from by rw [hw]; exact blk_far B10.out (p := ⟨g8, 0, none⟩) (Nat.ne_of_gt L8_10.out) _); have nB12_ := zz (show w4.heap[g12]? = some (.cells #[.int .i64 0, .slice none 0 0, .slice (some ⟨g6, 0, none⟩) 1 1, .slice none 0 0, .slice none 0 0, .int .i64 0, .int .i64 0, .int .i64 0, .int .i64 0, .int .i64 9, .slice (some ⟨g8, 0, none⟩) 1 1, .slice none 0 0, .slice none 0 0, .slice none 0 0, .int .i64 0, .int .i64 0, .int .i64 0, .int .i64 0, .int .i64 15, .slice (some ⟨g10, 0, none⟩) 2 2, .slice none 0 0, .slice none 0 0, .slice none 0 0, .int .i64 1, .int .i64 0, .int .i64 0, .int .i64 0] 42 (0, 0)) from by rw [hw]; exact blk_far B12.out (p := ⟨g8, 0, none⟩) (Nat.ne_of_gt L8_12.out) _); have nB13_ := zz (show w4.heap[g13]? = some (.cells #[.int .i64 2] 3 (0, 0)) from by rw [hw]; exact blk_far B13.out (p := ⟨g8, 0, none⟩) (Nat.ne_of_gt L8_13.out) _); have nBP_ := zz (show w4.heap[gp]? = some (.cells #[.slice (some ⟨g12, 0, none⟩) 3 3, .slice (some ⟨g13, 0, none⟩) 1 1, .int .i64 9] 25 (0, 0)) from by rw [hw]; exact blk_far BP.out (p := ⟨g8, 0, none⟩) (blk_ne BP.out B8.out (by decide)) _); have n8_ := zz (show w4.heap[g8]? = some (.cells #[.int .i64 1] 3 (0, 0)) from by rw [hw]; exact blk_put B8.out 0 _ (by simp)); have nk_ := zz (show (Kd.slice 3 (Kd.int .i64)).R 23 w4 w2.heap.size (fun _ => True) (.slice Ak kd.length ck) kd from by rw [hw]; exact Kd.R_mono (Kd.R_far (p := ⟨g8, 0, none⟩) (Kd.R_bound HK.out) (fun k_ hk => by have := hk.2.1; have := S2.out; show k_ ≠ g8; omega) _) (fun _ _ => trivial)); have nb_ := zz ((by rw [hw]; exact below_set (HB.out) G8.out : Below w.heap.size w w4)); clear B6 B8 B10 B12 B13 BP HK HB hw; have B6 := nB6_; have B8 := n8_; have B10 := nB10_; have B12 := nB12_; have B13 := nB13_; have BP := nBP_; have HK := nk_; have HB := nb_; clear nB6_ n8_ nB10_ nB12_ nB13_ nBP_ nk_ nb_; obtain ⟨hpw4_0, hpw4_1, hpw4_2⟩ := three_cells BP.out) | ((with_reducible refine gate_callee (f := 13) rfl ?_); refine goesL_ (some 28) rfl rfl Try.func13 (by kernel_rfl) rfl #[.agg #[.slice (some ⟨g12, 0, none⟩) 3 3, .slice (some ⟨g13, 0, none⟩) 1 1, .int .i64 9]] rfl (by (try simp only [List.map_toArray, List.map_cons, List.map_nil]); first | done | rfl) ?_; (refine (plan_Check.calls k (some ⟨g12, 0, none⟩) 3 (live_nodes 1) (some ⟨g13, 0, none⟩) 1 [2] 9 160 1 _ (C_nodes (x := 1) (bk B12.out) (bk B6.out) (bk B8.out) (bk B10.out)) (Nat.le_refl _) (C_int1 (x := 2) (bk B13.out)) (Nat.le_refl _) AC.out).mono ?_); rintro e9 w5 ⟨rfl, hb⟩; refine ⟨_, rfl, ?_⟩; have HK5 := zz (Kd.R_below (rl HK.out) hb); have n1_ := zz (below_step (bel HB.out) hb); clear HB HK hb; have HB := n1_; clear n1_; obtain ⟨adk, Aq, cq, ea, hxk, -, -⟩ := at_L3 (Kd.R_reads' HK5.out).2.2 2 (by decide) (by have := N3.out; omega); cases ea; replace hxk : w5.cell? (adk.add 2) = some (.slice Aq 1 cq) := (by have h_ := hxk; rw [N1.out] at h_; exact h_); have hxk2 : w5.cell? ⟨adk.block, adk.off + 2, none⟩ = some (.slice Aq 1 cq) := hxk; have e31 : ((kd.length : Int) == 3) = true := beq_iff_eq.mpr (by have := N3.out; omega); have e32 : (kd.length == 3) = true := beq_iff_eq.mpr N3.out; have e33 : ((2 : Int) < (kd.length : Int)) = True := eq_true (by have := N3.out; omega); have e34 : (2 < kd.length) = True := eq_true (by have := N3.out; omega); have e35 := N3.out) | ((with_reducible refine gate_callee (f := 17) rfl ?_); (try (refine gate_guard (by rfl) ?_; dsimp only)); refine goesL_ (some 32) rfl rfl Try.func17 (by kernel_rfl) rfl #[.int .i64 0] rfl (by (try simp only [List.map_toArray, List.map_cons, List.map_nil]); first | done | rfl) ?_; (with_reducible refine (runnellaw16_code.calls 0 0 _ rfl).mono ?_); rintro e w' ⟨rfl, ⟨nd, rfl⟩⟩; refine ⟨_, rfl, ?_⟩) | ((with_reducible refine gate_callee (f := 17) rfl ?_); (try (refine gate_guard (by rfl) ?_; dsimp only)); refine goesL_ (some 48) rfl rfl Try.func17 (by kernel_rfl) rfl #[.int .i64 160] rfl (by (try simp only [List.map_toArray, List.map_cons, List.map_nil]); first | done | rfl) ?_; (with_reducible refine (runnellaw16_code.calls 160 160 _ rfl).mono ?_); rintro e w' ⟨rfl, ⟨nd, rfl⟩⟩; refine ⟨_, rfl, ?_⟩))
 go_ret
 exact ⟨by first | rfl | simp, (bel HB.out)⟩



/-! ### plan_Order: function 14, by hand -/
def plan_Order.f (k : Nat) (l0_0 : List (S42)) (l0_1 : List Int) (a0_2 : Int) : Option (List Int × Int) := (plan_all.f k l0_0 l0_1 a0_2).bind fun r => some (r.1, r.2.2.1)
theorem plan_Order.calls (k : Nat) (A0_0 : Option Addr) (c0_0 : Nat) (l0_0 : List (S42)) (A0_1 : Option Addr) (c0_1 : Nat) (l0_1 : List Int) (a0_2 : Int) (r1 : List Int) (r2 : Int) (w : World) (hr0_0 : Kd.C k42 w A0_0 l0_0.length l0_0) (hc0_0 : l0_0.length ≤ c0_0) (hr0_1 : Kd.C (Kd.int .i64) w A0_1 l0_1.length l0_1) (hc0_1 : l0_1.length ≤ c0_1) (h : plan_Order.f k l0_0 l0_1 a0_2 = some (r1, r2)) :
  Calls Try.prog 14 #[.agg #[.slice A0_0 l0_0.length c0_0, .slice A0_1 l0_1.length c0_1, .int .i64 a0_2]] w fun e w' => ∃ v0_ : Value, e = .returned (.tuple #[v0_, .int .i64 r2]) ∧ Kd.R (Kd.int .i64) 3 w' w.heap.size (fun _ => True) v0_ r1 ∧ Below w.heap.size w w' := by
 have hu25 := Try.underlying25
 have HR0 := zz hr0_0
 have HC0 := zz hc0_0
 have HR1 := zz hr0_1
 have HC1 := zz hc0_1
 clear hr0_0 hc0_0 hr0_1 hc0_1
 have HB := zz (Below.refl w.heap.size w)
 unfold plan_Order.f at h
 replace h := Option.bind_eq_some_iff.mp h
 obtain ⟨⟨l, kd, e0, at0⟩, h0, h⟩ := h
 have AT := zz h0
 clear h0
 simp only [Option.some.injEq, Prod.mk.injEq] at h
 obtain ⟨rfl, rfl⟩ := h
 go_enter Try.func14, Try.ntmps14
 go_wp2_with (first | ((with_reducible refine gate_dst (N := 1) rfl ?_); refine box_event ?hg (N := 1) ?hd (cs := #[.slice A0_0 l0_0.length c0_0, .slice A0_1 l0_1.length c0_1, .int .i64 a0_2]) (t := 25) ?hr ?_; (case hd => rfl); (case hg => rfl); (case hr => first | (go_simp; done) | (go_simp; rfl)); intro gp hg_ w1 hbox hb; have n0_ := zz (below_step (bel HB.out) hb); have BP := zz hbox; clear HB; have HB := n0_; clear n0_ hb hbox hg_; obtain ⟨hc_0, hc_1, hc_2⟩ := three_cells BP.out) | ((with_reducible refine gate_callee (f := 49) rfl ?_); refine goesL_ (some 10) rfl rfl Try.func49 (by kernel_rfl) rfl #[.agg #[.slice A0_0 l0_0.length c0_0, .slice A0_1 l0_1.length c0_1, .int .i64 a0_2]] rfl (by (try simp only [List.map_toArray, List.map_cons, List.map_nil]); first | done | rfl) ?_; (with_reducible refine (plan_all.calls k A0_0 c0_0 l0_0 A0_1 c0_1 l0_1 a0_2 l kd e0 at0 _ (Kd.C_below HR0.out (bel HB.out)) HC0.out (Kd.C_below HR1.out (bel HB.out)) HC1.out AT.out).mono ?_); rintro e w9 ⟨v0_, v1_, rfl, hl, hk, hb⟩; refine ⟨_, rfl, ?_⟩; have HL := zz (Kd.R_lower hl (below_size (bel HB.out))); have HK := zz (Kd.R_lower hk (below_size (bel HB.out))); have n1_ := zz (below_step (bel HB.out) hb); clear HB hl hk; have HB := n1_; clear n1_ hb))
 go_ret2
 exact ⟨_, rfl, HL.out, HB.out⟩


/-! ### runnelref16_in: function 55 -/
def runnelref16_in.f (a0 : Int) (a1 : Int) (a2 : Int) : Option (Bool) := if a1 ≤ a0 then (some (decide (a0 ≤ a2))) else (some false)
theorem runnelref16_in.calls (a0 : Int) (a1 : Int) (a2 : Int) (r : Bool) (w : World) (h : runnelref16_in.f a0 a1 a2 = some r) :
  Calls Try.prog 55 #[.int .i64 a0, .int .i64 a1, .int .i64 a2] w fun e w' => e = .returned (.bool r) ∧ Drawn0 w w' := by
 have H := h
 unfold runnelref16_in.f at H
 clear h
 by_cases c4 : a1 ≤ a0
 ·rw [if_pos c4] at H
  have c4b0 : decide (a1 ≤ a0) = true := decide_eq_true c4
  clear c4
  obtain rfl := Option.some.inj H
  go_enter Try.func55, Try.ntmps55
  go_wp2
  go_ret
  exact ⟨by first | rfl | (simp; done) | (simp [*]; done), by repeat (first | exact Drawn0.refl _ | apply Drawn0.step)⟩
 ·rw [if_neg c4] at H
  have c4b0 : decide (a1 ≤ a0) = false := decide_eq_false c4
  clear c4
  obtain rfl := Option.some.inj H
  go_enter Try.func55, Try.ntmps55
  go_wp2
  go_ret
  exact ⟨by first | rfl | (simp; done) | (simp [*]; done), by repeat (first | exact Drawn0.refl _ | apply Drawn0.step)⟩


/-! ### runnelref16_shape: function 50, by hand -/
def runnelref16_shape.l0 : Nat → Int → List Int → Int → Option Bool
 | 0, _, _, _ => none
 | k + 1, n, l, i => if i < (l.length : Int) then (if 0 ≤ i then ((runnelref16_in.f (rd l i) 0 (wrap64 (n - 1))).bind fun t => (if t = true then (runnelref16_shape.l0 k n l (wrap64 (i + 1))) else some false)) else none) else some true
def ref16_low (kind : Int) : Int := if kind = 15 then 2 else if kind = 0 then 0 else 1
def ref16_high (kind : Int) : Int := if kind = 15 then 2 else if kind = 4 then 8 else if kind = 0 then 0 else 1
def runnelref16_shape.l1 : Nat → List S42 → Int → Option (Int × Int)
 | 0, _, _ => none
 | k + 1, nodes, i => if i < (nodes.length : Int) then (if 0 ≤ i then ((runnelref16_in.f (rd_T42 nodes i).f0 0 15).bind fun a => (if a = true then ((runnelref16_in.f ((rd_T42 nodes i).f1.length : Int) (ref16_low (rd_T42 nodes i).f0) (ref16_high (rd_T42 nodes i).f0)).bind fun b => (if b = true then ((runnelref16_shape.l0 k (nodes.length : Int) (rd_T42 nodes i).f1 0).bind fun c => (if c = true then (runnelref16_shape.l1 k nodes (wrap64 (i + 1))) else some (9, i))) else some (1, i))) else some (8, i))) else none) else some (0, (nodes.length : Int))
def runnelref16_shape.f (k : Nat) (nodes : List S42) (outs : List Int) (room : Int) : Option (Int × Int) := if (nodes.length : Int) > 64 then some (3, (nodes.length : Int)) else (if (outs.length : Int) > 8 then some (3, (nodes.length : Int)) else (if (nodes.length : Int) = 0 then some (1, (nodes.length : Int)) else (if (outs.length : Int) = 0 then some (1, (nodes.length : Int)) else ((runnelref16_in.f room 1 65536).bind fun t => (if t = true then ((runnelref16_shape.l0 k (nodes.length : Int) outs 0).bind fun c => (if c = true then (runnelref16_shape.l1 k nodes 0) else some (9, (nodes.length : Int)))) else some (1, (nodes.length : Int)))))))
theorem runnelref16_shape.calls (k : Nat) (An : Option Addr) (cn : Nat) (nodes : List (S42)) (Ao : Option Addr) (co : Nat) (outs : List Int) (room : Int) (r1 : Int) (r2 : Int) (w : World) (hr0_0 : Kd.C k42 w An nodes.length nodes) (hc0_0 : nodes.length ≤ cn) (hr0_1 : Kd.C (Kd.int .i64) w Ao outs.length outs) (hc0_1 : outs.length ≤ co) (h : runnelref16_shape.f k nodes outs room = some (r1, r2)) :
  Calls Try.prog 50 #[.agg #[.slice An nodes.length cn, .slice Ao outs.length co, .int .i64 room]] w fun e w' => e = .returned (.tuple #[.int .i64 r1, .int .i64 r2]) ∧ Below w.heap.size w w' := by
 have hu25 := Try.underlying25
 have hu42 := Try.underlying42
 have HRN := zz hr0_0
 have HRO := zz hr0_1
 clear hr0_0 hc0_0 hr0_1 hc0_1
 have HB := zz (Below.refl w.heap.size w)
 unfold runnelref16_shape.f at h
 by_cases a : (nodes.length : Int) > 64
 ·rw [if_pos a] at h
  simp only [Option.some.injEq, Prod.mk.injEq] at h
  obtain ⟨rfl, rfl⟩ := h
  have aa : decide (64 < (nodes.length : Int)) = true := decide_eq_true (by omega)
  have ab : decide (64 < nodes.length) = true := decide_eq_true (by omega)
  clear a
  go_enter Try.func50, Try.ntmps50
  go_wp2_with (first | ((with_reducible refine gate_dst (N := 1) rfl ?_); refine box_event ?hg (N := 1) ?hd (cs := #[.slice An nodes.length cn, .slice Ao outs.length co, .int .i64 room]) (t := 25) ?hr ?_; (case hd => rfl); (case hg => rfl); (case hr => first | (go_simp; done) | (go_simp; rfl)); intro gb hg_ w1 hbox hb; have n0_ := zz (below_step (bel HB.out) hb); have BK := zz hbox; have GEb := zz ((by rw [hg_]; exact (below_size (bel HB.out))) : w.heap.size ≤ gb); clear HB; have HB := n0_; clear n0_ hb hbox hg_; obtain ⟨hc1_0, hc1_1, hc1_2⟩ := three_cells BK.out))
  go_ret2
  exact ⟨by first | rfl | simp, (bel HB.out)⟩
 rw [if_neg a] at h
 have aa : decide (64 < (nodes.length : Int)) = false := decide_eq_false (by omega)
 have ab : decide (64 < nodes.length) = false := decide_eq_false (by omega)
 clear a
 by_cases b : (outs.length : Int) > 8
 ·rw [if_pos b] at h
  simp only [Option.some.injEq, Prod.mk.injEq] at h
  obtain ⟨rfl, rfl⟩ := h
  have ba : decide (8 < (outs.length : Int)) = true := decide_eq_true (by omega)
  have bb : decide (8 < outs.length) = true := decide_eq_true (by omega)
  clear b
  go_enter Try.func50, Try.ntmps50
  go_wp2_with (first | ((with_reducible refine gate_dst (N := 1) rfl ?_); refine box_event ?hg (N := 1) ?hd (cs := #[.slice An nodes.length cn, .slice Ao outs.length co, .int .i64 room]) (t := 25) ?hr ?_; (case hd => rfl); (case hg => rfl); (case hr => first | (go_simp; done) | (go_simp; rfl)); intro gb hg_ w1 hbox hb; have n0_ := zz (below_step (bel HB.out) hb); have BK := zz hbox; have GEb := zz ((by rw [hg_]; exact (below_size (bel HB.out))) : w.heap.size ≤ gb); clear HB; have HB := n0_; clear n0_ hb hbox hg_; obtain ⟨hc1_0, hc1_1, hc1_2⟩ := three_cells BK.out))
  go_ret2
  exact ⟨by first | rfl | simp, (bel HB.out)⟩
 rw [if_neg b] at h
 have ba : decide (8 < (outs.length : Int)) = false := decide_eq_false (by omega)
 have bb : decide (8 < outs.length) = false := decide_eq_false (by omega)
 clear b
 by_cases c : (nodes.length : Int) = 0
 ·rw [if_pos c] at h
  simp only [Option.some.injEq, Prod.mk.injEq] at h
  obtain ⟨rfl, rfl⟩ := h
  have ca : ((nodes.length : Int) == 0) = true := beq_iff_eq.mpr (by omega)
  have cb : (nodes.length == 0) = true := beq_iff_eq.mpr (by omega)
  clear c
  go_enter Try.func50, Try.ntmps50
  go_wp2_with (first | ((with_reducible refine gate_dst (N := 1) rfl ?_); refine box_event ?hg (N := 1) ?hd (cs := #[.slice An nodes.length cn, .slice Ao outs.length co, .int .i64 room]) (t := 25) ?hr ?_; (case hd => rfl); (case hg => rfl); (case hr => first | (go_simp; done) | (go_simp; rfl)); intro gb hg_ w1 hbox hb; have n0_ := zz (below_step (bel HB.out) hb); have BK := zz hbox; have GEb := zz ((by rw [hg_]; exact (below_size (bel HB.out))) : w.heap.size ≤ gb); clear HB; have HB := n0_; clear n0_ hb hbox hg_; obtain ⟨hc1_0, hc1_1, hc1_2⟩ := three_cells BK.out))
  go_ret2
  exact ⟨by first | rfl | simp, (bel HB.out)⟩
 rw [if_neg c] at h
 have ca : ((nodes.length : Int) == 0) = false := beq_eq_false_iff_ne.mpr (by omega)
 have cb : (nodes.length == 0) = false := beq_eq_false_iff_ne.mpr (by omega)
 clear c
 by_cases d : (outs.length : Int) = 0
 ·rw [if_pos d] at h
  simp only [Option.some.injEq, Prod.mk.injEq] at h
  obtain ⟨rfl, rfl⟩ := h
  have da : ((outs.length : Int) == 0) = true := beq_iff_eq.mpr (by omega)
  have db : (outs.length == 0) = true := beq_iff_eq.mpr (by omega)
  clear d
  go_enter Try.func50, Try.ntmps50
  go_wp2_with (first | ((with_reducible refine gate_dst (N := 1) rfl ?_); refine box_event ?hg (N := 1) ?hd (cs := #[.slice An nodes.length cn, .slice Ao outs.length co, .int .i64 room]) (t := 25) ?hr ?_; (case hd => rfl); (case hg => rfl); (case hr => first | (go_simp; done) | (go_simp; rfl)); intro gb hg_ w1 hbox hb; have n0_ := zz (below_step (bel HB.out) hb); have BK := zz hbox; have GEb := zz ((by rw [hg_]; exact (below_size (bel HB.out))) : w.heap.size ≤ gb); clear HB; have HB := n0_; clear n0_ hb hbox hg_; obtain ⟨hc1_0, hc1_1, hc1_2⟩ := three_cells BK.out))
  go_ret2
  exact ⟨by first | rfl | simp, (bel HB.out)⟩
 rw [if_neg d] at h
 have da : ((outs.length : Int) == 0) = false := beq_eq_false_iff_ne.mpr (by omega)
 have db : (outs.length == 0) = false := beq_eq_false_iff_ne.mpr (by omega)
 clear d
 replace h := Option.bind_eq_some_iff.mp h
 obtain ⟨t, h0, h⟩ := h
 try dsimp only at h
 have AT := zz h0
 clear h0
 cases t with
 | false =>
  rw [if_neg (by decide)] at h
  simp only [Option.some.injEq, Prod.mk.injEq] at h
  obtain ⟨rfl, rfl⟩ := h
  go_enter Try.func50, Try.ntmps50
  go_wp2_with (first | ((with_reducible refine gate_dst (N := 1) rfl ?_); refine box_event ?hg (N := 1) ?hd (cs := #[.slice An nodes.length cn, .slice Ao outs.length co, .int .i64 room]) (t := 25) ?hr ?_; (case hd => rfl); (case hg => rfl); (case hr => first | (go_simp; done) | (go_simp; rfl)); intro gb hg_ w1 hbox hb; have n0_ := zz (below_step (bel HB.out) hb); have BK := zz hbox; have GEb := zz ((by rw [hg_]; exact (below_size (bel HB.out))) : w.heap.size ≤ gb); clear HB; have HB := n0_; clear n0_ hb hbox hg_; obtain ⟨hc1_0, hc1_1, hc1_2⟩ := three_cells BK.out) | ((with_reducible refine gate_callee (f := 55) rfl ?_); (try (refine gate_guard (by rfl) ?_; dsimp only)); refine goesL_ (some 34) rfl rfl Try.func55 (by kernel_rfl) rfl #[.int .i64 room, .int .i64 1, .int .i64 65536] rfl (by (try simp only [List.map_toArray, List.map_cons, List.map_nil]); first | done | rfl | (have el_ := EL.out; have eh_ := EH.out; subst el_; subst eh_; rfl)) ?_; (with_reducible refine (runnelref16_in.calls room 1 65536 false _ AT.out).mono ?_); rintro e w' ⟨rfl, ⟨nd, rfl⟩⟩; refine ⟨_, rfl, ?_⟩))
  go_ret2
  exact ⟨by first | rfl | simp, (bel HB.out)⟩
 | true =>
  rw [if_pos rfl] at h
  replace h := Option.bind_eq_some_iff.mp h
  obtain ⟨c, h0, h⟩ := h
  try dsimp only at h
  have HL := zz h0
  have HE := zz h
  clear h0 h
  go_enter Try.func50, Try.ntmps50
  go_wp2_with (first | ((with_reducible refine gate_dst (N := 1) rfl ?_); refine box_event ?hg (N := 1) ?hd (cs := #[.slice An nodes.length cn, .slice Ao outs.length co, .int .i64 room]) (t := 25) ?hr ?_; (case hd => rfl); (case hg => rfl); (case hr => first | (go_simp; done) | (go_simp; rfl)); intro gb hg_ w1 hbox hb; have n0_ := zz (below_step (bel HB.out) hb); have BK := zz hbox; have GEb := zz ((by rw [hg_]; exact (below_size (bel HB.out))) : w.heap.size ≤ gb); clear HB; have HB := n0_; clear n0_ hb hbox hg_; obtain ⟨hc1_0, hc1_1, hc1_2⟩ := three_cells BK.out) | ((with_reducible refine gate_callee (f := 55) rfl ?_); (try (refine gate_guard (by rfl) ?_; dsimp only)); refine goesL_ (some 34) rfl rfl Try.func55 (by kernel_rfl) rfl #[.int .i64 room, .int .i64 1, .int .i64 65536] rfl (by (try simp only [List.map_toArray, List.map_cons, List.map_nil]); first | done | rfl | (have el_ := EL.out; have eh_ := EH.out; subst el_; subst eh_; rfl)) ?_; (with_reducible refine (runnelref16_in.calls room 1 65536 true _ AT.out).mono ?_); rintro e w' ⟨rfl, ⟨nd, rfl⟩⟩; refine ⟨_, rfl, ?_⟩))
  go_loopg [5] k (fun kq v5 w' => ∃ (i : Int), v5 = .int .i64 i ∧ Aside0 (runnelref16_shape.l0 kq (nodes.length : Int) outs i = some c) ∧ Aside0 (kq ≤ k) ∧ Aside0 (w'.heap[gb]? = some (.cells #[.slice An nodes.length cn, .slice Ao outs.length co, .int .i64 room] 25 (0, 0))) ∧ Aside0 (Below w.heap.size w w'))
  case atStart => exact ⟨0, rfl, HL, ⟨Nat.le_refl _⟩, ⟨(bk BK.out)⟩, ⟨(bel HB.out)⟩⟩
  case round =>
   clear HL BK HB hc1_0 hc1_1 hc1_2
   obtain ⟨i, rfl, HA, HK1, BK, HB⟩ := hrel
   cases gk with
   | zero => exact absurd HA.out (by simp [runnelref16_shape.l0])
   | succ k1 =>
    have h := HA.out
    clear HA
    simp only [runnelref16_shape.l0] at h
    obtain ⟨hc1_0, hc1_1, hc1_2⟩ := three_cells BK.out
    by_cases c1 : i < (outs.length : Int)
    ·rw [if_pos c1] at h
     have c1b : decide (i < (outs.length : Int)) = true := decide_eq_true c1
     by_cases p1 : 0 ≤ i
     rotate_left
     ·rw [if_neg p1] at h; exact absurd h (by simp)
     rw [if_pos p1] at h
     obtain ⟨ado, eo, hx⟩ := Kd.at_int HRO.out i p1 c1
     subst eo
     replace hx := (HB.out.cell (World.block_lt_of_cell? w _ hx)).trans hx
     generalize rd outs i = o at hx h
     replace p1 := eq_true p1
     replace c1 := eq_true c1
     replace h := Option.bind_eq_some_iff.mp h
     obtain ⟨t, h0, h⟩ := h
     try dsimp only at h
     have AI := zz h0
     clear h0
     cases t with
     | true =>
      rw [if_pos rfl] at h
      have H' := zz h
      clear h
      go_wp2_with (first | ((with_reducible refine gate_callee (f := 55) rfl ?_); refine goesL_ (some 52) rfl rfl Try.func55 (by kernel_rfl) rfl #[.int .i64 o, .int .i64 0, .int .i64 (wrap64 ((nodes.length : Int) - 1))] rfl (by (try simp only [List.map_toArray, List.map_cons, List.map_nil]); first | done | rfl | (have el_ := EL.out; have eh_ := EH.out; subst el_; subst eh_; rfl)) ?_; (with_reducible refine (runnelref16_in.calls o 0 (wrap64 ((nodes.length : Int) - 1)) true _ AI.out).mono ?_); rintro e w' ⟨rfl, ⟨nd, rfl⟩⟩; refine ⟨_, rfl, ?_⟩))
      go_roundg k1
      case measure => have := HK1.out; omega
      case rel => exact ⟨(wrap64 (i + 1)), (by first | rfl | (simp; done) | (simp [*]; done)), H', ⟨by have := HK1.out; omega⟩, ⟨(bk BK.out)⟩, ⟨(bel HB.out)⟩⟩
     | false =>
      rw [if_neg (by decide)] at h
      simp only [Option.some.injEq] at h
      subst h
      have h := HE.out
      clear HE
      rw [if_neg (by decide)] at h
      simp only [Option.some.injEq, Prod.mk.injEq] at h
      obtain ⟨rfl, rfl⟩ := h
      go_wp2_with (first | ((with_reducible refine gate_callee (f := 55) rfl ?_); refine goesL_ (some 52) rfl rfl Try.func55 (by kernel_rfl) rfl #[.int .i64 o, .int .i64 0, .int .i64 (wrap64 ((nodes.length : Int) - 1))] rfl (by (try simp only [List.map_toArray, List.map_cons, List.map_nil]); first | done | rfl | (have el_ := EL.out; have eh_ := EH.out; subst el_; subst eh_; rfl)) ?_; (with_reducible refine (runnelref16_in.calls o 0 (wrap64 ((nodes.length : Int) - 1)) false _ AI.out).mono ?_); rintro e w' ⟨rfl, ⟨nd, rfl⟩⟩; refine ⟨_, rfl, ?_⟩))
      go_ret2
      exact ⟨by first | rfl | simp, (bel HB.out)⟩
    ·rw [if_neg c1] at h
     have c1b : decide (i < (outs.length : Int)) = false := decide_eq_false c1
     have c1c : decide ((outs.length : Int) ≤ i) = true := decide_eq_true (by omega)
     clear c1 HK1
     simp only [Option.some.injEq] at h
     subst h
     have h := HE.out
     clear HE
     rw [if_pos rfl] at h
     have HL := zz h
     clear h
     go_wp2_with fail
     go_loopg [6] k (fun kq v6 w' => ∃ (i : Int), v6 = .int .i64 i ∧ Aside0 (runnelref16_shape.l1 kq nodes i = some (r1, r2)) ∧ Aside0 (kq ≤ k) ∧ Aside0 (w'.heap[gb]? = some (.cells #[.slice An nodes.length cn, .slice Ao outs.length co, .int .i64 room] 25 (0, 0))) ∧ Aside0 (Below w.heap.size w w'))
     case atStart => exact ⟨0, rfl, HL, ⟨Nat.le_refl _⟩, ⟨(bk BK.out)⟩, ⟨(bel HB.out)⟩⟩
     case round =>
      clear HL BK HB hc1_0 hc1_1 hc1_2
      obtain ⟨j, rfl, HA, HK2, BK, HB⟩ := hrel
      cases gk with
      | zero => exact absurd HA.out (by simp [runnelref16_shape.l1])
      | succ k2 =>
       have h := HA.out
       clear HA
       simp only [runnelref16_shape.l1] at h
       obtain ⟨hc1_0, hc1_1, hc1_2⟩ := three_cells BK.out
       by_cases c2 : j < (nodes.length : Int)
       rotate_left
       ·rw [if_neg c2] at h
        have c2b : decide (j < (nodes.length : Int)) = false := decide_eq_false c2
        simp only [Option.some.injEq, Prod.mk.injEq] at h
        obtain ⟨rfl, rfl⟩ := h
        go_wp2_with fail
        go_ret2
        exact ⟨by first | rfl | simp, (bel HB.out)⟩
       rw [if_pos c2] at h
       have c2b : decide (j < (nodes.length : Int)) = true := decide_eq_true c2
       by_cases p2 : 0 ≤ j
       rotate_left
       ·rw [if_neg p2] at h; exact absurd h (by simp)
       rw [if_pos p2] at h
       obtain ⟨ad, A1, c1, A2, c2_, A3, c3, A4, c4, e, hx0, hx1, hx2, hx3, hx4, hx5, hx6, hx7, hx8, hl1, hi1, hl2, hi2, hl3, hi3, hl4, hi4⟩ := at_T42 HRN.out j p2 c2
       cases e
       generalize rd_T42 nodes j = x at hx0 hx1 hx2 hx3 hx4 hx5 hx6 hx7 hx8 hl1 hi1 h
       clear hl2 hi2 hl3 hi3 hl4 hi4
       obtain ⟨f0, f1, f2, f3, f4, f5, f6, f7, f8⟩ := x
       dsimp only at hx0 hx1 hx2 hx3 hx4 hx5 hx6 hx7 hx8 hl1 hi1 h
       replace hx0 := (HB.out.cell (World.block_lt_of_cell? w _ hx0)).trans hx0
       replace hx1 := (HB.out.cell (World.block_lt_of_cell? w _ hx1)).trans hx1
       replace hx2 := (HB.out.cell (World.block_lt_of_cell? w _ hx2)).trans hx2
       replace hx3 := (HB.out.cell (World.block_lt_of_cell? w _ hx3)).trans hx3
       replace hx4 := (HB.out.cell (World.block_lt_of_cell? w _ hx4)).trans hx4
       replace hx5 := (HB.out.cell (World.block_lt_of_cell? w _ hx5)).trans hx5
       replace hx6 := (HB.out.cell (World.block_lt_of_cell? w _ hx6)).trans hx6
       replace hx7 := (HB.out.cell (World.block_lt_of_cell? w _ hx7)).trans hx7
       replace hx8 := (HB.out.cell (World.block_lt_of_cell? w _ hx8)).trans hx8
       have HR1 := zz hi1
       clear hi1 hl1
       replace p2 := eq_true p2
       replace c2 := eq_true c2
       replace h := Option.bind_eq_some_iff.mp h
       obtain ⟨ta, h0, h⟩ := h
       try dsimp only at h
       have AA := zz h0
       clear h0
       cases ta with
       | false =>
        rw [if_neg (by decide)] at h
        simp only [Option.some.injEq, Prod.mk.injEq] at h
        obtain ⟨rfl, rfl⟩ := h
        go_wp2_with (first | ((with_reducible refine gate_dst (N := 7) rfl ?_); refine box_event ?hg (N := 7) ?hd (cs := #[.int .i64 0, .slice none 0 0, .slice none 0 0, .slice none 0 0, .slice none 0 0, .int .i64 0, .int .i64 0, .int .i64 0, .int .i64 0]) (t := 42) ?hr ?_; (case hd => rfl); (case hg => rfl); (case hr => first | (go_simp; done) | (go_simp; rfl)); intro gx hg_ wz hbox hb; have BZ := zz hbox; have HBZ := zz hb; have GX := zz (Nat.le_of_eq hg_.symm); clear hb hbox hg_; obtain ⟨hcz_0, hcz_1, hcz_2, hcz_3, hcz_4, hcz_5, hcz_6, hcz_7, hcz_8⟩ := nine_cells BZ.out; have hfz_0 := blk_frozen BZ.out 0; have hfz_1 := blk_frozen BZ.out 1; have hfz_2 := blk_frozen BZ.out 2; have hfz_3 := blk_frozen BZ.out 3; have hfz_4 := blk_frozen BZ.out 4; have hfz_5 := blk_frozen BZ.out 5; have hfz_6 := blk_frozen BZ.out 6; have hfz_7 := blk_frozen BZ.out 7; have hfz_8 := blk_frozen BZ.out 8) | ((with_reducible refine gate_dst (N := 65) rfl ?_); (with_reducible refine nine_event2 BZ.out HBZ.out GX.out ?_); intro w2 hbox hb; have n0_ := zz (blk_below (g := gb) (o := _) (bk BK.out) hb); have n1_ := zz (below_step (bel HB.out) hb); clear BK HB; have BK := n0_; have HB := n1_; clear n0_ n1_; have BX := zz hbox; clear hb hbox BZ HBZ; have hk0 : w2.cell? ⟨gx, 0, none⟩ = some (.int .i64 f0) := (blk_cell BX.out 0).trans rfl; have hk1 : w2.cell? ⟨gx, 1, none⟩ = some (.slice A1 f1.length c1) := (blk_cell BX.out 1).trans rfl) | ((with_reducible refine gate_callee (f := 55) rfl ?_); refine goesL_ (some 67) rfl rfl Try.func55 (by kernel_rfl) rfl #[.int .i64 f0, .int .i64 0, .int .i64 15] rfl (by (try simp only [List.map_toArray, List.map_cons, List.map_nil]); first | done | rfl | (have el_ := EL.out; have eh_ := EH.out; subst el_; subst eh_; rfl)) ?_; (with_reducible refine (runnelref16_in.calls f0 0 15 false _ AA.out).mono ?_); rintro e w' ⟨rfl, ⟨nd, rfl⟩⟩; refine ⟨_, rfl, ?_⟩))
        go_ret2
        exact ⟨by first | rfl | simp, (bel HB.out)⟩
       | true =>
        rw [if_pos rfl] at h
        obtain ⟨lo, hlo⟩ : ∃ lo, ref16_low f0 = lo := ⟨_, rfl⟩
        obtain ⟨hh, hhh⟩ : ∃ hh, ref16_high f0 = hh := ⟨_, rfl⟩
        rw [hlo, hhh] at h
        replace h := Option.bind_eq_some_iff.mp h
        obtain ⟨tb, h0, h⟩ := h
        try dsimp only at h
        have AB := zz h0
        have AH := zz h
        clear h0 h
        have hk : ((f0 == 15) = true ∧ (f0 == 4) = false ∧ (f0 == 0) = false ∧ 2 = lo ∧ 2 = hh) ∨ ((f0 == 15) = false ∧ (f0 == 4) = true ∧ (f0 == 0) = false ∧ 1 = lo ∧ 8 = hh) ∨ ((f0 == 15) = false ∧ (f0 == 4) = false ∧ (f0 == 0) = true ∧ 0 = lo ∧ 0 = hh) ∨ ((f0 == 15) = false ∧ (f0 == 4) = false ∧ (f0 == 0) = false ∧ 1 = lo ∧ 1 = hh) := by
         rw [← hlo, ← hhh]
         unfold ref16_low ref16_high
         simp only [beq_iff_eq, beq_eq_false_iff_ne]
         by_cases k15 : f0 = 15
         ·subst k15; decide
         by_cases k4 : f0 = 4
         ·subst k4; decide
         by_cases k0 : f0 = 0
         ·subst k0; decide
         simp [k15, k4, k0]
        clear hlo hhh
        rcases hk with ⟨kb15, kb4, kb0, el, eh⟩ | ⟨kb15, kb4, kb0, el, eh⟩ | ⟨kb15, kb4, kb0, el, eh⟩ | ⟨kb15, kb4, kb0, el, eh⟩
        all_goals
         have EL := zz el
         have EH := zz eh
         clear el eh
         have h := AH.out
         clear AH
         cases tb with
         | false =>
          rw [if_neg (by decide)] at h
          simp only [Option.some.injEq, Prod.mk.injEq] at h
          obtain ⟨rfl, rfl⟩ := h
          go_wp2_with (first | ((with_reducible refine gate_dst (N := 7) rfl ?_); refine box_event ?hg (N := 7) ?hd (cs := #[.int .i64 0, .slice none 0 0, .slice none 0 0, .slice none 0 0, .slice none 0 0, .int .i64 0, .int .i64 0, .int .i64 0, .int .i64 0]) (t := 42) ?hr ?_; (case hd => rfl); (case hg => rfl); (case hr => first | (go_simp; done) | (go_simp; rfl)); intro gx hg_ wz hbox hb; have BZ := zz hbox; have HBZ := zz hb; have GX := zz (Nat.le_of_eq hg_.symm); clear hb hbox hg_; obtain ⟨hcz_0, hcz_1, hcz_2, hcz_3, hcz_4, hcz_5, hcz_6, hcz_7, hcz_8⟩ := nine_cells BZ.out; have hfz_0 := blk_frozen BZ.out 0; have hfz_1 := blk_frozen BZ.out 1; have hfz_2 := blk_frozen BZ.out 2; have hfz_3 := blk_frozen BZ.out 3; have hfz_4 := blk_frozen BZ.out 4; have hfz_5 := blk_frozen BZ.out 5; have hfz_6 := blk_frozen BZ.out 6; have hfz_7 := blk_frozen BZ.out 7; have hfz_8 := blk_frozen BZ.out 8) | ((with_reducible refine gate_dst (N := 65) rfl ?_); (with_reducible refine nine_event2 BZ.out HBZ.out GX.out ?_); intro w2 hbox hb; have n0_ := zz (blk_below (g := gb) (o := _) (bk BK.out) hb); have n1_ := zz (below_step (bel HB.out) hb); clear BK HB; have BK := n0_; have HB := n1_; clear n0_ n1_; have BX := zz hbox; clear hb hbox BZ HBZ; have hk0 : w2.cell? ⟨gx, 0, none⟩ = some (.int .i64 f0) := (blk_cell BX.out 0).trans rfl; have hk1 : w2.cell? ⟨gx, 1, none⟩ = some (.slice A1 f1.length c1) := (blk_cell BX.out 1).trans rfl) | ((with_reducible refine gate_callee (f := 55) rfl ?_); refine goesL_ (some 67) rfl rfl Try.func55 (by kernel_rfl) rfl #[.int .i64 f0, .int .i64 0, .int .i64 15] rfl (by (try simp only [List.map_toArray, List.map_cons, List.map_nil]); first | done | rfl | (have el_ := EL.out; have eh_ := EH.out; subst el_; subst eh_; rfl)) ?_; (with_reducible refine (runnelref16_in.calls f0 0 15 true _ AA.out).mono ?_); rintro e w' ⟨rfl, ⟨nd, rfl⟩⟩; refine ⟨_, rfl, ?_⟩) | ((with_reducible refine gate_callee (f := 55) rfl ?_); refine goesL_ (some 84) rfl rfl Try.func55 (by kernel_rfl) rfl #[.int .i64 (f1.length : Int), .int .i64 lo, .int .i64 hh] rfl (by (try simp only [List.map_toArray, List.map_cons, List.map_nil]); first | done | rfl | (have el_ := EL.out; have eh_ := EH.out; subst el_; subst eh_; rfl)) ?_; (with_reducible refine (runnelref16_in.calls (f1.length : Int) lo hh false _ AB.out).mono ?_); rintro e w' ⟨rfl, ⟨nd, rfl⟩⟩; refine ⟨_, rfl, ?_⟩))
          go_ret2
          exact ⟨by first | rfl | simp, (bel HB.out)⟩
         | true =>
          rw [if_pos rfl] at h
          replace h := Option.bind_eq_some_iff.mp h
          obtain ⟨tc, h0, h⟩ := h
          try dsimp only at h
          have HL3 := zz h0
          have HE3 := zz h
          clear h0 h
          go_wp2_with (first | ((with_reducible refine gate_dst (N := 7) rfl ?_); refine box_event ?hg (N := 7) ?hd (cs := #[.int .i64 0, .slice none 0 0, .slice none 0 0, .slice none 0 0, .slice none 0 0, .int .i64 0, .int .i64 0, .int .i64 0, .int .i64 0]) (t := 42) ?hr ?_; (case hd => rfl); (case hg => rfl); (case hr => first | (go_simp; done) | (go_simp; rfl)); intro gx hg_ wz hbox hb; have BZ := zz hbox; have HBZ := zz hb; have GX := zz (Nat.le_of_eq hg_.symm); clear hb hbox hg_; obtain ⟨hcz_0, hcz_1, hcz_2, hcz_3, hcz_4, hcz_5, hcz_6, hcz_7, hcz_8⟩ := nine_cells BZ.out; have hfz_0 := blk_frozen BZ.out 0; have hfz_1 := blk_frozen BZ.out 1; have hfz_2 := blk_frozen BZ.out 2; have hfz_3 := blk_frozen BZ.out 3; have hfz_4 := blk_frozen BZ.out 4; have hfz_5 := blk_frozen BZ.out 5; have hfz_6 := blk_frozen BZ.out 6; have hfz_7 := blk_frozen BZ.out 7; have hfz_8 := blk_frozen BZ.out 8) | ((with_reducible refine gate_dst (N := 65) rfl ?_); (with_reducible refine nine_event2 BZ.out HBZ.out GX.out ?_); intro w2 hbox hb; have n0_ := zz (blk_below (g := gb) (o := _) (bk BK.out) hb); have n1_ := zz (below_step (bel HB.out) hb); clear BK HB; have BK := n0_; have HB := n1_; clear n0_ n1_; have BX := zz hbox; clear hb hbox BZ HBZ; have hk0 : w2.cell? ⟨gx, 0, none⟩ = some (.int .i64 f0) := (blk_cell BX.out 0).trans rfl; have hk1 : w2.cell? ⟨gx, 1, none⟩ = some (.slice A1 f1.length c1) := (blk_cell BX.out 1).trans rfl) | ((with_reducible refine gate_callee (f := 55) rfl ?_); refine goesL_ (some 67) rfl rfl Try.func55 (by kernel_rfl) rfl #[.int .i64 f0, .int .i64 0, .int .i64 15] rfl (by (try simp only [List.map_toArray, List.map_cons, List.map_nil]); first | done | rfl | (have el_ := EL.out; have eh_ := EH.out; subst el_; subst eh_; rfl)) ?_; (with_reducible refine (runnelref16_in.calls f0 0 15 true _ AA.out).mono ?_); rintro e w' ⟨rfl, ⟨nd, rfl⟩⟩; refine ⟨_, rfl, ?_⟩) | ((with_reducible refine gate_callee (f := 55) rfl ?_); refine goesL_ (some 84) rfl rfl Try.func55 (by kernel_rfl) rfl #[.int .i64 (f1.length : Int), .int .i64 lo, .int .i64 hh] rfl (by (try simp only [List.map_toArray, List.map_cons, List.map_nil]); first | done | rfl | (have el_ := EL.out; have eh_ := EH.out; subst el_; subst eh_; rfl)) ?_; (with_reducible refine (runnelref16_in.calls (f1.length : Int) lo hh true _ AB.out).mono ?_); rintro e w' ⟨rfl, ⟨nd, rfl⟩⟩; refine ⟨_, rfl, ?_⟩))
          go_loopg [10] k2 (fun kq v10 w' => ∃ (i : Int), v10 = .int .i64 i ∧ Aside0 (runnelref16_shape.l0 kq (nodes.length : Int) f1 i = some tc) ∧ Aside0 (kq ≤ k2) ∧ Aside0 (w'.heap[gb]? = some (.cells #[.slice (some ad) nodes.length cn, .slice Ao outs.length co, .int .i64 room] 25 (0, 0))) ∧ Aside0 (∃ vs : Array Value, w'.heap[gx]? = some (.cells vs 42 (0, 0)) ∧ vs[1]? = some (.slice A1 f1.length c1)) ∧ Aside0 (Below w.heap.size w w'))
          case atStart => exact ⟨0, rfl, HL3, ⟨Nat.le_refl _⟩, ⟨(bk BK.out)⟩, ⟨⟨_, (bk BX.out), rfl⟩⟩, ⟨(bel HB.out)⟩⟩
          case round =>
           clear HL3 BK BX HB hk0 hk1
           obtain ⟨m, rfl, HA, HK3, BK, BX, HB⟩ := hrel
           cases gk with
           | zero => exact absurd HA.out (by simp [runnelref16_shape.l0])
           | succ k3 =>
            have h := HA.out
            clear HA
            simp only [runnelref16_shape.l0] at h
            obtain ⟨vs, bx, hv1⟩ := BX.out
            have hk1 : wr.cell? ⟨gx, 1, none⟩ = some (.slice A1 f1.length c1) := (blk_cell bx 1).trans hv1
            clear bx hv1
            by_cases c5 : m < (f1.length : Int)
            rotate_left
            ·rw [if_neg c5] at h
             have c5b : decide (m < (f1.length : Int)) = false := decide_eq_false c5
             simp only [Option.some.injEq] at h
             subst h
             have h := HE3.out
             rw [if_pos rfl] at h
             have H' := zz h
             clear h HE3 c5
             go_wp2_with fail
             go_roundg k2
             case measure => have := HK2.out; omega
             case rel => exact ⟨(wrap64 (j + 1)), (by first | rfl | (simp; done) | (simp [*]; done)), H', ⟨by have := HK2.out; omega⟩, ⟨(bk BK.out)⟩, ⟨(bel HB.out)⟩⟩
            rw [if_pos c5] at h
            have c5b : decide (m < (f1.length : Int)) = true := decide_eq_true c5
            by_cases p5 : 0 ≤ m
            rotate_left
            ·rw [if_neg p5] at h; exact absurd h (by simp)
            rw [if_pos p5] at h
            obtain ⟨adi, ei, hy⟩ := Kd.at_int HR1.out m p5 c5
            subst ei
            replace hy := (HB.out.cell (World.block_lt_of_cell? w _ hy)).trans hy
            generalize rd f1 m = o3 at hy h
            replace p5 := eq_true p5
            replace c5 := eq_true c5
            replace h := Option.bind_eq_some_iff.mp h
            obtain ⟨t, h0, h⟩ := h
            try dsimp only at h
            have AI := zz h0
            clear h0
            cases t with
            | true =>
             rw [if_pos rfl] at h
             have H' := zz h
             clear h
             go_wp2_with (first | ((with_reducible refine gate_callee (f := 55) rfl ?_); refine goesL_ (some 101) rfl rfl Try.func55 (by kernel_rfl) rfl #[.int .i64 o3, .int .i64 0, .int .i64 (wrap64 ((nodes.length : Int) - 1))] rfl (by (try simp only [List.map_toArray, List.map_cons, List.map_nil]); first | done | rfl | (have el_ := EL.out; have eh_ := EH.out; subst el_; subst eh_; rfl)) ?_; (with_reducible refine (runnelref16_in.calls o3 0 (wrap64 ((nodes.length : Int) - 1)) true _ AI.out).mono ?_); rintro e w' ⟨rfl, ⟨nd, rfl⟩⟩; refine ⟨_, rfl, ?_⟩))
             go_roundg k3
             case measure => have := HK2.out; have := HK3.out; omega
             case rel => exact ⟨(wrap64 (m + 1)), (by first | rfl | (simp; done) | (simp [*]; done)), H', ⟨by have := HK3.out; omega⟩, ⟨(bk BK.out)⟩, ⟨by obtain ⟨vs, b, c⟩ := BX.out; exact ⟨vs, b, c⟩⟩, ⟨(bel HB.out)⟩⟩
            | false =>
             rw [if_neg (by decide)] at h
             simp only [Option.some.injEq] at h
             subst h
             have h := HE3.out
             clear HE3
             rw [if_neg (by decide)] at h
             simp only [Option.some.injEq, Prod.mk.injEq] at h
             obtain ⟨rfl, rfl⟩ := h
             go_wp2_with (first | ((with_reducible refine gate_callee (f := 55) rfl ?_); refine goesL_ (some 101) rfl rfl Try.func55 (by kernel_rfl) rfl #[.int .i64 o3, .int .i64 0, .int .i64 (wrap64 ((nodes.length : Int) - 1))] rfl (by (try simp only [List.map_toArray, List.map_cons, List.map_nil]); first | done | rfl | (have el_ := EL.out; have eh_ := EH.out; subst el_; subst eh_; rfl)) ?_; (with_reducible refine (runnelref16_in.calls o3 0 (wrap64 ((nodes.length : Int) - 1)) false _ AI.out).mono ?_); rintro e w' ⟨rfl, ⟨nd, rfl⟩⟩; refine ⟨_, rfl, ?_⟩))
             go_ret2
             exact ⟨by first | rfl | simp, (bel HB.out)⟩



/-! ### runnelref16_steps: function 51, by hand -/
def runnelref16_steps.l0 : Nat → List Int → List Bool → Int → Option (List Bool)
 | 0, _, _, _ => none
 | k + 1, ins, seen, i => if i < (ins.length : Int) then (if 0 ≤ i then (if 0 ≤ rd ins i then (if rd ins i < (seen.length : Int) then (runnelref16_steps.l0 k ins (seen.set (rd ins i).toNat true) (wrap64 (i + 1))) else none) else none) else none) else some seen
def runnelref16_steps.l3 : Nat → List Int → Int → List Bool → Int → Option (List Bool)
 | 0, _, _, _, _ => none
 | k + 1, ins, ii, seen, i => if i < (ins.length : Int) then (if ii < (seen.length : Int) then (if rdOf false seen ii = true then (if 0 ≤ i then (if 0 ≤ rd ins i then (if rd ins i < (seen.length : Int) then (runnelref16_steps.l3 k ins ii (seen.set (rd ins i).toNat true) (wrap64 (i + 1))) else none) else none) else none) else some seen) else none) else some seen
def runnelref16_steps.l2 : Nat → List S42 → List Bool → Int → Option (List Bool)
 | 0, _, _, _ => none
 | k + 1, nodes, seen, i => if i < (nodes.length : Int) then (if 0 ≤ i then ((runnelref16_steps.l3 k (rd_T42 nodes i).f1 i seen 0).bind fun s => (runnelref16_steps.l2 k nodes s (wrap64 (i + 1)))) else none) else some seen
def runnelref16_steps.l1 : Nat → List S42 → List Bool → Int → Option (List Bool)
 | 0, _, _, _ => none
 | k + 1, nodes, seen, i => if i < (nodes.length : Int) then ((runnelref16_steps.l2 k nodes seen 0).bind fun s => (runnelref16_steps.l1 k nodes s (wrap64 (i + 1)))) else some seen
def runnelref16_steps.f (k : Nat) (nodes : List S42) (outs : List Int) (room : Int) (fr : Int) : Option (List Bool) := if 0 ≤ fr then (if fr < (nodes.length : Int) then (if nodes.length ≤ 281474976710656 then ((runnelref16_steps.l0 k (rd_T42 nodes fr).f1 (List.replicate nodes.length false) 0).bind fun s => (runnelref16_steps.l1 k nodes s 0)) else none) else none) else none
theorem runnelref16_steps.calls (k : Nat) (An : Option Addr) (cn : Nat) (nodes : List (S42)) (Ao : Option Addr) (co : Nat) (outs : List Int) (room : Int) (fr : Int) (r : List Bool) (w : World) (hr0_0 : Kd.C k42 w An nodes.length nodes) (hc0_0 : nodes.length ≤ cn) (hr0_1 : Kd.C (Kd.int .i64) w Ao outs.length outs) (hc0_1 : outs.length ≤ co) (h : runnelref16_steps.f k nodes outs room fr = some r) :
  Calls Try.prog 51 #[.agg #[.slice An nodes.length cn, .slice Ao outs.length co, .int .i64 room], .int .i64 fr] w fun e w' => ∃ v0_ : Value, e = .returned (v0_) ∧ Kd.R Kd.bool 4 w' w.heap.size (fun _ => True) v0_ r ∧ Below w.heap.size w w' := by
 have hu25 := Try.underlying25
 have hu42 := Try.underlying42
 have HRN := zz hr0_0
 clear hr0_0 hc0_0 hr0_1 hc0_1
 have HB := zz (Below.refl w.heap.size w)
 unfold runnelref16_steps.f at h
 by_cases p0 : 0 ≤ fr
 rotate_left
 ·rw [if_neg p0] at h; exact absurd h (by simp)
 rw [if_pos p0] at h
 by_cases q0 : fr < (nodes.length : Int)
 rotate_left
 ·rw [if_neg q0] at h; exact absurd h (by simp)
 rw [if_pos q0] at h
 by_cases m1 : nodes.length ≤ 281474976710656
 rotate_left
 ·rw [if_neg m1] at h; exact absurd h (by simp)
 rw [if_pos m1] at h
 obtain ⟨ad, A1, c1, _, _, _, _, _, _, e, -, hi1, -, -, -, -, -, -, -, -, hr1, -, -, -, -, -, -⟩ := at_T42 HRN.out fr p0 q0
 cases e
 generalize (rd_T42 nodes fr).f1 = f1 at hi1 hr1 h
 have HI1 := zz hi1
 have HR1 := zz hr1
 clear hi1 hr1
 replace p0 := eq_true p0
 replace q0 := eq_true q0
 replace h := Option.bind_eq_some_iff.mp h
 obtain ⟨s0, h0, h⟩ := h
 obtain ⟨y0, hy0⟩ : ∃ y_ : List Bool, y_ = List.replicate nodes.length false := ⟨_, rfl⟩
 rw [← hy0] at h0
 have HL := zz h0
 have HE := zz h
 have NY0 := zz hy0
 have M1 := zz m1
 clear h0 h hy0 m1
 go_enter Try.func51, Try.ntmps51
 go_wp2_with (first | ((with_reducible refine gate_dst (N := 2) rfl ?_); refine box_event ?hg (N := 2) ?hd (cs := #[.slice (some ad) nodes.length cn, .slice Ao outs.length co, .int .i64 room]) (t := 25) ?hr ?_; (case hd => rfl); (case hg => rfl); (case hr => first | (go_simp; done) | (go_simp; rfl)); intro gb hg_ w1 hbox hb; have n0_ := zz (below_step HB.out hb); have BK := zz hbox; clear HB; have HB := n0_; clear n0_ hb hbox hg_; have hc1_0 : w1.cell? ⟨gb, 0, none⟩ = some (.slice (some ad) nodes.length cn) := (blk_cell BK.out 0).trans rfl) | ((with_reducible refine gate_dst (N := 13) rfl ?_); refine Kd.R_make Kd.bool _ 4 rfl (N := 13) rfl 43 _ _ rfl (nodes.length : Int) rfl rfl Try.underlying43 (.bool false) 1 info4 rfl (by decide) (by omega) false (ok := fun _ => True) (okp := fun _ => True) rfl (fun _ hk => hk) trivial (by omega) (Nat.le_trans (Nat.mul_le_mul_right _ (show (nodes.length : Int).toNat ≤ 281474976710656 from M1.out)) (by omega)) (Below.refl _ _) (Nat.le_refl _) ?_; intro v133 w14 ho15 hb hg_ hnew_; clear hg_ hnew_; rw [Int.toNat_natCast, ← NY0.out] at ho15; have HD := zz (Kd.R_lower ho15 (below_size (bel HB.out))); have n1_ := zz (blk_below (g := gb) (o := _) (bk BK.out) hb); have n2_ := zz (below_step (bel HB.out) hb); clear BK HB; have BK := n1_; have HB := n2_; clear n1_ n2_ hb ho15; obtain ⟨Ad, cd, ed⟩ := Kd.R_slice HD.out; subst ed))
 obtain ⟨nd, hnd⟩ : ∃ nd, y0.length = nd := ⟨_, rfl⟩
 rw [hnd] at HD ⊢
 have hnl : nd = nodes.length := by rw [← hnd, NY0.out, List.length_replicate]
 have HNL := zz hnl
 clear hnd hnl
 go_loopg [6] k (fun kq v6 w' => ∃ (i : Int) (seen : List Bool), v6 = .int .i64 i ∧ Aside0 (runnelref16_steps.l0 kq f1 seen i = some s0) ∧ Aside0 (kq ≤ k) ∧ Aside0 (Kd.R Kd.bool 4 w' w.heap.size (fun _ => True) (.slice Ad nd cd) seen) ∧ Aside0 (w'.heap[gb]? = some (.cells #[.slice (some ad) nodes.length cn, .slice Ao outs.length co, .int .i64 room] 25 (0, 0))) ∧ Aside0 (Below w.heap.size w w'))
 case atStart => exact ⟨0, y0, rfl, HL, ⟨Nat.le_refl _⟩, ⟨(rl HD.out)⟩, ⟨(bk BK.out)⟩, ⟨(bel HB.out)⟩⟩
 case round =>
  clear HL HD BK HB hc1_0
  obtain ⟨i, seen, rfl, HA, HK1, HD, BK, HB⟩ := hrel
  cases gk with
  | zero => exact absurd HA.out (by simp [runnelref16_steps.l0])
  | succ k1 =>
   have h := HA.out
   clear HA
   simp only [runnelref16_steps.l0] at h
   have hc1_0 : wr.cell? ⟨gb, 0, none⟩ = some (.slice (some ad) nodes.length cn) := (blk_cell BK.out 0).trans rfl
   have hi1 := (HB.out.cell (World.block_lt_of_cell? w _ HI1.out)).trans HI1.out
   by_cases c1 : i < (f1.length : Int)
   ·rw [if_pos c1] at h
    have c1b : decide (i < (f1.length : Int)) = true := decide_eq_true c1
    by_cases p1 : 0 ≤ i
    rotate_left
    ·rw [if_neg p1] at h; exact absurd h (by simp)
    rw [if_pos p1] at h
    by_cases p2 : 0 ≤ rd f1 i
    rotate_left
    ·rw [if_neg p2] at h; exact absurd h (by simp)
    rw [if_pos p2] at h
    by_cases q2 : rd f1 i < (seen.length : Int)
    rotate_left
    ·rw [if_neg q2] at h; exact absurd h (by simp)
    rw [if_pos q2] at h
    obtain ⟨adi, ei, hy⟩ := Kd.at_int HR1.out i p1 c1
    cases ei
    replace hy := (HB.out.cell (World.block_lt_of_cell? w _ hy)).trans hy
    generalize rd f1 i = j at hy h p2 q2
    have hlen := (Kd.R_reads' HD.out).1
    obtain ⟨gd, cd_, eo45, gb45, gl45, cl45, HG45⟩ := Kd.R_form HD.out (by omega)
    cases eo45
    have GB45 := zz gb45
    clear gb45 gl45 hlen
    (try rw [Addr.add_lit, Nat.zero_add] at hz)
    obtain ⟨hx45_0, hf45_0⟩ := Kd.R_celln false HD.out j p2 q2
    replace p2 := eq_true p2
    replace q2 := eq_true q2
    replace p1 := eq_true p1
    replace c1 := eq_true c1
    have HP47 := Kd.R_putg HD.out j true
    have H' := zz h
    clear h
    go_wp2_with (first | ((with_reducible refine gate_store (t := 4) (p := 35) rfl ?_); refine store_event (t := 4) (p := 35) (v := ?vo_) (w1 := (wr.setCell ⟨gd, (j).toNat, none⟩ (.bool true))) ?hg ?ho ?hn ?hr ?_; (case ho => rfl); (case hg => rfl); (case hn => rfl); (case hr => first | (go_simp; done) | (go_simp; rfl)); intro w48 hw; have hg : wr.grownBy w48 (some gd) := (by rw [hw]; exact HP47.2); have n0_ := zz (show Kd.R Kd.bool 4 w48 w.heap.size (fun _ => True) (.slice (some ⟨gd, 0, none⟩) seen.length cd) (seen.set (j).toNat true) from (by rw [hw]; exact HP47.1)); clear HP47; have n2_ := zz (blk_grown (g := gb) BK.out hg (Kd.R_ne HD.out BK.out (by decide))); have n4_ := zz ((by rw [hw]; exact below_set (HB.out) GB45.out : Below w.heap.size w w48)); clear HD BK HB; have HD := n0_; have BK := n2_; have HB := n4_; clear n0_ n2_ n4_ hg hw))
    go_roundg k1
    case measure => have := HK1.out; omega
    case rel => exact ⟨(wrap64 (i + 1)), seen.set j.toNat true, (by first | rfl | (simp; done) | (simp [*]; done)), H', ⟨by have := HK1.out; omega⟩, ⟨(rl HD.out)⟩, ⟨(bk BK.out)⟩, ⟨(bel HB.out)⟩⟩
   ·rw [if_neg c1] at h
    have c1b : decide (i < (f1.length : Int)) = false := decide_eq_false c1
    clear c1 HK1
    simp only [Option.some.injEq] at h
    subst h
    go_wp2_with fail
    go_loopg [7] k (fun kq v7 w' => ∃ (i : Int) (seen : List Bool), v7 = .int .i64 i ∧ Aside0 (runnelref16_steps.l1 kq nodes seen i = some r) ∧ Aside0 (kq ≤ k) ∧ Aside0 (Kd.R Kd.bool 4 w' w.heap.size (fun _ => True) (.slice Ad nd cd) seen) ∧ Aside0 (w'.heap[gb]? = some (.cells #[.slice (some ad) nodes.length cn, .slice Ao outs.length co, .int .i64 room] 25 (0, 0))) ∧ Aside0 (Below w.heap.size w w'))
    case atStart => exact ⟨0, seen, rfl, HE, ⟨Nat.le_refl _⟩, ⟨(rl HD.out)⟩, ⟨(bk BK.out)⟩, ⟨(bel HB.out)⟩⟩
    case round =>
     clear HE HD BK HB hc1_0
     obtain ⟨a, seen, rfl, HA, HK2, HD, BK, HB⟩ := hrel
     cases gk with
     | zero => exact absurd HA.out (by simp [runnelref16_steps.l1])
     | succ k2 =>
      have h := HA.out
      clear HA
      simp only [runnelref16_steps.l1] at h
      have hc1_0 : wr.cell? ⟨gb, 0, none⟩ = some (.slice (some ad) nodes.length cn) := (blk_cell BK.out 0).trans rfl
      by_cases c2 : a < (nodes.length : Int)
      rotate_left
      ·rw [if_neg c2] at h
       have c2b : decide (a < (nodes.length : Int)) = false := decide_eq_false c2
       clear c2
       simp only [Option.some.injEq] at h
       subst h
       go_wp2_with fail
       go_ret
       exact ⟨_, by first | rfl | simp, (rl HD.out), (bel HB.out)⟩
      rw [if_pos c2] at h
      have c2b : decide (a < (nodes.length : Int)) = true := decide_eq_true c2
      clear c2
      replace h := Option.bind_eq_some_iff.mp h
      obtain ⟨s1, h0, h⟩ := h
      have HL2 := zz h0
      have HE2 := zz h
      clear h0 h
      go_wp2_with fail
      go_loopg [8] k2 (fun kq v8 w' => ∃ (i : Int) (seen : List Bool), v8 = .int .i64 i ∧ Aside0 (runnelref16_steps.l2 kq nodes seen i = some s1) ∧ Aside0 (kq ≤ k2) ∧ Aside0 (Kd.R Kd.bool 4 w' w.heap.size (fun _ => True) (.slice Ad nd cd) seen) ∧ Aside0 (w'.heap[gb]? = some (.cells #[.slice (some ad) nodes.length cn, .slice Ao outs.length co, .int .i64 room] 25 (0, 0))) ∧ Aside0 (Below w.heap.size w w'))
      case atStart => exact ⟨0, seen, rfl, HL2, ⟨Nat.le_refl _⟩, ⟨(rl HD.out)⟩, ⟨(bk BK.out)⟩, ⟨(bel HB.out)⟩⟩
      case round =>
       clear HL2 HD BK HB hc1_0
       obtain ⟨b, seen, rfl, HA, HK3, HD, BK, HB⟩ := hrel
       cases gk with
       | zero => exact absurd HA.out (by simp [runnelref16_steps.l2])
       | succ k3 =>
        have h := HA.out
        clear HA
        simp only [runnelref16_steps.l2] at h
        have hc1_0 : wr.cell? ⟨gb, 0, none⟩ = some (.slice (some ad) nodes.length cn) := (blk_cell BK.out 0).trans rfl
        by_cases c3 : b < (nodes.length : Int)
        rotate_left
        ·rw [if_neg c3] at h
         have c3b : decide (b < (nodes.length : Int)) = false := decide_eq_false c3
         clear c3
         simp only [Option.some.injEq] at h
         subst h
         go_wp2_with fail
         go_roundg k2
         case measure => have := HK2.out; omega
         case rel => exact ⟨(wrap64 (a + 1)), seen, (by first | rfl | (simp; done) | (simp [*]; done)), HE2, ⟨by have := HK2.out; omega⟩, ⟨(rl HD.out)⟩, ⟨(bk BK.out)⟩, ⟨(bel HB.out)⟩⟩
        rw [if_pos c3] at h
        have c3b : decide (b < (nodes.length : Int)) = true := decide_eq_true c3
        by_cases p3 : 0 ≤ b
        rotate_left
        ·rw [if_neg p3] at h; exact absurd h (by simp)
        rw [if_pos p3] at h
        obtain ⟨adb, A2, c2_, _, _, _, _, _, _, e, -, hi2, -, -, -, -, -, -, -, -, hr2, -, -, -, -, -, -⟩ := at_T42 HRN.out b p3 c3
        cases e
        generalize (rd_T42 nodes b).f1 = f2 at hi2 hr2 h
        have HI2 := zz hi2
        have HR2 := zz hr2
        have P3 := zz p3
        have C3 := zz c3
        clear hi2 hr2
        replace p3 := eq_true p3
        replace c3 := eq_true c3
        replace h := Option.bind_eq_some_iff.mp h
        obtain ⟨s2, h0, h⟩ := h
        have HL3 := zz h0
        have HE3 := zz h
        clear h0 h
        go_wp2_with fail
        go_loopg [9] k3 (fun kq v9 w' => ∃ (i : Int) (seen : List Bool), v9 = .int .i64 i ∧ Aside0 (runnelref16_steps.l3 kq f2 b seen i = some s2) ∧ Aside0 (kq ≤ k3) ∧ Aside0 (Kd.R Kd.bool 4 w' w.heap.size (fun _ => True) (.slice Ad nd cd) seen) ∧ Aside0 (w'.heap[gb]? = some (.cells #[.slice (some ad) nodes.length cn, .slice Ao outs.length co, .int .i64 room] 25 (0, 0))) ∧ Aside0 (Below w.heap.size w w'))
        case atStart => exact ⟨0, seen, rfl, HL3, ⟨Nat.le_refl _⟩, ⟨(rl HD.out)⟩, ⟨(bk BK.out)⟩, ⟨(bel HB.out)⟩⟩
        case round =>
         clear HL3 HD BK HB hc1_0
         obtain ⟨m, seen, rfl, HA, HK4, HD, BK, HB⟩ := hrel
         cases gk with
         | zero => exact absurd HA.out (by simp [runnelref16_steps.l3])
         | succ k4 =>
          have h := HA.out
          clear HA
          simp only [runnelref16_steps.l3] at h
          have hc1_0 : wr.cell? ⟨gb, 0, none⟩ = some (.slice (some ad) nodes.length cn) := (blk_cell BK.out 0).trans rfl
          have hi2 := (HB.out.cell (World.block_lt_of_cell? w _ HI2.out)).trans HI2.out
          by_cases c1 : m < (f2.length : Int)
          rotate_left
          ·rw [if_neg c1] at h
           have c1b : decide (m < (f2.length : Int)) = false := decide_eq_false c1
           clear c1
           simp only [Option.some.injEq] at h
           subst h
           go_wp2_with fail
           go_roundg k3
           case measure => have := HK2.out; have := HK3.out; omega
           case rel => exact ⟨(wrap64 (b + 1)), seen, (by first | rfl | (simp; done) | (simp [*]; done)), HE3, ⟨by have := HK3.out; omega⟩, ⟨(rl HD.out)⟩, ⟨(bk BK.out)⟩, ⟨(bel HB.out)⟩⟩
          rw [if_pos c1] at h
          have c1b : decide (m < (f2.length : Int)) = true := decide_eq_true c1
          by_cases q5 : b < (seen.length : Int)
          rotate_left
          ·rw [if_neg q5] at h; exact absurd h (by simp)
          rw [if_pos q5] at h
          obtain ⟨add, ea, hz⟩ := Kd.at_bool (Kd.R_reads' HD.out).2.2 b P3.out q5
          have hlen5 := (Kd.R_reads' HD.out).1
          cases ea
          have q5n : (b < (nd : Int)) = True := eq_true (by omega)
          cases hb0 : rdOf false seen b with
          | false =>
           rw [if_neg (by rw [hb0]; decide)] at h
           rw [hb0] at hz
           simp only [Option.some.injEq] at h
           subst h
           clear hb0 hlen5
           go_wp2_with fail
           go_roundg k3
           case measure => have := HK2.out; have := HK3.out; omega
           case rel => exact ⟨(wrap64 (b + 1)), seen, (by first | rfl | (simp; done) | (simp [*]; done)), HE3, ⟨by have := HK3.out; omega⟩, ⟨(rl HD.out)⟩, ⟨(bk BK.out)⟩, ⟨(bel HB.out)⟩⟩
          | true =>
           rw [if_pos hb0] at h
           rw [hb0] at hz
           clear hb0 hlen5
           by_cases p1 : 0 ≤ m
           rotate_left
           ·rw [if_neg p1] at h; exact absurd h (by simp)
           rw [if_pos p1] at h
           by_cases p2 : 0 ≤ rd f2 m
           rotate_left
           ·rw [if_neg p2] at h; exact absurd h (by simp)
           rw [if_pos p2] at h
           by_cases q2 : rd f2 m < (seen.length : Int)
           rotate_left
           ·rw [if_neg q2] at h; exact absurd h (by simp)
           rw [if_pos q2] at h
           obtain ⟨adi, ei, hy⟩ := Kd.at_int HR2.out m p1 c1
           cases ei
           replace hy := (HB.out.cell (World.block_lt_of_cell? w _ hy)).trans hy
           generalize rd f2 m = j at hy h p2 q2
           have hlen := (Kd.R_reads' HD.out).1
           obtain ⟨gd, cd_, eo45, gb45, gl45, cl45, HG45⟩ := Kd.R_form HD.out (by omega)
           cases eo45
           have GB45 := zz gb45
           clear gb45 gl45 hlen
           (try rw [Addr.add_lit, Nat.zero_add] at hz)
           obtain ⟨hx45_0, hf45_0⟩ := Kd.R_celln false HD.out j p2 q2
           replace p2 := eq_true p2
           replace q2 := eq_true q2
           replace p1 := eq_true p1
           replace c1 := eq_true c1
           have HP47 := Kd.R_putg HD.out j true
           have H' := zz h
           clear h
           go_wp2_with (first | ((with_reducible refine gate_store (t := 4) (p := 77) rfl ?_); refine store_event (t := 4) (p := 77) (v := ?vo_) (w1 := (wr.setCell ⟨gd, (j).toNat, none⟩ (.bool true))) ?hg ?ho ?hn ?hr ?_; (case ho => rfl); (case hg => rfl); (case hn => rfl); (case hr => first | (go_simp; done) | (go_simp; rfl)); intro w48 hw; have hg : wr.grownBy w48 (some gd) := (by rw [hw]; exact HP47.2); have n0_ := zz (show Kd.R Kd.bool 4 w48 w.heap.size (fun _ => True) (.slice (some ⟨gd, 0, none⟩) seen.length cd) (seen.set (j).toNat true) from (by rw [hw]; exact HP47.1)); clear HP47; have n2_ := zz (blk_grown (g := gb) BK.out hg (Kd.R_ne HD.out BK.out (by decide))); have n4_ := zz ((by rw [hw]; exact below_set (HB.out) GB45.out : Below w.heap.size w w48)); clear HD BK HB; have HD := n0_; have BK := n2_; have HB := n4_; clear n0_ n2_ n4_ hg hw))
           go_roundg k4
           case measure => have := HK2.out; have := HK3.out; have := HK4.out; omega
           case rel => exact ⟨(wrap64 (m + 1)), seen.set j.toNat true, (by first | rfl | (simp; done) | (simp [*]; done)), H', ⟨by have := HK4.out; omega⟩, ⟨(rl HD.out)⟩, ⟨(bk BK.out)⟩, ⟨(bel HB.out)⟩⟩


end Go.Proofs.Ytdkkollonlmelaa.QPlanChecks
