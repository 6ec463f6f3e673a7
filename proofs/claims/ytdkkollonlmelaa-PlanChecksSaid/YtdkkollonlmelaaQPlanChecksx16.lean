-- Written by this session's own program (wip/tools/ownprint.sh)
import Derived.Test.YtdkkollonlmelaaQPlanChecksx0
import Derived.Test.YtdkkollonlmelaaQPlanChecksx5
import Derived.Test.YtdkkollonlmelaaQPlanChecksx10
import Derived.Test.YtdkkollonlmelaaQPlanChecksx11
import Derived.Test.YtdkkollonlmelaaQPlanChecksx14
import Derived.Test.YtdkkollonlmelaaQPlanChecksx15
namespace Go.Proofs.Ytdkkollonlmelaa.QPlanChecks
open Go.RowKit Go.Proofs.YtdkkollonlmelaaW.PrintWords Go.Proofs.YtdkkollonlmelaaW.PrintLast Go.Proofs.YtdkkollonlmelaaW.PrintMore
attribute [local go_sem] max2_int min2_int max_two min_two max_three min_three max_four min_four Go.Proofs.Ytdkkollonlmelaa.Hand.str_gtr Go.Proofs.Ytdkkollonlmelaa.Hand.str_leq Go.Proofs.Ytdkkollonlmelaa.Hand.str_geq   -- for this text's walks alone
set_option linter.unusedVariables false
set_option linter.unusedSimpArgs false


/-! ### runnelref16_kinds: function 53, by hand -/
def runnelref16_kinds.l0 : Nat → List Int → Int → Option (List Int × Int)
 | 0, _, _ => none
 | k + 1, l, i => if i < (l.length : Int) then (if 0 ≤ i then ((runnelref16_in.f (rd l i) 0 1).bind fun t => (if t = true then (runnelref16_kinds.l0 k l (wrap64 (i + 1))) else some (([] : List Int), 8))) else none) else some (l, 0)
def runnelref16_kinds.l1 : Nat → List Int → List Int → List Int → Int → Option (List Int × Int)
 | 0, _, _, _, _ => none
 | k + 1, l, a, acc, i => if i < (l.length : Int) then (if 0 ≤ i then ((runnelref16_in.f (rd l i) 0 (wrap64 ((a.length : Int) - 1))).bind fun t => (if t = true then (if 0 ≤ rd l i then (if rd l i < (a.length : Int) then (if acc.length < 1000000 then (runnelref16_kinds.l1 k l a (acc ++ [rd a (rd l i)]) (wrap64 (i + 1))) else none) else none) else none) else some (([] : List Int), 9))) else none) else some (acc, 0)
def runnelref16_kinds.l2 : Nat → List (List Int) → List Int → Int → Option (List Int × Int)
 | 0, _, _, _ => none
 | k + 1, l, a, i => if i < (l.length : Int) then (if 0 ≤ i then ((runnelref16_same.f k (rd_L3 l i) a).bind fun t => (if t = true then (runnelref16_kinds.l2 k l a (wrap64 (i + 1))) else some (([] : List Int), 80))) else none) else some (a, 0)
def runnelref16_kinds.g (k : Nat) (f0 : Int) (f2 : List Int) (f3 : List (List S128)) (f4 : List Int) (f5 f6 f7 f8 : Int) (a b : List Int) (ins : List (List Int)) : Option (List Int × Int) :=
 if f0 = 0 then (if (f2.length : Int) > 16 then some (([] : List Int), 3) else (runnelref16_kinds.l0 k f2 0)) else (
 if f0 = 1 then (runnelref16_mapped.f k f3 a) else (
 if f0 = 2 then (if (f3.length : Int) = 1 then ((runnelref16_mapped.f k f3 a).bind fun r => (if r.2 = 0 then (if 0 < (r.1.length : Int) then (if rd r.1 0 = 0 then some (a, 0) else some (([] : List Int), 80)) else none) else some (([] : List Int), r.2))) else some (([] : List Int), 1)) else (
 if f0 = 3 then (if (f4.length : Int) > 16 then some (([] : List Int), 3) else (runnelref16_kinds.l1 k f4 a [] 0)) else (
 if f0 = 4 then (runnelref16_kinds.l2 k ins a 0) else (
 if f0 = 7 then ((runnelref16_in.f f6 0 (wrap64 ((a.length : Int) - 1))).bind fun t => (if t = true then (if 0 ≤ f6 then (if f6 < (a.length : Int) then (if rd a f6 = 0 then ((runnelref14_Check.f k f7 f8).bind fun e => (if e = 0 then (if (a.length : Int) ≥ 16 then some (([] : List Int), 3) else some (a ++ [0], 0)) else some (([] : List Int), e))) else some (([] : List Int), 80)) else none) else none) else some (([] : List Int), 9))) else (
 if f0 = 8 then ((runnelref16_in.f f5 0 (a.length : Int)).bind fun t => (if t = true then some (a, 0) else some (([] : List Int), 9))) else (
 if f0 = 15 then ((runnelref16_in.f f5 0 (a.length : Int)).bind fun t => (if t = true then (if f5 > (b.length : Int) then some (([] : List Int), 9) else (if 0 ≤ f5 then (if f5 ≤ (a.length : Int) then ((runnelref16_same.f k (a.take f5.toNat) (b.take f5.toNat)).bind fun t => (if t = true then (if wrap64 (wrap64 ((a.length : Int) + (b.length : Int)) - f5) > 16 then some (([] : List Int), 3) else (if a.length + b.length < 1000000 then some (a ++ b.drop f5.toNat, 0) else none)) else some (([] : List Int), 80))) else none) else none)) else some (([] : List Int), 9))) else some (a, 0))))))))
def runnelref16_kinds.f (k : Nat) (f0 : Int) (f1 f2 : List Int) (f3 : List (List S128)) (f4 : List Int) (f5 f6 f7 f8 : Int) (a b : List Int) (ins : List (List Int)) : Option (List Int × Int) :=
 (runnelref16_Group.f f0).bind fun go => (if go.2 = true then (runnelref15_Check.f go.1 f5 f6 a) else (runnelref16_kinds.g k f0 f2 f3 f4 f5 f6 f7 f8 a b ins))
set_option maxHeartbeats 8000000 in
set_option maxRecDepth 100000 in
theorem runnelref16_kinds.calls (P : Nat → Prop) (k : Nat) (f0 : Int) (A1 : Option Addr) (c1 : Nat) (f1 : List Int) (A2 : Option Addr) (c2 : Nat) (f2 : List Int) (A3 : Option Addr) (c3 : Nat) (f3 : List (List S128)) (A4 : Option Addr) (c4 : Nat) (f4 : List Int) (f5 f6 f7 f8 : Int) (Aa : Option Addr) (ca : Nat) (a : List Int) (Ab : Option Addr) (cb : Nat) (b : List Int) (Ai : Option Addr) (ci : Nat) (ins : List (List Int)) (r1 : List Int) (r2 : Int) (w : World)
  (hv2 : Kd.V (Kd.int .i64) 3 w w.heap.size P (.slice A2 f2.length c2) f2) (hr3 : Kd.C (Kd.slice 128 k128) w A3 f3.length f3) (hc3 : f3.length ≤ c3) (hr4 : Kd.C (Kd.int .i64) w A4 f4.length f4) (hc4 : f4.length ≤ c4) (hva : Kd.V (Kd.int .i64) 3 w w.heap.size P (.slice Aa a.length ca) a) (hrb : Kd.C (Kd.int .i64) w Ab b.length b) (hcb : b.length ≤ cb) (hri : Kd.C (Kd.slice 3 (Kd.int .i64)) w Ai ins.length ins) (h : runnelref16_kinds.f k f0 f1 f2 f3 f4 f5 f6 f7 f8 a b ins = some (r1, r2)) :
  Calls Try.prog 53 #[.agg #[.int .i64 f0, .slice A1 f1.length c1, .slice A2 f2.length c2, .slice A3 f3.length c3, .slice A4 f4.length c4, .int .i64 f5, .int .i64 f6, .int .i64 f7, .int .i64 f8], .slice Aa a.length ca, .slice Ab b.length cb, .slice Ai ins.length ci] w fun e w' => ∃ v0_ : Value, e = .returned (.tuple #[v0_, .int .i64 r2]) ∧ IRow P w.heap.size w' v0_ r1 ∧ Below w.heap.size w w' := by
 have hu42 := Try.underlying42
 have HV2 := zz hv2
 have HR2 := zz (Kd.V_reads' hv2).2.2
 have HC2 := zz (Kd.V_reads' hv2).2.1
 clear hv2
 have HVa := zz hva
 have HRa := zz (Kd.V_reads' hva).2.2
 have HCa := zz (Kd.V_reads' hva).2.1
 clear hva
 have HR3 := zz hr3
 have HC3 := zz hc3
 clear hr3 hc3
 have HR4 := zz hr4
 have HC4 := zz hc4
 clear hr4 hc4
 have HRb := zz hrb
 have HCb := zz hcb
 clear hrb hcb
 have HRi := zz hri
 clear hri
 have HB := zz (Below.refl w.heap.size w)
 unfold runnelref16_kinds.f at h
 replace h := Option.bind_eq_some_iff.mp h
 obtain ⟨⟨gn, go_⟩, AG0, h⟩ := h
 try dsimp only at h
 have AG := zz AG0
 have AH := zz h
 clear AG0 h
 have h := AH.out
 clear AH
 cases go_ with
 | true =>
  rw [if_pos rfl] at h
  have AC := zz h
  clear h
  go_enter Try.func53, Try.ntmps53
  go_wp2_with (first | ((with_reducible refine gate_dst (N := 4) rfl ?_); refine box_event ?hg (N := 4) ?hd (cs := #[.int .i64 f0, .slice A1 f1.length c1, .slice A2 f2.length c2, .slice A3 f3.length c3, .slice A4 f4.length c4, .int .i64 f5, .int .i64 f6, .int .i64 f7, .int .i64 f8]) (t := 42) ?hr ?_; (case hd => rfl); (case hg => rfl); (case hr => first | (go_simp; done) | (go_simp; rfl)); intro gb hg_ w1 hbox hb; have n0_ := zz (below_step HB.out hb); have BK := zz hbox; clear HB; have HB := n0_; clear n0_ hb hbox hg_; obtain ⟨hc1_0, hc1_1, hc1_2, hc1_3, hc1_4, hc1_5, hc1_6, hc1_7, hc1_8⟩ := nine_cells BK.out) | ((with_reducible refine gate_callee (f := 20) rfl ?_); refine goesL_ (some 22) rfl rfl Try.func20 (by kernel_rfl) rfl #[.int .i64 f0] rfl (by (try simp only [List.map_toArray, List.map_cons, List.map_nil]); first | done | rfl) ?_; (with_reducible refine (runnelref16_Group.calls f0 gn true _ AG.out).mono ?_); rintro e w' ⟨rfl, ⟨nd, rfl⟩⟩; refine ⟨_, rfl, ?_⟩) | ((with_reducible refine gate_callee (f := 89) rfl ?_); refine goesL_ (some 32) rfl rfl Try.func89 (by kernel_rfl) rfl #[.int .i64 gn, .int .i64 f5, .int .i64 f6, .slice Aa a.length ca] rfl (by (try simp only [List.map_toArray, List.map_cons, List.map_nil]); first | done | rfl) ?_; (with_reducible refine (runnelref15_Check.calls P gn f5 f6 Aa ca a r1 r2 _ (Kd.V_map HVa.out (fun _ hf => Kd.F_below hf (bel HB.out))) AC.out).mono ?_); rintro e w9 ⟨v0_, rfl, hr_, hb⟩; refine ⟨_, rfl, ?_⟩; have HO := zz (hr_.lower (below_size (bel HB.out))); have n1_ := zz (below_step (bel HB.out) hb); clear HB hr_; have HB := n1_; clear n1_ hb))
  go_ret2
  exact ⟨_, by first | rfl | simp, HO.out.later, bel HB.out⟩
 | false =>
  rw [if_neg (by decide)] at h
  unfold runnelref16_kinds.g at h
  by_cases k0 : f0 = 0
  ·rw [if_pos k0] at h
   have kb0 : (f0 == 0) = true := beq_iff_eq.mpr k0
   clear k0
   by_cases m0 : (f2.length : Int) > 16
   ·rw [if_pos m0] at h
    have m0b : decide (16 < (f2.length : Int)) = true := decide_eq_true m0
    have m0c : decide (16 < f2.length) = true := decide_eq_true (by omega)
    clear m0
    simp only [Option.some.injEq, Prod.mk.injEq] at h
    obtain ⟨rfl, rfl⟩ := h
    go_enter Try.func53, Try.ntmps53
    go_wp2_with (first | ((with_reducible refine gate_dst (N := 4) rfl ?_); refine box_event ?hg (N := 4) ?hd (cs := #[.int .i64 f0, .slice A1 f1.length c1, .slice A2 f2.length c2, .slice A3 f3.length c3, .slice A4 f4.length c4, .int .i64 f5, .int .i64 f6, .int .i64 f7, .int .i64 f8]) (t := 42) ?hr ?_; (case hd => rfl); (case hg => rfl); (case hr => first | (go_simp; done) | (go_simp; rfl)); intro gb hg_ w1 hbox hb; have n0_ := zz (below_step HB.out hb); have BK := zz hbox; clear HB; have HB := n0_; clear n0_ hb hbox hg_; obtain ⟨hc1_0, hc1_1, hc1_2, hc1_3, hc1_4, hc1_5, hc1_6, hc1_7, hc1_8⟩ := nine_cells BK.out) | ((with_reducible refine gate_callee (f := 20) rfl ?_); refine goesL_ (some 22) rfl rfl Try.func20 (by kernel_rfl) rfl #[.int .i64 f0] rfl (by (try simp only [List.map_toArray, List.map_cons, List.map_nil]); first | done | rfl) ?_; (with_reducible refine (runnelref16_Group.calls f0 gn false _ AG.out).mono ?_); rintro e w' ⟨rfl, ⟨nd, rfl⟩⟩; refine ⟨_, rfl, ?_⟩))
    go_ret2
    exact ⟨_, by first | rfl | simp, IRow.nil _ _ _, bel HB.out⟩
   rw [if_neg m0] at h
   have m0b : decide (16 < (f2.length : Int)) = false := decide_eq_false m0
   have m0c : decide (16 < f2.length) = false := decide_eq_false (by omega)
   clear m0
   have HL := zz h
   clear h
   go_enter Try.func53, Try.ntmps53
   go_wp2_with (first | ((with_reducible refine gate_dst (N := 4) rfl ?_); refine box_event ?hg (N := 4) ?hd (cs := #[.int .i64 f0, .slice A1 f1.length c1, .slice A2 f2.length c2, .slice A3 f3.length c3, .slice A4 f4.length c4, .int .i64 f5, .int .i64 f6, .int .i64 f7, .int .i64 f8]) (t := 42) ?hr ?_; (case hd => rfl); (case hg => rfl); (case hr => first | (go_simp; done) | (go_simp; rfl)); intro gb hg_ w1 hbox hb; have n0_ := zz (below_step HB.out hb); have BK := zz hbox; clear HB; have HB := n0_; clear n0_ hb hbox hg_; obtain ⟨hc1_0, hc1_1, hc1_2, hc1_3, hc1_4, hc1_5, hc1_6, hc1_7, hc1_8⟩ := nine_cells BK.out) | ((with_reducible refine gate_callee (f := 20) rfl ?_); refine goesL_ (some 22) rfl rfl Try.func20 (by kernel_rfl) rfl #[.int .i64 f0] rfl (by (try simp only [List.map_toArray, List.map_cons, List.map_nil]); first | done | rfl) ?_; (with_reducible refine (runnelref16_Group.calls f0 gn false _ AG.out).mono ?_); rintro e w' ⟨rfl, ⟨nd, rfl⟩⟩; refine ⟨_, rfl, ?_⟩))
   go_loopg [12] k (fun kq v12 w' => ∃ (i : Int), v12 = .int .i64 i ∧ Aside0 (runnelref16_kinds.l0 kq f2 i = some (r1, r2)) ∧ Aside0 (kq ≤ k) ∧ Aside0 (w'.heap[gb]? = some (.cells #[.int .i64 f0, .slice A1 f1.length c1, .slice A2 f2.length c2, .slice A3 f3.length c3, .slice A4 f4.length c4, .int .i64 f5, .int .i64 f6, .int .i64 f7, .int .i64 f8] 42 (0, 0))) ∧ Aside0 (Below w.heap.size w w'))
   case atStart => exact ⟨0, rfl, HL, ⟨Nat.le_refl _⟩, ⟨bk BK.out⟩, ⟨bel HB.out⟩⟩
   case round =>
    clear HL BK HB hc1_0 hc1_1 hc1_2 hc1_3 hc1_4 hc1_5 hc1_6 hc1_7 hc1_8
    obtain ⟨i, rfl, HA, HK1, BK, HB⟩ := hrel
    cases gk with
    | zero => exact absurd HA.out (by simp [runnelref16_kinds.l0])
    | succ k1 =>
     have h := HA.out
     clear HA
     simp only [runnelref16_kinds.l0] at h
     obtain ⟨hc3_0, hc3_1, hc3_2, hc3_3, hc3_4, hc3_5, hc3_6, hc3_7, hc3_8⟩ := nine_cells BK.out
     by_cases c1 : i < (f2.length : Int)
     rotate_left
     ·rw [if_neg c1] at h
      have c1b : decide (i < (f2.length : Int)) = false := decide_eq_false c1
      clear c1
      simp only [Option.some.injEq, Prod.mk.injEq] at h
      obtain ⟨rfl, rfl⟩ := h
      go_wp2_with fail
      go_ret2
      exact ⟨_, by first | rfl | simp, IRow.arg HV2.out (bel HB.out), bel HB.out⟩
     rw [if_pos c1] at h
     have c1b : decide (i < (f2.length : Int)) = true := decide_eq_true c1
     by_cases p1 : 0 ≤ i
     rotate_left
     ·rw [if_neg p1] at h; exact absurd h (by simp)
     rw [if_pos p1] at h
     replace h := Option.bind_eq_some_iff.mp h
     obtain ⟨t, AT0, h⟩ := h
     try dsimp only at h
     have AT := zz AT0
     clear AT0
     obtain ⟨ad, e, hx⟩ := Kd.at_int HR2.out i p1 c1
     cases e
     replace hx := (HB.out.cell (World.block_lt_of_cell? w _ hx)).trans hx
     generalize rd f2 i = x at hx AT
     replace p1 := eq_true p1
     replace c1 := eq_true c1
     cases t with
     | false =>
      rw [if_neg (by decide)] at h
      simp only [Option.some.injEq, Prod.mk.injEq] at h
      obtain ⟨rfl, rfl⟩ := h
      go_wp2_with (first | ((with_reducible refine gate_callee (f := 55) rfl ?_); refine goesL_ (some 55) rfl rfl Try.func55 (by kernel_rfl) rfl #[.int .i64 x, .int .i64 0, .int .i64 1] rfl (by (try simp only [List.map_toArray, List.map_cons, List.map_nil]); first | done | rfl) ?_; (with_reducible refine (runnelref16_in.calls x 0 1 false _ AT.out).mono ?_); rintro e w' ⟨rfl, ⟨nd, rfl⟩⟩; refine ⟨_, rfl, ?_⟩))
      go_ret2
      exact ⟨_, by first | rfl | simp, IRow.nil _ _ _, bel HB.out⟩
     | true =>
      rw [if_pos rfl] at h
      have H' := zz h
      clear h
      go_wp2_with (first | ((with_reducible refine gate_callee (f := 55) rfl ?_); refine goesL_ (some 55) rfl rfl Try.func55 (by kernel_rfl) rfl #[.int .i64 x, .int .i64 0, .int .i64 1] rfl (by (try simp only [List.map_toArray, List.map_cons, List.map_nil]); first | done | rfl) ?_; (with_reducible refine (runnelref16_in.calls x 0 1 true _ AT.out).mono ?_); rintro e w' ⟨rfl, ⟨nd, rfl⟩⟩; refine ⟨_, rfl, ?_⟩))
      go_roundg k1
      case measure => have := HK1.out; omega
      case rel => exact ⟨wrap64 (i + 1), (by first | rfl | (simp; done) | (simp [*]; done)), H', ⟨by have := HK1.out; omega⟩, ⟨bk BK.out⟩, ⟨bel HB.out⟩⟩
  rw [if_neg k0] at h
  have kb0 : (f0 == 0) = false := beq_eq_false_iff_ne.mpr k0
  clear k0
  by_cases k1 : f0 = 1
  ·rw [if_pos k1] at h
   have kb1 : (f0 == 1) = true := beq_iff_eq.mpr k1
   clear k1
   have AM := zz h
   clear h
   go_enter Try.func53, Try.ntmps53
   go_wp2_with (first | ((with_reducible refine gate_dst (N := 4) rfl ?_); refine box_event ?hg (N := 4) ?hd (cs := #[.int .i64 f0, .slice A1 f1.length c1, .slice A2 f2.length c2, .slice A3 f3.length c3, .slice A4 f4.length c4, .int .i64 f5, .int .i64 f6, .int .i64 f7, .int .i64 f8]) (t := 42) ?hr ?_; (case hd => rfl); (case hg => rfl); (case hr => first | (go_simp; done) | (go_simp; rfl)); intro gb hg_ w1 hbox hb; have n0_ := zz (below_step HB.out hb); have BK := zz hbox; clear HB; have HB := n0_; clear n0_ hb hbox hg_; obtain ⟨hc1_0, hc1_1, hc1_2, hc1_3, hc1_4, hc1_5, hc1_6, hc1_7, hc1_8⟩ := nine_cells BK.out) | ((with_reducible refine gate_callee (f := 20) rfl ?_); refine goesL_ (some 22) rfl rfl Try.func20 (by kernel_rfl) rfl #[.int .i64 f0] rfl (by (try simp only [List.map_toArray, List.map_cons, List.map_nil]); first | done | rfl) ?_; (with_reducible refine (runnelref16_Group.calls f0 gn false _ AG.out).mono ?_); rintro e w' ⟨rfl, ⟨nd, rfl⟩⟩; refine ⟨_, rfl, ?_⟩) | ((with_reducible refine gate_callee (f := 90) rfl ?_); refine goesL_ (some 64) rfl rfl Try.func90 (by kernel_rfl) rfl #[.slice A3 f3.length c3, .slice Aa a.length ca] rfl (by (try simp only [List.map_toArray, List.map_cons, List.map_nil]); first | done | rfl) ?_; (with_reducible refine (runnelref16_mapped.calls k A3 c3 f3 Aa ca a r1 r2 _ (Kd.C_below HR3.out (bel HB.out)) HC3.out (Kd.C_below HRa.out (bel HB.out)) HCa.out AM.out).mono ?_); rintro e w9 ⟨v0_, rfl, hr_, hb⟩; refine ⟨_, rfl, ?_⟩; have HO := zz (Kd.R_lower hr_ (below_size (bel HB.out))); have n1_ := zz (below_step (bel HB.out) hb); clear HB hr_; have HB := n1_; clear n1_ hb))
   go_ret2
   exact ⟨_, by first | rfl | simp, IRow.of (rl HO.out), bel HB.out⟩
  rw [if_neg k1] at h
  have kb1 : (f0 == 1) = false := beq_eq_false_iff_ne.mpr k1
  clear k1
  by_cases k2 : f0 = 2
  ·rw [if_pos k2] at h
   have kb2 : (f0 == 2) = true := beq_iff_eq.mpr k2
   clear k2
   by_cases n2 : (f3.length : Int) = 1
   rotate_left
   ·rw [if_neg n2] at h
    have m1 : ((f3.length : Int) == 1) = false := beq_eq_false_iff_ne.mpr n2
    have m2 : ((f3.length : Int) != 1) = true := bne_iff_ne.mpr n2
    have m3 : (f3.length == 1) = false := beq_eq_false_iff_ne.mpr (by omega)
    have m4 : (f3.length != 1) = true := bne_iff_ne.mpr (by omega)
    clear n2
    simp only [Option.some.injEq, Prod.mk.injEq] at h
    obtain ⟨rfl, rfl⟩ := h
    go_enter Try.func53, Try.ntmps53
    go_wp2_with (first | ((with_reducible refine gate_dst (N := 4) rfl ?_); refine box_event ?hg (N := 4) ?hd (cs := #[.int .i64 f0, .slice A1 f1.length c1, .slice A2 f2.length c2, .slice A3 f3.length c3, .slice A4 f4.length c4, .int .i64 f5, .int .i64 f6, .int .i64 f7, .int .i64 f8]) (t := 42) ?hr ?_; (case hd => rfl); (case hg => rfl); (case hr => first | (go_simp; done) | (go_simp; rfl)); intro gb hg_ w1 hbox hb; have n0_ := zz (below_step HB.out hb); have BK := zz hbox; clear HB; have HB := n0_; clear n0_ hb hbox hg_; obtain ⟨hc1_0, hc1_1, hc1_2, hc1_3, hc1_4, hc1_5, hc1_6, hc1_7, hc1_8⟩ := nine_cells BK.out) | ((with_reducible refine gate_callee (f := 20) rfl ?_); refine goesL_ (some 22) rfl rfl Try.func20 (by kernel_rfl) rfl #[.int .i64 f0] rfl (by (try simp only [List.map_toArray, List.map_cons, List.map_nil]); first | done | rfl) ?_; (with_reducible refine (runnelref16_Group.calls f0 gn false _ AG.out).mono ?_); rintro e w' ⟨rfl, ⟨nd, rfl⟩⟩; refine ⟨_, rfl, ?_⟩))
    go_ret2
    exact ⟨_, by first | rfl | simp, IRow.nil _ _ _, bel HB.out⟩
   rw [if_pos n2] at h
   have m1 : ((f3.length : Int) == 1) = true := beq_iff_eq.mpr n2
   have m2 : ((f3.length : Int) != 1) = false := bne_eq_false_iff_eq.mpr n2
   have m3 : (f3.length == 1) = true := beq_iff_eq.mpr (by omega)
   have m4 : (f3.length != 1) = false := bne_eq_false_iff_eq.mpr (by omega)
   clear n2
   replace h := Option.bind_eq_some_iff.mp h
   obtain ⟨⟨l, re⟩, AM0, h⟩ := h
   try dsimp only at h
   have AM := zz AM0
   clear AM0
   by_cases e2 : re = 0
   rotate_left
   ·rw [if_neg e2] at h
    have eb : (re == 0) = false := beq_eq_false_iff_ne.mpr e2
    have eb2 : (re != 0) = true := bne_iff_ne.mpr e2
    clear e2
    simp only [Option.some.injEq, Prod.mk.injEq] at h
    obtain ⟨rfl, rfl⟩ := h
    go_enter Try.func53, Try.ntmps53
    go_wp2_with (first | ((with_reducible refine gate_dst (N := 4) rfl ?_); refine box_event ?hg (N := 4) ?hd (cs := #[.int .i64 f0, .slice A1 f1.length c1, .slice A2 f2.length c2, .slice A3 f3.length c3, .slice A4 f4.length c4, .int .i64 f5, .int .i64 f6, .int .i64 f7, .int .i64 f8]) (t := 42) ?hr ?_; (case hd => rfl); (case hg => rfl); (case hr => first | (go_simp; done) | (go_simp; rfl)); intro gb hg_ w1 hbox hb; have n0_ := zz (below_step HB.out hb); have BK := zz hbox; clear HB; have HB := n0_; clear n0_ hb hbox hg_; obtain ⟨hc1_0, hc1_1, hc1_2, hc1_3, hc1_4, hc1_5, hc1_6, hc1_7, hc1_8⟩ := nine_cells BK.out) | ((with_reducible refine gate_callee (f := 20) rfl ?_); refine goesL_ (some 22) rfl rfl Try.func20 (by kernel_rfl) rfl #[.int .i64 f0] rfl (by (try simp only [List.map_toArray, List.map_cons, List.map_nil]); first | done | rfl) ?_; (with_reducible refine (runnelref16_Group.calls f0 gn false _ AG.out).mono ?_); rintro e w' ⟨rfl, ⟨nd, rfl⟩⟩; refine ⟨_, rfl, ?_⟩) | ((with_reducible refine gate_callee (f := 90) rfl ?_); refine goesL_ (some 77) rfl rfl Try.func90 (by kernel_rfl) rfl #[.slice A3 f3.length c3, .slice Aa a.length ca] rfl (by (try simp only [List.map_toArray, List.map_cons, List.map_nil]); first | done | rfl) ?_; (with_reducible refine (runnelref16_mapped.calls k A3 c3 f3 Aa ca a l re _ (Kd.C_below HR3.out (bel HB.out)) HC3.out (Kd.C_below HRa.out (bel HB.out)) HCa.out AM.out).mono ?_); rintro e w9 ⟨v0_, rfl, hr_, hb⟩; refine ⟨_, rfl, ?_⟩; have HO := zz (Kd.R_lower hr_ (below_size (bel HB.out))); have n1_ := zz (below_step (bel HB.out) hb); clear HB hr_; have HB := n1_; clear n1_ hb))
    go_ret2
    exact ⟨_, by first | rfl | simp, IRow.nil _ _ _, bel HB.out⟩
   subst e2
   rw [if_pos rfl] at h
   by_cases n3 : 0 < (l.length : Int)
   rotate_left
   ·rw [if_neg n3] at h; exact absurd h (by simp)
   rw [if_pos n3] at h
   have N3 := zz n3
   have n3n : (0 < l.length) = True := eq_true (by omega)
   replace n3 := eq_true n3
   by_cases e3 : rd l 0 = 0
   ·rw [if_pos e3] at h
    have eb1 : (rd l 0 == 0) = true := beq_iff_eq.mpr e3
    have eb2 : (rd l 0 != 0) = false := bne_eq_false_iff_eq.mpr e3
    clear e3
    simp only [Option.some.injEq, Prod.mk.injEq] at h
    obtain ⟨rfl, rfl⟩ := h
    go_enter Try.func53, Try.ntmps53
    go_wp2_with (first | ((with_reducible refine gate_dst (N := 4) rfl ?_); refine box_event ?hg (N := 4) ?hd (cs := #[.int .i64 f0, .slice A1 f1.length c1, .slice A2 f2.length c2, .slice A3 f3.length c3, .slice A4 f4.length c4, .int .i64 f5, .int .i64 f6, .int .i64 f7, .int .i64 f8]) (t := 42) ?hr ?_; (case hd => rfl); (case hg => rfl); (case hr => first | (go_simp; done) | (go_simp; rfl)); intro gb hg_ w1 hbox hb; have n0_ := zz (below_step HB.out hb); have BK := zz hbox; clear HB; have HB := n0_; clear n0_ hb hbox hg_; obtain ⟨hc1_0, hc1_1, hc1_2, hc1_3, hc1_4, hc1_5, hc1_6, hc1_7, hc1_8⟩ := nine_cells BK.out) | ((with_reducible refine gate_callee (f := 20) rfl ?_); refine goesL_ (some 22) rfl rfl Try.func20 (by kernel_rfl) rfl #[.int .i64 f0] rfl (by (try simp only [List.map_toArray, List.map_cons, List.map_nil]); first | done | rfl) ?_; (with_reducible refine (runnelref16_Group.calls f0 gn false _ AG.out).mono ?_); rintro e w' ⟨rfl, ⟨nd, rfl⟩⟩; refine ⟨_, rfl, ?_⟩) | ((with_reducible refine gate_callee (f := 90) rfl ?_); refine goesL_ (some 77) rfl rfl Try.func90 (by kernel_rfl) rfl #[.slice A3 f3.length c3, .slice Aa a.length ca] rfl (by (try simp only [List.map_toArray, List.map_cons, List.map_nil]); first | done | rfl) ?_; (with_reducible refine (runnelref16_mapped.calls k A3 c3 f3 Aa ca a l 0 _ (Kd.C_below HR3.out (bel HB.out)) HC3.out (Kd.C_below HRa.out (bel HB.out)) HCa.out AM.out).mono ?_); rintro e w9 ⟨v0_, rfl, hr_, hb⟩; refine ⟨_, rfl, ?_⟩; have HO := zz (Kd.R_lower hr_ (below_size (bel HB.out))); obtain ⟨Ar, cr, rfl⟩ := Kd.R_slice hr_; obtain ⟨adr, er, hl0⟩ := Kd.at_int (Kd.R_reads' hr_).2.2 0 (by decide) N3.out; subst er; replace hl0 : w9.cell? adr = some (.int .i64 (rd l 0)) := (congrArg (World.cell? w9) (show adr = adr.add (0 : Int).toNat by cases adr; rfl)).trans hl0; have n1_ := zz (below_step (bel HB.out) hb); clear HB hr_; have HB := n1_; clear n1_ hb))
    go_ret2
    exact ⟨_, by first | rfl | simp, IRow.arg HVa.out (bel HB.out), bel HB.out⟩
   ·rw [if_neg e3] at h
    have eb1 : (rd l 0 == 0) = false := beq_eq_false_iff_ne.mpr e3
    have eb2 : (rd l 0 != 0) = true := bne_iff_ne.mpr e3
    clear e3
    simp only [Option.some.injEq, Prod.mk.injEq] at h
    obtain ⟨rfl, rfl⟩ := h
    go_enter Try.func53, Try.ntmps53
    go_wp2_with (first | ((with_reducible refine gate_dst (N := 4) rfl ?_); refine box_event ?hg (N := 4) ?hd (cs := #[.int .i64 f0, .slice A1 f1.length c1, .slice A2 f2.length c2, .slice A3 f3.length c3, .slice A4 f4.length c4, .int .i64 f5, .int .i64 f6, .int .i64 f7, .int .i64 f8]) (t := 42) ?hr ?_; (case hd => rfl); (case hg => rfl); (case hr => first | (go_simp; done) | (go_simp; rfl)); intro gb hg_ w1 hbox hb; have n0_ := zz (below_step HB.out hb); have BK := zz hbox; clear HB; have HB := n0_; clear n0_ hb hbox hg_; obtain ⟨hc1_0, hc1_1, hc1_2, hc1_3, hc1_4, hc1_5, hc1_6, hc1_7, hc1_8⟩ := nine_cells BK.out) | ((with_reducible refine gate_callee (f := 20) rfl ?_); refine goesL_ (some 22) rfl rfl Try.func20 (by kernel_rfl) rfl #[.int .i64 f0] rfl (by (try simp only [List.map_toArray, List.map_cons, List.map_nil]); first | done | rfl) ?_; (with_reducible refine (runnelref16_Group.calls f0 gn false _ AG.out).mono ?_); rintro e w' ⟨rfl, ⟨nd, rfl⟩⟩; refine ⟨_, rfl, ?_⟩) | ((with_reducible refine gate_callee (f := 90) rfl ?_); refine goesL_ (some 77) rfl rfl Try.func90 (by kernel_rfl) rfl #[.slice A3 f3.length c3, .slice Aa a.length ca] rfl (by (try simp only [List.map_toArray, List.map_cons, List.map_nil]); first | done | rfl) ?_; (with_reducible refine (runnelref16_mapped.calls k A3 c3 f3 Aa ca a l 0 _ (Kd.C_below HR3.out (bel HB.out)) HC3.out (Kd.C_below HRa.out (bel HB.out)) HCa.out AM.out).mono ?_); rintro e w9 ⟨v0_, rfl, hr_, hb⟩; refine ⟨_, rfl, ?_⟩; have HO := zz (Kd.R_lower hr_ (below_size (bel HB.out))); obtain ⟨Ar, cr, rfl⟩ := Kd.R_slice hr_; obtain ⟨adr, er, hl0⟩ := Kd.at_int (Kd.R_reads' hr_).2.2 0 (by decide) N3.out; subst er; replace hl0 : w9.cell? adr = some (.int .i64 (rd l 0)) := (congrArg (World.cell? w9) (show adr = adr.add (0 : Int).toNat by cases adr; rfl)).trans hl0; have n1_ := zz (below_step (bel HB.out) hb); clear HB hr_; have HB := n1_; clear n1_ hb))
    go_ret2
    exact ⟨_, by first | rfl | simp, IRow.nil _ _ _, bel HB.out⟩
  rw [if_neg k2] at h
  have kb2 : (f0 == 2) = false := beq_eq_false_iff_ne.mpr k2
  clear k2
  by_cases k3 : f0 = 3
  ·rw [if_pos k3] at h
   have kb3 : (f0 == 3) = true := beq_iff_eq.mpr k3
   clear k3
   by_cases m3 : (f4.length : Int) > 16
   ·rw [if_pos m3] at h
    have m3b : decide (16 < (f4.length : Int)) = true := decide_eq_true m3
    have m3c : decide (16 < f4.length) = true := decide_eq_true (by omega)
    clear m3
    simp only [Option.some.injEq, Prod.mk.injEq] at h
    obtain ⟨rfl, rfl⟩ := h
    go_enter Try.func53, Try.ntmps53
    go_wp2_with (first | ((with_reducible refine gate_dst (N := 4) rfl ?_); refine box_event ?hg (N := 4) ?hd (cs := #[.int .i64 f0, .slice A1 f1.length c1, .slice A2 f2.length c2, .slice A3 f3.length c3, .slice A4 f4.length c4, .int .i64 f5, .int .i64 f6, .int .i64 f7, .int .i64 f8]) (t := 42) ?hr ?_; (case hd => rfl); (case hg => rfl); (case hr => first | (go_simp; done) | (go_simp; rfl)); intro gb hg_ w1 hbox hb; have n0_ := zz (below_step HB.out hb); have BK := zz hbox; clear HB; have HB := n0_; clear n0_ hb hbox hg_; obtain ⟨hc1_0, hc1_1, hc1_2, hc1_3, hc1_4, hc1_5, hc1_6, hc1_7, hc1_8⟩ := nine_cells BK.out) | ((with_reducible refine gate_callee (f := 20) rfl ?_); refine goesL_ (some 22) rfl rfl Try.func20 (by kernel_rfl) rfl #[.int .i64 f0] rfl (by (try simp only [List.map_toArray, List.map_cons, List.map_nil]); first | done | rfl) ?_; (with_reducible refine (runnelref16_Group.calls f0 gn false _ AG.out).mono ?_); rintro e w' ⟨rfl, ⟨nd, rfl⟩⟩; refine ⟨_, rfl, ?_⟩))
    go_ret2
    exact ⟨_, by first | rfl | simp, IRow.nil _ _ _, bel HB.out⟩
   rw [if_neg m3] at h
   have m3b : decide (16 < (f4.length : Int)) = false := decide_eq_false m3
   have m3c : decide (16 < f4.length) = false := decide_eq_false (by omega)
   clear m3
   have HL := zz h
   clear h
   go_enter Try.func53, Try.ntmps53
   go_wp2_with (first | ((with_reducible refine gate_dst (N := 4) rfl ?_); refine box_event ?hg (N := 4) ?hd (cs := #[.int .i64 f0, .slice A1 f1.length c1, .slice A2 f2.length c2, .slice A3 f3.length c3, .slice A4 f4.length c4, .int .i64 f5, .int .i64 f6, .int .i64 f7, .int .i64 f8]) (t := 42) ?hr ?_; (case hd => rfl); (case hg => rfl); (case hr => first | (go_simp; done) | (go_simp; rfl)); intro gb hg_ w1 hbox hb; have n0_ := zz (below_step HB.out hb); have BK := zz hbox; clear HB; have HB := n0_; clear n0_ hb hbox hg_; obtain ⟨hc1_0, hc1_1, hc1_2, hc1_3, hc1_4, hc1_5, hc1_6, hc1_7, hc1_8⟩ := nine_cells BK.out) | ((with_reducible refine gate_callee (f := 20) rfl ?_); refine goesL_ (some 22) rfl rfl Try.func20 (by kernel_rfl) rfl #[.int .i64 f0] rfl (by (try simp only [List.map_toArray, List.map_cons, List.map_nil]); first | done | rfl) ?_; (with_reducible refine (runnelref16_Group.calls f0 gn false _ AG.out).mono ?_); rintro e w' ⟨rfl, ⟨nd, rfl⟩⟩; refine ⟨_, rfl, ?_⟩))
   go_loopg [15, 16] k (fun kq v15 v16 w' => ∃ (acc : List Int) (i : Int), v16 = .int .i64 i ∧ Aside0 (runnelref16_kinds.l1 kq f4 a acc i = some (r1, r2)) ∧ Aside0 (kq ≤ k) ∧ Aside0 (Kd.R (Kd.int .i64) 3 w' w.heap.size (fun _ => True) v15 acc) ∧ Aside0 (w'.heap[gb]? = some (.cells #[.int .i64 f0, .slice A1 f1.length c1, .slice A2 f2.length c2, .slice A3 f3.length c3, .slice A4 f4.length c4, .int .i64 f5, .int .i64 f6, .int .i64 f7, .int .i64 f8] 42 (0, 0))) ∧ Aside0 (Below w.heap.size w w'))
   case atStart => exact ⟨[], 0, rfl, HL, ⟨Nat.le_refl _⟩, ⟨Kd.R_nil _ _ _ _ _⟩, ⟨bk BK.out⟩, ⟨bel HB.out⟩⟩
   case round =>
    clear HL BK HB hc1_0 hc1_1 hc1_2 hc1_3 hc1_4 hc1_5 hc1_6 hc1_7 hc1_8
    obtain ⟨acc, i, rfl, HA, HK1, HO, BK, HB⟩ := hrel
    cases gk with
    | zero => exact absurd HA.out (by simp [runnelref16_kinds.l1])
    | succ k1 =>
     have h := HA.out
     clear HA
     obtain ⟨Aq, cq, eq⟩ := Kd.R_slice HO.out
     subst eq
     simp only [runnelref16_kinds.l1] at h
     obtain ⟨hc3_0, hc3_1, hc3_2, hc3_3, hc3_4, hc3_5, hc3_6, hc3_7, hc3_8⟩ := nine_cells BK.out
     by_cases c1 : i < (f4.length : Int)
     rotate_left
     ·rw [if_neg c1] at h
      have c1b : decide (i < (f4.length : Int)) = false := decide_eq_false c1
      clear c1
      simp only [Option.some.injEq, Prod.mk.injEq] at h
      obtain ⟨rfl, rfl⟩ := h
      go_wp2_with fail
      go_ret2
      exact ⟨_, by first | rfl | simp, IRow.of (rl HO.out), bel HB.out⟩
     rw [if_pos c1] at h
     have c1b : decide (i < (f4.length : Int)) = true := decide_eq_true c1
     by_cases p1 : 0 ≤ i
     rotate_left
     ·rw [if_neg p1] at h; exact absurd h (by simp)
     rw [if_pos p1] at h
     replace h := Option.bind_eq_some_iff.mp h
     obtain ⟨t, AT0, h⟩ := h
     try dsimp only at h
     have AT := zz AT0
     clear AT0
     obtain ⟨ad, e, hx⟩ := Kd.at_int HR4.out i p1 c1
     cases e
     replace hx := (HB.out.cell (World.block_lt_of_cell? w _ hx)).trans hx
     generalize rd f4 i = x at hx AT h
     replace p1 := eq_true p1
     replace c1 := eq_true c1
     cases t with
     | false =>
      rw [if_neg (by decide)] at h
      simp only [Option.some.injEq, Prod.mk.injEq] at h
      obtain ⟨rfl, rfl⟩ := h
      go_wp2_with (first | ((with_reducible refine gate_callee (f := 55) rfl ?_); refine goesL_ (some 108) rfl rfl Try.func55 (by kernel_rfl) rfl #[.int .i64 x, .int .i64 0, .int .i64 (wrap64 ((a.length : Int) - 1))] rfl (by (try simp only [List.map_toArray, List.map_cons, List.map_nil]); first | done | rfl) ?_; (with_reducible refine (runnelref16_in.calls x 0 (wrap64 ((a.length : Int) - 1)) false _ AT.out).mono ?_); rintro e w' ⟨rfl, ⟨nd, rfl⟩⟩; refine ⟨_, rfl, ?_⟩))
      go_ret2
      exact ⟨_, by first | rfl | simp, IRow.nil _ _ _, bel HB.out⟩
     | true =>
      rw [if_pos rfl] at h
      by_cases p2 : 0 ≤ x
      rotate_left
      ·rw [if_neg p2] at h; exact absurd h (by simp)
      rw [if_pos p2] at h
      by_cases q2 : x < (a.length : Int)
      rotate_left
      ·rw [if_neg q2] at h; exact absurd h (by simp)
      rw [if_pos q2] at h
      by_cases m2 : acc.length < 1000000
      rotate_left
      ·rw [if_neg m2] at h; exact absurd h (by simp)
      rw [if_pos m2] at h
      have M2 := zz m2
      have H' := zz h
      clear h m2
      obtain ⟨ad2, e, hy⟩ := Kd.at_int HRa.out x p2 q2
      cases e
      replace hy := (HB.out.cell (World.block_lt_of_cell? w _ hy)).trans hy
      replace p2 := eq_true p2
      replace q2 := eq_true q2
      go_wp2_with (first | ((with_reducible refine gate_callee (f := 55) rfl ?_); refine goesL_ (some 108) rfl rfl Try.func55 (by kernel_rfl) rfl #[.int .i64 x, .int .i64 0, .int .i64 (wrap64 ((a.length : Int) - 1))] rfl (by (try simp only [List.map_toArray, List.map_cons, List.map_nil]); first | done | rfl) ?_; (with_reducible refine (runnelref16_in.calls x 0 (wrap64 ((a.length : Int) - 1)) true _ AT.out).mono ?_); rintro e w' ⟨rfl, ⟨nd, rfl⟩⟩; refine ⟨_, rfl, ?_⟩) | ((with_reducible refine gate_builtin (b := .append) (xs := #[.tmp 110, .tmp 119]) rfl ?_); at_builtin; refine Kd.R_append (Kd.int .i64) (w0 := w) w.heap.size rfl (.tmp 110) (.tmp 119) 23 3 (.int .i64 0) 8 rfl Try.underlying23 info3 rfl (by decide) (by omega) (.slice Aq acc.length cq) acc (rd a x) [.int .i64 (rd a x)] (fun _ => True) (fun _ => False) rfl rfl ?aP (fun _ hk => hk.elim) ?aF ?aO ?aB ?aS ?aL ?_; (case aP => exact rfl); (case aB => exact (bel HB.out)); (case aF => exact (fun _ _ => trivial)); (case aO => exact (rl HO.out)); (case aS => exact (below_size (bel HB.out))); (case aL => have := M2.out; omega); intro v7 w7 ho hb hg hat; have n0_ := zz (blk_grown (g := gb) (bk BK.out) hg (Kd.R_ne HO.out BK.out (by decide))); have n1_ := zz ho; have n2_ := zz hb; clear HO HB BK; have HO := n1_; have HB := n2_; have BK := n0_; clear n0_ n1_ n2_ ho hb hg hat))
      go_roundg k1
      case measure => have := HK1.out; omega
      case rel => exact ⟨acc ++ [rd a x], wrap64 (i + 1), (by first | rfl | (simp; done) | (simp [*]; done)), H', ⟨by have := HK1.out; omega⟩, ⟨rl HO.out⟩, ⟨bk BK.out⟩, ⟨bel HB.out⟩⟩
  rw [if_neg k3] at h
  have kb3 : (f0 == 3) = false := beq_eq_false_iff_ne.mpr k3
  clear k3
  by_cases k4 : f0 = 4
  ·rw [if_pos k4] at h
   have kb4 : (f0 == 4) = true := beq_iff_eq.mpr k4
   clear k4
   have HL := zz h
   clear h
   go_enter Try.func53, Try.ntmps53
   go_wp2_with (first | ((with_reducible refine gate_dst (N := 4) rfl ?_); refine box_event ?hg (N := 4) ?hd (cs := #[.int .i64 f0, .slice A1 f1.length c1, .slice A2 f2.length c2, .slice A3 f3.length c3, .slice A4 f4.length c4, .int .i64 f5, .int .i64 f6, .int .i64 f7, .int .i64 f8]) (t := 42) ?hr ?_; (case hd => rfl); (case hg => rfl); (case hr => first | (go_simp; done) | (go_simp; rfl)); intro gb hg_ w1 hbox hb; have n0_ := zz (below_step HB.out hb); have BK := zz hbox; clear HB; have HB := n0_; clear n0_ hb hbox hg_; obtain ⟨hc1_0, hc1_1, hc1_2, hc1_3, hc1_4, hc1_5, hc1_6, hc1_7, hc1_8⟩ := nine_cells BK.out) | ((with_reducible refine gate_callee (f := 20) rfl ?_); refine goesL_ (some 22) rfl rfl Try.func20 (by kernel_rfl) rfl #[.int .i64 f0] rfl (by (try simp only [List.map_toArray, List.map_cons, List.map_nil]); first | done | rfl) ?_; (with_reducible refine (runnelref16_Group.calls f0 gn false _ AG.out).mono ?_); rintro e w' ⟨rfl, ⟨nd, rfl⟩⟩; refine ⟨_, rfl, ?_⟩))
   go_loopg [17] k (fun kq v17 w' => ∃ (i : Int), v17 = .int .i64 i ∧ Aside0 (runnelref16_kinds.l2 kq ins a i = some (r1, r2)) ∧ Aside0 (kq ≤ k) ∧ Aside0 (Below w.heap.size w w'))
   case atStart => exact ⟨0, rfl, HL, ⟨Nat.le_refl _⟩, ⟨bel HB.out⟩⟩
   case round =>
    clear HL BK HB hc1_0 hc1_1 hc1_2 hc1_3 hc1_4 hc1_5 hc1_6 hc1_7 hc1_8
    obtain ⟨i, rfl, HA, HK1, HB⟩ := hrel
    cases gk with
    | zero => exact absurd HA.out (by simp [runnelref16_kinds.l2])
    | succ k1 =>
     have h := HA.out
     clear HA
     simp only [runnelref16_kinds.l2] at h
     by_cases c1 : i < (ins.length : Int)
     rotate_left
     ·rw [if_neg c1] at h
      have c1b : decide (i < (ins.length : Int)) = false := decide_eq_false c1
      clear c1
      simp only [Option.some.injEq, Prod.mk.injEq] at h
      obtain ⟨rfl, rfl⟩ := h
      go_wp2_with fail
      go_ret2
      exact ⟨_, by first | rfl | simp, IRow.arg HVa.out (bel HB.out), bel HB.out⟩
     rw [if_pos c1] at h
     have c1b : decide (i < (ins.length : Int)) = true := decide_eq_true c1
     by_cases p1 : 0 ≤ i
     rotate_left
     ·rw [if_neg p1] at h; exact absurd h (by simp)
     rw [if_pos p1] at h
     replace h := Option.bind_eq_some_iff.mp h
     obtain ⟨t, AT0, h⟩ := h
     try dsimp only at h
     have AT := zz AT0
     clear AT0
     obtain ⟨ad, Ax, cx, e, hx, hlx, hix⟩ := at_L3 HRi.out i p1 c1
     cases e
     replace hx := (HB.out.cell (World.block_lt_of_cell? w _ hx)).trans hx
     generalize rd_L3 ins i = x at hx AT hlx hix
     have HCx := zz hlx
     have HRx := zz hix
     clear hlx hix
     replace p1 := eq_true p1
     replace c1 := eq_true c1
     cases t with
     | false =>
      rw [if_neg (by decide)] at h
      simp only [Option.some.injEq, Prod.mk.injEq] at h
      obtain ⟨rfl, rfl⟩ := h
      go_wp2_with (first | ((with_reducible refine gate_callee (f := 54) rfl ?_); refine goesL_ (some 135) rfl rfl Try.func54 (by kernel_rfl) rfl #[.slice Ax x.length cx, .slice Aa a.length ca] rfl (by (try simp only [List.map_toArray, List.map_cons, List.map_nil]); first | done | rfl) ?_; (with_reducible refine (runnelref16_same.calls k1 Ax cx x Aa ca a false _ (Kd.C_below HRx.out (bel HB.out)) HCx.out (Kd.C_below HRa.out (bel HB.out)) HCa.out AT.out).mono ?_); rintro e w' ⟨rfl, ⟨nd, rfl⟩⟩; refine ⟨_, rfl, ?_⟩))
      go_ret2
      exact ⟨_, by first | rfl | simp, IRow.nil _ _ _, bel HB.out⟩
     | true =>
      rw [if_pos rfl] at h
      have H' := zz h
      clear h
      go_wp2_with (first | ((with_reducible refine gate_callee (f := 54) rfl ?_); refine goesL_ (some 135) rfl rfl Try.func54 (by kernel_rfl) rfl #[.slice Ax x.length cx, .slice Aa a.length ca] rfl (by (try simp only [List.map_toArray, List.map_cons, List.map_nil]); first | done | rfl) ?_; (with_reducible refine (runnelref16_same.calls k1 Ax cx x Aa ca a true _ (Kd.C_below HRx.out (bel HB.out)) HCx.out (Kd.C_below HRa.out (bel HB.out)) HCa.out AT.out).mono ?_); rintro e w' ⟨rfl, ⟨nd, rfl⟩⟩; refine ⟨_, rfl, ?_⟩))
      go_roundg k1
      case measure => have := HK1.out; omega
      case rel => exact ⟨wrap64 (i + 1), (by first | rfl | (simp; done) | (simp [*]; done)), H', ⟨by have := HK1.out; omega⟩, ⟨bel HB.out⟩⟩
  rw [if_neg k4] at h
  have kb4 : (f0 == 4) = false := beq_eq_false_iff_ne.mpr k4
  clear k4
  by_cases k7 : f0 = 7
  ·rw [if_pos k7] at h
   have kb7 : (f0 == 7) = true := beq_iff_eq.mpr k7
   clear k7
   replace h := Option.bind_eq_some_iff.mp h
   obtain ⟨t, AT0, h⟩ := h
   try dsimp only at h
   have AT := zz AT0
   clear AT0
   cases t with
   | false =>
    rw [if_neg (by decide)] at h
    simp only [Option.some.injEq, Prod.mk.injEq] at h
    obtain ⟨rfl, rfl⟩ := h
    go_enter Try.func53, Try.ntmps53
    go_wp2_with (first | ((with_reducible refine gate_dst (N := 4) rfl ?_); refine box_event ?hg (N := 4) ?hd (cs := #[.int .i64 f0, .slice A1 f1.length c1, .slice A2 f2.length c2, .slice A3 f3.length c3, .slice A4 f4.length c4, .int .i64 f5, .int .i64 f6, .int .i64 f7, .int .i64 f8]) (t := 42) ?hr ?_; (case hd => rfl); (case hg => rfl); (case hr => first | (go_simp; done) | (go_simp; rfl)); intro gb hg_ w1 hbox hb; have n0_ := zz (below_step HB.out hb); have BK := zz hbox; clear HB; have HB := n0_; clear n0_ hb hbox hg_; obtain ⟨hc1_0, hc1_1, hc1_2, hc1_3, hc1_4, hc1_5, hc1_6, hc1_7, hc1_8⟩ := nine_cells BK.out) | ((with_reducible refine gate_callee (f := 20) rfl ?_); refine goesL_ (some 22) rfl rfl Try.func20 (by kernel_rfl) rfl #[.int .i64 f0] rfl (by (try simp only [List.map_toArray, List.map_cons, List.map_nil]); first | done | rfl) ?_; (with_reducible refine (runnelref16_Group.calls f0 gn false _ AG.out).mono ?_); rintro e w' ⟨rfl, ⟨nd, rfl⟩⟩; refine ⟨_, rfl, ?_⟩) | ((with_reducible refine gate_callee (f := 55) rfl ?_); refine goesL_ (some 144) rfl rfl Try.func55 (by kernel_rfl) rfl #[.int .i64 f6, .int .i64 0, .int .i64 (wrap64 ((a.length : Int) - 1))] rfl (by (try simp only [List.map_toArray, List.map_cons, List.map_nil]); first | done | rfl) ?_; (with_reducible refine (runnelref16_in.calls f6 0 (wrap64 ((a.length : Int) - 1)) false _ AT.out).mono ?_); rintro e w' ⟨rfl, ⟨nd, rfl⟩⟩; refine ⟨_, rfl, ?_⟩))
    go_ret2
    exact ⟨_, by first | rfl | simp, IRow.nil _ _ _, bel HB.out⟩
   | true =>
    rw [if_pos rfl] at h
    by_cases p2 : 0 ≤ f6
    rotate_left
    ·rw [if_neg p2] at h; exact absurd h (by simp)
    rw [if_pos p2] at h
    by_cases q2 : f6 < (a.length : Int)
    rotate_left
    ·rw [if_neg q2] at h; exact absurd h (by simp)
    rw [if_pos q2] at h
    obtain ⟨ad2, e, hy⟩ := Kd.at_int HRa.out f6 p2 q2
    cases e
    have HY := zz hy
    clear hy
    replace p2 := eq_true p2
    replace q2 := eq_true q2
    by_cases z : rd a f6 = 0
    rotate_left
    ·rw [if_neg z] at h
     have zb : (rd a f6 == 0) = false := beq_eq_false_iff_ne.mpr z
     have zc : (rd a f6 != 0) = true := bne_iff_ne.mpr z
     clear z
     simp only [Option.some.injEq, Prod.mk.injEq] at h
     obtain ⟨rfl, rfl⟩ := h
     go_enter Try.func53, Try.ntmps53
     go_wp2_with (first | ((with_reducible refine gate_dst (N := 4) rfl ?_); refine box_event ?hg (N := 4) ?hd (cs := #[.int .i64 f0, .slice A1 f1.length c1, .slice A2 f2.length c2, .slice A3 f3.length c3, .slice A4 f4.length c4, .int .i64 f5, .int .i64 f6, .int .i64 f7, .int .i64 f8]) (t := 42) ?hr ?_; (case hd => rfl); (case hg => rfl); (case hr => first | (go_simp; done) | (go_simp; rfl)); intro gb hg_ w1 hbox hb; have n0_ := zz (below_step HB.out hb); have BK := zz hbox; clear HB; have HB := n0_; clear n0_ hb hbox hg_; obtain ⟨hc1_0, hc1_1, hc1_2, hc1_3, hc1_4, hc1_5, hc1_6, hc1_7, hc1_8⟩ := nine_cells BK.out) | (((with_reducible refine gate_callee (f := 20) rfl ?_); refine goesL_ (some 22) rfl rfl Try.func20 (by kernel_rfl) rfl #[.int .i64 f0] rfl (by (try simp only [List.map_toArray, List.map_cons, List.map_nil]); first | done | rfl) ?_; (with_reducible refine (runnelref16_Group.calls f0 gn false _ AG.out).mono ?_); rintro e w' ⟨rfl, ⟨nd, rfl⟩⟩; refine ⟨_, rfl, ?_⟩); (have hy := (HB.out.cell (World.block_lt_of_cell? w _ HY.out)).trans HY.out)) | ((with_reducible refine gate_callee (f := 55) rfl ?_); refine goesL_ (some 144) rfl rfl Try.func55 (by kernel_rfl) rfl #[.int .i64 f6, .int .i64 0, .int .i64 (wrap64 ((a.length : Int) - 1))] rfl (by (try simp only [List.map_toArray, List.map_cons, List.map_nil]); first | done | rfl) ?_; (with_reducible refine (runnelref16_in.calls f6 0 (wrap64 ((a.length : Int) - 1)) true _ AT.out).mono ?_); rintro e w' ⟨rfl, ⟨nd, rfl⟩⟩; refine ⟨_, rfl, ?_⟩))
     go_ret2
     exact ⟨_, by first | rfl | simp, IRow.nil _ _ _, bel HB.out⟩
    rw [if_pos z] at h
    have zb : (rd a f6 == 0) = true := beq_iff_eq.mpr z
    have zc : (rd a f6 != 0) = false := bne_eq_false_iff_eq.mpr z
    clear z
    replace h := Option.bind_eq_some_iff.mp h
    obtain ⟨e, AE0, h⟩ := h
    try dsimp only at h
    have AE := zz AE0
    clear AE0
    by_cases y : e = 0
    rotate_left
    ·rw [if_neg y] at h
     have yb : (e == 0) = false := beq_eq_false_iff_ne.mpr y
     have yc : (e != 0) = true := bne_iff_ne.mpr y
     clear y
     simp only [Option.some.injEq, Prod.mk.injEq] at h
     obtain ⟨rfl, rfl⟩ := h
     go_enter Try.func53, Try.ntmps53
     go_wp2_with (first | ((with_reducible refine gate_dst (N := 4) rfl ?_); refine box_event ?hg (N := 4) ?hd (cs := #[.int .i64 f0, .slice A1 f1.length c1, .slice A2 f2.length c2, .slice A3 f3.length c3, .slice A4 f4.length c4, .int .i64 f5, .int .i64 f6, .int .i64 f7, .int .i64 f8]) (t := 42) ?hr ?_; (case hd => rfl); (case hg => rfl); (case hr => first | (go_simp; done) | (go_simp; rfl)); intro gb hg_ w1 hbox hb; have n0_ := zz (below_step HB.out hb); have BK := zz hbox; clear HB; have HB := n0_; clear n0_ hb hbox hg_; obtain ⟨hc1_0, hc1_1, hc1_2, hc1_3, hc1_4, hc1_5, hc1_6, hc1_7, hc1_8⟩ := nine_cells BK.out) | (((with_reducible refine gate_callee (f := 20) rfl ?_); refine goesL_ (some 22) rfl rfl Try.func20 (by kernel_rfl) rfl #[.int .i64 f0] rfl (by (try simp only [List.map_toArray, List.map_cons, List.map_nil]); first | done | rfl) ?_; (with_reducible refine (runnelref16_Group.calls f0 gn false _ AG.out).mono ?_); rintro e w' ⟨rfl, ⟨nd, rfl⟩⟩; refine ⟨_, rfl, ?_⟩); (have hy := (HB.out.cell (World.block_lt_of_cell? w _ HY.out)).trans HY.out)) | ((with_reducible refine gate_callee (f := 55) rfl ?_); refine goesL_ (some 144) rfl rfl Try.func55 (by kernel_rfl) rfl #[.int .i64 f6, .int .i64 0, .int .i64 (wrap64 ((a.length : Int) - 1))] rfl (by (try simp only [List.map_toArray, List.map_cons, List.map_nil]); first | done | rfl) ?_; (with_reducible refine (runnelref16_in.calls f6 0 (wrap64 ((a.length : Int) - 1)) true _ AT.out).mono ?_); rintro e w' ⟨rfl, ⟨nd, rfl⟩⟩; refine ⟨_, rfl, ?_⟩) | ((with_reducible refine gate_callee (f := 91) rfl ?_); refine goesL_ (some 156) rfl rfl Try.func91 (by kernel_rfl) rfl #[.int .i64 f7, .int .i64 f8] rfl (by (try simp only [List.map_toArray, List.map_cons, List.map_nil]); first | done | rfl) ?_; (with_reducible refine (runnelref14_Check.calls k f7 f8 e _ AE.out).mono ?_); rintro e w' ⟨rfl, ⟨nd, rfl⟩⟩; refine ⟨_, rfl, ?_⟩))
     go_ret2
     exact ⟨_, by first | rfl | simp, IRow.nil _ _ _, bel HB.out⟩
    subst y
    rw [if_pos rfl] at h
    by_cases m : (a.length : Int) ≥ 16
    ·rw [if_pos m] at h
     have mb : decide (16 ≤ (a.length : Int)) = true := decide_eq_true m
     have mc : decide (16 ≤ a.length) = true := decide_eq_true (by omega)
     clear m
     simp only [Option.some.injEq, Prod.mk.injEq] at h
     obtain ⟨rfl, rfl⟩ := h
     go_enter Try.func53, Try.ntmps53
     go_wp2_with (first | ((with_reducible refine gate_dst (N := 4) rfl ?_); refine box_event ?hg (N := 4) ?hd (cs := #[.int .i64 f0, .slice A1 f1.length c1, .slice A2 f2.length c2, .slice A3 f3.length c3, .slice A4 f4.length c4, .int .i64 f5, .int .i64 f6, .int .i64 f7, .int .i64 f8]) (t := 42) ?hr ?_; (case hd => rfl); (case hg => rfl); (case hr => first | (go_simp; done) | (go_simp; rfl)); intro gb hg_ w1 hbox hb; have n0_ := zz (below_step HB.out hb); have BK := zz hbox; clear HB; have HB := n0_; clear n0_ hb hbox hg_; obtain ⟨hc1_0, hc1_1, hc1_2, hc1_3, hc1_4, hc1_5, hc1_6, hc1_7, hc1_8⟩ := nine_cells BK.out) | (((with_reducible refine gate_callee (f := 20) rfl ?_); refine goesL_ (some 22) rfl rfl Try.func20 (by kernel_rfl) rfl #[.int .i64 f0] rfl (by (try simp only [List.map_toArray, List.map_cons, List.map_nil]); first | done | rfl) ?_; (with_reducible refine (runnelref16_Group.calls f0 gn false _ AG.out).mono ?_); rintro e w' ⟨rfl, ⟨nd, rfl⟩⟩; refine ⟨_, rfl, ?_⟩); (have hy := (HB.out.cell (World.block_lt_of_cell? w _ HY.out)).trans HY.out)) | ((with_reducible refine gate_callee (f := 55) rfl ?_); refine goesL_ (some 144) rfl rfl Try.func55 (by kernel_rfl) rfl #[.int .i64 f6, .int .i64 0, .int .i64 (wrap64 ((a.length : Int) - 1))] rfl (by (try simp only [List.map_toArray, List.map_cons, List.map_nil]); first | done | rfl) ?_; (with_reducible refine (runnelref16_in.calls f6 0 (wrap64 ((a.length : Int) - 1)) true _ AT.out).mono ?_); rintro e w' ⟨rfl, ⟨nd, rfl⟩⟩; refine ⟨_, rfl, ?_⟩) | ((with_reducible refine gate_callee (f := 91) rfl ?_); refine goesL_ (some 156) rfl rfl Try.func91 (by kernel_rfl) rfl #[.int .i64 f7, .int .i64 f8] rfl (by (try simp only [List.map_toArray, List.map_cons, List.map_nil]); first | done | rfl) ?_; (with_reducible refine (runnelref14_Check.calls k f7 f8 0 _ AE.out).mono ?_); rintro e w' ⟨rfl, ⟨nd, rfl⟩⟩; refine ⟨_, rfl, ?_⟩))
     go_ret2
     exact ⟨_, by first | rfl | simp, IRow.nil _ _ _, bel HB.out⟩
    rw [if_neg m] at h
    have mb : decide (16 ≤ (a.length : Int)) = false := decide_eq_false m
    have mc : decide (16 ≤ a.length) = false := decide_eq_false (by omega)
    have M7 := zz m
    clear m
    simp only [Option.some.injEq, Prod.mk.injEq] at h
    obtain ⟨rfl, rfl⟩ := h
    go_enter Try.func53, Try.ntmps53
    go_wp2_with (first | ((with_reducible refine gate_dst (N := 4) rfl ?_); refine box_event ?hg (N := 4) ?hd (cs := #[.int .i64 f0, .slice A1 f1.length c1, .slice A2 f2.length c2, .slice A3 f3.length c3, .slice A4 f4.length c4, .int .i64 f5, .int .i64 f6, .int .i64 f7, .int .i64 f8]) (t := 42) ?hr ?_; (case hd => rfl); (case hg => rfl); (case hr => first | (go_simp; done) | (go_simp; rfl)); intro gb hg_ w1 hbox hb; have n0_ := zz (below_step HB.out hb); have BK := zz hbox; clear HB; have HB := n0_; clear n0_ hb hbox hg_; obtain ⟨hc1_0, hc1_1, hc1_2, hc1_3, hc1_4, hc1_5, hc1_6, hc1_7, hc1_8⟩ := nine_cells BK.out) | (((with_reducible refine gate_callee (f := 20) rfl ?_); refine goesL_ (some 22) rfl rfl Try.func20 (by kernel_rfl) rfl #[.int .i64 f0] rfl (by (try simp only [List.map_toArray, List.map_cons, List.map_nil]); first | done | rfl) ?_; (with_reducible refine (runnelref16_Group.calls f0 gn false _ AG.out).mono ?_); rintro e w' ⟨rfl, ⟨nd, rfl⟩⟩; refine ⟨_, rfl, ?_⟩); (have hy := (HB.out.cell (World.block_lt_of_cell? w _ HY.out)).trans HY.out)) | ((with_reducible refine gate_callee (f := 55) rfl ?_); refine goesL_ (some 144) rfl rfl Try.func55 (by kernel_rfl) rfl #[.int .i64 f6, .int .i64 0, .int .i64 (wrap64 ((a.length : Int) - 1))] rfl (by (try simp only [List.map_toArray, List.map_cons, List.map_nil]); first | done | rfl) ?_; (with_reducible refine (runnelref16_in.calls f6 0 (wrap64 ((a.length : Int) - 1)) true _ AT.out).mono ?_); rintro e w' ⟨rfl, ⟨nd, rfl⟩⟩; refine ⟨_, rfl, ?_⟩) | ((with_reducible refine gate_callee (f := 91) rfl ?_); refine goesL_ (some 156) rfl rfl Try.func91 (by kernel_rfl) rfl #[.int .i64 f7, .int .i64 f8] rfl (by (try simp only [List.map_toArray, List.map_cons, List.map_nil]); first | done | rfl) ?_; (with_reducible refine (runnelref14_Check.calls k f7 f8 0 _ AE.out).mono ?_); rintro e w' ⟨rfl, ⟨nd, rfl⟩⟩; refine ⟨_, rfl, ?_⟩) | ((with_reducible refine gate_dst (N := 163) rfl ?_); (try (refine gate_guard (by rfl) ?_; dsimp only)); refine Kd.R_lit (Kd.int .i64) _ 3 ?hg (N := 163) ?hd (xs := ([] : List Int)) (inner := []) (ok := fun _ => True) (okp := fun _ => True) ?hr ?hp (fun _ hk => hk) trivial (Below.refl _ _) (Nat.le_refl _) (by simp) ?_; (case hd => rfl); (case hg => rfl); (case hr => first | (go_simp; done) | (go_simp; rfl)); (case hp => exact (Reps.none _ _)); intro v5 w5 ho hb hg_ hnew_; clear hg_ hnew_; have HO5 := zz (Kd.R_lower (Kd.R_mono (Kd.R_bound ho) (fun _ _ => trivial)) (below_size (bel HB.out))); have HB5 := zz (below_step (bel HB.out) hb); clear ho hb) | ((with_reducible refine gate_builtin (b := .append) (xs := #[.tmp 163, .tmp 164]) rfl ?_); at_builtin; refine Kd.R_append_rows (Kd.int .i64) (w0 := w) w.heap.size rfl (.tmp 163) (.tmp 164) 23 3 (.int .i64 0) 8 rfl Try.underlying23 info3 rfl (by decide) (by omega) v5 [] a _ _ _ (fun _ => True) (fun _ => False) rfl rfl ?aO ?aR (fun _ _ h => h) (fun _ h => h.elim) ?aF ?aB ?aS ?aL ?_; (case aR => exact (Kd.C_below HRa.out (bel HB5.out))); (case aB => exact (bel HB5.out)); (case aF => exact (fun _ _ => trivial)); (case aO => exact (rl HO5.out)); (case aS => exact below_size (bel HB5.out)); (case aL => have := M7.out; simp only [List.length_nil]; omega); intro v6 w6 ho hb hg hat; clear hg hat; simp only [List.nil_append] at ho; have HO6 := zz ho; have HB6 := zz hb; clear ho hb) | ((with_reducible refine gate_builtin (b := .append) (xs := #[.tmp 165, .tmp 166]) rfl ?_); at_builtin; refine Kd.R_append (Kd.int .i64) (w0 := w) w.heap.size rfl (.tmp 165) (.tmp 166) 23 3 (.int .i64 0) 8 rfl Try.underlying23 info3 rfl (by decide) (by omega) v6 a 0 [.int .i64 0] (fun _ => True) (fun _ => False) rfl rfl ?aP (fun _ hk => hk.elim) ?aF ?aO ?aB ?aS ?aL ?_; (case aP => exact rfl); (case aB => exact (bel HB6.out)); (case aF => exact (fun _ _ => trivial)); (case aO => exact (rl HO6.out)); (case aS => exact (below_size (bel HB6.out))); (case aL => have := M7.out; omega); intro v7 w7 ho hb hg hat; clear hg hat; have HO7 := zz ho; have HB7 := zz hb; clear ho hb HB; have HB := HB7))
    go_ret2
    exact ⟨_, by first | rfl | simp, IRow.of (rl HO7.out), bel HB.out⟩
  rw [if_neg k7] at h
  have kb7 : (f0 == 7) = false := beq_eq_false_iff_ne.mpr k7
  clear k7
  by_cases k8 : f0 = 8
  ·rw [if_pos k8] at h
   have kb8 : (f0 == 8) = true := beq_iff_eq.mpr k8
   clear k8
   replace h := Option.bind_eq_some_iff.mp h
   obtain ⟨t, AT0, h⟩ := h
   try dsimp only at h
   have AT := zz AT0
   clear AT0
   cases t with
   | false =>
    rw [if_neg (by decide)] at h
    simp only [Option.some.injEq, Prod.mk.injEq] at h
    obtain ⟨rfl, rfl⟩ := h
    go_enter Try.func53, Try.ntmps53
    go_wp2_with (first | ((with_reducible refine gate_dst (N := 4) rfl ?_); refine box_event ?hg (N := 4) ?hd (cs := #[.int .i64 f0, .slice A1 f1.length c1, .slice A2 f2.length c2, .slice A3 f3.length c3, .slice A4 f4.length c4, .int .i64 f5, .int .i64 f6, .int .i64 f7, .int .i64 f8]) (t := 42) ?hr ?_; (case hd => rfl); (case hg => rfl); (case hr => first | (go_simp; done) | (go_simp; rfl)); intro gb hg_ w1 hbox hb; have n0_ := zz (below_step HB.out hb); have BK := zz hbox; clear HB; have HB := n0_; clear n0_ hb hbox hg_; obtain ⟨hc1_0, hc1_1, hc1_2, hc1_3, hc1_4, hc1_5, hc1_6, hc1_7, hc1_8⟩ := nine_cells BK.out) | ((with_reducible refine gate_callee (f := 20) rfl ?_); refine goesL_ (some 22) rfl rfl Try.func20 (by kernel_rfl) rfl #[.int .i64 f0] rfl (by (try simp only [List.map_toArray, List.map_cons, List.map_nil]); first | done | rfl) ?_; (with_reducible refine (runnelref16_Group.calls f0 gn false _ AG.out).mono ?_); rintro e w' ⟨rfl, ⟨nd, rfl⟩⟩; refine ⟨_, rfl, ?_⟩) | ((with_reducible refine gate_callee (f := 55) rfl ?_); refine goesL_ (some 174) rfl rfl Try.func55 (by kernel_rfl) rfl #[.int .i64 f5, .int .i64 0, .int .i64 (a.length : Int)] rfl (by (try simp only [List.map_toArray, List.map_cons, List.map_nil]); first | done | rfl) ?_; (with_reducible refine (runnelref16_in.calls f5 0 (a.length : Int) false _ AT.out).mono ?_); rintro e w' ⟨rfl, ⟨nd, rfl⟩⟩; refine ⟨_, rfl, ?_⟩))
    go_ret2
    exact ⟨_, by first | rfl | simp, IRow.nil _ _ _, bel HB.out⟩
   | true =>
    rw [if_pos rfl] at h
    simp only [Option.some.injEq, Prod.mk.injEq] at h
    obtain ⟨rfl, rfl⟩ := h
    go_enter Try.func53, Try.ntmps53
    go_wp2_with (first | ((with_reducible refine gate_dst (N := 4) rfl ?_); refine box_event ?hg (N := 4) ?hd (cs := #[.int .i64 f0, .slice A1 f1.length c1, .slice A2 f2.length c2, .slice A3 f3.length c3, .slice A4 f4.length c4, .int .i64 f5, .int .i64 f6, .int .i64 f7, .int .i64 f8]) (t := 42) ?hr ?_; (case hd => rfl); (case hg => rfl); (case hr => first | (go_simp; done) | (go_simp; rfl)); intro gb hg_ w1 hbox hb; have n0_ := zz (below_step HB.out hb); have BK := zz hbox; clear HB; have HB := n0_; clear n0_ hb hbox hg_; obtain ⟨hc1_0, hc1_1, hc1_2, hc1_3, hc1_4, hc1_5, hc1_6, hc1_7, hc1_8⟩ := nine_cells BK.out) | ((with_reducible refine gate_callee (f := 20) rfl ?_); refine goesL_ (some 22) rfl rfl Try.func20 (by kernel_rfl) rfl #[.int .i64 f0] rfl (by (try simp only [List.map_toArray, List.map_cons, List.map_nil]); first | done | rfl) ?_; (with_reducible refine (runnelref16_Group.calls f0 gn false _ AG.out).mono ?_); rintro e w' ⟨rfl, ⟨nd, rfl⟩⟩; refine ⟨_, rfl, ?_⟩) | ((with_reducible refine gate_callee (f := 55) rfl ?_); refine goesL_ (some 174) rfl rfl Try.func55 (by kernel_rfl) rfl #[.int .i64 f5, .int .i64 0, .int .i64 (a.length : Int)] rfl (by (try simp only [List.map_toArray, List.map_cons, List.map_nil]); first | done | rfl) ?_; (with_reducible refine (runnelref16_in.calls f5 0 (a.length : Int) true _ AT.out).mono ?_); rintro e w' ⟨rfl, ⟨nd, rfl⟩⟩; refine ⟨_, rfl, ?_⟩))
    go_ret2
    exact ⟨_, by first | rfl | simp, IRow.arg HVa.out (bel HB.out), bel HB.out⟩
  rw [if_neg k8] at h
  have kb8 : (f0 == 8) = false := beq_eq_false_iff_ne.mpr k8
  clear k8
  by_cases k15 : f0 = 15
  ·rw [if_pos k15] at h
   have kb15 : (f0 == 15) = true := beq_iff_eq.mpr k15
   clear k15
   replace h := Option.bind_eq_some_iff.mp h
   obtain ⟨t, AT0, h⟩ := h
   try dsimp only at h
   have AT := zz AT0
   clear AT0
   cases t with
   | false =>
    rw [if_neg (by decide)] at h
    simp only [Option.some.injEq, Prod.mk.injEq] at h
    obtain ⟨rfl, rfl⟩ := h
    go_enter Try.func53, Try.ntmps53
    go_wp2_with (first | ((with_reducible refine gate_dst (N := 4) rfl ?_); refine box_event ?hg (N := 4) ?hd (cs := #[.int .i64 f0, .slice A1 f1.length c1, .slice A2 f2.length c2, .slice A3 f3.length c3, .slice A4 f4.length c4, .int .i64 f5, .int .i64 f6, .int .i64 f7, .int .i64 f8]) (t := 42) ?hr ?_; (case hd => rfl); (case hg => rfl); (case hr => first | (go_simp; done) | (go_simp; rfl)); intro gb hg_ w1 hbox hb; have n0_ := zz (below_step HB.out hb); have BK := zz hbox; clear HB; have HB := n0_; clear n0_ hb hbox hg_; obtain ⟨hc1_0, hc1_1, hc1_2, hc1_3, hc1_4, hc1_5, hc1_6, hc1_7, hc1_8⟩ := nine_cells BK.out) | ((with_reducible refine gate_callee (f := 20) rfl ?_); refine goesL_ (some 22) rfl rfl Try.func20 (by kernel_rfl) rfl #[.int .i64 f0] rfl (by (try simp only [List.map_toArray, List.map_cons, List.map_nil]); first | done | rfl) ?_; (with_reducible refine (runnelref16_Group.calls f0 gn false _ AG.out).mono ?_); rintro e w' ⟨rfl, ⟨nd, rfl⟩⟩; refine ⟨_, rfl, ?_⟩) | ((with_reducible refine gate_callee (f := 55) rfl ?_); refine goesL_ (some 182) rfl rfl Try.func55 (by kernel_rfl) rfl #[.int .i64 f5, .int .i64 0, .int .i64 (a.length : Int)] rfl (by (try simp only [List.map_toArray, List.map_cons, List.map_nil]); first | done | rfl) ?_; (with_reducible refine (runnelref16_in.calls f5 0 (a.length : Int) false _ AT.out).mono ?_); rintro e w' ⟨rfl, ⟨nd, rfl⟩⟩; refine ⟨_, rfl, ?_⟩))
    go_ret2
    exact ⟨_, by first | rfl | simp, IRow.nil _ _ _, bel HB.out⟩
   | true =>
    rw [if_pos rfl] at h
    by_cases m : f5 > (b.length : Int)
    ·rw [if_pos m] at h
     have mb : decide ((b.length : Int) < f5) = true := decide_eq_true m
     clear m
     simp only [Option.some.injEq, Prod.mk.injEq] at h
     obtain ⟨rfl, rfl⟩ := h
     go_enter Try.func53, Try.ntmps53
     go_wp2_with (first | ((with_reducible refine gate_dst (N := 4) rfl ?_); refine box_event ?hg (N := 4) ?hd (cs := #[.int .i64 f0, .slice A1 f1.length c1, .slice A2 f2.length c2, .slice A3 f3.length c3, .slice A4 f4.length c4, .int .i64 f5, .int .i64 f6, .int .i64 f7, .int .i64 f8]) (t := 42) ?hr ?_; (case hd => rfl); (case hg => rfl); (case hr => first | (go_simp; done) | (go_simp; rfl)); intro gb hg_ w1 hbox hb; have n0_ := zz (below_step HB.out hb); have BK := zz hbox; clear HB; have HB := n0_; clear n0_ hb hbox hg_; obtain ⟨hc1_0, hc1_1, hc1_2, hc1_3, hc1_4, hc1_5, hc1_6, hc1_7, hc1_8⟩ := nine_cells BK.out) | ((with_reducible refine gate_callee (f := 20) rfl ?_); refine goesL_ (some 22) rfl rfl Try.func20 (by kernel_rfl) rfl #[.int .i64 f0] rfl (by (try simp only [List.map_toArray, List.map_cons, List.map_nil]); first | done | rfl) ?_; (with_reducible refine (runnelref16_Group.calls f0 gn false _ AG.out).mono ?_); rintro e w' ⟨rfl, ⟨nd, rfl⟩⟩; refine ⟨_, rfl, ?_⟩) | ((with_reducible refine gate_callee (f := 55) rfl ?_); refine goesL_ (some 182) rfl rfl Try.func55 (by kernel_rfl) rfl #[.int .i64 f5, .int .i64 0, .int .i64 (a.length : Int)] rfl (by (try simp only [List.map_toArray, List.map_cons, List.map_nil]); first | done | rfl) ?_; (with_reducible refine (runnelref16_in.calls f5 0 (a.length : Int) true _ AT.out).mono ?_); rintro e w' ⟨rfl, ⟨nd, rfl⟩⟩; refine ⟨_, rfl, ?_⟩))
     go_ret2
     exact ⟨_, by first | rfl | simp, IRow.nil _ _ _, bel HB.out⟩
    rw [if_neg m] at h
    have mb : decide ((b.length : Int) < f5) = false := decide_eq_false m
    by_cases p2 : 0 ≤ f5
    rotate_left
    ·rw [if_neg p2] at h; exact absurd h (by simp)
    rw [if_pos p2] at h
    by_cases q2 : f5 ≤ (a.length : Int)
    rotate_left
    ·rw [if_neg q2] at h; exact absurd h (by simp)
    rw [if_pos q2] at h
    obtain ⟨i0, hi, hz0, hz1, hz2⟩ := info_parts info3
    have hla : (a.take f5.toNat).length = f5.toNat := by rw [List.length_take]; omega
    have hlb : (b.take f5.toNat).length = f5.toNat := by rw [List.length_take]; omega
    have hcuta := cut_to (P := Try.prog) 23 3 .i64 Try.underlying23 hi Aa a.length ca f5 p2 q2 HCa.out
    have hcutb := cut_to (P := Try.prog) 23 3 .i64 Try.underlying23 hi Ab b.length cb f5 p2 (by omega) HCb.out
    have hCa := Kd.C_take (m := f5.toNat) HRa.out (by omega)
    have hCb := Kd.C_take (m := f5.toNat) HRb.out (by omega)
    obtain ⟨Ad, cd, hcutd, hCd, hcd⟩ := cut_front (P := Try.prog) (d := Kd.int .i64) 23 3 Try.underlying23 hi hz1 Ab cb b f5 p2 (by omega) HCb.out
    clear hi hz0 hz1 hz2
    obtain ⟨ya, hya⟩ : ∃ y, y = a.take f5.toNat := ⟨_, rfl⟩
    obtain ⟨yb, hyb⟩ : ∃ y, y = b.take f5.toNat := ⟨_, rfl⟩
    obtain ⟨zs, hzs⟩ : ∃ y, y = b.drop f5.toNat := ⟨_, rfl⟩
    have hzl : zs.length ≤ b.length := by rw [hzs, List.length_drop]; omega
    rw [← hya] at hCa hla h
    rw [← hyb] at hCb hlb h
    rw [← hzs] at hCd hcd hcutd h
    rw [← hla] at hcuta
    rw [← hlb] at hcutb
    have HCya := zz (show ya.length ≤ ca by have := HCa.out; omega)
    have HCyb := zz (show yb.length ≤ cb by have := HCb.out; omega)
    have HRya := zz hCa
    have HRyb := zz hCb
    have HRd := zz (hCd _ HRb.out)
    have HZL := zz hzl
    have HUA := zz hcuta
    have HUB := zz hcutb
    have HUD := zz hcutd
    clear hCa hCb hCd hya hyb hzs hla hlb hcd hzl hcuta hcutb hcutd
    replace p2 := eq_true p2
    replace q2 := eq_true q2
    clear m
    replace h := Option.bind_eq_some_iff.mp h
    obtain ⟨t, AS0, h⟩ := h
    try dsimp only at h
    have AS := zz AS0
    clear AS0
    cases t with
    | false =>
     rw [if_neg (by decide)] at h
     simp only [Option.some.injEq, Prod.mk.injEq] at h
     obtain ⟨rfl, rfl⟩ := h
     go_enter Try.func53, Try.ntmps53
     go_wp2_with (first | ((with_reducible refine gate_dst (N := 4) rfl ?_); refine box_event ?hg (N := 4) ?hd (cs := #[.int .i64 f0, .slice A1 f1.length c1, .slice A2 f2.length c2, .slice A3 f3.length c3, .slice A4 f4.length c4, .int .i64 f5, .int .i64 f6, .int .i64 f7, .int .i64 f8]) (t := 42) ?hr ?_; (case hd => rfl); (case hg => rfl); (case hr => first | (go_simp; done) | (go_simp; rfl)); intro gb hg_ w1 hbox hb; have n0_ := zz (below_step HB.out hb); have BK := zz hbox; clear HB; have HB := n0_; clear n0_ hb hbox hg_; obtain ⟨hc1_0, hc1_1, hc1_2, hc1_3, hc1_4, hc1_5, hc1_6, hc1_7, hc1_8⟩ := nine_cells BK.out) | ((with_reducible refine gate_callee (f := 20) rfl ?_); refine goesL_ (some 22) rfl rfl Try.func20 (by kernel_rfl) rfl #[.int .i64 f0] rfl (by (try simp only [List.map_toArray, List.map_cons, List.map_nil]); first | done | rfl) ?_; (with_reducible refine (runnelref16_Group.calls f0 gn false _ AG.out).mono ?_); rintro e w' ⟨rfl, ⟨nd, rfl⟩⟩; refine ⟨_, rfl, ?_⟩) | ((with_reducible refine gate_callee (f := 55) rfl ?_); refine goesL_ (some 182) rfl rfl Try.func55 (by kernel_rfl) rfl #[.int .i64 f5, .int .i64 0, .int .i64 (a.length : Int)] rfl (by (try simp only [List.map_toArray, List.map_cons, List.map_nil]); first | done | rfl) ?_; (with_reducible refine (runnelref16_in.calls f5 0 (a.length : Int) true _ AT.out).mono ?_); rintro e w' ⟨rfl, ⟨nd, rfl⟩⟩; refine ⟨_, rfl, ?_⟩))
     have hcuta := HUA.out
     have hcutb := HUB.out
     go_quiet ((go_at_call 54; (with_reducible refine (runnelref16_same.calls k Aa ca ya Ab cb yb false _ ?side1 HCya.out ?side2 HCyb.out AS.out).mono ?_); (case side1 => exact (Kd.C_below HRya.out (bel HB.out))); (case side2 => exact (Kd.C_below HRyb.out (bel HB.out))); rintro e w' ⟨rfl, ⟨nd, rfl⟩⟩; (try first | exact ⟨rfl, _, World.drewN_drewN _ _ _⟩ | exact ⟨rfl, _, Eq.trans (World.drewN_drewN _ _ _) (congrArg (World.drewN _) (Nat.add_assoc _ _ _))⟩)))
     clear hcuta hcutb
     go_wp2_with fail
     go_ret2
     exact ⟨_, by first | rfl | simp, IRow.nil _ _ _, bel HB.out⟩
    | true =>
     rw [if_pos rfl] at h
     by_cases m : (wrap64 (wrap64 ((a.length : Int) + (b.length : Int)) - f5)) > 16
     ·rw [if_pos m] at h
      have mb2 : decide (16 < (wrap64 (wrap64 ((a.length : Int) + (b.length : Int)) - f5))) = true := decide_eq_true m
      clear m
      simp only [Option.some.injEq, Prod.mk.injEq] at h
      obtain ⟨rfl, rfl⟩ := h
      go_enter Try.func53, Try.ntmps53
      go_wp2_with (first | ((with_reducible refine gate_dst (N := 4) rfl ?_); refine box_event ?hg (N := 4) ?hd (cs := #[.int .i64 f0, .slice A1 f1.length c1, .slice A2 f2.length c2, .slice A3 f3.length c3, .slice A4 f4.length c4, .int .i64 f5, .int .i64 f6, .int .i64 f7, .int .i64 f8]) (t := 42) ?hr ?_; (case hd => rfl); (case hg => rfl); (case hr => first | (go_simp; done) | (go_simp; rfl)); intro gb hg_ w1 hbox hb; have n0_ := zz (below_step HB.out hb); have BK := zz hbox; clear HB; have HB := n0_; clear n0_ hb hbox hg_; obtain ⟨hc1_0, hc1_1, hc1_2, hc1_3, hc1_4, hc1_5, hc1_6, hc1_7, hc1_8⟩ := nine_cells BK.out) | ((with_reducible refine gate_callee (f := 20) rfl ?_); refine goesL_ (some 22) rfl rfl Try.func20 (by kernel_rfl) rfl #[.int .i64 f0] rfl (by (try simp only [List.map_toArray, List.map_cons, List.map_nil]); first | done | rfl) ?_; (with_reducible refine (runnelref16_Group.calls f0 gn false _ AG.out).mono ?_); rintro e w' ⟨rfl, ⟨nd, rfl⟩⟩; refine ⟨_, rfl, ?_⟩) | ((with_reducible refine gate_callee (f := 55) rfl ?_); refine goesL_ (some 182) rfl rfl Try.func55 (by kernel_rfl) rfl #[.int .i64 f5, .int .i64 0, .int .i64 (a.length : Int)] rfl (by (try simp only [List.map_toArray, List.map_cons, List.map_nil]); first | done | rfl) ?_; (with_reducible refine (runnelref16_in.calls f5 0 (a.length : Int) true _ AT.out).mono ?_); rintro e w' ⟨rfl, ⟨nd, rfl⟩⟩; refine ⟨_, rfl, ?_⟩))
      have hcuta := HUA.out
      have hcutb := HUB.out
      go_quiet ((go_at_call 54; (with_reducible refine (runnelref16_same.calls k Aa ca ya Ab cb yb true _ ?side1 HCya.out ?side2 HCyb.out AS.out).mono ?_); (case side1 => exact (Kd.C_below HRya.out (bel HB.out))); (case side2 => exact (Kd.C_below HRyb.out (bel HB.out))); rintro e w' ⟨rfl, ⟨nd, rfl⟩⟩; (try first | exact ⟨rfl, _, World.drewN_drewN _ _ _⟩ | exact ⟨rfl, _, Eq.trans (World.drewN_drewN _ _ _) (congrArg (World.drewN _) (Nat.add_assoc _ _ _))⟩)))
      clear hcuta hcutb
      go_wp2_with fail
      go_ret2
      exact ⟨_, by first | rfl | simp, IRow.nil _ _ _, bel HB.out⟩
     rw [if_neg m] at h
     have mb2 : decide (16 < (wrap64 (wrap64 ((a.length : Int) + (b.length : Int)) - f5))) = false := decide_eq_false m
     clear m
     by_cases m9 : a.length + b.length < 1000000
     rotate_left
     ·rw [if_neg m9] at h; exact absurd h (by simp)
     rw [if_pos m9] at h
     simp only [Option.some.injEq, Prod.mk.injEq] at h
     obtain ⟨rfl, rfl⟩ := h
     have M9 := zz m9
     clear m9
     go_enter Try.func53, Try.ntmps53
     go_wp2_with (first | ((with_reducible refine gate_dst (N := 4) rfl ?_); refine box_event ?hg (N := 4) ?hd (cs := #[.int .i64 f0, .slice A1 f1.length c1, .slice A2 f2.length c2, .slice A3 f3.length c3, .slice A4 f4.length c4, .int .i64 f5, .int .i64 f6, .int .i64 f7, .int .i64 f8]) (t := 42) ?hr ?_; (case hd => rfl); (case hg => rfl); (case hr => first | (go_simp; done) | (go_simp; rfl)); intro gb hg_ w1 hbox hb; have n0_ := zz (below_step HB.out hb); have BK := zz hbox; clear HB; have HB := n0_; clear n0_ hb hbox hg_; obtain ⟨hc1_0, hc1_1, hc1_2, hc1_3, hc1_4, hc1_5, hc1_6, hc1_7, hc1_8⟩ := nine_cells BK.out) | ((with_reducible refine gate_callee (f := 20) rfl ?_); refine goesL_ (some 22) rfl rfl Try.func20 (by kernel_rfl) rfl #[.int .i64 f0] rfl (by (try simp only [List.map_toArray, List.map_cons, List.map_nil]); first | done | rfl) ?_; (with_reducible refine (runnelref16_Group.calls f0 gn false _ AG.out).mono ?_); rintro e w' ⟨rfl, ⟨nd, rfl⟩⟩; refine ⟨_, rfl, ?_⟩) | ((with_reducible refine gate_callee (f := 55) rfl ?_); refine goesL_ (some 182) rfl rfl Try.func55 (by kernel_rfl) rfl #[.int .i64 f5, .int .i64 0, .int .i64 (a.length : Int)] rfl (by (try simp only [List.map_toArray, List.map_cons, List.map_nil]); first | done | rfl) ?_; (with_reducible refine (runnelref16_in.calls f5 0 (a.length : Int) true _ AT.out).mono ?_); rintro e w' ⟨rfl, ⟨nd, rfl⟩⟩; refine ⟨_, rfl, ?_⟩))
     have hcuta := HUA.out
     have hcutb := HUB.out
     go_quiet ((go_at_call 54; (with_reducible refine (runnelref16_same.calls k Aa ca ya Ab cb yb true _ ?side1 HCya.out ?side2 HCyb.out AS.out).mono ?_); (case side1 => exact (Kd.C_below HRya.out (bel HB.out))); (case side2 => exact (Kd.C_below HRyb.out (bel HB.out))); rintro e w' ⟨rfl, ⟨nd, rfl⟩⟩; (try first | exact ⟨rfl, _, World.drewN_drewN _ _ _⟩ | exact ⟨rfl, _, Eq.trans (World.drewN_drewN _ _ _) (congrArg (World.drewN _) (Nat.add_assoc _ _ _))⟩)))
     clear hcuta hcutb
     have hcutd := HUD.out
     go_wp2_with fail
     refine start_ (n := 10) (S := fun w' => w'.cell? ⟨gb, 5, none⟩ = some (.int .i64 f5)) (ds := [7]) #[false, false, false, false, false, false, false, false, false, false] (by kernel_rfl) rfl rfl (hc1_5) (fun hHeld => ?_)
     refine pure_ (i := 1) (N := some 211) (v := ?_) (a' := ?_) #[false, true, false, false, false, false, false, false, false, false] rfl rfl (by kernel_rfl) (fun _ _ _ h => h) (Or.inl ⟨by rfl, ?_⟩) ?_ ?_
     rotate_left
     ·intro w'
      go_simp
      with_reducible rfl
     rotate_left
     ·simp only [Act.put, List.setIfInBounds_toArray, List.set_cons_zero, List.set_cons_succ, i64_w, i32_w]
      rfl
     refine pure_ (i := 3) (N := some 213) (v := ?_) (a' := ?_) #[false, true, false, true, false, false, false, false, false, false] rfl rfl (by kernel_rfl) (fun _ _ _ h => h) (Or.inl ⟨by rfl, ?_⟩) ?_ ?_
     rotate_left
     ·intro w'
      go_simp
      with_reducible rfl
     rotate_left
     ·simp only [Act.put, List.setIfInBounds_toArray, List.set_cons_zero, List.set_cons_succ, i64_w, i32_w]
      rfl
     refine pure_ (i := 4) (N := some 214) (v := ?_) (a' := ?_) #[false, true, false, true, true, false, false, false, false, false] rfl rfl (by kernel_rfl) (fun _ _ _ h => h) (Or.inl ⟨by rfl, ?_⟩) ?_ ?_
     rotate_left
     ·intro w'
      go_simp
      with_reducible rfl
     rotate_left
     ·simp only [Act.put, List.setIfInBounds_toArray, List.set_cons_zero, List.set_cons_succ, i64_w, i32_w]
      rfl
     refine take_ (i := 5) (N := some 215) (v := ?_) (a' := ?_) #[false, true, false, true, true, true, false, false, false, false] rfl rfl (by kernel_rfl) (fun _ _ _ h => h) (Or.inl ⟨by rfl, ?_⟩) hHeld ?_ ?_
     rotate_left
     ·intro w' s0
      go_simp
      with_reducible rfl
     rotate_left
     ·simp only [Act.put, List.setIfInBounds_toArray, List.set_cons_zero, List.set_cons_succ, i64_w, i32_w]
      rfl
     refine pure_ (i := 6) (N := some 216) (v := ?_) (a' := ?_) #[false, true, false, true, true, true, true, false, false, false] rfl rfl (by kernel_rfl) (fun _ _ _ h => h) (Or.inl ⟨by rfl, ?_⟩) ?_ ?_
     rotate_left
     ·intro w'
      go_simp
      with_reducible rfl
     rotate_left
     ·simp only [Act.put, List.setIfInBounds_toArray, List.set_cons_zero, List.set_cons_succ, i64_w, i32_w]
      rfl
     refine one_ (i := 0) (N := some 210) #[true, true, false, true, true, true, true, false, false, false] rfl rfl (by kernel_rfl) (by decide) (fun K hK => ?_)
     refine Kd.R_lit_step (Kd.int .i64) _ 3 (by rfl) (N := 210) rfl (xs := ([] : List Int)) (inner := []) (ok := fun _ => True) (okp := fun _ => True) ?hr (Reps.none _ _) (fun _ hk => hk) trivial (Below.refl _ _) (Nat.le_refl _) (by simp) ?_
     case hr => first | (go_simp; done) | (go_simp; rfl)
     intro v5 w5 ho hb hg_ hnew_
     have HO5 := zz (Kd.R_lower (Kd.R_mono (Kd.R_bound ho) (fun _ _ => trivial)) (below_size (bel HB.out)))
     have HB5 := zz (below_step (bel HB.out) hb)
     have BK5 := zz (blk_below (g := gb) (o := _) (bk BK.out) hb)
     have hq5 : w5.cell? ⟨gb, 5, none⟩ = some (.int .i64 f5) := (blk_cell BK5.out 5).trans rfl
     clear hg_ hnew_ ho hb
     refine hK.out _ _ (hq5) (fun hHeld => ?_)
     clear hK K
     refine norm_ (a' := ?_) ?_ ?_
     rotate_left
     ·show Act.put _ (some 210) _ = _
      simp only [Act.put, List.setIfInBounds_toArray, List.set_cons_zero, List.set_cons_succ, i64_w, i32_w]
      rfl
     refine one_ (i := 2) (N := some 212) #[true, true, true, true, true, true, true, false, false, false] rfl rfl (by kernel_rfl) (by decide) (fun K hK => ?_)
     refine Kd.R_append_rows_step (Kd.int .i64) (w0 := w) w.heap.size (by rfl) (.tmp 210) (.tmp 211) 23 3 (.int .i64 0) 8 rfl Try.underlying23 info3 rfl (by decide) (by omega) v5 [] a _ _ _ (fun _ => True) (fun _ => False) rfl rfl (rl HO5.out) (Kd.C_below HRa.out (bel HB5.out)) (fun _ _ h => h) (fun _ h => h.elim) (fun _ _ => trivial) (bel HB5.out) (below_size (bel HB5.out)) (by have := M9.out; simp only [List.length_nil]; omega) ?_
     intro v6 w6 ho hb hg hat
     simp only [List.nil_append] at ho
     have BK6 := zz (blk_grown (g := gb) BK5.out hg (Kd.R_ne HO5.out BK5.out (by decide)))
     have hq6 : w6.cell? ⟨gb, 5, none⟩ = some (.int .i64 f5) := (blk_cell BK6.out 5).trans rfl
     have HO6 := zz ho
     have HB6 := zz hb
     clear hg hat ho hb
     refine hK.out _ _ (hq6) (fun hHeld => ?_)
     clear hK K
     refine norm_ (a' := ?_) ?_ ?_
     rotate_left
     ·show Act.put _ (some 212) _ = _
      simp only [Act.put, List.setIfInBounds_toArray, List.set_cons_zero, List.set_cons_succ, i64_w, i32_w]
      rfl
     refine last_ (i := 7) (N := some 217) #[true, true, true, true, true, true, true, true, false, false] rfl rfl (by kernel_rfl) (by decide) (fun K hK => ?_)
     refine Kd.R_append_rows_step (Kd.int .i64) (w0 := w) w.heap.size (by rfl) (.tmp 212) (.tmp 216) 23 3 (.int .i64 0) 8 rfl Try.underlying23 info3 rfl (by decide) (by omega) v6 a zs _ _ _ (fun _ => True) (fun _ => False) rfl rfl (rl HO6.out) (Kd.C_below HRd.out (bel HB6.out)) (fun _ _ h => h) (fun _ h => h.elim) (fun _ _ => trivial) (bel HB6.out) (below_size (bel HB6.out)) (by have := M9.out; have := HZL.out; omega) ?_
     intro v7 w7 ho hb hg hat
     have HO7 := zz ho
     have HB7 := zz hb
     clear hg hat ho hb HB
     have HB := HB7
     refine hK.out _ _ ?_
     clear hK K
     refine norm_ (a' := ?_) ?_ ?_
     rotate_left
     ·show Act.put _ (some 217) _ = _
      simp only [Act.put, List.setIfInBounds_toArray, List.set_cons_zero, List.set_cons_succ, i64_w, i32_w]
      rfl
     refine pure_ (i := 8) (N := some 8) (v := ?_) (a' := ?_) #[true, true, true, true, true, true, true, true, true, false] rfl rfl (by kernel_rfl) (fun _ _ _ h => h) (Or.inl ⟨by rfl, ?_⟩) ?_ ?_
     rotate_left
     ·intro w'
      go_simp
      with_reducible rfl
     rotate_left
     ·simp only [Act.put, List.setIfInBounds_toArray, List.set_cons_zero, List.set_cons_succ, i64_w, i32_w]
      rfl
     refine pure_ (i := 9) (N := some 9) (v := ?_) (a' := ?_) #[true, true, true, true, true, true, true, true, true, true] rfl rfl (by kernel_rfl) (fun _ _ _ h => h) (Or.inl ⟨by rfl, ?_⟩) ?_ ?_
     rotate_left
     ·intro w'
      go_simp
      with_reducible rfl
     rotate_left
     ·simp only [Act.put, List.setIfInBounds_toArray, List.set_cons_zero, List.set_cons_succ, i64_w, i32_w]
      rfl
     refine done_ (by kernel_rfl) ?_
     (try simp only [Exit.inBlock, Exit.then])
     go_wp2_with fail
     go_ret2
     exact ⟨_, by first | rfl | simp, IRow.of (rl HO7.out), bel HB.out⟩
  rw [if_neg k15] at h
  have kb15 : (f0 == 15) = false := beq_eq_false_iff_ne.mpr k15
  clear k15
  simp only [Option.some.injEq, Prod.mk.injEq] at h
  obtain ⟨rfl, rfl⟩ := h
  go_enter Try.func53, Try.ntmps53
  go_wp2_with (first | ((with_reducible refine gate_dst (N := 4) rfl ?_); refine box_event ?hg (N := 4) ?hd (cs := #[.int .i64 f0, .slice A1 f1.length c1, .slice A2 f2.length c2, .slice A3 f3.length c3, .slice A4 f4.length c4, .int .i64 f5, .int .i64 f6, .int .i64 f7, .int .i64 f8]) (t := 42) ?hr ?_; (case hd => rfl); (case hg => rfl); (case hr => first | (go_simp; done) | (go_simp; rfl)); intro gb hg_ w1 hbox hb; have n0_ := zz (below_step HB.out hb); have BK := zz hbox; clear HB; have HB := n0_; clear n0_ hb hbox hg_; obtain ⟨hc1_0, hc1_1, hc1_2, hc1_3, hc1_4, hc1_5, hc1_6, hc1_7, hc1_8⟩ := nine_cells BK.out) | ((with_reducible refine gate_callee (f := 20) rfl ?_); refine goesL_ (some 22) rfl rfl Try.func20 (by kernel_rfl) rfl #[.int .i64 f0] rfl (by (try simp only [List.map_toArray, List.map_cons, List.map_nil]); first | done | rfl) ?_; (with_reducible refine (runnelref16_Group.calls f0 gn false _ AG.out).mono ?_); rintro e w' ⟨rfl, ⟨nd, rfl⟩⟩; refine ⟨_, rfl, ?_⟩))
  go_ret2
  exact ⟨_, by first | rfl | simp, IRow.arg HVa.out (bel HB.out), bel HB.out⟩


end Go.Proofs.Ytdkkollonlmelaa.QPlanChecks
