-- Written by this session's own program (wip/tools/ownprint.sh)
import Derived.Test.YtdkkollonlmelaaQPlanChecksx0
import Derived.Test.YtdkkollonlmelaaQPlanChecksx9
import Derived.Test.YtdkkollonlmelaaQPlanChecksx10
import Derived.Test.YtdkkollonlmelaaQPlanChecksx11
import Derived.Test.YtdkkollonlmelaaQPlanChecksx16
namespace Go.Proofs.Ytdkkollonlmelaa.QPlanChecks
open Go.RowKit Go.Proofs.YtdkkollonlmelaaW.PrintWords Go.Proofs.YtdkkollonlmelaaW.PrintLast Go.Proofs.YtdkkollonlmelaaW.PrintMore
attribute [local go_sem] max2_int min2_int max_two min_two max_three min_three max_four min_four Go.Proofs.Ytdkkollonlmelaa.Hand.str_gtr Go.Proofs.Ytdkkollonlmelaa.Hand.str_leq Go.Proofs.Ytdkkollonlmelaa.Hand.str_geq   -- for this text's walks alone
set_option linter.unusedVariables false
set_option maxHeartbeats 8000000
set_option maxRecDepth 100000
set_option linter.unusedSimpArgs false


/-! ### runnelref16_All: function 16, by hand -/
theorem results_tmp4 {fn : Func} {t u v x : Tmp} (h : fn.results = #[.tmp t, .tmp u, .tmp v, .tmp x]) (tmps : Array Value) (P : Program) (w : World) : (results fn tmps).run P w = .ok (.tuple #[tmps.getD t undef, tmps.getD u undef, tmps.getD v undef, tmps.getD x undef]) w := by simp [results, h]
theorem N_put {W : World} {base g n cap : Nat} {ok okp : Nat → Prop} {xs : List (List Int)} (h : Kd.N (Kd.slice 3 (Kd.int .i64)) 23 W base ok (.slice (some ⟨g, 0, none⟩) n cap) xs) (i : Int) (h0i : 0 ≤ i) (hi : i < (xs.length : Int)) {v : Value} {x : List Int} (hM : Kd.FK (Kd.slice 3 (Kd.int .i64)) W okp x [v]) (hokp : ∀ k, okp k → ok k ∧ k ≠ g) :
  Kd.N (Kd.slice 3 (Kd.int .i64)) 23 (W.setCell ⟨g, i.toNat, none⟩ v) base ok (.slice (some ⟨g, 0, none⟩) n cap) (xs.set i.toNat x) ∧ W.grownBy (W.setCell ⟨g, i.toNat, none⟩ v) (some g) := by
 obtain ⟨h0, rows, hl, hR, hf⟩ := h
 obtain ⟨rfl, _⟩ := Kd.R_reads' hR
 obtain ⟨g0, inner, ho, hr⟩ := Kd.raw_any hR
 obtain ⟨hs, hg⟩ := ho.stored i.toNat v
 refine ⟨Kd.N_written (c' := [v]) h0 hl hf ⟨fun _ _ => trivial, inner.set i.toNat v, by rw [List.length_set]; exact hs, ?_⟩ hg hM hokp, hg⟩
 have hone := (Kd.FK_raw hM).2.2
 have hlen : i.toNat < inner.length := by have h1 : inner.length = rows.length * 1 := hr.1; omega
 have := Go.Proofs.YtdkkollonlmelaaW.PrintWords.Kd.reps_set hr (i := i.toNat) (by omega) (show (Kd.raw 1).M W base _ [v] [v] from ⟨rfl, rfl, hone⟩) rfl
 rw [show inner.set i.toNat v = inner.take (i.toNat * 1) ++ [v] ++ inner.drop (i.toNat * 1 + 1) from by rw [List.set_eq_take_append_cons_drop, if_pos hlen]; simp]
 exact this
theorem nine_put {w W : World} {g : Nat} {t : TypeId} {u0 u1 u2 u3 u4 u5 u6 u7 u8 : Value} (v0 v1 v2 v3 v4 v5 v6 v7 v8 : Value) (hb : W.heap[g]? = some (.cells #[u0, u1, u2, u3, u4, u5, u6, u7, u8] t (0, 0))) (hB : Below w.heap.size w W) (hge : w.heap.size ≤ g) :
  ((((((((((W.setCell ⟨g, 0, none⟩ v0).setCell ⟨g, 1, none⟩ v1).setCell ⟨g, 2, none⟩ v2).setCell ⟨g, 3, none⟩ v3).setCell ⟨g, 4, none⟩ v4).setCell ⟨g, 5, none⟩ v5).setCell ⟨g, 6, none⟩ v6).setCell ⟨g, 7, none⟩ v7).setCell ⟨g, 8, none⟩ v8)).heap[g]? = some (.cells #[v0, v1, v2, v3, v4, v5, v6, v7, v8] t (0, 0)) ∧ Below w.heap.size w ((((((((((W.setCell ⟨g, 0, none⟩ v0).setCell ⟨g, 1, none⟩ v1).setCell ⟨g, 2, none⟩ v2).setCell ⟨g, 3, none⟩ v3).setCell ⟨g, 4, none⟩ v4).setCell ⟨g, 5, none⟩ v5).setCell ⟨g, 6, none⟩ v6).setCell ⟨g, 7, none⟩ v7).setCell ⟨g, 8, none⟩ v8)) := by
 constructor
 ·refine blk_put (cs := #[v0, v1, v2, v3, v4, v5, v6, v7, u8]) ?_ 8 v8 (by simp)
  refine blk_put (cs := #[v0, v1, v2, v3, v4, v5, v6, u7, u8]) ?_ 7 v7 (by simp)
  refine blk_put (cs := #[v0, v1, v2, v3, v4, v5, u6, u7, u8]) ?_ 6 v6 (by simp)
  refine blk_put (cs := #[v0, v1, v2, v3, v4, u5, u6, u7, u8]) ?_ 5 v5 (by simp)
  refine blk_put (cs := #[v0, v1, v2, v3, u4, u5, u6, u7, u8]) ?_ 4 v4 (by simp)
  refine blk_put (cs := #[v0, v1, v2, u3, u4, u5, u6, u7, u8]) ?_ 3 v3 (by simp)
  refine blk_put (cs := #[v0, v1, u2, u3, u4, u5, u6, u7, u8]) ?_ 2 v2 (by simp)
  refine blk_put (cs := #[v0, u1, u2, u3, u4, u5, u6, u7, u8]) ?_ 1 v1 (by simp)
  exact blk_put hb 0 v0 (by simp)
 ·iterate 9 refine below_set ?_ hge
  exact hB
theorem N_row {W : World} {base n cap : Nat} {ok : Nat → Prop} {xs : List (List Int)} {A : Option Addr} (h : Kd.N (Kd.slice 3 (Kd.int .i64)) 23 W base ok (.slice A n cap) xs) (i : Int) (h0 : 0 ≤ i) (h1 : i < (xs.length : Int)) :
  ∃ g Ae ce, A = some ⟨g, 0, none⟩ ∧ W.cell? ⟨g, i.toNat, none⟩ = some (.slice Ae (rd_L3 xs i).length ce) ∧ (rd_L3 xs i).length ≤ ce ∧ Kd.F (Kd.int .i64) W (fun k => ok k ∧ some k ≠ (Value.slice A n cap).ownBlock) Ae (rd_L3 xs i).length (rd_L3 xs i) := by
 obtain ⟨g, cap', e, _, _, _⟩ := Kd.N_form h (by omega)
 injection e with ea en ec
 subst ea
 obtain ⟨c, hcl, hFK, hcc⟩ := Kd.N_get h ([] : List Int) i h0 (by rw [(Kd.N_reads' h).1]; exact h1)
 obtain ⟨Ae, ce, rfl, hle, hF⟩ := Kd.FK_slice_open hFK
 refine ⟨g, Ae, ce, rfl, ?_, hle, hF⟩
 have := hcc 0 _ rfl
 rw [add_at] at this
 rw [show i.toNat = 0 + (i.toNat * (Kd.slice 3 (Kd.int .i64)).sz + 0) from by show i.toNat = 0 + (i.toNat * 1 + 0); omega]
 exact this
theorem rd_out (q : List (List Int)) (i : Int) (h : ¬ i < (q.length : Int)) (h0 : 0 ≤ i) : rd_L3 q i = [] := by
 unfold rd_L3
 rw [List.getD_eq_getElem?_getD, List.getElem?_eq_none (by omega)]; rfl
theorem N_frozen {W : World} {base n cap g : Nat} {ok : Nat → Prop} {xs : List (List Int)} (h : Kd.N (Kd.slice 3 (Kd.int .i64)) 23 W base ok (.slice (some ⟨g, 0, none⟩) n cap) xs) (i : Nat) : W.frozen? ⟨g, i, none⟩ = false := by
 obtain ⟨cells, hc⟩ := Kd.N_typed h g rfl
 exact blk_frozen hc i
theorem V_arg {α : Type} {d : Kd α} (hd : Kd.Heap d) {e base c : Nat} {w W : World} {P : Nat → Prop} {A : Option Addr} {l : List α} (h : Kd.C d w A l.length l) (hc : l.length ≤ c) (hb : Below w.heap.size w W) (hP : ∀ k, k < w.heap.size → P k) : Kd.V d e W base P (.slice A l.length c) l :=
 Kd.V_mk hc (Kd.F_mono (Kd.F_below (Kd.C_F hd h) hb) hP)
def runnelref16_All.l0 : Nat → List S42 → List Int → Int → Int → Option (Int × Int)
 | 0, _, _, _, _ => none
 | k + 1, nodes, outs, room, i => if i < (nodes.length : Int) then ((runnelref16_steps.f k nodes outs room i).bind fun s => (if 0 ≤ i then (if i < (s.length : Int) then (if rdOf false s i = true then some (160, i) else (runnelref16_All.l0 k nodes outs room (wrap64 (i + 1)))) else none) else none)) else some (0, 0)
def runnelref16_All.l2 : Nat → List Int → List (List Int) → List (List Int) → Int → Option (List (List Int))
 | 0, _, _, _, _ => none
 | k + 1, l, kd, acc, i => if i < (l.length : Int) then (if 0 ≤ i then (if 0 ≤ rd l i then (if rd l i < (kd.length : Int) then (if acc.length < 1000000 then (runnelref16_All.l2 k l kd (acc ++ [rd_L3 kd (rd l i)]) (wrap64 (i + 1))) else none) else none) else none) else none) else some acc
def runnelref16_All.l1 : Nat → List S42 → List Int → List (List Int) → Int → Option (List (List Int) × Int × Int)
 | 0, _, _, _, _ => none
 | k + 1, nodes, l, kd, i => if i < (l.length : Int) then (if 0 ≤ i then (if 0 ≤ rd l i then (if rd l i < (nodes.length : Int) then ((runnelref16_All.l2 k (rd_T42 nodes (rd l i)).f1 kd [] 0).bind fun ins => ((runnelref16_kinds.f k (rd_T42 nodes (rd l i)).f0 (rd_T42 nodes (rd l i)).f1 (rd_T42 nodes (rd l i)).f2 (rd_T42 nodes (rd l i)).f3 (rd_T42 nodes (rd l i)).f4 (rd_T42 nodes (rd l i)).f5 (rd_T42 nodes (rd l i)).f6 (rd_T42 nodes (rd l i)).f7 (rd_T42 nodes (rd l i)).f8 (rd_L3 ins 0) (rd_L3 ins 1) ins).bind fun r => (if r.2 = 0 then (if rd l i < (kd.length : Int) then (runnelref16_All.l1 k nodes l (kd.set (rd l i).toNat r.1) (wrap64 (i + 1))) else none) else some (([] : List (List Int)), r.2, rd l i)))) else none) else none) else none) else some (kd, 0, 0)
def runnelref16_All.f (k : Nat) (nodes : List S42) (outs : List Int) (room : Int) : Option (List Int × List (List Int) × Int × Int) :=
 (runnelref16_shape.f k nodes outs room).bind fun a => (if a.1 = 0 then ((runnelref16_All.l0 k nodes outs room 0).bind fun c => (if c.1 = 0 then ((runnelref16_order.f k nodes outs room).bind fun l => (if nodes.length ≤ 65536 then ((runnelref16_All.l1 k nodes l (List.replicate nodes.length []) 0).bind fun r => (if r.2.1 = 0 then some (l, r.1, 0, (nodes.length : Int)) else some (([] : List Int), ([] : List (List Int)), r.2.1, r.2.2))) else none)) else some (([] : List Int), ([] : List (List Int)), c.1, c.2))) else some (([] : List Int), ([] : List (List Int)), a.1, a.2))
theorem runnelref16_All.calls0 (w0 : World) (k : Nat) (An : Option Addr) (cn : Nat) (nodes : List (S42)) (Ao : Option Addr) (co : Nat) (outs : List Int) (room : Int) (r1 : List Int) (r2 : List (List Int)) (r3 r4 : Int) (w : World) (hb0 : Below w0.heap.size w0 w) (hr0_0 : Kd.C k42 w0 An nodes.length nodes) (hc0_0 : nodes.length ≤ cn) (hr0_1 : Kd.C (Kd.int .i64) w0 Ao outs.length outs) (hc0_1 : outs.length ≤ co) (h : runnelref16_All.f k nodes outs room = some (r1, r2, r3, r4)) :
  Calls Try.prog 16 #[.agg #[.slice An nodes.length cn, .slice Ao outs.length co, .int .i64 room]] w fun e w' => ∃ v0_ v1_ : Value, e = .returned (.tuple #[v0_, v1_, .int .i64 r3, .int .i64 r4]) ∧ Kd.R (Kd.int .i64) 3 w' w.heap.size (fun _ => True) v0_ r1 ∧ Kd.V (Kd.slice 3 (Kd.int .i64)) 23 w' w.heap.size (fun k_ => (k_ < w0.heap.size ∨ w.heap.size ≤ k_) ∧ some k_ ≠ v0_.ownBlock) v1_ r2 ∧ Below w.heap.size w w' := by
 have hu25 := Try.underlying25
 have hu42 := Try.underlying42
 have HB0 := zz hb0
 have HRN0 := zz hr0_0
 have HRN := zz (Kd.C_below hr0_0 hb0)
 have HCN := zz hc0_0
 have HRO := zz (Kd.C_below hr0_1 hb0)
 have HCO := zz hc0_1
 clear hb0 hr0_0 hc0_0 hr0_1 hc0_1
 have HB := zz (Below.refl w.heap.size w)
 unfold runnelref16_All.f at h
 replace h := Option.bind_eq_some_iff.mp h
 obtain ⟨⟨se, sa⟩, AS0, h⟩ := h
 try dsimp only at h
 have AS := zz AS0
 clear AS0
 by_cases e1 : se = 0
 rotate_left
 ·rw [if_neg e1] at h
  have eb : (se == 0) = false := beq_eq_false_iff_ne.mpr e1
  have ec : (se != 0) = true := bne_iff_ne.mpr e1
  clear e1
  simp only [Option.some.injEq, Prod.mk.injEq] at h
  obtain ⟨rfl, rfl, rfl, rfl⟩ := h
  go_enter Try.func16, Try.ntmps16
  go_wp2_with (first | ((with_reducible refine gate_dst (N := 1) rfl ?_); refine box_event ?hg (N := 1) ?hd (cs := #[.slice An nodes.length cn, .slice Ao outs.length co, .int .i64 room]) (t := 25) ?hr ?_; (case hd => rfl); (case hg => rfl); (case hr => first | (go_simp; done) | (go_simp; rfl)); intro gb hg_ w1 hbox hb; have n0_ := zz (below_step HB.out hb); have BP := zz hbox; clear HB; have HB := n0_; clear n0_ hb hbox hg_; obtain ⟨hc1_0, hc1_1, hc1_2⟩ := three_cells BP.out) | ((with_reducible refine gate_callee (f := 50) rfl ?_); refine goesL_ (some 21) rfl rfl Try.func50 (by kernel_rfl) rfl #[.agg #[.slice An nodes.length cn, .slice Ao outs.length co, .int .i64 room]] rfl (by (try simp only [List.map_toArray, List.map_cons, List.map_nil]); first | done | rfl) ?_; (with_reducible refine (runnelref16_shape.calls k An cn nodes Ao co outs room se sa _ (Kd.C_below HRN.out (bel HB.out)) HCN.out (Kd.C_below HRO.out (bel HB.out)) HCO.out AS.out).mono ?_); rintro e w9 ⟨rfl, hb⟩; refine ⟨_, rfl, ?_⟩; have n0_ := zz (blk_below (g := gb) (o := _) (bk BP.out) hb); have n1_ := zz (below_step (bel HB.out) hb); clear BP HB; have BP := n0_; have HB := n1_; clear n0_ n1_ hb; obtain ⟨hc2_0, hc2_1, hc2_2⟩ := three_cells BP.out))
  try simp only [Exit.inBlock, Exit.then]
  refine bodyPost_ret (results_tmp4 rfl _ _ _) rfl ?_
  exact ⟨_, _, by first | rfl | simp, Kd.R_nil _ _ _ _ _, Kd.V_nil _ _ _ _ _, bel HB.out⟩
 subst e1
 rw [if_pos rfl] at h
 replace h := Option.bind_eq_some_iff.mp h
 obtain ⟨⟨ce, ca⟩, AL0, h⟩ := h
 try dsimp only at h
 have AL := zz AL0
 clear AL0
 have AH := zz h
 clear h
 go_enter Try.func16, Try.ntmps16
 go_wp2_with (first | ((with_reducible refine gate_dst (N := 1) rfl ?_); refine box_event ?hg (N := 1) ?hd (cs := #[.slice An nodes.length cn, .slice Ao outs.length co, .int .i64 room]) (t := 25) ?hr ?_; (case hd => rfl); (case hg => rfl); (case hr => first | (go_simp; done) | (go_simp; rfl)); intro gb hg_ w1 hbox hb; have n0_ := zz (below_step HB.out hb); have BP := zz hbox; clear HB; have HB := n0_; clear n0_ hb hbox hg_; obtain ⟨hc1_0, hc1_1, hc1_2⟩ := three_cells BP.out) | ((with_reducible refine gate_callee (f := 50) rfl ?_); refine goesL_ (some 21) rfl rfl Try.func50 (by kernel_rfl) rfl #[.agg #[.slice An nodes.length cn, .slice Ao outs.length co, .int .i64 room]] rfl (by (try simp only [List.map_toArray, List.map_cons, List.map_nil]); first | done | rfl) ?_; (with_reducible refine (runnelref16_shape.calls k An cn nodes Ao co outs room 0 sa _ (Kd.C_below HRN.out (bel HB.out)) HCN.out (Kd.C_below HRO.out (bel HB.out)) HCO.out AS.out).mono ?_); rintro e w9 ⟨rfl, hb⟩; refine ⟨_, rfl, ?_⟩; have n0_ := zz (blk_below (g := gb) (o := _) (bk BP.out) hb); have n1_ := zz (below_step (bel HB.out) hb); clear BP HB; have BP := n0_; have HB := n1_; clear n0_ n1_ hb; obtain ⟨hc2_0, hc2_1, hc2_2⟩ := three_cells BP.out))
 go_loopg [8] k (fun kq v8 w' => ∃ (i : Int), v8 = .int .i64 i ∧ Aside0 (runnelref16_All.l0 kq nodes outs room i = some (ce, ca)) ∧ Aside0 (kq ≤ k) ∧ Aside0 (w'.heap[gb]? = some (.cells #[.slice An nodes.length cn, .slice Ao outs.length co, .int .i64 room] 25 (0, 0))) ∧ Aside0 (Below w.heap.size w w'))
 case atStart => exact ⟨0, rfl, AL, ⟨Nat.le_refl _⟩, ⟨bk BP.out⟩, ⟨bel HB.out⟩⟩
 case round =>
  clear AL BP HB hc1_0 hc1_1 hc1_2 hc2_0 hc2_1 hc2_2
  obtain ⟨i, rfl, HA, HK1, BP, HB⟩ := hrel
  cases gk with
  | zero => exact absurd HA.out (by simp [runnelref16_All.l0])
  | succ k1 =>
   have h := HA.out
   clear HA
   simp only [runnelref16_All.l0] at h
   obtain ⟨hc3_0, hc3_1, hc3_2⟩ := three_cells BP.out
   by_cases c1 : i < (nodes.length : Int)
   ·rw [if_pos c1] at h
    have c1b : decide (i < (nodes.length : Int)) = true := decide_eq_true c1
    have c1c : (i < (nodes.length : Int)) = True := eq_true c1
    clear c1
    replace h := Option.bind_eq_some_iff.mp h
    obtain ⟨s, AT0, h⟩ := h
    try dsimp only at h
    have AT := zz AT0
    clear AT0
    by_cases p1 : 0 ≤ i
    rotate_left
    ·rw [if_neg p1] at h; exact absurd h (by simp)
    rw [if_pos p1] at h
    by_cases q1 : i < (s.length : Int)
    rotate_left
    ·rw [if_neg q1] at h; exact absurd h (by simp)
    rw [if_pos q1] at h
    have Q1 := zz q1
    have P1 := zz p1
    replace p1 := eq_true p1
    replace q1 := eq_true q1
    cases hb0 : rdOf false s i with
    | true =>
     rw [hb0, if_pos rfl] at h
     simp only [Option.some.injEq, Prod.mk.injEq] at h
     obtain ⟨rfl, rfl⟩ := h
     have h := AH.out
     clear AH
     rw [if_neg (by decide)] at h
     simp only [Option.some.injEq, Prod.mk.injEq] at h
     obtain ⟨rfl, rfl, rfl, rfl⟩ := h
     go_wp2_with (first | ((with_reducible refine gate_callee (f := 51) rfl ?_); refine goesL_ (some 37) rfl rfl Try.func51 (by kernel_rfl) rfl #[.agg #[.slice An nodes.length cn, .slice Ao outs.length co, .int .i64 room], .int .i64 i] rfl (by (try simp only [List.map_toArray, List.map_cons, List.map_nil]); first | done | rfl) ?_; (with_reducible refine (runnelref16_steps.calls k1 An cn nodes Ao co outs room i s _ (Kd.C_below HRN.out (bel HB.out)) HCN.out (Kd.C_below HRO.out (bel HB.out)) HCO.out AT.out).mono ?_); rintro e w9 ⟨v0_, rfl, hr_, hb⟩; refine ⟨_, rfl, ?_⟩; obtain ⟨As, cs_, rfl⟩ := Kd.R_slice hr_; obtain ⟨ads, ea, hz⟩ := Kd.at_bool (Kd.R_reads' hr_).2.2 i P1.out Q1.out; cases ea; rw [hb0] at hz; have n0_ := zz (blk_below (g := gb) (o := _) (bk BP.out) hb); have n1_ := zz (below_step (bel HB.out) hb); clear BP HB; have BP := n0_; have HB := n1_; clear n0_ n1_ hb; clear hr_))
     try simp only [Exit.inBlock, Exit.then]
     refine bodyPost_ret (results_tmp4 rfl _ _ _) rfl ?_
     exact ⟨_, _, by first | rfl | simp, Kd.R_nil _ _ _ _ _, Kd.V_nil _ _ _ _ _, bel HB.out⟩
    | false =>
     rw [hb0, if_neg (by decide)] at h
     have H' := zz h
     clear h
     go_wp2_with (first | ((with_reducible refine gate_callee (f := 51) rfl ?_); refine goesL_ (some 37) rfl rfl Try.func51 (by kernel_rfl) rfl #[.agg #[.slice An nodes.length cn, .slice Ao outs.length co, .int .i64 room], .int .i64 i] rfl (by (try simp only [List.map_toArray, List.map_cons, List.map_nil]); first | done | rfl) ?_; (with_reducible refine (runnelref16_steps.calls k1 An cn nodes Ao co outs room i s _ (Kd.C_below HRN.out (bel HB.out)) HCN.out (Kd.C_below HRO.out (bel HB.out)) HCO.out AT.out).mono ?_); rintro e w9 ⟨v0_, rfl, hr_, hb⟩; refine ⟨_, rfl, ?_⟩; obtain ⟨As, cs_, rfl⟩ := Kd.R_slice hr_; obtain ⟨ads, ea, hz⟩ := Kd.at_bool (Kd.R_reads' hr_).2.2 i P1.out Q1.out; cases ea; rw [hb0] at hz; have n0_ := zz (blk_below (g := gb) (o := _) (bk BP.out) hb); have n1_ := zz (below_step (bel HB.out) hb); clear BP HB; have BP := n0_; have HB := n1_; clear n0_ n1_ hb; clear hr_))
     go_roundg k1
     case measure => have := HK1.out; omega
     case rel => exact ⟨wrap64 (i + 1), (by first | rfl | (simp; done) | (simp [*]; done)), H', ⟨by have := HK1.out; omega⟩, ⟨bk BP.out⟩, ⟨bel HB.out⟩⟩
   ·rw [if_neg c1] at h
    have c1b : decide (i < (nodes.length : Int)) = false := decide_eq_false c1
    clear c1
    simp only [Option.some.injEq, Prod.mk.injEq] at h
    obtain ⟨rfl, rfl⟩ := h
    have h := AH.out
    clear AH
    rw [if_pos rfl] at h
    replace h := Option.bind_eq_some_iff.mp h
    obtain ⟨l, AO0, h⟩ := h
    try dsimp only at h
    have AO := zz AO0
    clear AO0
    by_cases m1 : nodes.length ≤ 65536
    rotate_left
    ·rw [if_neg m1] at h; exact absurd h (by simp)
    rw [if_pos m1] at h
    replace h := Option.bind_eq_some_iff.mp h
    obtain ⟨⟨kinds, re, ra⟩, A10, h⟩ := h
    try dsimp only at h
    have A1 := zz A10
    clear A10
    have AH := zz h
    clear h
    have M1 := zz m1
    clear m1
    obtain ⟨y0, hy0⟩ : ∃ y_ : List (List Int), y_ = List.replicate nodes.length [] := ⟨_, rfl⟩
    have A2 := zz (hy0 ▸ A1.out : runnelref16_All.l1 _ nodes l y0 0 = some (kinds, re, ra))
    have NY0 := zz hy0
    clear hy0 A1
    go_wp2_with (first | ((with_reducible refine gate_callee (f := 52) rfl ?_); refine goesL_ (some 43) rfl rfl Try.func52 (by kernel_rfl) rfl #[.agg #[.slice An nodes.length cn, .slice Ao outs.length co, .int .i64 room]] rfl (by (try simp only [List.map_toArray, List.map_cons, List.map_nil]); first | done | rfl) ?_; (with_reducible refine (runnelref16_order.calls k An cn nodes Ao co outs room l _ (Kd.C_below HRN.out (bel HB.out)) HCN.out (Kd.C_below HRO.out (bel HB.out)) HCO.out AO.out).mono ?_); rintro e w9 ⟨v0_, rfl, hr_, hb⟩; refine ⟨_, rfl, ?_⟩; obtain ⟨Al, cl, rfl⟩ := Kd.R_slice hr_; have HL := zz (Kd.R_lower hr_ (below_size (bel HB.out))); have n0_ := zz (blk_below (g := gb) (o := _) (bk BP.out) hb); have n1_ := zz (below_step (bel HB.out) hb); clear BP HB; have BP := n0_; have HB := n1_; clear n0_ n1_ hb; clear hr_; obtain ⟨hc4_0, hc4_1, hc4_2⟩ := three_cells BP.out) | ((with_reducible refine gate_dst (N := 47) rfl ?_); refine Kd.N_make (Kd.slice 3 (Kd.int .i64)) _ 23 rfl (N' := 47) rfl 33 _ _ rfl (nodes.length : Int) rfl rfl Try.underlying33 (.slice none 0 0) 24 info23_ rfl (by decide) (by omega) ([] : List Int) (ok := (fun k_ => (k_ < w0.heap.size ∨ w.heap.size ≤ k_) ∧ some k_ ≠ (.slice Al l.length cl : Value).ownBlock)) (okp := fun _ => False) (Kd.FK_slice_mk (Nat.le_refl _) (Kd.F_nil _ _ _)) (fun _ h => h.elim) ⟨.inr (below_size (bel HB.out)), fun e_ => Nat.lt_irrefl _ (Kd.R_lt HL.out _ e_.symm)⟩ (by omega) (Nat.le_trans (Nat.mul_le_mul_right _ (show (nodes.length : Int).toNat ≤ 65536 from M1.out)) (by omega)) (Below.refl _ _) (Nat.le_refl _) ?_; intro v47 w14 ho15 hb hg_ hnew_; clear hg_ hnew_; rw [Int.toNat_natCast, ← NY0.out] at ho15; obtain ⟨Ak, ck, rfl⟩ := Kd.N_slice ho15; have HK := zz (Kd.N_lower ho15 (below_size (bel HB.out))); have n3_ := zz (Kd.R_below (rl HL.out) hb); clear HL; have HL := n3_; clear n3_ ho15; have n0_ := zz (blk_below (g := gb) (o := _) (bk BP.out) hb); have n1_ := zz (below_step (bel HB.out) hb); clear BP HB; have BP := n0_; have HB := n1_; clear n0_ n1_ hb))
    obtain ⟨nk, hnk⟩ : ∃ nk, y0.length = nk := ⟨_, rfl⟩
    rw [hnk] at HK ⊢
    clear hnk NY0
    go_loopg [11] k (fun kq v11 w' => ∃ (kd : List (List Int)) (i : Int), v11 = .int .i64 i ∧ Aside0 (runnelref16_All.l1 kq nodes l kd i = some (kinds, re, ra)) ∧ Aside0 (kq ≤ k) ∧ Aside0 (Kd.R (Kd.int .i64) 3 w' w.heap.size (fun _ => True) (.slice Al l.length cl) l) ∧ Aside0 (Kd.N (Kd.slice 3 (Kd.int .i64)) 23 w' w.heap.size (fun k_ => (k_ < w0.heap.size ∨ w.heap.size ≤ k_) ∧ some k_ ≠ (.slice Al l.length cl : Value).ownBlock) (.slice Ak nk ck) kd) ∧ Aside0 (w'.heap[gb]? = some (.cells #[.slice An nodes.length cn, .slice Ao outs.length co, .int .i64 room] 25 (0, 0))) ∧ Aside0 (Below w.heap.size w w'))
    case atStart => exact ⟨y0, 0, rfl, A2, ⟨Nat.le_refl _⟩, ⟨rl HL.out⟩, ⟨Kd.N_below HK.out Later.below⟩, ⟨bk BP.out⟩, ⟨bel HB.out⟩⟩
    case round =>
     clear A2 HL HK BP HB hc3_0 hc3_1 hc3_2
     clear hc4_0 hc4_1 hc4_2
     obtain ⟨kd, i, rfl, HA, HK1, HL, HK, BP, HB⟩ := hrel
     cases gk with
     | zero => exact absurd HA.out (by simp [runnelref16_All.l1])
     | succ k1 =>
      have h := HA.out
      clear HA
      simp only [runnelref16_All.l1] at h
      obtain ⟨hc5_0, hc5_1, hc5_2⟩ := three_cells BP.out
      by_cases c1 : i < (l.length : Int)
      rotate_left
      ·rw [if_neg c1] at h
       have c1b : decide (i < (l.length : Int)) = false := decide_eq_false c1
       clear c1
       simp only [Option.some.injEq, Prod.mk.injEq] at h
       obtain ⟨rfl, rfl, rfl⟩ := h
       have h := AH.out
       clear AH
       rw [if_pos rfl] at h
       simp only [Option.some.injEq, Prod.mk.injEq] at h
       obtain ⟨rfl, rfl, rfl, rfl⟩ := h
       go_wp2_with fail
       go_quiet (fail)
       go_wp2_with fail
       try simp only [Exit.inBlock, Exit.then]
       refine bodyPost_ret (results_tmp4 rfl _ _ _) rfl ?_
       exact ⟨_, _, by first | rfl | simp, rl HL.out, Kd.N_V (Kd.N_below HK.out Later.below), bel HB.out⟩
      rw [if_pos c1] at h
      have c1b : decide (i < (l.length : Int)) = true := decide_eq_true c1
      by_cases p1 : 0 ≤ i
      rotate_left
      ·rw [if_neg p1] at h; exact absurd h (by simp)
      rw [if_pos p1] at h
      obtain ⟨adl, el, hxl⟩ := Kd.at_int (Kd.R_reads' HL.out).2.2 i p1 c1
      cases el
      generalize rd l i = j at hxl h
      by_cases p2 : 0 ≤ j
      rotate_left
      ·rw [if_neg p2] at h; exact absurd h (by simp)
      rw [if_pos p2] at h
      by_cases q2 : j < (nodes.length : Int)
      rotate_left
      ·rw [if_neg q2] at h; exact absurd h (by simp)
      rw [if_pos q2] at h
      replace p1 := eq_true p1
      replace c1 := eq_true c1
      obtain ⟨adn, A1, d1, A2, d2, A3, d3, A4, d4, e, hx0, hx1, hx2, hx3, hx4, hx5, hx6, hx7, hx8, hl1, hi1, hl2, hi2, hl3, hi3, hl4, hi4⟩ := at_T42 HRN0.out j p2 q2
      cases e
      generalize rd_T42 nodes j = x at hx0 hx1 hx2 hx3 hx4 hx5 hx6 hx7 hx8 hl1 hi1 hl2 hi2 hl3 hi3 hl4 hi4 h
      obtain ⟨f0, f1, f2, f3, f4, f5, f6, f7, f8⟩ := x
      dsimp only at hx0 hx1 hx2 hx3 hx4 hx5 hx6 hx7 hx8 hl1 hi1 hl2 hi2 hl3 hi3 hl4 hi4 h
      have HR1 := zz hi1
      have HC1 := zz hl1
      clear hi1 hl1
      have HR2 := zz hi2
      have HC2 := zz hl2
      clear hi2 hl2
      have HR3 := zz hi3
      have HC3 := zz hl3
      clear hi3 hl3
      have HR4 := zz hi4
      have HC4 := zz hl4
      clear hi4 hl4
      replace hx0 := ol (below_step HB0.out HB.out) hx0
      replace hx1 := ol (below_step HB0.out HB.out) hx1
      replace hx2 := ol (below_step HB0.out HB.out) hx2
      replace hx3 := ol (below_step HB0.out HB.out) hx3
      replace hx4 := ol (below_step HB0.out HB.out) hx4
      replace hx5 := ol (below_step HB0.out HB.out) hx5
      replace hx6 := ol (below_step HB0.out HB.out) hx6
      replace hx7 := ol (below_step HB0.out HB.out) hx7
      replace hx8 := ol (below_step HB0.out HB.out) hx8
      have P2 := zz p2
      have Q2 := zz q2
      replace p2 := eq_true p2
      replace q2 := eq_true q2
      replace h := Option.bind_eq_some_iff.mp h
      obtain ⟨ins, AI0, h⟩ := h
      try dsimp only at h
      have AI := zz AI0
      clear AI0
      replace h := Option.bind_eq_some_iff.mp h
      obtain ⟨⟨x, e⟩, AK0, h⟩ := h
      try dsimp only at h
      have AK := zz AK0
      clear AK0
      have AE := zz h
      clear h
      go_wp2_with fail
      refine start_ (n := 10) (S := fun w' => w'.cell? ⟨gb, 0, none⟩ = some (.slice (some adn) nodes.length cn) ∧ w'.cell? (adl.add i.toNat) = some (.int .i64 j) ∧ w'.cell? (adn.add (j.toNat * 9)) = some (.int .i64 f0) ∧ w'.cell? ⟨(adn.add (j.toNat * 9)).block, (adn.add (j.toNat * 9)).off + 1, none⟩ = some (.slice A1 f1.length d1) ∧ w'.cell? ⟨(adn.add (j.toNat * 9)).block, (adn.add (j.toNat * 9)).off + 2, none⟩ = some (.slice A2 f2.length d2) ∧ w'.cell? ⟨(adn.add (j.toNat * 9)).block, (adn.add (j.toNat * 9)).off + 3, none⟩ = some (.slice A3 f3.length d3) ∧ w'.cell? ⟨(adn.add (j.toNat * 9)).block, (adn.add (j.toNat * 9)).off + 4, none⟩ = some (.slice A4 f4.length d4) ∧ w'.cell? ⟨(adn.add (j.toNat * 9)).block, (adn.add (j.toNat * 9)).off + 5, none⟩ = some (.int .i64 f5) ∧ w'.cell? ⟨(adn.add (j.toNat * 9)).block, (adn.add (j.toNat * 9)).off + 6, none⟩ = some (.int .i64 f6) ∧ w'.cell? ⟨(adn.add (j.toNat * 9)).block, (adn.add (j.toNat * 9)).off + 7, none⟩ = some (.int .i64 f7) ∧ w'.cell? ⟨(adn.add (j.toNat * 9)).block, (adn.add (j.toNat * 9)).off + 8, none⟩ = some (.int .i64 f8)) (ds := [9]) #[false, false, false, false, false, false, false, false, false, false] (by kernel_rfl) rfl rfl ⟨hc5_0, hxl, hx0, hx1, hx2, hx3, hx4, hx5, hx6, hx7, hx8⟩ (fun hHeld => ?_)
      refine pure_ (i := 0) (N := some 54) (v := ?_) (a' := ?_) #[true, false, false, false, false, false, false, false, false, false] rfl rfl (by kernel_rfl) (fun _ _ _ h => h) (Or.inl ⟨by rfl, ?_⟩) ?_ ?_
      rotate_left
      ·intro w'
       go_simp
       with_reducible rfl
      rotate_left
      ·simp only [Act.put, List.setIfInBounds_toArray, List.set_cons_zero, List.set_cons_succ, i64_w, i32_w]
       rfl
      refine pure_ (i := 2) (N := some 56) (v := ?_) (a' := ?_) #[true, false, true, false, false, false, false, false, false, false] rfl rfl (by kernel_rfl) (fun _ _ _ h => h) (Or.inl ⟨by rfl, ?_⟩) ?_ ?_
      rotate_left
      ·intro w'
       go_simp
       with_reducible rfl
      rotate_left
      ·simp only [Act.put, List.setIfInBounds_toArray, List.set_cons_zero, List.set_cons_succ, i64_w, i32_w]
       rfl
      refine pure_ (i := 3) (N := some 57) (v := ?_) (a' := ?_) #[true, false, true, true, false, false, false, false, false, false] rfl rfl (by kernel_rfl) (fun _ _ _ h => h) (Or.inl ⟨by rfl, ?_⟩) ?_ ?_
      rotate_left
      ·intro w'
       go_simp
       with_reducible rfl
      rotate_left
      ·simp only [Act.put, List.setIfInBounds_toArray, List.set_cons_zero, List.set_cons_succ, i64_w, i32_w]
       rfl
      refine pure_ (i := 4) (N := some 58) (v := ?_) (a' := ?_) #[true, false, true, true, true, false, false, false, false, false] rfl rfl (by kernel_rfl) (fun _ _ _ h => h) (Or.inl ⟨by rfl, ?_⟩) ?_ ?_
      rotate_left
      ·intro w'
       go_simp
       with_reducible rfl
      rotate_left
      ·simp only [Act.put, List.setIfInBounds_toArray, List.set_cons_zero, List.set_cons_succ, i64_w, i32_w]
       rfl
      refine take_ (i := 1) (N := some 55) (v := ?_) (a' := ?_) #[true, true, true, true, true, false, false, false, false, false] rfl rfl (by kernel_rfl) (fun _ _ _ h => h) (Or.inl ⟨by rfl, ?_⟩) hHeld ?_ ?_
      rotate_left
      ·rintro w' ⟨s0, s1, s2, s3, s4, s5, s6, s7, s8, s9, s10⟩
       go_simp
       with_reducible rfl
      rotate_left
      ·simp only [Act.put, List.setIfInBounds_toArray, List.set_cons_zero, List.set_cons_succ, i64_w, i32_w]
       rfl
      refine take_ (i := 5) (N := some 59) (v := ?_) (a' := ?_) #[true, true, true, true, true, true, false, false, false, false] rfl rfl (by kernel_rfl) (fun _ _ _ h => h) (Or.inl ⟨by rfl, ?_⟩) hHeld ?_ ?_
      rotate_left
      ·rintro w' ⟨s0, s1, s2, s3, s4, s5, s6, s7, s8, s9, s10⟩
       go_simp
       with_reducible rfl
      rotate_left
      ·simp only [Act.put, List.setIfInBounds_toArray, List.set_cons_zero, List.set_cons_succ, i64_w, i32_w]
       rfl
      refine pure_ (i := 6) (N := some 60) (v := ?_) (a' := ?_) #[true, true, true, true, true, true, true, false, false, false] rfl rfl (by kernel_rfl) (fun _ _ _ h => h) (Or.inl ⟨by rfl, ?_⟩) ?_ ?_
      rotate_left
      ·intro w'
       go_simp
       with_reducible rfl
      rotate_left
      ·simp only [Act.put, List.setIfInBounds_toArray, List.set_cons_zero, List.set_cons_succ, i64_w, i32_w]
       rfl
      refine take_ (i := 7) (N := some 61) (v := ?_) (a' := ?_) #[true, true, true, true, true, true, true, true, false, false] rfl rfl (by kernel_rfl) (fun _ _ _ h => h) (Or.inl ⟨by rfl, ?_⟩) hHeld ?_ ?_
      rotate_left
      ·rintro w' ⟨s0, s1, s2, s3, s4, s5, s6, s7, s8, s9, s10⟩
       go_simp
       with_reducible rfl
      rotate_left
      ·simp only [Act.put, List.setIfInBounds_toArray, List.set_cons_zero, List.set_cons_succ, i64_w, i32_w]
       rfl
      refine one_ (i := 8) (N := some 12) #[true, true, true, true, true, true, true, true, true, false] rfl rfl (by kernel_rfl) (by decide) (fun K hK => ?_)
      refine box_step (by rfl) (N := 12) rfl (cs := #[.int .i64 0, .slice none 0 0, .slice none 0 0, .slice none 0 0, .slice none 0 0, .int .i64 0, .int .i64 0, .int .i64 0, .int .i64 0]) (t := 42) ?hr ?_
      case hr => first | (go_simp; done) | (go_simp; rfl)
      intro gx hgx w2 hbox hb
      have y0 := (hb.cell (World.block_lt_of_cell? _ _ hc5_0)).trans hc5_0
      have y1 := (hb.cell (World.block_lt_of_cell? _ _ hxl)).trans hxl
      have y2 := (hb.cell (World.block_lt_of_cell? _ _ hx0)).trans hx0
      have y3 := (hb.cell (World.block_lt_of_cell? _ _ hx1)).trans hx1
      have y4 := (hb.cell (World.block_lt_of_cell? _ _ hx2)).trans hx2
      have y5 := (hb.cell (World.block_lt_of_cell? _ _ hx3)).trans hx3
      have y6 := (hb.cell (World.block_lt_of_cell? _ _ hx4)).trans hx4
      have y7 := (hb.cell (World.block_lt_of_cell? _ _ hx5)).trans hx5
      have y8 := (hb.cell (World.block_lt_of_cell? _ _ hx6)).trans hx6
      have y9 := (hb.cell (World.block_lt_of_cell? _ _ hx7)).trans hx7
      have y10 := (hb.cell (World.block_lt_of_cell? _ _ hx8)).trans hx8
      have BX0 := zz hbox
      have HW := zz hb
      have GX := zz (Nat.le_of_eq hgx.symm)
      have hfx0 := blk_frozen BX0.out 0
      have hfx1 := blk_frozen BX0.out 1
      have hfx2 := blk_frozen BX0.out 2
      have hfx3 := blk_frozen BX0.out 3
      have hfx4 := blk_frozen BX0.out 4
      have hfx5 := blk_frozen BX0.out 5
      have hfx6 := blk_frozen BX0.out 6
      have hfx7 := blk_frozen BX0.out 7
      have hfx8 := blk_frozen BX0.out 8
      obtain ⟨hxz0, hxz1, hxz2, hxz3, hxz4, hxz5, hxz6, hxz7, hxz8⟩ := nine_cells BX0.out
      clear hbox hb hgx
      refine hK.out _ _ ⟨y0, y1, y2, y3, y4, y5, y6, y7, y8, y9, y10⟩ (fun hHeld => ?_)
      clear hK K
      refine norm_ (a' := ?_) ?_ ?_
      rotate_left
      ·show Act.put _ (some 12) _ = _
       simp only [Act.put, List.setIfInBounds_toArray, List.set_cons_zero, List.set_cons_succ, i64_w, i32_w]
       rfl
      refine last_ (i := 9) (N := none) #[true, true, true, true, true, true, true, true, true, true] rfl rfl (by kernel_rfl) (by decide) (fun K hK => ?_)
      refine skip_ (w1 := ?_) (by rfl) rfl ?_ ?_
      rotate_left
      ·go_simp
       rfl
      refine hK.out _ _ ?_
      clear hK K
      refine done_ (by kernel_rfl) ?_
      obtain ⟨BX1, HB1⟩ := nine_put (.int .i64 f0) (.slice A1 f1.length d1) (.slice A2 f2.length d2) (.slice A3 f3.length d3) (.slice A4 f4.length d4) (.int .i64 f5) (.int .i64 f6) (.int .i64 f7) (.int .i64 f8) BX0.out HW.out GX.out
      have hxl3 := ol (Below.refl _ _) (show World.cell? _ (adl.add i.toNat) = some (.int .i64 j) from hxl)
      replace hxl3 := ol HB1 ((below_step (Below.refl _ _) (Later.below (W := wr))).cell (World.block_lt_of_cell? _ _ hxl) |>.trans hxl)
      generalize (((((((((w2.setCell ⟨gx, 0, none⟩ (.int .i64 f0)).setCell ⟨gx, 1, none⟩ (.slice A1 f1.length d1)).setCell ⟨gx, 2, none⟩ (.slice A2 f2.length d2)).setCell ⟨gx, 3, none⟩ (.slice A3 f3.length d3)).setCell ⟨gx, 4, none⟩ (.slice A4 f4.length d4)).setCell ⟨gx, 5, none⟩ (.int .i64 f5)).setCell ⟨gx, 6, none⟩ (.int .i64 f6)).setCell ⟨gx, 7, none⟩ (.int .i64 f7)).setCell ⟨gx, 8, none⟩ (.int .i64 f8)) = w3 at BX1 HB1 hxl3 ⊢
      have n1_ := zz (Kd.R_below (rl HL.out) HB1)
      have n2_ := zz (Kd.N_below (Kd.N_below HK.out Later.below) HB1)
      have n3_ := zz (blk_below (g := gb) (bk BP.out) HB1)
      have n4_ := zz (below_step (bel HB.out) HB1)
      have BX := zz BX1
      have HX3 := zz hxl3
      clear HL HK BP HB BX0 HW GX HB1 BX1 hxl3 hxl hc5_0 hc5_1 hc5_2 y0 y1 y2 y3 y4 y5 y6 y7 y8 y9 y10 hfx0 hxz0 hx0 hfx1 hxz1 hx1 hfx2 hxz2 hx2 hfx3 hxz3 hx3 hfx4 hxz4 hx4 hfx5 hxz5 hx5 hfx6 hxz6 hx6 hfx7 hxz7 hx7 hfx8 hxz8 hx8
      have HL := n1_
      have HK := n2_
      have BP := n3_
      have HB := n4_
      clear n1_ n2_ n3_ n4_
      (try simp only [Exit.inBlock, Exit.then])
      go_wp2_with fail
      go_loopg [13, 16] k1 (fun kq v13 v16 w' => ∃ (q : List (List Int)) (Aq : Option Addr) (cq : Nat) (m : Int), v13 = .slice Aq q.length cq ∧ v16 = .int .i64 m ∧ Aside0 (runnelref16_All.l2 kq f1 kd q m = some ins) ∧ Aside0 (kq ≤ k1) ∧ Aside0 (Kd.N (Kd.slice 3 (Kd.int .i64)) 23 w' w3.heap.size (fun k_ => ((k_ < w0.heap.size ∨ w.heap.size ≤ k_) ∧ some k_ ≠ (.slice (some adl) l.length cl : Value).ownBlock) ∧ some k_ ≠ (.slice Ak nk ck : Value).ownBlock) (.slice Aq q.length cq) q) ∧ Aside0 (Below w3.heap.size w3 w'))
      case atStart => exact ⟨[], none, 0, 0, rfl, rfl, AI, ⟨Nat.le_refl _⟩, ⟨Kd.N_nil _ _ _ _ _⟩, ⟨bel (zz (Below.refl _ _)).out⟩⟩
      case round =>
       clear AI
       obtain ⟨q, Aq, cq, m, rfl, rfl, HA, HK2, HQ, HB3⟩ := hrel
       cases gk with
       | zero => exact absurd HA.out (by simp [runnelref16_All.l2])
       | succ k2 =>
        have h := HA.out
        clear HA
        simp only [runnelref16_All.l2] at h
        have hcx1 : wr.cell? ⟨gx, 1, none⟩ = some (.slice A1 f1.length d1) := (blk_cell (blk_below BX.out HB3.out) 1).trans rfl
        by_cases c2 : m < (f1.length : Int)
        ·rw [if_pos c2] at h
         have c2b : decide (m < (f1.length : Int)) = true := decide_eq_true c2
         by_cases p3 : 0 ≤ m
         rotate_left
         ·rw [if_neg p3] at h; exact absurd h (by simp)
         rw [if_pos p3] at h
         obtain ⟨ad1, e1, hx1_⟩ := Kd.at_int HR1.out m p3 c2
         cases e1
         replace hx1_ := ol (below_step HB0.out (below_step HB.out HB3.out)) hx1_
         generalize rd f1 m = u at hx1_ h
         by_cases p4 : 0 ≤ u
         rotate_left
         ·rw [if_neg p4] at h; exact absurd h (by simp)
         rw [if_pos p4] at h
         by_cases q4 : u < (kd.length : Int)
         rotate_left
         ·rw [if_neg q4] at h; exact absurd h (by simp)
         rw [if_pos q4] at h
         by_cases m4 : q.length < 1000000
         rotate_left
         ·rw [if_neg m4] at h; exact absurd h (by simp)
         rw [if_pos m4] at h
         obtain ⟨gk, Ae, ce, eK, hxe, hle, hFe⟩ := N_row HK.out u p4 q4
         cases eK
         have hnk := (Kd.N_reads' HK.out).1
         subst hnk
         replace hxe := ol HB3.out hxe
         have H' := zz h
         clear h
         have HFE := zz (Kd.F_below (Kd.F_bound hFe) HB3.out)
         have HLE := zz hle
         have M4 := zz m4
         have C2 := zz c2
         have P3 := zz p3
         replace p3 := eq_true p3
         replace c2 := eq_true c2
         replace p4 := eq_true p4
         replace q4 := eq_true q4
         clear hFe hle m4
         go_wp2_with (first | ((with_reducible refine gate_builtin (b := .append) (xs := #[.tmp 69, .tmp 78]) rfl ?_); at_builtin; refine Kd.N_append (Kd.slice 3 (Kd.int .i64)) (w0 := w3) w3.heap.size rfl (.tmp 69) (.tmp 78) 33 23 (.slice none 0 0) 24 rfl Try.underlying33 info23_ rfl (by decide) (by omega) (.slice Aq q.length cq) q (rd_L3 kd u) [.slice Ae (rd_L3 kd u).length ce] (fun k_ => ((k_ < w0.heap.size ∨ w.heap.size ≤ k_) ∧ some k_ ≠ (.slice (some adl) l.length cl : Value).ownBlock) ∧ some k_ ≠ (.slice (some ⟨gk, 0, none⟩) kd.length ck : Value).ownBlock) _ rfl rfl (Kd.FK_slice_mk HLE.out HFE.out) (fun k_ hk => ⟨hk.1, fun e_ => by have := Kd.N_base HQ.out k_ e_.symm; have := hk.2; omega⟩) (fun k_ hk => ⟨⟨.inr (Nat.le_trans (below_size (below_step HB.out HB3.out)) hk), fun e_ => by have := Kd.R_lt HL.out k_ e_.symm; have := below_size HB3.out; omega⟩, fun e_ => by have := Kd.N_lt HK.out k_ e_.symm; have := below_size HB3.out; omega⟩) HQ.out HB3.out (below_size HB3.out) (by have := M4.out; omega) ?_; intro v1 w1 ho hb hg hat; have n0_ := zz ho; have n1_ := zz hb; clear HQ HB3; have HQ := n0_; have HB3 := n1_; clear n0_ n1_ ho hb hg hat; obtain ⟨Aq2, cq2, eq2⟩ := Kd.N_slice HQ.out; subst eq2))
         go_roundg k2
         case measure => have := HK2.out; omega
         case rel => exact ⟨q ++ [rd_L3 kd u], Aq2, cq2, wrap64 (m + 1), (by first | rfl | (simp; done)), rfl, H', ⟨by have := HK2.out; omega⟩, ⟨HQ.out⟩, ⟨HB3.out⟩⟩
        ·rw [if_neg c2] at h
         have c2b : decide (m < (f1.length : Int)) = false := decide_eq_false c2
         clear c2
         obtain rfl := Option.some.inj h
         clear h
         go_upto_if 82 with (fail)
         go_cut [14] (fun v14 wc => ∃ (Aa : Option Addr) (ca : Nat), v14 = .slice Aa (rd_L3 q 0).length ca ∧ Aside0 (Kd.V (Kd.int .i64) 3 wr wr.heap.size (fun k_ => ((k_ < w0.heap.size ∨ w.heap.size ≤ k_) ∧ some k_ ≠ (.slice (some adl) l.length cl : Value).ownBlock) ∧ some k_ ≠ (.slice Ak nk ck : Value).ownBlock) (.slice Aa (rd_L3 q 0).length ca) (rd_L3 q 0)) ∧ wr = wc)
         case first =>
          by_cases e : 0 < (q.length : Int)
          ·have eb : decide (0 < (q.length : Int)) = true := decide_eq_true e
           have eb0 : decide (0 < q.length) = true := decide_eq_true (by omega)
           (first | rw [eb] | rw [eb0])
           obtain ⟨gq, Ae, ce, eQ, hxe, hle, hFe⟩ := N_row HQ.out 0 (by decide) e
           cases eQ
           replace hxe : wr.cell? ⟨gq, 0, none⟩ = some _ := hxe
           have HFE := zz hFe
           have HLE := zz hle
           have er : (0 < (q.length : Int)) = True := eq_true e
           have er0 : (0 < q.length) = True := eq_true (by omega)
           clear hFe hle e
           go_wp2_with fail
           go_meet
           case rel => exact ⟨Ae, ce, rfl, ⟨Kd.V_mk HLE.out (Kd.F_mono HFE.out (fun _ h => h.1))⟩, rfl⟩
          ·have eb : decide (0 < (q.length : Int)) = false := decide_eq_false e
           have eb0 : decide (0 < q.length) = false := decide_eq_false (by omega)
           (first | rw [eb] | rw [eb0])
           have en := zz (rd_out q 0 e (by decide))
           clear e
           go_wp2_with fail
           go_meet
           case rel => exact ⟨none, 0, (by rw [en.out]; rfl), ⟨by rw [en.out]; exact Kd.V_nil _ _ _ _ _⟩, rfl⟩
         case rest =>
          obtain ⟨Aa, ca, rfl, HVa, rfl⟩ := hcut
          go_upto_if 88 with (fail)
          go_cut [15] (fun v15 wc => ∃ (Ab : Option Addr) (cb : Nat), v15 = .slice Ab (rd_L3 q 1).length cb ∧ Aside0 (Kd.V (Kd.int .i64) 3 wr wr.heap.size (fun k_ => ((k_ < w0.heap.size ∨ w.heap.size ≤ k_) ∧ some k_ ≠ (.slice (some adl) l.length cl : Value).ownBlock) ∧ some k_ ≠ (.slice Ak nk ck : Value).ownBlock) (.slice Ab (rd_L3 q 1).length cb) (rd_L3 q 1)) ∧ wr = wc)
          case first =>
           by_cases e : 1 < (q.length : Int)
           ·have eb : decide (1 < (q.length : Int)) = true := decide_eq_true e
            have eb0 : decide (1 < q.length) = true := decide_eq_true (by omega)
            (first | rw [eb] | rw [eb0])
            obtain ⟨gq, Ae, ce, eQ, hxe, hle, hFe⟩ := N_row HQ.out 1 (by decide) e
            cases eQ
            replace hxe : wr.cell? ⟨gq, 1, none⟩ = some _ := hxe
            have HFE := zz hFe
            have HLE := zz hle
            have er : (1 < (q.length : Int)) = True := eq_true e
            have er0 : (1 < q.length) = True := eq_true (by omega)
            clear hFe hle e
            go_wp2_with fail
            go_meet
            case rel => exact ⟨Ae, ce, rfl, ⟨Kd.V_mk HLE.out (Kd.F_mono HFE.out (fun _ h => h.1))⟩, rfl⟩
           ·have eb : decide (1 < (q.length : Int)) = false := decide_eq_false e
            have eb0 : decide (1 < q.length) = false := decide_eq_false (by omega)
            (first | rw [eb] | rw [eb0])
            have en := zz (rd_out q 1 e (by decide))
            clear e
            go_wp2_with fail
            go_meet
            case rel => exact ⟨none, 0, (by rw [en.out]; rfl), ⟨by rw [en.out]; exact Kd.V_nil _ _ _ _ _⟩, rfl⟩
          case rest =>
           obtain ⟨Ab, cb, rfl, HVb, rfl⟩ := hcut
           obtain ⟨hn0, hn1, hn2, hn3, hn4, hn5, hn6, hn7, hn8⟩ := nine_cells (blk_below (g := gx) (o := .cells #[.int .i64 f0, .slice A1 f1.length d1, .slice A2 f2.length d2, .slice A3 f3.length d3, .slice A4 f4.length d4, .int .i64 f5, .int .i64 f6, .int .i64 f7, .int .i64 f8] 42 (0, 0)) BX.out HB3.out)
           go_upto_if 101 with (first | ((with_reducible refine gate_callee (f := 53) rfl ?_); refine goesL_ (some 97) rfl rfl Try.func53 (by kernel_rfl) rfl #[.agg #[.int .i64 f0, .slice A1 f1.length d1, .slice A2 f2.length d2, .slice A3 f3.length d3, .slice A4 f4.length d4, .int .i64 f5, .int .i64 f6, .int .i64 f7, .int .i64 f8], .slice Aa (rd_L3 q 0).length ca, .slice Ab (rd_L3 q 1).length cb, .slice Aq q.length cq] rfl (by (try simp only [List.map_toArray, List.map_cons, List.map_nil]); first | done | rfl) ?_; (with_reducible refine (runnelref16_kinds.calls (fun k_ => ((k_ < w0.heap.size ∨ w.heap.size ≤ k_) ∧ some k_ ≠ (.slice (some adl) l.length cl : Value).ownBlock) ∧ some k_ ≠ (.slice Ak nk ck : Value).ownBlock) k1 f0 A1 d1 f1 A2 d2 f2 A3 d3 f3 A4 d4 f4 f5 f6 f7 f8 Aa ca _ Ab cb _ Aq cq q x e _ (V_arg (Kd.heap_int _) HR2.out HC2.out (below_step HB0.out (below_step HB.out HB3.out)) (fun k_ hk => ⟨⟨.inl hk, fun e_ => by have := Kd.R_base HL.out k_ e_.symm; have := below_size HB0.out; omega⟩, fun e_ => by have := Kd.N_base HK.out k_ e_.symm; have := below_size HB0.out; omega⟩)) (Kd.C_below HR3.out (below_step HB0.out (below_step HB.out HB3.out))) HC3.out (Kd.C_below HR4.out (below_step HB0.out (below_step HB.out HB3.out))) HC4.out HVa.out (Kd.V_reads' HVb.out).2.2 (Kd.V_reads' HVb.out).2.1 (Kd.N_reads' HQ.out).2.2 AK.out).mono ?_); rintro e9 w9 ⟨v9, rfl, hr_, hb⟩; refine ⟨_, rfl, ?_⟩; have HX := zz hr_; have HS := zz (below_size HB3.out); have n1_ := zz (below_step HB3.out hb); clear HB3; have HB3 := n1_; clear n1_ hb hr_))
           obtain ⟨Ax, cx, rfl, hlx, hFx⟩ := HX.out
           have HLX := zz hlx
           have HFX := zz hFx
           clear hlx hFx HX
           have hxl9 := ol HB3.out HX3.out
           have n1_ := zz (below_step HB.out HB3.out)
           by_cases z : e = 0
           rotate_left
           ·have zb : (e != 0) = true := bne_iff_ne.mpr z
            have zc : (e == 0) = false := beq_eq_false_iff_ne.mpr z
            have zd : decide (e = 0) = false := decide_eq_false z
            have h := AE.out
            rw [if_neg z] at h
            simp only [Option.some.injEq, Prod.mk.injEq] at h
            obtain ⟨rfl, rfl, rfl⟩ := h
            have h := AH.out
            clear AE AH
            rw [if_neg z] at h
            simp only [Option.some.injEq, Prod.mk.injEq] at h
            obtain ⟨rfl, rfl, rfl, rfl⟩ := h
            clear z HB
            have HB := n1_
            clear n1_
            go_wp2_with fail
            go_quiet (fail)
            go_wp2_with fail
            try simp only [Exit.inBlock, Exit.then]
            refine bodyPost_ret (results_tmp4 rfl _ _ _) rfl ?_
            exact ⟨_, _, by first | rfl | simp, Kd.R_nil _ _ _ _ _, Kd.V_nil _ _ _ _ _, bel HB.out⟩
           subst z
           have h := AE.out
           clear AE
           rw [if_pos rfl] at h
           by_cases q5 : j < (kd.length : Int)
           rotate_left
           ·rw [if_neg q5] at h; exact absurd h (by simp)
           rw [if_pos q5] at h
           have H' := zz h
           clear h
           have HK9 := zz (Kd.N_below HK.out HB3.out)
           obtain ⟨gk, Ae, ce, eK, hxe, -, -⟩ := N_row HK9.out j P2.out q5
           cases eK
           have hnk := (Kd.N_reads' HK9.out).1
           subst hnk
           have hfe := N_frozen HK9.out j.toNat
           have Q5 := zz q5
           replace q5 := eq_true q5
           have zb : ((0 : Int) != 0) = false := rfl
           go_wp2_with (first | ((with_reducible refine gate_store (t := 23) (p := 113) rfl ?_); refine store_event (t := 23) (p := 113) (v := ?vo_) (w1 := (w9.setCell ⟨gk, j.toNat, none⟩ (.slice Ax x.length cx))) ?hg ?ho ?hn ?hr ?_; (case ho => rfl); (case hg => rfl); (case hn => rfl); (case hr => first | (go_simp; done) | (go_simp; rfl)); intro w48 hw; have HP := N_put HK9.out j P2.out Q5.out (Kd.FK_slice_mk HLX.out HFX.out) (fun k_ hk => hk.elim (fun h_ => ⟨h_.1, fun e_ => h_.2 (congrArg some e_)⟩) (fun h_ => ⟨⟨.inr (by have := below_size HB.out; have := HS.out; omega), fun e_ => by have := Kd.R_lt HL.out k_ e_.symm; have := HS.out; omega⟩, fun e_ => by have := Kd.N_lt HK.out k_ (congrArg some e_.symm); have := HS.out; omega⟩)); rw [← hw] at HP; have hg := HP.2; have n0_ := zz HP.1; have n2_ := zz (Kd.R_over' (v := (.slice (some ⟨gk, 0, none⟩) kd.length ck)) (Kd.R_below HL.out HB3.out) (Kd.N_typed HK9.out) (by decide) hg); have n3_ := zz (blk_grown (g := gb) (blk_below BP.out HB3.out) hg (Kd.N_ne HK9.out (blk_below BP.out HB3.out) (by decide))); have n4_ := zz ((by rw [hw]; exact below_set n1_.out (Kd.N_base HK9.out gk rfl)) : Below w.heap.size w w48); clear HP hg hw HK HK9 HL BP HB n1_; have HK := n0_; have HL := n2_; have BP := n3_; have HB := n4_; clear n0_ n2_ n3_ n4_))
           go_roundg k1
           case measure => have := HK1.out; omega
           case rel => exact ⟨kd.set j.toNat x, wrap64 (i + 1), rfl, H', ⟨by have := HK1.out; omega⟩, ⟨rl HL.out⟩, ⟨Kd.N_below HK.out Later.below⟩, ⟨bk BP.out⟩, ⟨bel HB.out⟩⟩
/-! ### runnelref16_Same: function 18 -/
def runnelref16_Same.f (k : Nat) (l0 : List Int) (l1 : List Int) : Option (Bool) := (runnelref16_same.f k l0 l1).bind fun t218 => (some t218)
theorem runnelref16_Same.calls (k : Nat) (A0 : Option Addr) (c0 : Nat) (l0 : List Int) (A1 : Option Addr) (c1 : Nat) (l1 : List Int) (r : Bool) (w : World) (hr0 : Kd.C (Kd.int .i64) w A0 l0.length l0) (hc0 : l0.length ≤ c0) (hr1 : Kd.C (Kd.int .i64) w A1 l1.length l1) (hc1 : l1.length ≤ c1) (h : runnelref16_Same.f k l0 l1 = some r) :
  Calls Try.prog 18 #[.slice A0 l0.length c0, .slice A1 l1.length c1] w fun e w' => e = .returned (.bool r) ∧ Drawn0 w w' := by
 have HR0 := zz hr0
 have HC0 := zz hc0
 clear hr0 hc0
 have HR1 := zz hr1
 have HC1 := zz hc1
 clear hr1 hc1
 have H := h
 unfold runnelref16_Same.f at H
 clear h
 obtain ⟨t218, A30, H⟩ := Option.bind_eq_some_iff.mp H
 try dsimp only at H
 have A3 := zz A30
 clear A30
 obtain rfl := Option.some.inj H
 go_enter Try.func18, Try.ntmps18
 go_wp2_with (first | ((with_reducible refine gate_callee (f := 54) rfl ?_); refine goesL_ (some 7) rfl rfl Try.func54 (by kernel_rfl) rfl #[.slice A0 l0.length c0, .slice A1 l1.length c1] rfl (by (try simp only [List.map_toArray, List.map_cons, List.map_nil]); first | done | rfl | (simp only [List.length_drop, List.length_take]; rfl)) ?_; (with_reducible refine (runnelref16_same.calls k _ _ l0 _ _ l1 t218 _ ?side1 ?side2 ?side3 ?side4 A3.out).mono ?_); (case side1 => repeat (first | exact HR0.out | (with_reducible refine Kd.C_alloc ?_ _) | (with_reducible refine Kd.C_drewN ?_ _) | (with_reducible refine Kd.C_drew ?_))); (case side2 => exact HC0.out); (case side3 => repeat (first | exact HR1.out | (with_reducible refine Kd.C_alloc ?_ _) | (with_reducible refine Kd.C_drewN ?_ _) | (with_reducible refine Kd.C_drew ?_))); (case side4 => exact HC1.out); rintro e w' ⟨rfl, ⟨nd, rfl⟩⟩; refine ⟨_, rfl, ?_⟩))
 go_ret
 exact ⟨by first | rfl | (simp; done) | (simp [*]; done), by repeat (first | exact Drawn0.refl _ | apply Drawn0.step)⟩

end Go.Proofs.Ytdkkollonlmelaa.QPlanChecks
