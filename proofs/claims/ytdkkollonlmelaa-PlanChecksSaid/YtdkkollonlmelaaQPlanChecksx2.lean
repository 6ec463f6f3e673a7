-- Written by this session's own program (wip/tools/ownprint.sh)
import Derived.Test.YtdkkollonlmelaaQPlanChecksx0
import Derived.Test.YtdkkollonlmelaaQPlanChecksx1
namespace Go.Proofs.Ytdkkollonlmelaa.QPlanChecks
open Go.RowKit Go.Proofs.YtdkkollonlmelaaW.PrintWords Go.Proofs.YtdkkollonlmelaaW.PrintLast Go.Proofs.YtdkkollonlmelaaW.PrintMore
attribute [local go_sem] max2_int min2_int max_two min_two max_three min_three max_four min_four Go.Proofs.Ytdkkollonlmelaa.Hand.str_gtr Go.Proofs.Ytdkkollonlmelaa.Hand.str_leq Go.Proofs.Ytdkkollonlmelaa.Hand.str_geq   -- for this text's walks alone
set_option linter.unusedVariables false
set_option maxHeartbeats 8000000
set_option maxRecDepth 100000
set_option linter.unusedSimpArgs false


/-! ### slices_IndexFunc_int_int: function 156, by hand -/
def idx (p : Int → Bool) (l : List Int) : Int := match l.findIdx? p with | some i => (i : Int) | none => -1
theorem idx_at {p : Int → Bool} {l : List Int} {k : Nat} (hk : k < l.length) (h0 : ∀ j, j < k → p (rd l j) = false) (h1 : p (rd l k) = true) : idx p l = k := by
 have e : l.findIdx? p = some k := by
  rw [List.findIdx?_eq_some_iff_getElem]
  refine ⟨hk, ?_, fun j hj => ?_⟩
  ·unfold rd at h1; rw [Int.toNat_natCast, List.getD_eq_getElem?_getD, List.getElem?_eq_getElem hk] at h1; exact h1
  ·have := h0 j hj
   unfold rd at this; rw [Int.toNat_natCast, List.getD_eq_getElem?_getD, List.getElem?_eq_getElem (by omega)] at this
   simpa using this
 unfold idx; rw [e]
theorem idx_more {p : Int → Bool} {l : List Int} {k : Nat} (h0 : ∀ j, j < k → p (rd l (j : Nat)) = false) (h1 : p (rd l (k : Nat)) = false) : ∀ j, j < k + 1 → p (rd l (j : Nat)) = false := by
 intro j hj
 rcases Nat.lt_or_ge j k with h | h
 ·exact h0 j h
 ·obtain rfl : j = k := by omega
  exact h1
theorem idx_none {p : Int → Bool} {l : List Int} (h0 : ∀ j, j < l.length → p (rd l (j : Nat)) = false) : idx p l = -1 := by
 have e : l.findIdx? p = none := by
  rw [List.findIdx?_eq_none_iff]
  intro x hx
  obtain ⟨j, hj, rfl⟩ := List.mem_iff_getElem.1 hx
  have := h0 j hj
  unfold rd at this; rw [Int.toNat_natCast, List.getD_eq_getElem?_getD, List.getElem?_eq_getElem hj] at this
  exact this
 unfold idx; rw [e]
theorem index_calls {F : FuncId} {fn : Func} (hf : Try.prog.funcs[F]? = some fn) (hname : (fn.name == "runtime.NumGoroutine") = false) (hb : fn.body.isSome = true) (cap : Array Value) (p : Int → Bool) (A : Option Addr) (c : Nat) (l : List Int) (w : World) (hr : Kd.C (Kd.int .i64) w A l.length l) (hc : l.length ≤ c)
  (hp : ∀ x W, x ∈ l → Below w.heap.size w W → Calls Try.prog F (#[.int .i64 x] ++ cap) W fun e W' => e = .returned (.bool (p x)) ∧ Below W.heap.size W W') :
  Calls Try.prog 156 #[.slice A l.length c, .func (.func F) #[] cap] w fun e w' => e = .returned (.int .i64 (idx p l)) ∧ Below w.heap.size w w' := by
 have HP := zz hp
 have hr' := zz hr
 have hlen := hr.2.1
 have HF := zz hf
 have HN := zz hname
 have HBd := zz hb
 clear hr hp hf hname hb
 go_enter Try.func156, Try.ntmps156
 go_wp2
 go_loopw [8] (fun v8 wr => ∃ k : Nat, v8 = .int .i64 k ∧ k ≤ l.length ∧ Aside0 (∀ j, j < k → p (rd l j) = false) ∧ Aside0 (Below w.heap.size w wr)) (fun v8 _ => l.length - (intOf v8).toNat)
 case atStart => exact ⟨0, rfl, Nat.zero_le _, ⟨fun j hj => by omega⟩, ⟨Below.refl _ _⟩⟩
 case round =>
  obtain ⟨k, rfl, hk, hn, HB⟩ := hrel
  by_cases hlt : k < l.length
  ·obtain ⟨ad, rfl, hcell⟩ := Kd.at_int (Kd.C_below hr'.out HB.out) (k : Int) (by omega) (by omega)
   rw [Int.toNat_natCast] at hcell
   have hi0 : (0 : Int) ≤ k := by omega
   have hi1 : (k : Int) < l.length := by omega
   have hlt1 : decide ((k : Int) < l.length) = true := decide_eq_true hi1
   have HC := HP.out (rd l k) wr (by unfold rd; rw [Int.toNat_natCast, List.getD_eq_getElem?_getD, List.getElem?_eq_getElem hlt]; exact List.getElem_mem hlt) HB.out
   have HC2 := zz HC
   clear hlt HC
   cases hpk : p (rd l k) with
   | false =>
    rw [hpk] at HC2
    have HPK := zz hpk
    clear hpk
    go_wp2_with (refine Go.Proofs.Ytdkkollonlmelaa.Hand.goesV_ (some 16) rfl rfl HF.out HN.out HBd.out (#[.int .i64 (rd l k)] ++ cap) rfl rfl (by simp only [List.map_toArray, List.map_cons, List.map_nil]; rfl) ?_; refine HC2.out.mono ?_; rintro e w' ⟨rfl, hb⟩; refine ⟨_, rfl, ?_⟩; have HB2 := zz (below_then HB.out HB.out.size hb); clear hb HB)
    go_roundw
    case rel => exact ⟨k + 1, by go_num, by omega, ⟨idx_more hn.out HPK.out⟩, HB2⟩
    case measure => simp [intOf]; omega
   | true =>
    rw [hpk] at HC2
    have HPK := zz (idx_at (by omega) hn.out hpk)
    clear hpk
    go_wp2_with (refine Go.Proofs.Ytdkkollonlmelaa.Hand.goesV_ (some 16) rfl rfl HF.out HN.out HBd.out (#[.int .i64 (rd l k)] ++ cap) rfl rfl (by simp only [List.map_toArray, List.map_cons, List.map_nil]; rfl) ?_; refine HC2.out.mono ?_; rintro e w' ⟨rfl, hb⟩; refine ⟨_, rfl, ?_⟩; have HB2 := zz (below_then HB.out HB.out.size hb); clear hb HB)
    go_ret
    exact ⟨by rw [HPK.out]; rfl, HB2.out⟩
  ·have hlt1 : decide ((k : Int) < l.length) = false := decide_eq_false (by omega)
   have hlt2 : decide (k < l.length) = false := decide_eq_false hlt
   have HI := zz (idx_none (p := p) (l := l) (fun j hj => hn.out j (by omega)))
   clear hlt hk
   go_wp2
   go_ret
   exact ⟨by rw [HI.out]; rfl, HB.out⟩


/-! ### slices_ContainsFunc_int_int: function 122, by hand -/
theorem contains_calls {F : FuncId} {fn : Func} (hf : Try.prog.funcs[F]? = some fn) (hname : (fn.name == "runtime.NumGoroutine") = false) (hb : fn.body.isSome = true) (cap : Array Value) (p : Int → Bool) (A : Option Addr) (c : Nat) (l : List Int) (w : World) (hr : Kd.C (Kd.int .i64) w A l.length l) (hc : l.length ≤ c)
  (hp : ∀ x W, x ∈ l → Below w.heap.size w W → Calls Try.prog F (#[.int .i64 x] ++ cap) W fun e W' => e = .returned (.bool (p x)) ∧ Below W.heap.size W W') :
  Calls Try.prog 122 #[.slice A l.length c, .func (.func F) #[] cap] w fun e w' => e = .returned (.bool (decide (0 ≤ idx p l))) ∧ Below w.heap.size w w' := by
 have HC := zz (index_calls hf hname hb cap p A c l w hr hc hp)
 clear hr hp hf hname hb
 go_enter Try.func122, Try.ntmps122
 go_wp2_with ((with_reducible refine gate_callee (f := 156) rfl ?_); refine goesL_ (some 7) rfl rfl Try.func156 (by kernel_rfl) rfl #[.slice A l.length c, .func (.func F) #[] cap] rfl (by (try simp only [List.map_toArray, List.map_cons, List.map_nil]); rfl) ?_; (with_reducible refine HC.out.mono ?_); rintro e w' ⟨rfl, hb⟩; refine ⟨_, rfl, ?_⟩; have HB := zz hb; clear hb)
 go_ret
 exact ⟨by first | rfl | simp, HB.out⟩


/-! ### plan_shape: function 86, by hand -/
theorem shape1_calls (x : Int) (b : Nat) (w : World) (A0 A1 : Option Addr) (n c n1 c1 : Nat) (room : Int) (hb : w.heap[b]? = some (.cells #[.slice A0 n c, .slice A1 n1 c1, .int .i64 room] 25 (0, 0))) :
  Calls Try.prog 123 (#[.int .i64 x] ++ #[.pointer (some ⟨b, 0, none⟩)]) w fun e w' => e = .returned (.bool (!((plan_between.f x 0 (wrap64 ((n : Int) - 1))).getD false))) ∧ Below w.heap.size w w' := by
 have h0 : w.cell? ⟨b, 0, none⟩ = some (.slice A0 n c) := by simp [World.cell?, hb]
 obtain ⟨r, hr⟩ : ∃ r, plan_between.f x 0 (wrap64 ((n : Int) - 1)) = some r := by
  unfold plan_between.f; split <;> exact ⟨_, rfl⟩
 rw [hr]
 have HR := zz hr
 clear hr hb
 show Calls Try.prog 123 #[.int .i64 x, .pointer (some ⟨b, 0, none⟩)] w _
 go_enter Try.func123, Try.ntmps123
 go_wp2_with ((with_reducible refine gate_callee (f := 120) rfl ?_); refine goesL_ (some 9) rfl rfl Try.func120 (by kernel_rfl) rfl #[.int .i64 x, .int .i64 0, .int .i64 (wrap64 ((n : Int) - 1))] rfl (by (try simp only [List.map_toArray, List.map_cons, List.map_nil]); first | done | rfl) ?_; (with_reducible refine (plan_between.calls x 0 (wrap64 ((n : Int) - 1)) r _ HR.out).mono ?_); rintro e w' ⟨rfl, ⟨nd, rfl⟩⟩; refine ⟨_, rfl, ?_⟩)
 go_ret
 exact ⟨by simp, by repeat (first | exact Below.refl _ _ | apply pw_below_drewN)⟩
def plan_outs (l : List Int) (n : Int) : Bool := decide (0 ≤ idx (fun x => !((plan_between.f x 0 (wrap64 (n - 1))).getD false)) l)
def plan_shape.l0 : Nat → List (S42) → Int → Int → Option (Int × Int)
 | 0, _, _, _ => none
 | k + 1, x5, x6, x7 => if x7 < x6 then (if 0 ≤ x7 then (if x7 < (x5.length : Int) then ((plan_between.f ((rd_T42 x5 x7).f0) 0 15).bind fun t115 => (if t115 = true then ((plan_ins.f ((rd_T42 x5 x7).f0) (((rd_T42 x5 x7).f1).length : Int)).bind fun t116 => (if t116 = true then ((some (plan_outs ((rd_T42 x5 x7).f1) (x6))).bind fun t117 => (if t117 = true then (some (9, x7)) else (plan_shape.l0 k x5 x6 (wrap64 (x7 + 1))))) else (some (1, x7)))) else (some (8, x7)))) else (none)) else (none)) else (some (0, 0))
def plan_shape.f (k : Nat) (l0_0 : List (S42)) (l0_1 : List Int) (a0_2 : Int) : Option (Int × Int) := plan_shape.l0 k l0_0 (l0_0.length : Int) 0
theorem plan_shape.mono_l : ∀ k, (∀ y0 y1 y2, LeO (plan_shape.l0 k y0 y1 y2) (plan_shape.l0 (k + 1) y0 y1 y2))
 | 0 => fun _ _ _ r h => by simp [plan_shape.l0] at h
 | k + 1 => by
  have ih0 := plan_shape.mono_l k
  ·intro y0 y1 y2
   unfold plan_shape.l0
   repeat' first
   | (with_reducible exact ih0 _ _ _)
   | (with_reducible exact LeO.refl _)
   | (with_reducible exact LeO.none _)
   | (with_reducible refine LeO.ite ?_ ?_)
   | (with_reducible refine LeO.bind ?_ (fun _ => ?_))
   | exact ih0 _ _ _
   | exact LeO.none _
   | refine LeO.ite ?_ ?_
   | refine LeO.bind ?_ (fun _ => ?_)
theorem plan_shape.mono : ∀ a0 a1 a2 k, LeO (plan_shape.f k a0 a1 a2) (plan_shape.f (k + 1) a0 a1 a2) := by
 intro a0 a1 a2 k
 have ih0 := plan_shape.mono_l k
 unfold plan_shape.f
 repeat' first
   | (with_reducible exact ih0 _ _ _)
   | (with_reducible exact LeO.refl _)
   | (with_reducible exact LeO.none _)
   | (with_reducible refine LeO.ite ?_ ?_)
   | (with_reducible refine LeO.bind ?_ (fun _ => ?_))
   | exact ih0 _ _ _
   | exact LeO.none _
   | refine LeO.ite ?_ ?_
   | refine LeO.bind ?_ (fun _ => ?_)
theorem plan_shape.calls (k : Nat) (A0_0 : Option Addr) (c0_0 : Nat) (l0_0 : List (S42)) (A0_1 : Option Addr) (c0_1 : Nat) (l0_1 : List Int) (a0_2 : Int) (r1 : Int) (r2 : Int) (w : World) (hr0_0 : Kd.C k42 w A0_0 l0_0.length l0_0) (hc0_0 : l0_0.length ≤ c0_0) (hr0_1 : Kd.C (Kd.int .i64) w A0_1 l0_1.length l0_1) (hc0_1 : l0_1.length ≤ c0_1) (h : plan_shape.f k l0_0 l0_1 a0_2 = some (r1, r2)) :
  Calls Try.prog 86 #[.agg #[.slice A0_0 l0_0.length c0_0, .slice A0_1 l0_1.length c0_1, .int .i64 a0_2]] w fun e w' => (r1 = 0 → e = .returned (.tuple #[]) ∧ True) ∧ (r1 ≠ 0 → e = .panicked [{ v := .iface 177 (.agg #[.int .i64 r1, .int .i64 r2]), recovered := false }]) ∧ Below w.heap.size w w' := by
 have hu25 := Try.underlying25
 have hu42 := Try.underlying42
 have HR0_0 := zz hr0_0
 have HC0_0 := zz hc0_0
 clear hr0_0 hc0_0
 have HR0_1 := zz hr0_1
 have HC0_1 := zz hc0_1
 clear hr0_1 hc0_1
 have HB := zz (Below.refl w.heap.size w)
 have H := h
 unfold plan_shape.f at H
 clear h
 have H' := zz H
 clear H
 have hmf : ∀ (fn : Fn) (first cap : Array Value) (w : World), (Instr.makeFunc fn first cap).run Try.prog w = .ok (.func fn first cap) w := fun _ _ _ _ => rfl
 go_enter Try.func86, Try.ntmps86
 go_wp2_with (first | ((with_reducible refine gate_dst (N := 1) rfl ?_); refine box_event ?hg (N := 1) ?hd (cs := #[.slice A0_0 l0_0.length c0_0, .slice A0_1 l0_1.length c0_1, .int .i64 a0_2]) (t := 25) ?hr ?_; (case hd => rfl); (case hg => rfl); (case hr => first | (go_simp; done) | (go_simp; rfl)); intro gb112 hg w2 hbox hb; have n0_ := zz (below_step (bel HB.out) hb); have n1_ := zz (hbox); have n2_ := zz ((by rw [hg]; exact (below_size (bel HB.out)) : w.heap.size ≤ gb112)); have n3_ := zz ((by rw [hg]; exact (below_size (bel HB.out)) : w.heap.size ≤ gb112)); clear HB; have HB := n0_; have BK112 := n1_; have GW112 := n2_; have GE112 := n3_; clear n0_ n1_ n2_ n3_; clear hb hbox hg; obtain ⟨hcz3_0, hcz3_1, hcz3_2⟩ := three_cells BK112.out; have hfz3_0 := blk_frozen BK112.out 0; have hfz3_1 := blk_frozen BK112.out 1; have hfz3_2 := blk_frozen BK112.out 2))
 go_loopg [7] k (fun kq v7 w' => ∃ (x7_1 : Int), v7 = .int .i64 x7_1 ∧ Aside0 (plan_shape.l0 kq l0_0 (l0_0.length : Int) x7_1 = some (r1, r2)) ∧ Aside0 (kq ≤ k) ∧ Aside0 (w'.heap[gb112]? = some (.cells #[(.slice A0_0 l0_0.length c0_0), (.slice A0_1 l0_1.length c0_1), .int .i64 a0_2] 25 (0, 0))) ∧ Aside0 (Below w.heap.size w w'))
 case atStart => exact ⟨(0), (by first | rfl | (simp; done) | (simp [*]; done)), H', ⟨Nat.le_refl _⟩, ⟨bk BK112.out⟩, ⟨by repeat (first | (with_reducible first | exact HB.out | apply below_alloc | apply pw_below_drewN | apply below_drew1 | refine below_set ?_ GE112.out) | exact HB.out)⟩⟩
 case round =>
  clear H'
  try clear hcz3_0; try clear hcz3_1; try clear hcz3_2; try clear hfz3_0; try clear hfz3_1; try clear hfz3_2
  obtain ⟨x7_1, rfl, HA, HK1, BK112, HB⟩ := hrel
  cases gk with
  | zero => exact absurd HA.out (by simp [plan_shape.l0])
  | succ k1 =>
   have H := HA.out
   clear HA
   simp only [plan_shape.l0] at H
   by_cases c4 : x7_1 < (l0_0.length : Int)
   ·rw [if_pos c4] at H
    have c4b0 : decide (x7_1 < (l0_0.length : Int)) = true := decide_eq_true c4
    clear c4
    by_cases c5 : 0 ≤ x7_1
    ·rw [if_pos c5] at H
     have c5b0 : decide (0 ≤ x7_1) = true := decide_eq_true c5
     clear c5
     by_cases c6 : x7_1 < (l0_0.length : Int)
     ·rw [if_pos c6] at H
      have c6b0 : decide (x7_1 < (l0_0.length : Int)) = true := decide_eq_true c6
      clear c6
      obtain ⟨t115, A70, H⟩ := Option.bind_eq_some_iff.mp H
      try dsimp only at H
      have A7 := zz A70
      clear A70
      by_cases c8 : t115 = true
      ·subst c8
       rw [if_pos rfl] at H
       obtain ⟨t116, A90, H⟩ := Option.bind_eq_some_iff.mp H
       try dsimp only at H
       have A9 := zz A90
       clear A90
       by_cases c10 : t116 = true
       ·subst c10
        rw [if_pos rfl] at H
        obtain ⟨t117, A110, H⟩ := Option.bind_eq_some_iff.mp H
        try dsimp only at H
        have A11 := zz A110
        clear A110
        by_cases c12 : t117 = true
        ·subst c12
         rw [if_pos rfl] at H
         simp only [Option.some.injEq, Prod.mk.injEq] at H
         obtain ⟨rfl, rfl⟩ := H
         have p113 : 0 ≤ (x7_1 : Int) := of_decide_eq_true (by first | (with_reducible assumption) | assumption)
         have q113 : x7_1 < (l0_0.length : Int) := of_decide_eq_true (by first | (with_reducible assumption) | assumption)
         obtain ⟨ad113, A113_1, c113_1, A113_2, c113_2, A113_3, c113_3, A113_4, c113_4, e113, hx113_0, hx113_1, hx113_2, hx113_3, hx113_4, hx113_5, hx113_6, hx113_7, hx113_8, hl113_1, hi113_1, hl113_2, hi113_2, hl113_3, hi113_3, hl113_4, hi113_4⟩ := at_T42 HR0_0.out x7_1 p113 q113
         cases e113
         replace hx113_0 := (HB.out.cell (World.block_lt_of_cell? w _ hx113_0)).trans hx113_0
         replace hx113_1 := (HB.out.cell (World.block_lt_of_cell? w _ hx113_1)).trans hx113_1
         replace hx113_2 := (HB.out.cell (World.block_lt_of_cell? w _ hx113_2)).trans hx113_2
         replace hx113_3 := (HB.out.cell (World.block_lt_of_cell? w _ hx113_3)).trans hx113_3
         replace hx113_4 := (HB.out.cell (World.block_lt_of_cell? w _ hx113_4)).trans hx113_4
         replace hx113_5 := (HB.out.cell (World.block_lt_of_cell? w _ hx113_5)).trans hx113_5
         replace hx113_6 := (HB.out.cell (World.block_lt_of_cell? w _ hx113_6)).trans hx113_6
         replace hx113_7 := (HB.out.cell (World.block_lt_of_cell? w _ hx113_7)).trans hx113_7
         replace hx113_8 := (HB.out.cell (World.block_lt_of_cell? w _ hx113_8)).trans hx113_8
         have HR113_1 := zz hi113_1
         have HC113_1 := zz hl113_1
         clear hi113_1 hl113_1
         have HR113_2 := zz hi113_2
         have HC113_2 := zz hl113_2
         clear hi113_2 hl113_2
         have HR113_3 := zz hi113_3
         have HC113_3 := zz hl113_3
         clear hi113_3 hl113_3
         have HR113_4 := zz hi113_4
         have HC113_4 := zz hl113_4
         clear hi113_4 hl113_4
         replace p113 := eq_true p113
         replace q113 := eq_true q113
         go_wp2_with (first | ((with_reducible refine gate_dst (N := 3) rfl ?_); refine box_event ?hg (N := 3) ?hd (cs := #[.int .i64 0, .slice none 0 0, .slice none 0 0, .slice none 0 0, .slice none 0 0, .int .i64 0, .int .i64 0, .int .i64 0, .int .i64 0]) (t := 42) ?hr ?_; (case hd => rfl); (case hg => rfl); (case hr => first | (go_simp; done) | (go_simp; rfl)); intro gb114 hg w13 hbox hb; have n0_ := zz (blk_below (g := gb112) (o := .cells #[.slice (some ad113) l0_0.length c0_0, .slice A0_1 l0_1.length c0_1, .int .i64 a0_2] 25 (0, 0)) (bk BK112.out) hb); have n1_ := zz (below_step (by repeat (first | (with_reducible first | exact HB.out | apply below_alloc | apply pw_below_drewN | apply below_drew1 | refine below_set ?_ GE112.out) | exact HB.out)) hb); have n2_ := zz (hbox); have n3_ := zz ((by rw [hg]; exact (below_size (by repeat (first | (with_reducible first | exact HB.out | apply below_alloc | apply pw_below_drewN | apply below_drew1 | refine below_set ?_ GE112.out) | exact HB.out))) : w.heap.size ≤ gb114)); have n4_ := zz ((by rw [hg]; exact (below_size (by repeat (first | (with_reducible first | exact HB.out | apply below_alloc | apply pw_below_drewN | apply below_drew1 | refine below_set ?_ GE112.out) | exact HB.out))) : w.heap.size ≤ gb114)); have n5_ := zz ((by rw [hg]; exact Nat.ne_of_lt (blk_lt (g := gb112) (o := .cells #[.slice (some ad113) l0_0.length c0_0, .slice A0_1 l0_1.length c0_1, .int .i64 a0_2] 25 (0, 0)) (bk BK112.out)) : gb112 ≠ gb114)); have n6_ := zz ((by rw [hg]; exact Nat.ne_of_gt (blk_lt (g := gb112) (o := .cells #[.slice (some ad113) l0_0.length c0_0, .slice A0_1 l0_1.length c0_1, .int .i64 a0_2] 25 (0, 0)) (bk BK112.out)) : gb114 ≠ gb112)); clear BK112; clear HB; have BK112 := n0_; have HB := n1_; have BK114 := n2_; have GW114 := n3_; have GE114 := n4_; have NB112_114 := n5_; have NB114_112 := n6_; clear n0_ n1_ n2_ n3_ n4_ n5_ n6_; clear hb hbox hg; have hnb14 := NB114_112.out; have hnc14 := NB112_114.out; obtain ⟨hcz15_0, hcz15_1, hcz15_2, hcz15_3, hcz15_4, hcz15_5, hcz15_6, hcz15_7, hcz15_8⟩ := nine_cells BK114.out; have hfz15_0 := blk_frozen BK114.out 0; have hfz15_1 := blk_frozen BK114.out 1; have hfz15_2 := blk_frozen BK114.out 2; have hfz15_3 := blk_frozen BK114.out 3; have hfz15_4 := blk_frozen BK114.out 4; have hfz15_5 := blk_frozen BK114.out 5; have hfz15_6 := blk_frozen BK114.out 6; have hfz15_7 := blk_frozen BK114.out 7; have hfz15_8 := blk_frozen BK114.out 8) | ((with_reducible refine gate_callee (f := 120) rfl ?_); refine goesL_ (some 15) rfl rfl Try.func120 (by kernel_rfl) rfl #[.int .i64 ((rd_T42 l0_0 x7_1).f0), .int .i64 0, .int .i64 15] rfl (by (try simp only [List.map_toArray, List.map_cons, List.map_nil]); first | done | rfl | (simp only [List.length_drop, List.length_take]; rfl)) ?_; (with_reducible refine (plan_between.calls ((rd_T42 l0_0 x7_1).f0) 0 15 true _ A7.out).mono ?_); rintro e w' ⟨rfl, ⟨nd, rfl⟩⟩; refine ⟨_, rfl, ?_⟩) | ((with_reducible refine gate_callee (f := 121) rfl ?_); refine goesL_ (some 25) rfl rfl Try.func121 (by kernel_rfl) rfl #[.int .i64 ((rd_T42 l0_0 x7_1).f0), .int .i64 (((rd_T42 l0_0 x7_1).f1).length : Int)] rfl (by (try simp only [List.map_toArray, List.map_cons, List.map_nil]); first | done | rfl | (simp only [List.length_drop, List.length_take]; rfl)) ?_; (with_reducible refine (plan_ins.calls ((rd_T42 l0_0 x7_1).f0) (((rd_T42 l0_0 x7_1).f1).length : Int) true _ A9.out).mono ?_); rintro e w' ⟨rfl, ⟨nd, rfl⟩⟩; refine ⟨_, rfl, ?_⟩) | ((with_reducible refine gate_callee (f := 122) rfl ?_); refine goesL_ (some 33) rfl rfl Try.func122 (by kernel_rfl) rfl #[.slice A113_1 ((rd_T42 l0_0 x7_1).f1).length c113_1, .func (.func 123) #[] #[.pointer (some ⟨gb112, 0, none⟩)]] rfl (by (try simp only [List.map_toArray, List.map_cons, List.map_nil]); first | done | rfl) ?_; (with_reducible refine (contains_calls (F := 123) Try.func123 (by kernel_rfl) rfl #[.pointer (some ⟨gb112, 0, none⟩)] (fun x => !((plan_between.f x 0 (wrap64 ((l0_0.length : Int) - 1))).getD false)) A113_1 c113_1 ((rd_T42 l0_0 x7_1).f1) _ ?cr HC113_1.out ?cp).mono ?_); (case cr => exact Kd.C_below HR113_1.out (by repeat (first | (with_reducible first | exact HB.out | apply below_alloc | apply pw_below_drewN | apply below_drew1 | refine below_set ?_ GE114.out | refine below_set ?_ GE112.out) | exact HB.out))); (case cp => exact fun x W _ hb => shape1_calls x gb112 W _ _ _ _ _ _ _ (blk_below (by (with_reducible repeat (first | refine blk_drewN ?_ _ | refine blk_drew ?_ | refine blk_alloc ?_ _ | refine blk_far ?_ NB112_114.out _)); exact BK112.out) hb)); rintro e w' ⟨rfl, hb⟩; refine ⟨_, by rw [show (decide (0 ≤ idx _ _) : Bool) = _ from Option.some.inj A11.out], ?_⟩; have n0_ := zz (blk_below (g := gb112) (o := .cells #[.slice (some ad113) l0_0.length c0_0, .slice A0_1 l0_1.length c0_1, .int .i64 a0_2] 25 (0, 0)) (by (with_reducible repeat (first | refine blk_drewN ?_ _ | refine blk_drew ?_ | refine blk_alloc ?_ _ | refine blk_far ?_ NB112_114.out _)); exact BK112.out) hb); have n3_ := zz (below_step (by repeat (first | (with_reducible first | exact HB.out | apply below_alloc | apply pw_below_drewN | apply below_drew1 | refine below_set ?_ GE114.out | refine below_set ?_ GE112.out) | exact HB.out)) hb); clear BK112 HB; have BK112 := n0_; have HB := n3_; clear n0_ n3_ hb) | (go_at_call 119; (with_reducible refine (plan_fail.calls 9 x7_1 _).mono ?_); rintro e w' ⟨rfl, rfl⟩))
         ((try simp only [Exit.inBlock, Exit.then]); refine Go.Proofs.Ytdkkollonlmelaa.Hand.bodyPost_fail (by rfl) ?_)
         exact ⟨fun h_ => absurd h_ (by first | decide | exact HNE.out | (intro z_; simp_all)), fun _ => rfl, by repeat (first | (with_reducible first | exact HB.out | apply below_alloc | apply pw_below_drewN | apply below_drew1 | refine below_set ?_ GE112.out | refine below_set ?_ GE114.out) | exact HB.out)⟩
        ·replace c12 := Bool.eq_false_iff.mpr c12
         subst c12
         rw [if_neg (show ¬ (false = true) by decide)] at H
         have H' := zz H
         clear H
         have p113 : 0 ≤ (x7_1 : Int) := of_decide_eq_true (by first | (with_reducible assumption) | assumption)
         have q113 : x7_1 < (l0_0.length : Int) := of_decide_eq_true (by first | (with_reducible assumption) | assumption)
         obtain ⟨ad113, A113_1, c113_1, A113_2, c113_2, A113_3, c113_3, A113_4, c113_4, e113, hx113_0, hx113_1, hx113_2, hx113_3, hx113_4, hx113_5, hx113_6, hx113_7, hx113_8, hl113_1, hi113_1, hl113_2, hi113_2, hl113_3, hi113_3, hl113_4, hi113_4⟩ := at_T42 HR0_0.out x7_1 p113 q113
         cases e113
         replace hx113_0 := (HB.out.cell (World.block_lt_of_cell? w _ hx113_0)).trans hx113_0
         replace hx113_1 := (HB.out.cell (World.block_lt_of_cell? w _ hx113_1)).trans hx113_1
         replace hx113_2 := (HB.out.cell (World.block_lt_of_cell? w _ hx113_2)).trans hx113_2
         replace hx113_3 := (HB.out.cell (World.block_lt_of_cell? w _ hx113_3)).trans hx113_3
         replace hx113_4 := (HB.out.cell (World.block_lt_of_cell? w _ hx113_4)).trans hx113_4
         replace hx113_5 := (HB.out.cell (World.block_lt_of_cell? w _ hx113_5)).trans hx113_5
         replace hx113_6 := (HB.out.cell (World.block_lt_of_cell? w _ hx113_6)).trans hx113_6
         replace hx113_7 := (HB.out.cell (World.block_lt_of_cell? w _ hx113_7)).trans hx113_7
         replace hx113_8 := (HB.out.cell (World.block_lt_of_cell? w _ hx113_8)).trans hx113_8
         have HR113_1 := zz hi113_1
         have HC113_1 := zz hl113_1
         clear hi113_1 hl113_1
         have HR113_2 := zz hi113_2
         have HC113_2 := zz hl113_2
         clear hi113_2 hl113_2
         have HR113_3 := zz hi113_3
         have HC113_3 := zz hl113_3
         clear hi113_3 hl113_3
         have HR113_4 := zz hi113_4
         have HC113_4 := zz hl113_4
         clear hi113_4 hl113_4
         replace p113 := eq_true p113
         replace q113 := eq_true q113
         go_wp2_with (first | ((with_reducible refine gate_dst (N := 3) rfl ?_); refine box_event ?hg (N := 3) ?hd (cs := #[.int .i64 0, .slice none 0 0, .slice none 0 0, .slice none 0 0, .slice none 0 0, .int .i64 0, .int .i64 0, .int .i64 0, .int .i64 0]) (t := 42) ?hr ?_; (case hd => rfl); (case hg => rfl); (case hr => first | (go_simp; done) | (go_simp; rfl)); intro gb114 hg w16 hbox hb; have n0_ := zz (blk_below (g := gb112) (o := .cells #[.slice (some ad113) l0_0.length c0_0, .slice A0_1 l0_1.length c0_1, .int .i64 a0_2] 25 (0, 0)) (bk BK112.out) hb); have n1_ := zz (below_step (by repeat (first | (with_reducible first | exact HB.out | apply below_alloc | apply pw_below_drewN | apply below_drew1 | refine below_set ?_ GE112.out) | exact HB.out)) hb); have n2_ := zz (hbox); have n3_ := zz ((by rw [hg]; exact (below_size (by repeat (first | (with_reducible first | exact HB.out | apply below_alloc | apply pw_below_drewN | apply below_drew1 | refine below_set ?_ GE112.out) | exact HB.out))) : w.heap.size ≤ gb114)); have n4_ := zz ((by rw [hg]; exact (below_size (by repeat (first | (with_reducible first | exact HB.out | apply below_alloc | apply pw_below_drewN | apply below_drew1 | refine below_set ?_ GE112.out) | exact HB.out))) : w.heap.size ≤ gb114)); have n5_ := zz ((by rw [hg]; exact Nat.ne_of_lt (blk_lt (g := gb112) (o := .cells #[.slice (some ad113) l0_0.length c0_0, .slice A0_1 l0_1.length c0_1, .int .i64 a0_2] 25 (0, 0)) (bk BK112.out)) : gb112 ≠ gb114)); have n6_ := zz ((by rw [hg]; exact Nat.ne_of_gt (blk_lt (g := gb112) (o := .cells #[.slice (some ad113) l0_0.length c0_0, .slice A0_1 l0_1.length c0_1, .int .i64 a0_2] 25 (0, 0)) (bk BK112.out)) : gb114 ≠ gb112)); clear BK112; clear HB; have BK112 := n0_; have HB := n1_; have BK114 := n2_; have GW114 := n3_; have GE114 := n4_; have NB112_114 := n5_; have NB114_112 := n6_; clear n0_ n1_ n2_ n3_ n4_ n5_ n6_; clear hb hbox hg; have hnb17 := NB114_112.out; have hnc17 := NB112_114.out; obtain ⟨hcz18_0, hcz18_1, hcz18_2, hcz18_3, hcz18_4, hcz18_5, hcz18_6, hcz18_7, hcz18_8⟩ := nine_cells BK114.out; have hfz18_0 := blk_frozen BK114.out 0; have hfz18_1 := blk_frozen BK114.out 1; have hfz18_2 := blk_frozen BK114.out 2; have hfz18_3 := blk_frozen BK114.out 3; have hfz18_4 := blk_frozen BK114.out 4; have hfz18_5 := blk_frozen BK114.out 5; have hfz18_6 := blk_frozen BK114.out 6; have hfz18_7 := blk_frozen BK114.out 7; have hfz18_8 := blk_frozen BK114.out 8) | ((with_reducible refine gate_callee (f := 120) rfl ?_); refine goesL_ (some 15) rfl rfl Try.func120 (by kernel_rfl) rfl #[.int .i64 ((rd_T42 l0_0 x7_1).f0), .int .i64 0, .int .i64 15] rfl (by (try simp only [List.map_toArray, List.map_cons, List.map_nil]); first | done | rfl | (simp only [List.length_drop, List.length_take]; rfl)) ?_; (with_reducible refine (plan_between.calls ((rd_T42 l0_0 x7_1).f0) 0 15 true _ A7.out).mono ?_); rintro e w' ⟨rfl, ⟨nd, rfl⟩⟩; refine ⟨_, rfl, ?_⟩) | ((with_reducible refine gate_callee (f := 121) rfl ?_); refine goesL_ (some 25) rfl rfl Try.func121 (by kernel_rfl) rfl #[.int .i64 ((rd_T42 l0_0 x7_1).f0), .int .i64 (((rd_T42 l0_0 x7_1).f1).length : Int)] rfl (by (try simp only [List.map_toArray, List.map_cons, List.map_nil]); first | done | rfl | (simp only [List.length_drop, List.length_take]; rfl)) ?_; (with_reducible refine (plan_ins.calls ((rd_T42 l0_0 x7_1).f0) (((rd_T42 l0_0 x7_1).f1).length : Int) true _ A9.out).mono ?_); rintro e w' ⟨rfl, ⟨nd, rfl⟩⟩; refine ⟨_, rfl, ?_⟩) | ((with_reducible refine gate_callee (f := 122) rfl ?_); refine goesL_ (some 33) rfl rfl Try.func122 (by kernel_rfl) rfl #[.slice A113_1 ((rd_T42 l0_0 x7_1).f1).length c113_1, .func (.func 123) #[] #[.pointer (some ⟨gb112, 0, none⟩)]] rfl (by (try simp only [List.map_toArray, List.map_cons, List.map_nil]); first | done | rfl) ?_; (with_reducible refine (contains_calls (F := 123) Try.func123 (by kernel_rfl) rfl #[.pointer (some ⟨gb112, 0, none⟩)] (fun x => !((plan_between.f x 0 (wrap64 ((l0_0.length : Int) - 1))).getD false)) A113_1 c113_1 ((rd_T42 l0_0 x7_1).f1) _ ?cr HC113_1.out ?cp).mono ?_); (case cr => exact Kd.C_below HR113_1.out (by repeat (first | (with_reducible first | exact HB.out | apply below_alloc | apply pw_below_drewN | apply below_drew1 | refine below_set ?_ GE114.out | refine below_set ?_ GE112.out) | exact HB.out))); (case cp => exact fun x W _ hb => shape1_calls x gb112 W _ _ _ _ _ _ _ (blk_below (by (with_reducible repeat (first | refine blk_drewN ?_ _ | refine blk_drew ?_ | refine blk_alloc ?_ _ | refine blk_far ?_ NB112_114.out _)); exact BK112.out) hb)); rintro e w' ⟨rfl, hb⟩; refine ⟨_, by rw [show (decide (0 ≤ idx _ _) : Bool) = _ from Option.some.inj A11.out], ?_⟩; have n0_ := zz (blk_below (g := gb112) (o := .cells #[.slice (some ad113) l0_0.length c0_0, .slice A0_1 l0_1.length c0_1, .int .i64 a0_2] 25 (0, 0)) (by (with_reducible repeat (first | refine blk_drewN ?_ _ | refine blk_drew ?_ | refine blk_alloc ?_ _ | refine blk_far ?_ NB112_114.out _)); exact BK112.out) hb); have n3_ := zz (below_step (by repeat (first | (with_reducible first | exact HB.out | apply below_alloc | apply pw_below_drewN | apply below_drew1 | refine below_set ?_ GE114.out | refine below_set ?_ GE112.out) | exact HB.out)) hb); clear BK112 HB; have BK112 := n0_; have HB := n3_; clear n0_ n3_ hb))
         go_roundg k1
         case measure => have := HK1.out; omega
         case rel => exact ⟨(wrap64 (x7_1 + 1)), (by first | rfl | (simp; done) | (simp [*]; done)), H', ⟨by have := HK1.out; omega⟩, ⟨bk BK112.out⟩, ⟨by repeat (first | (with_reducible first | exact HB.out | apply below_alloc | apply pw_below_drewN | apply below_drew1 | refine below_set ?_ GE112.out | refine below_set ?_ GE114.out) | exact HB.out)⟩⟩
       ·replace c10 := Bool.eq_false_iff.mpr c10
        subst c10
        rw [if_neg (show ¬ (false = true) by decide)] at H
        simp only [Option.some.injEq, Prod.mk.injEq] at H
        obtain ⟨rfl, rfl⟩ := H
        have p113 : 0 ≤ (x7_1 : Int) := of_decide_eq_true (by first | (with_reducible assumption) | assumption)
        have q113 : x7_1 < (l0_0.length : Int) := of_decide_eq_true (by first | (with_reducible assumption) | assumption)
        obtain ⟨ad113, A113_1, c113_1, A113_2, c113_2, A113_3, c113_3, A113_4, c113_4, e113, hx113_0, hx113_1, hx113_2, hx113_3, hx113_4, hx113_5, hx113_6, hx113_7, hx113_8, hl113_1, hi113_1, hl113_2, hi113_2, hl113_3, hi113_3, hl113_4, hi113_4⟩ := at_T42 HR0_0.out x7_1 p113 q113
        cases e113
        replace hx113_0 := (HB.out.cell (World.block_lt_of_cell? w _ hx113_0)).trans hx113_0
        replace hx113_1 := (HB.out.cell (World.block_lt_of_cell? w _ hx113_1)).trans hx113_1
        replace hx113_2 := (HB.out.cell (World.block_lt_of_cell? w _ hx113_2)).trans hx113_2
        replace hx113_3 := (HB.out.cell (World.block_lt_of_cell? w _ hx113_3)).trans hx113_3
        replace hx113_4 := (HB.out.cell (World.block_lt_of_cell? w _ hx113_4)).trans hx113_4
        replace hx113_5 := (HB.out.cell (World.block_lt_of_cell? w _ hx113_5)).trans hx113_5
        replace hx113_6 := (HB.out.cell (World.block_lt_of_cell? w _ hx113_6)).trans hx113_6
        replace hx113_7 := (HB.out.cell (World.block_lt_of_cell? w _ hx113_7)).trans hx113_7
        replace hx113_8 := (HB.out.cell (World.block_lt_of_cell? w _ hx113_8)).trans hx113_8
        have HR113_1 := zz hi113_1
        have HC113_1 := zz hl113_1
        clear hi113_1 hl113_1
        have HR113_2 := zz hi113_2
        have HC113_2 := zz hl113_2
        clear hi113_2 hl113_2
        have HR113_3 := zz hi113_3
        have HC113_3 := zz hl113_3
        clear hi113_3 hl113_3
        have HR113_4 := zz hi113_4
        have HC113_4 := zz hl113_4
        clear hi113_4 hl113_4
        replace p113 := eq_true p113
        replace q113 := eq_true q113
        go_wp2_with (first | ((with_reducible refine gate_dst (N := 3) rfl ?_); refine box_event ?hg (N := 3) ?hd (cs := #[.int .i64 0, .slice none 0 0, .slice none 0 0, .slice none 0 0, .slice none 0 0, .int .i64 0, .int .i64 0, .int .i64 0, .int .i64 0]) (t := 42) ?hr ?_; (case hd => rfl); (case hg => rfl); (case hr => first | (go_simp; done) | (go_simp; rfl)); intro gb114 hg w19 hbox hb; have n0_ := zz (blk_below (g := gb112) (o := .cells #[.slice (some ad113) l0_0.length c0_0, .slice A0_1 l0_1.length c0_1, .int .i64 a0_2] 25 (0, 0)) (bk BK112.out) hb); have n1_ := zz (below_step (by repeat (first | (with_reducible first | exact HB.out | apply below_alloc | apply pw_below_drewN | apply below_drew1 | refine below_set ?_ GE112.out) | exact HB.out)) hb); have n2_ := zz (hbox); have n3_ := zz ((by rw [hg]; exact (below_size (by repeat (first | (with_reducible first | exact HB.out | apply below_alloc | apply pw_below_drewN | apply below_drew1 | refine below_set ?_ GE112.out) | exact HB.out))) : w.heap.size ≤ gb114)); have n4_ := zz ((by rw [hg]; exact (below_size (by repeat (first | (with_reducible first | exact HB.out | apply below_alloc | apply pw_below_drewN | apply below_drew1 | refine below_set ?_ GE112.out) | exact HB.out))) : w.heap.size ≤ gb114)); have n5_ := zz ((by rw [hg]; exact Nat.ne_of_lt (blk_lt (g := gb112) (o := .cells #[.slice (some ad113) l0_0.length c0_0, .slice A0_1 l0_1.length c0_1, .int .i64 a0_2] 25 (0, 0)) (bk BK112.out)) : gb112 ≠ gb114)); have n6_ := zz ((by rw [hg]; exact Nat.ne_of_gt (blk_lt (g := gb112) (o := .cells #[.slice (some ad113) l0_0.length c0_0, .slice A0_1 l0_1.length c0_1, .int .i64 a0_2] 25 (0, 0)) (bk BK112.out)) : gb114 ≠ gb112)); clear BK112; clear HB; have BK112 := n0_; have HB := n1_; have BK114 := n2_; have GW114 := n3_; have GE114 := n4_; have NB112_114 := n5_; have NB114_112 := n6_; clear n0_ n1_ n2_ n3_ n4_ n5_ n6_; clear hb hbox hg; have hnb20 := NB114_112.out; have hnc20 := NB112_114.out; obtain ⟨hcz21_0, hcz21_1, hcz21_2, hcz21_3, hcz21_4, hcz21_5, hcz21_6, hcz21_7, hcz21_8⟩ := nine_cells BK114.out; have hfz21_0 := blk_frozen BK114.out 0; have hfz21_1 := blk_frozen BK114.out 1; have hfz21_2 := blk_frozen BK114.out 2; have hfz21_3 := blk_frozen BK114.out 3; have hfz21_4 := blk_frozen BK114.out 4; have hfz21_5 := blk_frozen BK114.out 5; have hfz21_6 := blk_frozen BK114.out 6; have hfz21_7 := blk_frozen BK114.out 7; have hfz21_8 := blk_frozen BK114.out 8) | ((with_reducible refine gate_callee (f := 120) rfl ?_); refine goesL_ (some 15) rfl rfl Try.func120 (by kernel_rfl) rfl #[.int .i64 ((rd_T42 l0_0 x7_1).f0), .int .i64 0, .int .i64 15] rfl (by (try simp only [List.map_toArray, List.map_cons, List.map_nil]); first | done | rfl | (simp only [List.length_drop, List.length_take]; rfl)) ?_; (with_reducible refine (plan_between.calls ((rd_T42 l0_0 x7_1).f0) 0 15 true _ A7.out).mono ?_); rintro e w' ⟨rfl, ⟨nd, rfl⟩⟩; refine ⟨_, rfl, ?_⟩) | ((with_reducible refine gate_callee (f := 121) rfl ?_); refine goesL_ (some 25) rfl rfl Try.func121 (by kernel_rfl) rfl #[.int .i64 ((rd_T42 l0_0 x7_1).f0), .int .i64 (((rd_T42 l0_0 x7_1).f1).length : Int)] rfl (by (try simp only [List.map_toArray, List.map_cons, List.map_nil]); first | done | rfl | (simp only [List.length_drop, List.length_take]; rfl)) ?_; (with_reducible refine (plan_ins.calls ((rd_T42 l0_0 x7_1).f0) (((rd_T42 l0_0 x7_1).f1).length : Int) false _ A9.out).mono ?_); rintro e w' ⟨rfl, ⟨nd, rfl⟩⟩; refine ⟨_, rfl, ?_⟩) | (go_at_call 119; (with_reducible refine (plan_fail.calls 1 x7_1 _).mono ?_); rintro e w' ⟨rfl, rfl⟩))
        ((try simp only [Exit.inBlock, Exit.then]); refine Go.Proofs.Ytdkkollonlmelaa.Hand.bodyPost_fail (by rfl) ?_)
        exact ⟨fun h_ => absurd h_ (by first | decide | exact HNE.out | (intro z_; simp_all)), fun _ => rfl, by repeat (first | (with_reducible first | exact HB.out | apply below_alloc | apply pw_below_drewN | apply below_drew1 | refine below_set ?_ GE112.out | refine below_set ?_ GE114.out) | exact HB.out)⟩
      ·replace c8 := Bool.eq_false_iff.mpr c8
       subst c8
       rw [if_neg (show ¬ (false = true) by decide)] at H
       simp only [Option.some.injEq, Prod.mk.injEq] at H
       obtain ⟨rfl, rfl⟩ := H
       have p113 : 0 ≤ (x7_1 : Int) := of_decide_eq_true (by first | (with_reducible assumption) | assumption)
       have q113 : x7_1 < (l0_0.length : Int) := of_decide_eq_true (by first | (with_reducible assumption) | assumption)
       obtain ⟨ad113, A113_1, c113_1, A113_2, c113_2, A113_3, c113_3, A113_4, c113_4, e113, hx113_0, hx113_1, hx113_2, hx113_3, hx113_4, hx113_5, hx113_6, hx113_7, hx113_8, hl113_1, hi113_1, hl113_2, hi113_2, hl113_3, hi113_3, hl113_4, hi113_4⟩ := at_T42 HR0_0.out x7_1 p113 q113
       cases e113
       replace hx113_0 := (HB.out.cell (World.block_lt_of_cell? w _ hx113_0)).trans hx113_0
       replace hx113_1 := (HB.out.cell (World.block_lt_of_cell? w _ hx113_1)).trans hx113_1
       replace hx113_2 := (HB.out.cell (World.block_lt_of_cell? w _ hx113_2)).trans hx113_2
       replace hx113_3 := (HB.out.cell (World.block_lt_of_cell? w _ hx113_3)).trans hx113_3
       replace hx113_4 := (HB.out.cell (World.block_lt_of_cell? w _ hx113_4)).trans hx113_4
       replace hx113_5 := (HB.out.cell (World.block_lt_of_cell? w _ hx113_5)).trans hx113_5
       replace hx113_6 := (HB.out.cell (World.block_lt_of_cell? w _ hx113_6)).trans hx113_6
       replace hx113_7 := (HB.out.cell (World.block_lt_of_cell? w _ hx113_7)).trans hx113_7
       replace hx113_8 := (HB.out.cell (World.block_lt_of_cell? w _ hx113_8)).trans hx113_8
       have HR113_1 := zz hi113_1
       have HC113_1 := zz hl113_1
       clear hi113_1 hl113_1
       have HR113_2 := zz hi113_2
       have HC113_2 := zz hl113_2
       clear hi113_2 hl113_2
       have HR113_3 := zz hi113_3
       have HC113_3 := zz hl113_3
       clear hi113_3 hl113_3
       have HR113_4 := zz hi113_4
       have HC113_4 := zz hl113_4
       clear hi113_4 hl113_4
       replace p113 := eq_true p113
       replace q113 := eq_true q113
       go_wp2_with (first | ((with_reducible refine gate_dst (N := 3) rfl ?_); refine box_event ?hg (N := 3) ?hd (cs := #[.int .i64 0, .slice none 0 0, .slice none 0 0, .slice none 0 0, .slice none 0 0, .int .i64 0, .int .i64 0, .int .i64 0, .int .i64 0]) (t := 42) ?hr ?_; (case hd => rfl); (case hg => rfl); (case hr => first | (go_simp; done) | (go_simp; rfl)); intro gb114 hg w22 hbox hb; have n0_ := zz (blk_below (g := gb112) (o := .cells #[.slice (some ad113) l0_0.length c0_0, .slice A0_1 l0_1.length c0_1, .int .i64 a0_2] 25 (0, 0)) (bk BK112.out) hb); have n1_ := zz (below_step (by repeat (first | (with_reducible first | exact HB.out | apply below_alloc | apply pw_below_drewN | apply below_drew1 | refine below_set ?_ GE112.out) | exact HB.out)) hb); have n2_ := zz (hbox); have n3_ := zz ((by rw [hg]; exact (below_size (by repeat (first | (with_reducible first | exact HB.out | apply below_alloc | apply pw_below_drewN | apply below_drew1 | refine below_set ?_ GE112.out) | exact HB.out))) : w.heap.size ≤ gb114)); have n4_ := zz ((by rw [hg]; exact (below_size (by repeat (first | (with_reducible first | exact HB.out | apply below_alloc | apply pw_below_drewN | apply below_drew1 | refine below_set ?_ GE112.out) | exact HB.out))) : w.heap.size ≤ gb114)); have n5_ := zz ((by rw [hg]; exact Nat.ne_of_lt (blk_lt (g := gb112) (o := .cells #[.slice (some ad113) l0_0.length c0_0, .slice A0_1 l0_1.length c0_1, .int .i64 a0_2] 25 (0, 0)) (bk BK112.out)) : gb112 ≠ gb114)); have n6_ := zz ((by rw [hg]; exact Nat.ne_of_gt (blk_lt (g := gb112) (o := .cells #[.slice (some ad113) l0_0.length c0_0, .slice A0_1 l0_1.length c0_1, .int .i64 a0_2] 25 (0, 0)) (bk BK112.out)) : gb114 ≠ gb112)); clear BK112; clear HB; have BK112 := n0_; have HB := n1_; have BK114 := n2_; have GW114 := n3_; have GE114 := n4_; have NB112_114 := n5_; have NB114_112 := n6_; clear n0_ n1_ n2_ n3_ n4_ n5_ n6_; clear hb hbox hg; have hnb23 := NB114_112.out; have hnc23 := NB112_114.out; obtain ⟨hcz24_0, hcz24_1, hcz24_2, hcz24_3, hcz24_4, hcz24_5, hcz24_6, hcz24_7, hcz24_8⟩ := nine_cells BK114.out; have hfz24_0 := blk_frozen BK114.out 0; have hfz24_1 := blk_frozen BK114.out 1; have hfz24_2 := blk_frozen BK114.out 2; have hfz24_3 := blk_frozen BK114.out 3; have hfz24_4 := blk_frozen BK114.out 4; have hfz24_5 := blk_frozen BK114.out 5; have hfz24_6 := blk_frozen BK114.out 6; have hfz24_7 := blk_frozen BK114.out 7; have hfz24_8 := blk_frozen BK114.out 8) | ((with_reducible refine gate_callee (f := 120) rfl ?_); refine goesL_ (some 15) rfl rfl Try.func120 (by kernel_rfl) rfl #[.int .i64 ((rd_T42 l0_0 x7_1).f0), .int .i64 0, .int .i64 15] rfl (by (try simp only [List.map_toArray, List.map_cons, List.map_nil]); first | done | rfl | (simp only [List.length_drop, List.length_take]; rfl)) ?_; (with_reducible refine (plan_between.calls ((rd_T42 l0_0 x7_1).f0) 0 15 false _ A7.out).mono ?_); rintro e w' ⟨rfl, ⟨nd, rfl⟩⟩; refine ⟨_, rfl, ?_⟩) | (go_at_call 119; (with_reducible refine (plan_fail.calls 8 x7_1 _).mono ?_); rintro e w' ⟨rfl, rfl⟩))
       ((try simp only [Exit.inBlock, Exit.then]); refine Go.Proofs.Ytdkkollonlmelaa.Hand.bodyPost_fail (by rfl) ?_)
       exact ⟨fun h_ => absurd h_ (by first | decide | exact HNE.out | (intro z_; simp_all)), fun _ => rfl, by repeat (first | (with_reducible first | exact HB.out | apply below_alloc | apply pw_below_drewN | apply below_drew1 | refine below_set ?_ GE112.out | refine below_set ?_ GE114.out) | exact HB.out)⟩
     ·rw [if_neg c6] at H
      exact absurd H (by simp)
    ·rw [if_neg c5] at H
     exact absurd H (by simp)
   ·rw [if_neg c4] at H
    have c4b0 : decide (x7_1 < (l0_0.length : Int)) = false := decide_eq_false c4
    clear c4
    simp only [Option.some.injEq, Prod.mk.injEq] at H
    obtain ⟨rfl, rfl⟩ := H
    go_wp2
    first | go_end0 | ((try simp only [Exit.inBlock, Exit.then]); refine bodyPost_ret (results_none rfl _ _ _) rfl ?_)
    first | (exact ⟨fun _ => ⟨by first | rfl | (simp [errW_none, errW_some] <;> rfl) | (simp [*, errW_none, errW_some] <;> rfl), trivial⟩, fun h_ => absurd rfl h_, by repeat (first | (with_reducible first | exact HB.out | apply below_alloc | apply pw_below_drewN | apply below_drew1 | refine below_set ?_ GE112.out) | exact HB.out)⟩) | (exact ⟨(by first | rfl | (simp [errW_none, errW_some] <;> rfl) | (simp [*, errW_none, errW_some] <;> rfl)), by repeat (first | (with_reducible first | exact HB.out | apply below_alloc | apply pw_below_drewN | apply below_drew1 | refine below_set ?_ GE112.out) | exact HB.out)⟩)





/-! ### slices_Clone_int_int: function 82, by hand -/
theorem slices_Clone_int_int.calls0 (A : Option Addr) (c : Nat) (l : List Int) (w : World) (hr : Kd.C (Kd.int .i64) w A l.length l) (hc : l.length ≤ c) (hlim : l.length < 17592186044416) :
  Calls Try.prog 82 #[.slice A l.length c] w fun e w' => ∃ v0_ : Value, e = .returned (v0_) ∧ Kd.R (Kd.int .i64) 3 w' w.heap.size (fun _ => True) v0_ l ∧ Below w.heap.size w w' := by
 have HR := zz hr
 have hnil : ∀ (x : Option Addr) (n m : Nat) (W : World), Sem.run Try.prog (binOp BinOp.eql 23 (Value.slice x n m) (Value.slice none 0 0)) W = .ok (.bool x.isNone) W := by
  intro x n m W
  cases x <;> rfl
 cases A with
 | none =>
  have hl : l = [] := by
   cases l with
   | nil => rfl
   | cons a l => obtain ⟨ad, h, _⟩ := hr.2.2 (by simp); cases h
  subst hl
  clear hr
  go_enter Try.func82, Try.ntmps82
  go_wp2
  go_ret
  exact ⟨_, rfl, Kd.R_nil _ _ _ _ _, Below.refl _ _⟩
 | some ad =>
  clear hr
  go_enter Try.func82, Try.ntmps82
  go_wp2_with (first | ((with_reducible refine gate_dst (N := 5) rfl ?_); refine Kd.R_lit (Kd.int .i64) w.heap.size 3 ?hg (N := 5) ?hd (xs := ([] : List Int)) (inner := []) (ok := fun _ => True) (okp := fun _ => True) ?hr ?hp (fun _ hk => hk) trivial (Below.refl _ _) (Nat.le_refl _) (by simp) ?_; (case hd => rfl); (case hg => rfl); (case hr => first | (go_simp; done) | (go_simp; rfl)); (case hp => exact (Reps.none _ _)); intro v5 w5 ho hb hg_ hnew_; clear hg_ hnew_; have HO := zz ho; have HB := zz hb; clear ho hb) | ((with_reducible refine gate_builtin (b := .append) (xs := #[.tmp 5, .tmp 6]) rfl ?_); at_builtin; refine Kd.R_append_rows (Kd.int .i64) (Rr := (Kd.int .i64).K w5) (w0 := w) w.heap.size rfl (.tmp 5) (.tmp 6) 23 3 (.int .i64 0) 8 rfl Try.underlying23 info3 rfl (by decide) (by omega) v5 [] l (some ad) l.length c (fun _ => True) (fun _ => False) rfl rfl HO.out (Kd.C_below HR.out HB.out) (fun x cs h => h) (fun _ hk => hk.elim) (fun _ _ => trivial) HB.out HB.out.size (by simp; omega) ?_; intro v7 w7 ho hb hg hat; clear hg hat; have HO7 := zz ho; have HB7 := zz hb; clear ho hb))
  go_ret
  exact ⟨_, rfl, by have h := HO7.out; rw [List.nil_append] at h; exact h, HB7.out⟩
def slices_Clone_int_int.f (l0 : List Int) : Option (List Int) := if l0.length < 17592186044416 then some l0 else none
theorem slices_Clone_int_int.calls (A0 : Option Addr) (c0 : Nat) (l0 : List Int) (r : List Int) (w : World) (hr0 : Kd.C (Kd.int .i64) w A0 l0.length l0) (hc0 : l0.length ≤ c0) (h : slices_Clone_int_int.f l0 = some r) :
  Calls Try.prog 82 #[.slice A0 l0.length c0] w fun e w' => ∃ v0_ : Value, e = .returned (v0_) ∧ Kd.R (Kd.int .i64) 3 w' w.heap.size (fun _ => True) v0_ r ∧ Below w.heap.size w w' := by
 unfold slices_Clone_int_int.f at h
 split at h
 ·rename_i hl
  obtain rfl := Option.some.inj h
  exact slices_Clone_int_int.calls0 A0 c0 l0 w hr0 hc0 hl
 ·cases h


/-! ### plan_reaches: function 124 -/
def plan_reaches.l0 : Nat → Int → List Bool → List Int → List (S42) → List Int → Int → Option (Bool)
 | 0, _, _, _, _, _, _ => none
 | k + 1, x2, x7, x8, x108000, x108001, x108002 => if (x8.length : Int) > 0 then (if 0 < (x8.length : Int) then (if 1 ≤ (x8.length : Int) then ((some (x8.drop (1 : Int).toNat : List Int)).bind fun y116 => (if (rd x8 0) = x2 then (some true) else (if 0 ≤ (rd x8 0) then (if (rd x8 0) < (x7.length : Int) then (if (rdOf false x7 (rd x8 0) = true) then (plan_reaches.l0 k x2 x7 y116 x108000 x108001 x108002) else (if (rd x8 0) < (x108000.length : Int) then (if y116.length + ((rd_T42 x108000 (rd x8 0)).f1).length < 17592186044416 then (plan_reaches.l0 k x2 (x7.set ((rd x8 0) : Int).toNat true) (y116 ++ ((rd_T42 x108000 (rd x8 0)).f1)) x108000 x108001 x108002) else (none)) else (none))) else (none)) else (none)))) else (none)) else (none)) else (some false)
def plan_reaches.f (k : Nat) (l0_0 : List (S42)) (l0_1 : List Int) (a0_2 : Int) (a1 : Int) (a2 : Int) : Option (Bool) := if 0 ≤ (l0_0.length : Int) then (if ((l0_0.length : Int) : Int).toNat ≤ 281474976710656 then (if 0 ≤ a1 then (if a1 < (l0_0.length : Int) then ((slices_Clone_int_int.f ((rd_T42 l0_0 a1).f1)).bind fun t112 => (plan_reaches.l0 k a2 (List.replicate ((l0_0.length : Int) : Int).toNat false) t112 l0_0 l0_1 a0_2)) else (none)) else (none)) else (none)) else (none)
theorem plan_reaches.mono_l : ∀ k, (∀ y0 y1 y2 y3 y4 y5, LeO (plan_reaches.l0 k y0 y1 y2 y3 y4 y5) (plan_reaches.l0 (k + 1) y0 y1 y2 y3 y4 y5))
 | 0 => fun _ _ _ _ _ _ r h => by simp [plan_reaches.l0] at h
 | k + 1 => by
  have ih0 := plan_reaches.mono_l k
  ·intro y0 y1 y2 y3 y4 y5
   unfold plan_reaches.l0
   repeat' first
   | (with_reducible exact ih0 _ _ _ _ _ _)
   | (with_reducible exact LeO.refl _)
   | (with_reducible exact LeO.none _)
   | (with_reducible refine LeO.ite ?_ ?_)
   | (with_reducible refine LeO.bind ?_ (fun _ => ?_))
   | exact ih0 _ _ _ _ _ _
   | exact LeO.none _
   | refine LeO.ite ?_ ?_
   | refine LeO.bind ?_ (fun _ => ?_)
theorem plan_reaches.mono : ∀ a0 a1 a2 a3 a4 k, LeO (plan_reaches.f k a0 a1 a2 a3 a4) (plan_reaches.f (k + 1) a0 a1 a2 a3 a4) := by
 intro a0 a1 a2 a3 a4 k
 have ih0 := plan_reaches.mono_l k
 unfold plan_reaches.f
 repeat' first
   | (with_reducible exact ih0 _ _ _ _ _ _)
   | (with_reducible exact LeO.refl _)
   | (with_reducible exact LeO.none _)
   | (with_reducible refine LeO.ite ?_ ?_)
   | (with_reducible refine LeO.bind ?_ (fun _ => ?_))
   | exact ih0 _ _ _ _ _ _
   | exact LeO.none _
   | refine LeO.ite ?_ ?_
   | refine LeO.bind ?_ (fun _ => ?_)
theorem plan_reaches.calls (k : Nat) (A0_0 : Option Addr) (c0_0 : Nat) (l0_0 : List (S42)) (A0_1 : Option Addr) (c0_1 : Nat) (l0_1 : List Int) (a0_2 : Int) (a1 : Int) (a2 : Int) (r : Bool) (w : World) (hr0_0 : Kd.C k42 w A0_0 l0_0.length l0_0) (hc0_0 : l0_0.length ≤ c0_0) (hr0_1 : Kd.C (Kd.int .i64) w A0_1 l0_1.length l0_1) (hc0_1 : l0_1.length ≤ c0_1) (h : plan_reaches.f k l0_0 l0_1 a0_2 a1 a2 = some r) :
  Calls Try.prog 124 #[.agg #[.slice A0_0 l0_0.length c0_0, .slice A0_1 l0_1.length c0_1, .int .i64 a0_2], .int .i64 a1, .int .i64 a2] w fun e w' => e = .returned (.bool r) ∧ Below w.heap.size w w' := by
 have hu25 := Try.underlying25
 have HR0_0 := zz hr0_0
 have HC0_0 := zz hc0_0
 clear hr0_0 hc0_0
 have HR0_1 := zz hr0_1
 have HC0_1 := zz hc0_1
 clear hr0_1 hc0_1
 have HB := zz (Below.refl w.heap.size w)
 have H := h
 unfold plan_reaches.f at H
 clear h
 by_cases c4 : 0 ≤ (l0_0.length : Int)
 ·rw [if_pos c4] at H
  have c4b0 := eq_true c4
  have c4b1 : decide (0 ≤ (l0_0.length : Int)) = true := decide_eq_true c4
  clear c4
  by_cases c5 : ((l0_0.length : Int) : Int).toNat ≤ 281474976710656
  ·rw [if_pos c5] at H
   have c5b0 := eq_true c5
   have c5b1 : decide (((l0_0.length : Int) : Int).toNat ≤ 281474976710656) = true := decide_eq_true c5
   clear c5
   obtain ⟨y108, hy108⟩ : ∃ y_ : List Bool, y_ = (List.replicate ((l0_0.length : Int) : Int).toNat false) := ⟨_, rfl⟩
   replace H : (if 0 ≤ a1 then (if a1 < (l0_0.length : Int) then ((slices_Clone_int_int.f ((rd_T42 l0_0 a1).f1)).bind fun t112 => (plan_reaches.l0 k a2 y108 t112 l0_0 l0_1 a0_2)) else (none)) else (none)) = some r := by first | (rw [hy108]; with_reducible exact H) | (have H2_ := (Option.bind_some _ _).symm.trans H; rw [hy108]; with_reducible exact H2_) | (have H2_ := (Option.bind_some _ _).symm.trans H; with_reducible exact H2_) | with_reducible exact H | (rw [hy108]; exact H) | exact H
   have Ny108 := zz hy108
   clear hy108
   by_cases c6 : 0 ≤ a1
   ·rw [if_pos c6] at H
    have c6b0 : decide (0 ≤ a1) = true := decide_eq_true c6
    clear c6
    by_cases c7 : a1 < (l0_0.length : Int)
    ·rw [if_pos c7] at H
     have c7b0 : decide (a1 < (l0_0.length : Int)) = true := decide_eq_true c7
     clear c7
     obtain ⟨t112, A80, H⟩ := Option.bind_eq_some_iff.mp H
     try dsimp only at H
     have A8 := zz A80
     clear A80
     have H' := zz H
     clear H
     go_enter Try.func124, Try.ntmps124
     go_wp2_with (first | ((with_reducible refine gate_dst (N := 3) rfl ?_); refine box_event ?hg (N := 3) ?hd (cs := #[.slice A0_0 l0_0.length c0_0, .slice A0_1 l0_1.length c0_1, .int .i64 a0_2]) (t := 25) ?hr ?_; (case hd => rfl); (case hg => rfl); (case hr => first | (go_simp; done) | (go_simp; rfl)); intro gb107 hg w9 hbox hb; have n0_ := zz (below_step (bel HB.out) hb); have n1_ := zz (hbox); have n2_ := zz ((by rw [hg]; exact (below_size (bel HB.out)) : w.heap.size ≤ gb107)); have n3_ := zz ((by rw [hg]; exact (below_size (bel HB.out)) : w.heap.size ≤ gb107)); clear HB; have HB := n0_; have BK107 := n1_; have GW107 := n2_; have GE107 := n3_; clear n0_ n1_ n2_ n3_; clear hb hbox hg; obtain ⟨hcz10_0, hcz10_1, hcz10_2⟩ := three_cells BK107.out; have hfz10_0 := blk_frozen BK107.out 0; have hfz10_1 := blk_frozen BK107.out 1; have hfz10_2 := blk_frozen BK107.out 2) | ((with_reducible refine gate_dst (N := 13) rfl ?_); refine Kd.R_make Kd.bool _ 4 rfl (N := 13) rfl 43 _ _ rfl (l0_0.length : Int) rfl rfl Try.underlying43 (.bool false) 1 info4 rfl (by decide) (by omega) false (ok := fun _ => True) (okp := fun _ => True) rfl (fun _ hk => hk) trivial (of_decide_eq_true (by first | (with_reducible assumption) | assumption)) (Nat.le_trans (Nat.mul_le_mul_right _ (of_decide_eq_true (by first | (with_reducible assumption) | assumption) : (l0_0.length : Int).toNat ≤ 281474976710656)) (by omega)) (Below.refl _ _) (Nat.le_refl _) ?_; intro v109 w11 ho12 hb hg_ hnew_; clear hg_ hnew_; (first | rw [← Ny108.out] at ho12 | (simp only [Int.reduceToNat] at ho12; rw [← Ny108.out] at ho12)); have n0_ := zz (Kd.R_lower ho12 (below_size (by repeat (first | (with_reducible first | exact HB.out | apply below_alloc | apply pw_below_drewN | apply below_drew1 | refine below_set ?_ GE107.out) | exact HB.out)))); have n1_ := zz (blk_below (g := gb107) (o := .cells #[.slice A0_0 l0_0.length c0_0, .slice A0_1 l0_1.length c0_1, .int .i64 a0_2] 25 (0, 0)) (bk BK107.out) hb); have n2_ := zz (below_step (by repeat (first | (with_reducible first | exact HB.out | apply below_alloc | apply pw_below_drewN | apply below_drew1 | refine below_set ?_ GE107.out) | exact HB.out)) hb); clear BK107; clear HB; have HO110 := n0_; have BK107 := n1_; have HB := n2_; clear n0_ n1_ n2_; clear hb ho12; obtain ⟨hcz13_0, hcz13_1, hcz13_2⟩ := three_cells BK107.out; have hfz13_0 := blk_frozen BK107.out 0; have hfz13_1 := blk_frozen BK107.out 1; have hfz13_2 := blk_frozen BK107.out 2; have p111 : 0 ≤ (a1 : Int) := of_decide_eq_true (by first | (with_reducible assumption) | assumption); have q111 : a1 < (l0_0.length : Int) := of_decide_eq_true (by first | (with_reducible assumption) | assumption); obtain ⟨ad111, A111_1, c111_1, A111_2, c111_2, A111_3, c111_3, A111_4, c111_4, e111, hx111_0, hx111_1, hx111_2, hx111_3, hx111_4, hx111_5, hx111_6, hx111_7, hx111_8, hl111_1, hi111_1, hl111_2, hi111_2, hl111_3, hi111_3, hl111_4, hi111_4⟩ := at_T42 HR0_0.out a1 p111 q111; cases e111; replace hx111_0 := (HB.out.cell (World.block_lt_of_cell? w _ hx111_0)).trans hx111_0; replace hx111_1 := (HB.out.cell (World.block_lt_of_cell? w _ hx111_1)).trans hx111_1; replace hx111_2 := (HB.out.cell (World.block_lt_of_cell? w _ hx111_2)).trans hx111_2; replace hx111_3 := (HB.out.cell (World.block_lt_of_cell? w _ hx111_3)).trans hx111_3; replace hx111_4 := (HB.out.cell (World.block_lt_of_cell? w _ hx111_4)).trans hx111_4; replace hx111_5 := (HB.out.cell (World.block_lt_of_cell? w _ hx111_5)).trans hx111_5; replace hx111_6 := (HB.out.cell (World.block_lt_of_cell? w _ hx111_6)).trans hx111_6; replace hx111_7 := (HB.out.cell (World.block_lt_of_cell? w _ hx111_7)).trans hx111_7; replace hx111_8 := (HB.out.cell (World.block_lt_of_cell? w _ hx111_8)).trans hx111_8; have HR111_1 := zz hi111_1; have HC111_1 := zz hl111_1; clear hi111_1 hl111_1; have HR111_2 := zz hi111_2; have HC111_2 := zz hl111_2; clear hi111_2 hl111_2; have HR111_3 := zz hi111_3; have HC111_3 := zz hl111_3; clear hi111_3 hl111_3; have HR111_4 := zz hi111_4; have HC111_4 := zz hl111_4; clear hi111_4 hl111_4; replace p111 := eq_true p111; replace q111 := eq_true q111) | ((with_reducible refine gate_callee (f := 82) rfl ?_); refine goesL_ (some 20) rfl rfl Try.func82 (by kernel_rfl) rfl #[.slice A111_1 ((rd_T42 l0_0 a1).f1).length c111_1] rfl (by (try simp only [List.map_toArray, List.map_cons, List.map_nil]); first | done | rfl | (simp only [List.length_drop, List.length_take]; rfl)) ?_; (with_reducible refine (slices_Clone_int_int.calls _ _ ((rd_T42 l0_0 a1).f1) t112 _ ?side1 ?side2 A8.out).mono ?_); (case side1 => repeat (first | exact (Kd.C_below HR111_1.out HB.out) | (with_reducible refine Kd.C_alloc ?_ _) | (with_reducible refine Kd.C_drewN ?_ _) | (with_reducible refine Kd.C_drew ?_))); (case side2 => exact HC111_1.out); rintro e w14 ⟨v113, rfl, ho0, hb⟩; refine ⟨_, rfl, ?_⟩; have n0_ := zz (Kd.R_below (rl HO110.out) hb); have n1_ := zz (Kd.R_lower ho0 (below_size (by repeat (first | (with_reducible first | exact HB.out | apply below_alloc | apply pw_below_drewN | apply below_drew1 | refine below_set ?_ GE107.out) | exact HB.out)))); have n2_ := zz (blk_below (g := gb107) (o := .cells #[.slice (some ad111) l0_0.length c0_0, .slice A0_1 l0_1.length c0_1, .int .i64 a0_2] 25 (0, 0)) (bk BK107.out) hb); have n3_ := zz (below_step (by repeat (first | (with_reducible first | exact HB.out | apply below_alloc | apply pw_below_drewN | apply below_drew1 | refine below_set ?_ GE107.out) | exact HB.out)) hb); clear HO110; clear BK107; clear HB; have HO110 := n0_; have HO114 := n1_; have BK107 := n2_; have HB := n3_; clear n0_ n1_ n2_ n3_; (try clear hb); (try clear hb2); (try clear hk); (try clear hi); (try clear ho0)))
     go_loopg [8] k (fun kq v8 w' => ∃ (x7_1 : List Bool) (x8_1 : List Int), Aside0 (plan_reaches.l0 kq a2 x7_1 x8_1 l0_0 l0_1 a0_2 = some r) ∧ Aside0 (kq ≤ k) ∧ Aside0 (Kd.R Kd.bool 4 w' w.heap.size (fun _ => True) v109 x7_1) ∧ Aside0 (Kd.Q (Kd.int .i64) 3 w' w.heap.size (fun _ => True) v8 x8_1) ∧ Aside0 (w'.heap[gb107]? = some (.cells #[(.slice (some ad111) l0_0.length c0_0), (.slice A0_1 l0_1.length c0_1), .int .i64 a0_2] 25 (0, 0))) ∧ Aside0 (Below w.heap.size w w'))
     case atStart => exact ⟨(y108), (t112), H', ⟨Nat.le_refl _⟩, ⟨rl HO110.out⟩, ⟨Kd.Q_of_R (rl HO114.out)⟩, ⟨bk BK107.out⟩, ⟨by repeat (first | (with_reducible first | exact HB.out | apply below_alloc | apply pw_below_drewN | apply below_drew1 | refine below_set ?_ GE107.out) | exact HB.out)⟩⟩
     case round =>
      clear H'
      try clear c4; try clear c4b0; try clear c4b1; try clear c5; try clear c5b0; try clear c5b1; try clear c6; try clear c6b0; try clear c7; try clear c7b0; try clear hcz10_0; try clear hcz10_1; try clear hcz10_2; try clear hcz13_0; try clear hcz13_1; try clear hcz13_2; try clear hfz10_0; try clear hfz10_1; try clear hfz10_2; try clear hfz13_0; try clear hfz13_1; try clear hfz13_2; try clear hx111_0; try clear hx111_1; try clear hx111_2; try clear hx111_3; try clear hx111_4; try clear hx111_5; try clear hx111_6; try clear hx111_7; try clear hx111_8; try clear p111; try clear q111
      obtain ⟨x7_1, x8_1, HA, HK1, HO_7, HO_8, BK107, HB⟩ := hrel
      cases gk with
      | zero => exact absurd HA.out (by simp [plan_reaches.l0])
      | succ k1 =>
       have H := HA.out
       clear HA
       simp only [plan_reaches.l0] at H
       by_cases c15 : (x8_1.length : Int) > 0
       ·rw [if_pos c15] at H
        have c15b0 : decide (0 < (x8_1.length : Int)) = true := decide_eq_true c15
        have c15b1 : decide (0 < x8_1.length) = true := decide_eq_true (by omega)
        clear c15
        by_cases c16 : 0 < (x8_1.length : Int)
        ·rw [if_pos c16] at H
         have c16b0 : decide (0 < (x8_1.length : Int)) = true := decide_eq_true c16
         have c16b1 : decide (0 < x8_1.length) = true := decide_eq_true (by omega)
         clear c16
         by_cases c17 : 1 ≤ (x8_1.length : Int)
         ·rw [if_pos c17] at H
          have c17b0 := eq_true c17
          have c17b1 : decide (1 ≤ (x8_1.length : Int)) = true := decide_eq_true c17
          clear c17
          obtain ⟨y116, hy116⟩ : ∃ y_ : List Int, y_ = (x8_1.drop (1 : Int).toNat) := ⟨_, rfl⟩
          replace H : (if (rd x8_1 0) = a2 then (some true) else (if 0 ≤ (rd x8_1 0) then (if (rd x8_1 0) < (x7_1.length : Int) then (if (rdOf false x7_1 (rd x8_1 0) = true) then (plan_reaches.l0 k1 a2 x7_1 y116 l0_0 l0_1 a0_2) else (if (rd x8_1 0) < (l0_0.length : Int) then (if y116.length + ((rd_T42 l0_0 (rd x8_1 0)).f1).length < 17592186044416 then (plan_reaches.l0 k1 a2 (x7_1.set ((rd x8_1 0) : Int).toNat true) (y116 ++ ((rd_T42 l0_0 (rd x8_1 0)).f1)) l0_0 l0_1 a0_2) else (none)) else (none))) else (none)) else (none))) = some r := by first | (rw [hy116]; with_reducible exact H) | (have H2_ := (Option.bind_some _ _).symm.trans H; rw [hy116]; with_reducible exact H2_) | (have H2_ := (Option.bind_some _ _).symm.trans H; with_reducible exact H2_) | with_reducible exact H | (rw [hy116]; exact H) | exact H
          have Ny116 := zz hy116
          clear hy116
          by_cases c18 : (rd x8_1 0) = a2
          ·rw [if_pos c18] at H
           have c18b0 : ((rd x8_1 0) == a2) = true := beq_iff_eq.mpr c18
           have c18b1 : ((rd x8_1 0) != a2) = false := bne_eq_false_iff_eq.mpr c18
           clear c18
           obtain rfl := Option.some.inj H
           obtain ⟨Ao19, co19, eo19, _⟩ := Kd.Q_slice HO_8.out
           subst eo19
           have p115 : 0 ≤ (0 : Int) := (by omega)
           have q115 : 0 < (x8_1.length : Int) := of_decide_eq_true (by first | (with_reducible assumption) | assumption)
           obtain ⟨ad115, e115, hx115_0⟩ := Kd.at_int (Kd.Q_reads' HO_8.out).2.2 0 p115 q115
           cases e115
           have qi115 : (0 < x8_1.length) = True := eq_true (by omega)
           (try rw [show ((0 : Int)).toNat = 0 from rfl] at hx115_0)
           (try rw [Addr.add_zero'] at hx115_0)
           replace p115 := eq_true p115
           replace q115 := eq_true q115
           have q20 : (1 : Int) ≤ ((x8_1.length : Int) : Int) := of_decide_eq_true (by first | (with_reducible assumption) | assumption)
           obtain ⟨i020, hi020, _, hsz20, _⟩ := info_parts info3
           have hcut20 := cut_from (P := Try.prog) 23 3 .i64 Try.underlying23 hi020 1 hsz20 (some ad115) x8_1.length co19 1 (by omega) q20
           have hr20 := Kd.Q_drop (k := (1 : Int).toNat) HO_8.out (by omega)
           obtain ⟨A20, hA20⟩ : ∃ A1, A1 = (if co19 = (1 : Int).toNat then (some ad115) else ((some ad115) : Option Addr).map (·.add ((1 : Int).toNat * 1))) := ⟨_, rfl⟩
           obtain ⟨c20, hc20⟩ : ∃ c1, c1 = co19 - (1 : Int).toNat := ⟨_, rfl⟩
           have hy20 : y116.length = x8_1.length - (1 : Int).toNat := (by rw [Ny116.out, List.length_drop])
           rw [← Ny116.out] at hr20
           rw [← hy20, ← hA20, ← hc20] at hcut20
           replace hr20 : Kd.Q (Kd.int .i64) 3 wr w.heap.size (fun _ => True) (.slice A20 y116.length c20) y116 := (by rw [hA20, hc20, hy20]; exact hr20)
           have HE20 : Aside0 ((Value.slice A20 y116.length c20).ownBlock = (.slice (some ad115) x8_1.length co19 : Value).ownBlock) := ⟨by rw [hA20]; split <;> (cases ((some ad115) : Option Addr) <;> rfl)⟩
           clear hy20 hi020 hsz20 HO_8 hA20 hc20
           have HO118 := zz hr20
           clear hr20
           replace q20 := eq_true q20
           go_wp2
           go_ret
           exact ⟨by first | rfl | (simp [errW_none, errW_some] <;> rfl) | (simp [*, errW_none, errW_some] <;> rfl), by repeat (first | (with_reducible first | exact HB.out | apply below_alloc | apply pw_below_drewN | apply below_drew1 | refine below_set ?_ GE107.out) | exact HB.out)⟩
          ·rw [if_neg c18] at H
           have c18b0 : ((rd x8_1 0) == a2) = false := beq_eq_false_iff_ne.mpr c18
           have c18b1 : ((rd x8_1 0) != a2) = true := bne_iff_ne.mpr c18
           by_cases c21 : 0 ≤ (rd x8_1 0)
           ·rw [if_pos c21] at H
            have c21b0 : decide (0 ≤ (rd x8_1 0)) = true := decide_eq_true c21
            clear c21
            by_cases c22 : (rd x8_1 0) < (x7_1.length : Int)
            ·rw [if_pos c22] at H
             have c22b0 : decide ((rd x8_1 0) < (x7_1.length : Int)) = true := decide_eq_true c22
             clear c22
             obtain ⟨bq23, hbq23⟩ : ∃ b_ : Bool, b_ = (rdOf false x7_1 (rd x8_1 0)) := ⟨_, rfl⟩
             replace H : (if (bq23 = true) then (plan_reaches.l0 k1 a2 x7_1 y116 l0_0 l0_1 a0_2) else (if (rd x8_1 0) < (l0_0.length : Int) then (if y116.length + ((rd_T42 l0_0 (rd x8_1 0)).f1).length < 17592186044416 then (plan_reaches.l0 k1 a2 (x7_1.set ((rd x8_1 0) : Int).toNat true) (y116 ++ ((rd_T42 l0_0 (rd x8_1 0)).f1)) l0_0 l0_1 a0_2) else (none)) else (none))) = some r := by rw [← hbq23] at H; exact H
             have Nbq23 := zz hbq23
             clear hbq23
             by_cases c24 : (bq23 = true)
             ·subst c24
              rw [if_pos rfl] at H
              have H' := zz H
              clear H
              obtain ⟨Ao25, co25, eo25, _⟩ := Kd.Q_slice HO_8.out
              subst eo25
              have p115 : 0 ≤ (0 : Int) := (by omega)
              have q115 : 0 < (x8_1.length : Int) := of_decide_eq_true (by first | (with_reducible assumption) | assumption)
              obtain ⟨ad115, e115, hx115_0⟩ := Kd.at_int (Kd.Q_reads' HO_8.out).2.2 0 p115 q115
              cases e115
              have qi115 : (0 < x8_1.length) = True := eq_true (by omega)
              (try rw [show ((0 : Int)).toNat = 0 from rfl] at hx115_0)
              (try rw [Addr.add_zero'] at hx115_0)
              replace p115 := eq_true p115
              replace q115 := eq_true q115
              have q26 : (1 : Int) ≤ ((x8_1.length : Int) : Int) := of_decide_eq_true (by first | (with_reducible assumption) | assumption)
              obtain ⟨i026, hi026, _, hsz26, _⟩ := info_parts info3
              have hcut26 := cut_from (P := Try.prog) 23 3 .i64 Try.underlying23 hi026 1 hsz26 (some ad115) x8_1.length co25 1 (by omega) q26
              have hr26 := Kd.Q_drop (k := (1 : Int).toNat) HO_8.out (by omega)
              obtain ⟨A26, hA26⟩ : ∃ A1, A1 = (if co25 = (1 : Int).toNat then (some ad115) else ((some ad115) : Option Addr).map (·.add ((1 : Int).toNat * 1))) := ⟨_, rfl⟩
              obtain ⟨c26, hc26⟩ : ∃ c1, c1 = co25 - (1 : Int).toNat := ⟨_, rfl⟩
              have hy26 : y116.length = x8_1.length - (1 : Int).toNat := (by rw [Ny116.out, List.length_drop])
              rw [← Ny116.out] at hr26
              rw [← hy26, ← hA26, ← hc26] at hcut26
              replace hr26 : Kd.Q (Kd.int .i64) 3 wr w.heap.size (fun _ => True) (.slice A26 y116.length c26) y116 := (by rw [hA26, hc26, hy26]; exact hr26)
              have HE26 : Aside0 ((Value.slice A26 y116.length c26).ownBlock = (.slice (some ad115) x8_1.length co25 : Value).ownBlock) := ⟨by rw [hA26]; split <;> (cases ((some ad115) : Option Addr) <;> rfl)⟩
              clear hy26 hi026 hsz26 HO_8 hA26 hc26
              have HO118 := zz hr26
              clear hr26
              replace q26 := eq_true q26
              obtain ⟨Ao27, co27, eo27⟩ := Kd.R_slice HO_7.out
              subst eo27
              have p119 : 0 ≤ ((rd x8_1 0) : Int) := of_decide_eq_true (by first | (with_reducible assumption) | assumption)
              have q119 : (rd x8_1 0) < (x7_1.length : Int) := of_decide_eq_true (by first | (with_reducible assumption) | assumption)
              obtain ⟨ad119, e119, hx119_0⟩ := Kd.at_bool (Kd.R_reads' HO_7.out).2.2 (rd x8_1 0) p119 q119
              (try rw [← Nbq23.out] at hx119_0)
              cases e119
              replace p119 := eq_true p119
              replace q119 := eq_true q119
              go_wp2
              go_roundg k1
              case measure => have := HK1.out; omega
              case rel => exact ⟨(x7_1), (y116), H', ⟨by have := HK1.out; omega⟩, ⟨rl HO_7.out⟩, ⟨by (with_reducible repeat (first | apply Kd.Q_alloc | apply Kd.Q_drewN | apply Kd.Q_drew)); exact HO118.out⟩, ⟨bk BK107.out⟩, ⟨by repeat (first | (with_reducible first | exact HB.out | apply below_alloc | apply pw_below_drewN | apply below_drew1 | refine below_set ?_ GE107.out) | exact HB.out)⟩⟩
             ·replace c24 := Bool.eq_false_iff.mpr c24
              subst c24
              rw [if_neg (show ¬ (false = true) by decide)] at H
              obtain ⟨y120, hy120⟩ : ∃ y_ : List Bool, y_ = (x7_1.set ((rd x8_1 0) : Int).toNat true) := ⟨_, rfl⟩
              replace H : (if (rd x8_1 0) < (l0_0.length : Int) then (if y116.length + ((rd_T42 l0_0 (rd x8_1 0)).f1).length < 17592186044416 then (plan_reaches.l0 k1 a2 y120 (y116 ++ ((rd_T42 l0_0 (rd x8_1 0)).f1)) l0_0 l0_1 a0_2) else (none)) else (none)) = some r := by first | (rw [hy120]; with_reducible exact H) | (have H2_ := (Option.bind_some _ _).symm.trans H; rw [hy120]; with_reducible exact H2_) | (have H2_ := (Option.bind_some _ _).symm.trans H; with_reducible exact H2_) | with_reducible exact H | (rw [hy120]; exact H) | exact H
              have Ny120 := zz hy120
              clear hy120
              by_cases c29 : (rd x8_1 0) < (l0_0.length : Int)
              ·rw [if_pos c29] at H
               have c29b0 : decide ((rd x8_1 0) < (l0_0.length : Int)) = true := decide_eq_true c29
               clear c29
               by_cases c30 : y116.length + ((rd_T42 l0_0 (rd x8_1 0)).f1).length < 17592186044416
               ·rw [if_pos c30] at H
                have LMc30 := zz c30
                clear c30
                obtain ⟨y122, hy122⟩ : ∃ y_ : List Int, y_ = (y116 ++ ((rd_T42 l0_0 (rd x8_1 0)).f1)) := ⟨_, rfl⟩
                replace H : (plan_reaches.l0 k1 a2 y120 y122 l0_0 l0_1 a0_2) = some r := by first | (rw [hy122]; with_reducible exact H) | (have H2_ := (Option.bind_some _ _).symm.trans H; rw [hy122]; with_reducible exact H2_) | (have H2_ := (Option.bind_some _ _).symm.trans H; with_reducible exact H2_) | with_reducible exact H | (rw [hy122]; exact H) | exact H
                have Ny122 := zz hy122
                clear hy122
                have H' := zz H
                clear H
                obtain ⟨Ao31, co31, eo31, _⟩ := Kd.Q_slice HO_8.out
                subst eo31
                have p115 : 0 ≤ (0 : Int) := (by omega)
                have q115 : 0 < (x8_1.length : Int) := of_decide_eq_true (by first | (with_reducible assumption) | assumption)
                obtain ⟨ad115, e115, hx115_0⟩ := Kd.at_int (Kd.Q_reads' HO_8.out).2.2 0 p115 q115
                cases e115
                have qi115 : (0 < x8_1.length) = True := eq_true (by omega)
                (try rw [show ((0 : Int)).toNat = 0 from rfl] at hx115_0)
                (try rw [Addr.add_zero'] at hx115_0)
                replace p115 := eq_true p115
                replace q115 := eq_true q115
                have q32 : (1 : Int) ≤ ((x8_1.length : Int) : Int) := of_decide_eq_true (by first | (with_reducible assumption) | assumption)
                obtain ⟨i032, hi032, _, hsz32, _⟩ := info_parts info3
                have hcut32 := cut_from (P := Try.prog) 23 3 .i64 Try.underlying23 hi032 1 hsz32 (some ad115) x8_1.length co31 1 (by omega) q32
                have hr32 := Kd.Q_drop (k := (1 : Int).toNat) HO_8.out (by omega)
                obtain ⟨A32, hA32⟩ : ∃ A1, A1 = (if co31 = (1 : Int).toNat then (some ad115) else ((some ad115) : Option Addr).map (·.add ((1 : Int).toNat * 1))) := ⟨_, rfl⟩
                obtain ⟨c32, hc32⟩ : ∃ c1, c1 = co31 - (1 : Int).toNat := ⟨_, rfl⟩
                have hy32 : y116.length = x8_1.length - (1 : Int).toNat := (by rw [Ny116.out, List.length_drop])
                rw [← Ny116.out] at hr32
                rw [← hy32, ← hA32, ← hc32] at hcut32
                replace hr32 : Kd.Q (Kd.int .i64) 3 wr w.heap.size (fun _ => True) (.slice A32 y116.length c32) y116 := (by rw [hA32, hc32, hy32]; exact hr32)
                have HE32 : Aside0 ((Value.slice A32 y116.length c32).ownBlock = (.slice (some ad115) x8_1.length co31 : Value).ownBlock) := ⟨by rw [hA32]; split <;> (cases ((some ad115) : Option Addr) <;> rfl)⟩
                clear hy32 hi032 hsz32 HO_8 hA32 hc32
                have HO118 := zz hr32
                clear hr32
                replace q32 := eq_true q32
                obtain ⟨Ao33, co33, eo33⟩ := Kd.R_slice HO_7.out
                subst eo33
                have p119 : 0 ≤ ((rd x8_1 0) : Int) := of_decide_eq_true (by first | (with_reducible assumption) | assumption)
                have q119 : (rd x8_1 0) < (x7_1.length : Int) := of_decide_eq_true (by first | (with_reducible assumption) | assumption)
                obtain ⟨ad119, e119, hx119_0⟩ := Kd.at_bool (Kd.R_reads' HO_7.out).2.2 (rd x8_1 0) p119 q119
                (try rw [← Nbq23.out] at hx119_0)
                cases e119
                replace p119 := eq_true p119
                replace q119 := eq_true q119
                have p28 : 0 ≤ ((rd x8_1 0) : Int) := of_decide_eq_true (by first | (with_reducible assumption) | assumption)
                have q28 : ((rd x8_1 0) : Int) < ((x7_1.length : Int) : Int) := of_decide_eq_true (by first | (with_reducible assumption) | assumption)
                obtain ⟨go28, co28, eo28, gb28, gl28, cl28, HG28⟩ := Kd.R_form HO_7.out (by omega)
                (first | cases eo28 | (injection eo28 with ea_ en_ ec_; (first | subst ea_ | (injection ea_ with ea_; subst ea_)); subst ec_; clear en_))
                have GB28 := zz gb28
                have GG28 := zz HG28
                clear gb28 gl28 HG28
                (first | simp only [add_plain] at hx119_0 | skip)
                obtain ⟨hx28_0, hf28_0⟩ := Kd.R_celln false HO_7.out ((rd x8_1 0) : Int) p28 q28
                replace p28 := eq_true p28
                replace q28 := eq_true q28
                have HP34 := Kd.R_putg HO_7.out ((rd x8_1 0) : Int) true
                go_wp2_with (first | ((with_reducible refine gate_store (t := 4) (p := 39) rfl ?_); refine store_event (t := 4) (p := 39) (v := ?vo_w35) (w1 := (wr.setCell ⟨go28, ((rd x8_1 0) : Int).toNat, none⟩ (.bool true))) ?hg ?ho ?hn ?hr ?_; (case ho => rfl); (case hg => rfl); (case hn => rfl); (case hr => first | (go_simp; done) | (go_simp; rfl)); intro w35 hw; have hg : wr.grownBy w35 (some go28) := (by rw [hw]; exact HP34.2); have hp_ : Kd.R Kd.bool 4 w35 w.heap.size (fun _ => True) (.slice (some ⟨go28, 0, none⟩) x7_1.length co33) y120 := (by rw [hw, Ny120.out]; exact HP34.1); clear HP34; have n0_ := zz (hp_); have n1_ := zz (Kd.Q_over' (v := (.slice (some ⟨go28, 0, none⟩) x7_1.length co33)) (by (with_reducible repeat (first | apply Kd.Q_alloc | apply Kd.Q_drewN | apply Kd.Q_drew)); exact HO118.out) (Kd.R_typed HO_7.out) (by decide) hg); have n2_ := zz (blk_grown (g := gb107) (o := .cells #[.slice (some ad111) l0_0.length c0_0, .slice A0_1 l0_1.length c0_1, .int .i64 a0_2] 25 (0, 0)) (bk BK107.out) hg (Kd.R_ne HO_7.out BK107.out (by decide))); have n3_ := zz ((by rw [hw]; exact below_set (HB.out) GB28.out : Below w.heap.size w w35)); clear HO_7; clear HO118; clear BK107; clear HB; have HO_7 := n0_; have HO118 := n1_; have BK107 := n2_; have HB := n3_; clear n0_ n1_ n2_ n3_; clear hg hw hp_; obtain ⟨hcz36_0, hcz36_1, hcz36_2⟩ := three_cells BK107.out; have hfz36_0 := blk_frozen BK107.out 0; have hfz36_1 := blk_frozen BK107.out 1; have hfz36_2 := blk_frozen BK107.out 2; have p121 : 0 ≤ ((rd x8_1 0) : Int) := of_decide_eq_true (by first | (with_reducible assumption) | assumption); have q121 : (rd x8_1 0) < (l0_0.length : Int) := of_decide_eq_true (by first | (with_reducible assumption) | assumption); obtain ⟨ad121, A121_1, c121_1, A121_2, c121_2, A121_3, c121_3, A121_4, c121_4, e121, hx121_0, hx121_1, hx121_2, hx121_3, hx121_4, hx121_5, hx121_6, hx121_7, hx121_8, hl121_1, hi121_1, hl121_2, hi121_2, hl121_3, hi121_3, hl121_4, hi121_4⟩ := at_T42 HR0_0.out (rd x8_1 0) p121 q121; obtain rfl : ad111 = ad121 := (by injection e121); replace hx121_0 := (HB.out.cell (World.block_lt_of_cell? w _ hx121_0)).trans hx121_0; replace hx121_1 := (HB.out.cell (World.block_lt_of_cell? w _ hx121_1)).trans hx121_1; replace hx121_2 := (HB.out.cell (World.block_lt_of_cell? w _ hx121_2)).trans hx121_2; replace hx121_3 := (HB.out.cell (World.block_lt_of_cell? w _ hx121_3)).trans hx121_3; replace hx121_4 := (HB.out.cell (World.block_lt_of_cell? w _ hx121_4)).trans hx121_4; replace hx121_5 := (HB.out.cell (World.block_lt_of_cell? w _ hx121_5)).trans hx121_5; replace hx121_6 := (HB.out.cell (World.block_lt_of_cell? w _ hx121_6)).trans hx121_6; replace hx121_7 := (HB.out.cell (World.block_lt_of_cell? w _ hx121_7)).trans hx121_7; replace hx121_8 := (HB.out.cell (World.block_lt_of_cell? w _ hx121_8)).trans hx121_8; have HR121_1 := zz hi121_1; have HC121_1 := zz hl121_1; clear hi121_1 hl121_1; have HR121_2 := zz hi121_2; have HC121_2 := zz hl121_2; clear hi121_2 hl121_2; have HR121_3 := zz hi121_3; have HC121_3 := zz hl121_3; clear hi121_3 hl121_3; have HR121_4 := zz hi121_4; have HC121_4 := zz hl121_4; clear hi121_4 hl121_4; replace p121 := eq_true p121; replace q121 := eq_true q121) | ((with_reducible refine gate_builtin (b := .append) (xs := #[.tmp 40, .tmp 46]) rfl ?_); at_builtin; refine Go.Proofs.Ytdkkollonlmelaa.Hand.Q_append_rows (Kd.int .i64) (w0 := w) w.heap.size rfl (.tmp 40) (.tmp 46) 23 3 (.int .i64 0) 8 rfl Try.underlying23 info3 rfl (by decide) (by omega) (.slice A32 y116.length c32) y116 ((rd_T42 l0_0 (rd x8_1 0)).f1) _ _ _ (fun _ => True) (fun _ => False) rfl rfl ?aO ?aR (fun _ _ h => h) (fun _ h => h.elim) ?aF ?aB ?aS ?aL ?_; (case aR => repeat (first | exact (Kd.C_below HR121_1.out HB.out) | (with_reducible refine Kd.C_alloc ?_ _) | (with_reducible refine Kd.C_drewN ?_ _) | (with_reducible refine Kd.C_drew ?_))); (case aB => exact (by repeat (first | (with_reducible first | exact HB.out | apply below_alloc | apply pw_below_drewN | apply below_drew1 | refine below_set ?_ GE107.out) | exact HB.out))); (case aF => exact (fun _ _ => trivial)); (case aO => exact (by (with_reducible repeat (first | apply Kd.Q_alloc | apply Kd.Q_drewN | apply Kd.Q_drew)); exact HO118.out)); (case aS => exact (below_size (by repeat (first | (with_reducible first | exact HB.out | apply below_alloc | apply pw_below_drewN | apply below_drew1 | refine below_set ?_ GE107.out) | exact HB.out)))); (case aL => have := LMc30.out; omega); intro v123 w37 ho hb hg hat; rw [← Ny122.out] at ho; have n0_ := zz (Kd.R_over' (rl HO_7.out) (Kd.Q_typed (by (with_reducible repeat (first | apply Kd.Q_alloc | apply Kd.Q_drewN | apply Kd.Q_drew)); exact HO118.out)) (by decide) hg); have n1_ := zz (blk_grown (g := gb107) (o := .cells #[.slice (some ad111) l0_0.length c0_0, .slice A0_1 l0_1.length c0_1, .int .i64 a0_2] 25 (0, 0)) (bk BK107.out) hg (Kd.Q_ne HO118.out BK107.out (by decide))); have n2_ := zz (hb); have n3_ := zz (ho); clear HO_7; clear BK107; clear HB; clear HO118; have HO_7 := n0_; have BK107 := n1_; have HB := n2_; have HO124 := n3_; clear n0_ n1_ n2_ n3_; clear ho hb hg hat))
                go_roundg k1
                case measure => have := HK1.out; omega
                case rel => exact ⟨(y120), (y122), H', ⟨by have := HK1.out; omega⟩, ⟨rl HO_7.out⟩, ⟨by (with_reducible repeat (first | apply Kd.Q_alloc | apply Kd.Q_drewN | apply Kd.Q_drew)); exact HO124.out⟩, ⟨bk BK107.out⟩, ⟨by repeat (first | (with_reducible first | exact HB.out | apply below_alloc | apply pw_below_drewN | apply below_drew1 | refine below_set ?_ GE107.out) | exact HB.out)⟩⟩
               ·rw [if_neg c30] at H
                exact absurd H (by simp)
              ·rw [if_neg c29] at H
               exact absurd H (by simp)
            ·rw [if_neg c22] at H
             exact absurd H (by simp)
           ·rw [if_neg c21] at H
            exact absurd H (by simp)
         ·rw [if_neg c17] at H
          exact absurd H (by simp)
        ·rw [if_neg c16] at H
         exact absurd H (by simp)
       ·rw [if_neg c15] at H
        have c15b0 : decide (0 < (x8_1.length : Int)) = false := decide_eq_false c15
        have c15b1 : decide (0 < x8_1.length) = false := decide_eq_false (by omega)
        clear c15
        obtain rfl := Option.some.inj H
        obtain ⟨Ao38, co38, eo38, _⟩ := Kd.Q_slice HO_8.out
        subst eo38
        go_wp2
        go_ret
        exact ⟨by first | rfl | (simp [errW_none, errW_some] <;> rfl) | (simp [*, errW_none, errW_some] <;> rfl), by repeat (first | (with_reducible first | exact HB.out | apply below_alloc | apply pw_below_drewN | apply below_drew1 | refine below_set ?_ GE107.out) | exact HB.out)⟩
    ·rw [if_neg c7] at H
     exact absurd H (by simp)
   ·rw [if_neg c6] at H
    exact absurd H (by simp)
  ·rw [if_neg c5] at H
   exact absurd H (by simp)
 ·rw [if_neg c4] at H
  exact absurd H (by simp)

end Go.Proofs.Ytdkkollonlmelaa.QPlanChecks
