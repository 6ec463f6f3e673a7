-- Written by this session's own program (wip/tools/ownprint.sh)
import Derived.Test.YtdkkollonlmelaaQPlanChecksx0
import Derived.Test.YtdkkollonlmelaaQPlanChecksx1
import Derived.Test.YtdkkollonlmelaaQPlanChecksx2
import Derived.Test.YtdkkollonlmelaaQPlanChecksx3
import Derived.Test.YtdkkollonlmelaaQPlanChecksx8
namespace Go.Proofs.Ytdkkollonlmelaa.QPlanChecks
open Go.RowKit Go.Proofs.YtdkkollonlmelaaW.PrintWords Go.Proofs.YtdkkollonlmelaaW.PrintLast Go.Proofs.YtdkkollonlmelaaW.PrintMore
attribute [local go_sem] max2_int min2_int max_two min_two max_three min_three max_four min_four Go.Proofs.Ytdkkollonlmelaa.Hand.str_gtr Go.Proofs.Ytdkkollonlmelaa.Hand.str_leq Go.Proofs.Ytdkkollonlmelaa.Hand.str_geq   -- for this text's walks alone
set_option linter.unusedVariables false
set_option maxHeartbeats 8000000
set_option maxRecDepth 100000
set_option linter.unusedSimpArgs false


/-! ### plan_all: function 49, by hand -/
theorem info23_ : (Try.prog.info? 23).map (fun i => (i.zero, i.size, i.bytes)) = some (some (.slice none 0 0), 1, 24) := by kernel_rfl
theorem R_put_row {W : World} {base g n cap : Nat} {ok : Nat → Prop} {xs : List (List Int)} (h : (Kd.slice 3 (Kd.int .i64)).R 23 W base ok (.slice (some ⟨g, 0, none⟩) n cap) xs) (i : Nat) (hi : i < xs.length) {v : Value} {x : List Int} (hv : (Kd.int .i64).R 3 W base (fun k => ok k ∧ k ≠ g) v x) :
  (Kd.slice 3 (Kd.int .i64)).R 23 (W.setCell ⟨g, i, none⟩ v) base ok (.slice (some ⟨g, 0, none⟩) n cap) (xs.set i x) ∧ W.grownBy (W.setCell ⟨g, i, none⟩ v) (some g) := by
 obtain ⟨rfl, _⟩ := Kd.R_reads' h
 obtain ⟨h0, inner, ho, hr⟩ := h
 obtain ⟨hs, hg⟩ := ho.stored i v
 have ob : (Value.slice (some ⟨g, 0, none⟩) xs.length cap).ownBlock = some g := rfl
 refine ⟨⟨h0, inner.set i v, by rw [List.length_set]; exact hs, ?_⟩, hg⟩
 have hr2 : Reps ((Kd.slice 3 (Kd.int .i64)).M (W.setCell ⟨g, i, none⟩ v) base (fun k => ok k ∧ some k ≠ (Value.slice (some ⟨g, 0, none⟩) xs.length cap).ownBlock)) 1 xs inner := hr.imp_ (fun p c hp => Kd.M_grown hp hg (fun k hk => by have := hk.2; rw [ob] at this; exact this))
 have hM : (Kd.slice 3 (Kd.int .i64)).M (W.setCell ⟨g, i, none⟩ v) base (fun k => ok k ∧ some k ≠ (Value.slice (some ⟨g, 0, none⟩) xs.length cap).ownBlock) x [v] := ⟨v, rfl, Kd.R_mono (Kd.R_grown hv hg (fun k hk => by intro e; injection e with e; exact hk.2 e)) (fun k hk => ⟨hk.1, by rw [ob]; intro e; injection e with e; exact hk.2 e⟩)⟩
 have hlen : i < inner.length := by have h1 : inner.length = xs.length * 1 := hr.1; omega
 have := Go.Proofs.YtdkkollonlmelaaW.PrintWords.Kd.reps_set hr2 hi hM rfl
 rw [show inner.set i v = inner.take (i * 1) ++ [v] ++ inner.drop (i * 1 + 1) from by rw [List.set_eq_take_append_cons_drop, if_pos hlen]; simp]
 exact this
theorem leaves_put {P : Program} {fn : Func} {R : Ending → World → Prop} {tmps tmps' : Array Value} (h : results fn tmps = results fn tmps') : ∀ (ds : List Deferred) (u : FrameMode) (w : World), Leaves P fn tmps R ds u w → Leaves P fn tmps' R ds u w
 | [], .returning, w, ⟨v, h1, h2⟩ => ⟨v, by rw [← h]; exact h1, h2⟩
 | [], .panicking _, _, h1 => h1
 | [], .run, _, h1 => h1
 | d :: ds, u, w, ⟨h1, fv, cap, f, args, h2, h3, h4⟩ => ⟨h1, fv, cap, f, args, h2, h3, h4.mono (fun e u' w' he => by
   cases e with
   | returned v => exact leaves_put h ds _ _ he
   | panicked c => exact leaves_put h ds _ _ he
   | outgrown => exact he)⟩
theorem results_all {P : Program} {fn : Func} (h : fn.results = #[.tmp 2, .tmp 3, .cell 4 28, .cell 5 3]) (hP : P = Try.prog) (tmps : Array Value) (w : World) {v0 v1 : Value} {g4 g5 : Nat} {re ra : Int} (h2 : tmps[2]?.getD undef = v0) (h3 : tmps[3]?.getD undef = v1) (h4 : tmps[4]?.getD undef = .pointer (some ⟨g4, 0, none⟩)) (h5 : tmps[5]?.getD undef = .pointer (some ⟨g5, 0, none⟩)) (c4 : w.cell? ⟨g4, 0, none⟩ = some (.int .i64 re)) (c5 : w.cell? ⟨g5, 0, none⟩ = some (.int .i64 ra)) :
  (results fn tmps).run P w = .ok (.tuple #[v0, v1, .int .i64 re, .int .i64 ra]) w := by
 subst hP
 unfold results
 rw [h]
 simp [h2, h3, h4, h5, go_sem, c4, c5]
theorem results_put {fn : Func} (h : fn.results = #[.tmp 2, .tmp 3, .cell 4 28, .cell 5 3]) (tmps : Array Value) (d : Nat) (hd : 6 ≤ d) (v : Value) : results fn (tmps.setIfInBounds d v) = results fn tmps := by
 have e : ∀ k, k < 6 → (tmps.setIfInBounds d v)[k]?.getD undef = tmps[k]?.getD undef := fun k hk => by
  rw [Array.getElem?_setIfInBounds_ne (by omega)]
 unfold results
 rw [h]
 simp [e 2, e 3, e 4, e 5]
theorem goesP_ {P : Program} {ops : Array Oper} {Q : Exit → Act → World → Prop} {oi : Oper} {N : Option Tmp} {a : Act} {w : World} {K : Act → World → Prop} {f : FuncId} {fn : Func} {ars : Array Operand} {ts : Array TypeId} (hf : P.funcs[f]? = some fn) (hname : (fn.name == "runtime.NumGoroutine") = false) (hb : fn.body.isSome = true) (args : Array Value)
  (hw : Region.wanted oi (yielded ops a.tmps) = true) (hop : oi.op = .call { callee := .value (.func f), args := ars, argTypes := ts }) (hargs : ars.map a.eval = args)
  (h : Calls P f args w fun e w' => ∃ c, e = .panicked c ∧ Q (.panic c) a w') : if Region.wanted oi (yielded ops a.tmps) = true then Oper.wp P oi a w K Q else K (a.put N undef) w := by
 rw [if_pos hw]
 have he := enters_ hf hname hb args w
 have hrun : (execOp a.eval oi).run P w = .ok (.enter f args) w := by
  unfold execOp
  simp [hop, resolve, Deferred.ofValue, invoke, Act.eval, hargs, he]
 unfold Oper.wp
 rw [hrun, Oper.upon_enter]
 refine h.mono fun e w'' hh => ?_
 obtain ⟨c, rfl, hk⟩ := hh
 exact hk
theorem all_fails {fn : Func} (hfn : fn.results = #[.tmp 2, .tmp 3, .cell 4 28, .cell 5 3]) {w W : World} {tmps : Array Value} {g4 g5 : Nat} (re ra x y : Int) (h2 : tmps[2]?.getD undef = .slice none 0 0) (h3 : tmps[3]?.getD undef = .slice none 0 0) (h4 : tmps[4]?.getD undef = .pointer (some ⟨g4, 0, none⟩)) (h5 : tmps[5]?.getD undef = .pointer (some ⟨g5, 0, none⟩)) (b4 : W.heap[g4]? = some (.cells #[.int .i64 x] 28 (0, 0))) (b5 : W.heap[g5]? = some (.cells #[.int .i64 y] 3 (0, 0))) (hne : g4 ≠ g5) (hB : Below w.heap.size w W) (l4 : w.heap.size ≤ g4) (l5 : w.heap.size ≤ g5) :
  Leaves Try.prog fn tmps (fun e w' => ∃ v0_ v1_ : Value, e = .returned (.tuple #[v0_, v1_, .int .i64 re, .int .i64 ra]) ∧ Kd.R (Kd.int .i64) 3 w' w.heap.size (fun _ => True) v0_ ([] : List Int) ∧ (Kd.slice 3 (Kd.int .i64)).R 23 w' w.heap.size (fun _ => True) v1_ ([] : List (List Int)) ∧ Below w.heap.size w w')
   [{ target := .fn (.func 84) #[], args := #[.pointer (some ⟨g4, 0, none⟩), .pointer (some ⟨g5, 0, none⟩)] }] (.panicking [{ v := .iface 177 (.agg #[.int .i64 re, .int .i64 ra]), recovered := false }]) W := by
 refine leaves_cons (f := 84) (args := #[.pointer (some ⟨g4, 0, none⟩), .pointer (some ⟨g5, 0, none⟩)]) (by simp) (by simp [go_sem]) ?_
 refine (plan_caught.panics g4 g5 re ra x y 28 3 W b4 b5 hne).mono ?_
 rintro e u' w'' ⟨rfl, rfl, rfl⟩
 have k4 := blk_drew (blk_alloc (blk_far (blk_set b4 0 (.int .i64 re)) (p := ⟨g5, 0, none⟩) hne (.int .i64 ra)) (.cells #[.int .i64 re, .int .i64 ra] 177))
 have k5 := blk_drew (blk_alloc (blk_set (blk_far b5 (p := ⟨g4, 0, none⟩) hne.symm (.int .i64 re)) 0 (.int .i64 ra)) (.cells #[.int .i64 re, .int .i64 ra] 177))
 show Leaves Try.prog fn tmps _ [] .returning _
 exact ⟨_, results_all hfn rfl tmps _ h2 h3 h4 h5 ((blk_cell k4 0).trans rfl) ((blk_cell k5 0).trans rfl), _, _, rfl, Kd.R_nil _ _ _ _ _, Kd.R_nil _ _ _ _ _, below_drew (below_alloc (below_set (below_set hB l4) l5) _)⟩
theorem all_well {fn : Func} (hfn : fn.results = #[.tmp 2, .tmp 3, .cell 4 28, .cell 5 3]) {w W : World} {tmps : Array Value} {g4 g5 : Nat} {v0 v1 : Value} {l : List Int} {kinds : List (List Int)} (re ra : Int) (h2 : tmps[2]?.getD undef = v0) (h3 : tmps[3]?.getD undef = v1) (h4 : tmps[4]?.getD undef = .pointer (some ⟨g4, 0, none⟩)) (h5 : tmps[5]?.getD undef = .pointer (some ⟨g5, 0, none⟩)) (b4 : W.heap[g4]? = some (.cells #[.int .i64 re] 28 (0, 0))) (b5 : W.heap[g5]? = some (.cells #[.int .i64 ra] 3 (0, 0))) (hl : Kd.R (Kd.int .i64) 3 W w.heap.size (fun _ => True) v0 l) (hk : (Kd.slice 3 (Kd.int .i64)).R 23 W w.heap.size (fun _ => True) v1 kinds) (hB : Below w.heap.size w W) :
  Leaves Try.prog fn tmps (fun e w' => ∃ v0_ v1_ : Value, e = .returned (.tuple #[v0_, v1_, .int .i64 re, .int .i64 ra]) ∧ Kd.R (Kd.int .i64) 3 w' w.heap.size (fun _ => True) v0_ l ∧ (Kd.slice 3 (Kd.int .i64)).R 23 w' w.heap.size (fun _ => True) v1_ kinds ∧ Below w.heap.size w w')
   [{ target := .fn (.func 84) #[], args := #[.pointer (some ⟨g4, 0, none⟩), .pointer (some ⟨g5, 0, none⟩)] }] .returning W := by
 refine leaves_cons (f := 84) (args := #[.pointer (some ⟨g4, 0, none⟩), .pointer (some ⟨g5, 0, none⟩)]) (by simp) (by simp [go_sem]) ?_
 refine (plan_caught.idle ⟨g4, 0, none⟩ ⟨g5, 0, none⟩ W).mono ?_
 rintro e u' w'' ⟨rfl, rfl, rfl⟩
 show Leaves Try.prog fn tmps _ [] .returning _
 exact ⟨_, results_all hfn rfl tmps _ h2 h3 h4 h5 ((blk_cell b4 0).trans rfl) ((blk_cell b5 0).trans rfl), _, _, rfl, hl, hk, hB⟩
def NoPan (Q : Exit → Act → World → Prop) : Exit → Act → World → Prop
 | .panic _, _, _ => False
 | e, a, w => Q e a w
theorem NoPan.imp {Q : Exit → Act → World → Prop} : ∀ (e : Exit) (a : Act) (w : World), NoPan Q e a w → Q e a w := fun e a w h => by
 cases e <;> first | exact h | exact (h : False).elim
theorem region_noPan {P : Program} {id : Nat} {ops : Array Oper} {b : Bool} {Q : Exit → Act → World → Prop} {a : Act} {w : World} (h : (Code.region id ops b).wp P (NoPan Q) a w) : (Code.region id ops b).wp P Q a w := Code.wp_mono NoPan.imp h
def plan_all.l0 : Nat → List S42 → List Int → List (List Int) → Int → Option (List (List Int) × Int × Int)
 | 0, _, _, _, _ => none
 | k + 1, nodes, l, kinds, i => if i < (l.length : Int) then (if 0 ≤ i then ((plan_typer_of.f k nodes kinds (rd l i)).bind fun r => (if r.2.1 = 0 then (if 0 ≤ rd l i then (if rd l i < (kinds.length : Int) then (plan_all.l0 k nodes l (kinds.set (rd l i).toNat r.1) (wrap64 (i + 1))) else none) else none) else some (([] : List (List Int)), r.2.1, r.2.2))) else none) else some (kinds, 0, 0)
def plan_all.f (k : Nat) (nodes : List S42) (outs : List Int) (room : Int) : Option (List Int × List (List Int) × Int × Int) :=
 (plan_whole.f k nodes outs room).bind fun a => (if a.1 = 0 then ((plan_shape.f k nodes outs room).bind fun b => (if b.1 = 0 then ((plan_order.f k nodes outs room).bind fun o => (if o.2.1 = 0 then (if nodes.length ≤ 65536 then ((plan_all.l0 k nodes o.1 (List.replicate nodes.length []) 0).bind fun r => (if r.2.1 = 0 then some (o.1, r.1, 0, (nodes.length : Int)) else some (([] : List Int), ([] : List (List Int)), r.2.1, r.2.2))) else none) else some (([] : List Int), ([] : List (List Int)), o.2.1, o.2.2))) else some (([] : List Int), ([] : List (List Int)), b.1, b.2))) else some (([] : List Int), ([] : List (List Int)), a.1, a.2))
theorem plan_all.mono_l0 : ∀ k, (∀ y0 y1 y2 y3, LeO (plan_all.l0 k y0 y1 y2 y3) (plan_all.l0 (k + 1) y0 y1 y2 y3))
 | 0 => fun _ _ _ _ r h => by simp [plan_all.l0] at h
 | k + 1 => by
  have ih0 := plan_all.mono_l0 k
  intro y0 y1 y2 y3
  unfold plan_all.l0
  repeat' first
   | (with_reducible exact ih0 _ _ _ _)
   | (with_reducible exact plan_typer_of.mono _ _ _ _)
   | (with_reducible exact LeO.refl _)
   | (with_reducible exact LeO.none _)
   | (with_reducible refine LeO.ite ?_ ?_)
   | (with_reducible refine LeO.bind ?_ (fun _ => ?_))
theorem plan_all.mono : ∀ a0 a1 a2 k, LeO (plan_all.f k a0 a1 a2) (plan_all.f (k + 1) a0 a1 a2) := by
 intro a0 a1 a2 k
 unfold plan_all.f
 repeat' first
   | (with_reducible exact plan_whole.mono _ _ _ _)
   | (with_reducible exact plan_shape.mono _ _ _ _)
   | (with_reducible exact plan_order.mono _ _ _ _)
   | (with_reducible exact plan_all.mono_l0 _ _ _ _ _)
   | (with_reducible exact LeO.refl _)
   | (with_reducible exact LeO.none _)
   | (with_reducible refine LeO.ite ?_ ?_)
   | (with_reducible refine LeO.bind ?_ (fun _ => ?_))
theorem NoPan.normal {Q : Exit → Act → World → Prop} {a : Act} {w : World} (h : Q .normal a w) : NoPan Q .normal a w := h
theorem box_step {P : Program} {ops : Array Oper} {Q : Exit → Act → World → Prop} {oi : Oper} {N : Tmp} {a : Act} {W : World} {K : Act → World → Prop} {cs : Array Value} {t : TypeId} (hw : Region.wanted oi (yielded ops a.tmps) = true) (hN : oi.dst = some N) (hrun : (execOp a.eval oi).run P W = .ok (.value (.pointer (some ⟨W.heap.size, 0, none⟩))) (W.alloc (.cells cs t (0, 0))))
  (h : ∀ g, g = W.heap.size → ∀ w1, w1.heap[g]? = some (.cells cs t (0, 0)) → Below W.heap.size W w1 → K (a.put (some N) (.pointer (some ⟨g, 0, none⟩))) w1) : if Region.wanted oi (yielded ops a.tmps) = true then Oper.wp P oi a W K Q else K (a.put (some N) undef) W :=
 value_ hw hN hrun (h _ rfl _ (blk_new W _) (below_alloc (Below.refl _ _) _))
theorem plan_all.calls (k : Nat) (An : Option Addr) (cn : Nat) (nodes : List (S42)) (Ao : Option Addr) (co : Nat) (outs : List Int) (room : Int) (r1 : List Int) (r2 : List (List Int)) (r3 r4 : Int) (w : World) (hr0_0 : Kd.C k42 w An nodes.length nodes) (hc0_0 : nodes.length ≤ cn) (hr0_1 : Kd.C (Kd.int .i64) w Ao outs.length outs) (hc0_1 : outs.length ≤ co) (h : plan_all.f k nodes outs room = some (r1, r2, r3, r4)) :
  Calls Try.prog 49 #[.agg #[.slice An nodes.length cn, .slice Ao outs.length co, .int .i64 room]] w fun e w' => ∃ v0_ v1_ : Value, e = .returned (.tuple #[v0_, v1_, .int .i64 r3, .int .i64 r4]) ∧ Kd.R (Kd.int .i64) 3 w' w.heap.size (fun _ => True) v0_ r1 ∧ (Kd.slice 3 (Kd.int .i64)).R 23 w' w.heap.size (fun _ => True) v1_ r2 ∧ Below w.heap.size w w' := by
 have hu25 := Try.underlying25
 have hu42 := Try.underlying42
 have hu135 := Try.underlying135
 have HRN := zz hr0_0
 have HCN := zz hc0_0
 have HRO := zz hr0_1
 have HCO := zz hc0_1
 clear hr0_0 hc0_0 hr0_1 hc0_1
 have HB := zz (Below.refl w.heap.size w)
 unfold plan_all.f at h
 replace h := Option.bind_eq_some_iff.mp h
 obtain ⟨⟨re, ra⟩, h0, h⟩ := h
 dsimp only at h
 have AW := zz h0
 have AH := zz h
 clear h0 h
 go_enter_defers Try.func49, Try.ntmps49
 go_wp2_with (first | ((with_reducible refine gate_dst (N := 1) rfl ?_); refine box_event ?hg (N := 1) ?hd (cs := #[.slice An nodes.length cn, .slice Ao outs.length co, .int .i64 room]) (t := 25) ?hr ?_; (case hd => rfl); (case hg => rfl); (case hr => first | (go_simp; done) | (go_simp; rfl)); intro gp hg_ w1 hbox hb; have n0_ := zz (below_step (bel HB.out) hb); have BP := zz hbox; clear HB; have HB := n0_; clear n0_ hb hbox hg_) | ((with_reducible refine gate_dst (N := 4) rfl ?_); refine box_event ?hg (N := 4) ?hd (cs := #[.int .i64 0]) (t := 28) ?hr ?_; (case hd => rfl); (case hg => rfl); (case hr => first | (go_simp; done) | (go_simp; rfl)); intro g4 hg_ w4 hbox hb; have GE4 := zz ((by rw [hg_]; exact (below_size (bel HB.out))) : w.heap.size ≤ g4); have n0_ := zz (below_step (bel HB.out) hb); have n1_ := zz (blk_below (g := gp) (o := _) (bk BP.out) hb); have B4 := zz hbox; clear HB BP; have HB := n0_; have BP := n1_; clear n0_ n1_ hb hbox hg_) | ((with_reducible refine gate_dst (N := 5) rfl ?_); refine box_event ?hg (N := 5) ?hd (cs := #[.int .i64 0]) (t := 3) ?hr ?_; (case hd => rfl); (case hg => rfl); (case hr => first | (go_simp; done) | (go_simp; rfl)); intro g5 hg_ w5 hbox hb; have GE5 := zz ((by rw [hg_]; exact (below_size (bel HB.out))) : w.heap.size ≤ g5); have NE45 := zz ((by rw [hg_]; exact Nat.ne_of_lt (blk_lt (g := g4) (o := _) (bk B4.out))) : g4 ≠ g5); have NEp5 := zz ((by rw [hg_]; exact Nat.ne_of_lt (blk_lt (g := gp) (o := _) (bk BP.out))) : gp ≠ g5); have L45 := zz ((by rw [hg_]; exact blk_lt (g := g4) (o := _) (bk B4.out)) : g4 < g5); have n0_ := zz (below_step (bel HB.out) hb); have n1_ := zz (blk_below (g := gp) (o := _) (bk BP.out) hb); have n2_ := zz (blk_below (g := g4) (o := _) (bk B4.out) hb); have B5 := zz hbox; clear HB BP B4; have HB := n0_; have BP := n1_; have B4 := n2_; clear n0_ n1_ n2_ hb hbox hg_; obtain ⟨hc5_0, hc5_1, hc5_2⟩ := three_cells BP.out; have hz5 : w5.cell? ⟨g5, 0, none⟩ = some (.int .i64 0) := (blk_cell B5.out 0).trans rfl; have hf5 := blk_frozen B5.out 0) | ((with_reducible refine gate_store (t := 3) (p := 5) rfl ?_); refine store_event (t := 3) (p := 5) (v := ?vo_) (w1 := (w5.setCell ⟨g5, 0, none⟩ (.int .i64 (nodes.length : Int)))) ?hg ?ho ?hn ?hr ?_; (case ho => rfl); (case hg => rfl); (case hn => rfl); (case hr => first | (go_simp; done) | (go_simp; rfl)); intro w6 hw; have n0_ := zz (show w6.heap[gp]? = some (.cells #[.slice An nodes.length cn, .slice Ao outs.length co, .int .i64 room] 25 (0, 0)) from by rw [hw]; exact blk_far BP.out (p := ⟨g5, 0, none⟩) NEp5.out _); have n1_ := zz (show w6.heap[g4]? = some (.cells #[.int .i64 0] 28 (0, 0)) from by rw [hw]; exact blk_far B4.out (p := ⟨g5, 0, none⟩) NE45.out _); have n2_ := zz (show w6.heap[g5]? = some (.cells #[.int .i64 (nodes.length : Int)] 3 (0, 0)) from by rw [hw]; exact blk_put B5.out 0 _ (by simp)); have n3_ := zz ((by rw [hw]; exact below_set (HB.out) GE5.out) : Below w.heap.size w w6); clear BP B4 B5 HB hw hz5 hf5 hc5_0 hc5_1 hc5_2; have BP := n0_; have B4 := n1_; have B5 := n2_; have HB := n3_; clear n0_ n1_ n2_ n3_; obtain ⟨hc6_0, hc6_1, hc6_2⟩ := three_cells BP.out))
 refine (plan_whole.calls k An cn nodes Ao co outs room re ra _ (Kd.C_below HRN.out (bel HB.out)) HCN.out (Kd.C_below HRO.out (bel HB.out)) HCO.out AW.out).mono ?_
 rintro e9 w7 ⟨hok_, hno_, hb⟩
 have m0_ := zz (blk_below (bk BP.out) hb)
 have m1_ := zz (blk_below (bk B4.out) hb)
 have m2_ := zz (blk_below (bk B5.out) hb)
 have mb_ := zz (below_step (bel HB.out) hb)
 clear BP B4 B5 HB hb
 have BP := m0_
 have B4 := m1_
 have B5 := m2_
 have HB := mb_
 clear m0_ m1_ m2_ mb_
 clear hc6_0 hc6_1 hc6_2
 have h := AH.out
 clear AH AW
 by_cases z : re = 0
 rotate_left
 ·rw [if_neg z] at h
  obtain rfl := hno_ z
  (try dsimp only)
  simp only [Option.some.injEq, Prod.mk.injEq] at h
  obtain ⟨rfl, rfl, rfl, rfl⟩ := h
  show Leaves Try.prog _ _ _ _ _ _
  exact all_fails rfl re ra 0 (nodes.length : Int) (by rfl) (by rfl) (by rfl) (by rfl) B4.out B5.out NE45.out HB.out GE4.out GE5.out
 subst z
 obtain ⟨rfl, -⟩ := hok_ rfl
 clear hok_ hno_
 rw [if_pos rfl] at h
 obtain ⟨hc7_0, hc7_1, hc7_2⟩ := three_cells BP.out
 replace h := Option.bind_eq_some_iff.mp h
 obtain ⟨⟨re, ra⟩, h0, h⟩ := h
 try dsimp only at h
 have AW := zz h0
 have AH := zz h
 clear h0 h
 dsimp only
 go_wp2_with fail
 refine (plan_shape.calls k An cn nodes Ao co outs room re ra _ (Kd.C_below HRN.out (bel HB.out)) HCN.out (Kd.C_below HRO.out (bel HB.out)) HCO.out AW.out).mono ?_
 rintro e9 w8 ⟨hok_, hno_, hb⟩
 have m0_ := zz (blk_below (bk BP.out) hb)
 have m1_ := zz (blk_below (bk B4.out) hb)
 have m2_ := zz (blk_below (bk B5.out) hb)
 have mb_ := zz (below_step (bel HB.out) hb)
 clear BP B4 B5 HB hb
 have BP := m0_
 have B4 := m1_
 have B5 := m2_
 have HB := mb_
 clear m0_ m1_ m2_ mb_
 clear hc7_0 hc7_1 hc7_2
 have h := AH.out
 clear AH AW
 by_cases z : re = 0
 rotate_left
 ·rw [if_neg z] at h
  obtain rfl := hno_ z
  (try dsimp only)
  simp only [Option.some.injEq, Prod.mk.injEq] at h
  obtain ⟨rfl, rfl, rfl, rfl⟩ := h
  show Leaves Try.prog _ _ _ _ _ _
  exact all_fails rfl re ra 0 (nodes.length : Int) (by rfl) (by rfl) (by rfl) (by rfl) B4.out B5.out NE45.out HB.out GE4.out GE5.out
 subst z
 obtain ⟨rfl, -⟩ := hok_ rfl
 clear hok_ hno_
 rw [if_pos rfl] at h
 obtain ⟨hc8_0, hc8_1, hc8_2⟩ := three_cells BP.out
 replace h := Option.bind_eq_some_iff.mp h
 obtain ⟨⟨l, re, ra⟩, h0, h⟩ := h
 try dsimp only at h
 have AW := zz h0
 have AH := zz h
 clear h0 h
 dsimp only
 go_wp2_with fail
 refine (plan_order.calls k An cn nodes Ao co outs room l re ra _ (Kd.C_below HRN.out (bel HB.out)) HCN.out (Kd.C_below HRO.out (bel HB.out)) HCO.out AW.out).mono ?_
 rintro e9 w9 ⟨hok_, hno_, hb⟩
 have L5 := zz (show g5 + 1 ≤ w8.heap.size from blk_lt B5.out)
 have m0_ := zz (blk_below (bk BP.out) hb)
 have m1_ := zz (blk_below (bk B4.out) hb)
 have m2_ := zz (blk_below (bk B5.out) hb)
 have mb_ := zz (below_step (bel HB.out) hb)
 clear BP B4 B5 HB hb
 have BP := m0_
 have B4 := m1_
 have B5 := m2_
 have HB := mb_
 clear m0_ m1_ m2_ mb_
 clear hc8_0 hc8_1 hc8_2
 have h := AH.out
 clear AH AW
 by_cases z : re = 0
 rotate_left
 ·rw [if_neg z] at h
  obtain rfl := hno_ z
  (try dsimp only)
  simp only [Option.some.injEq, Prod.mk.injEq] at h
  obtain ⟨rfl, rfl, rfl, rfl⟩ := h
  show Leaves Try.prog _ _ _ _ _ _
  exact all_fails rfl re ra 0 (nodes.length : Int) (by rfl) (by rfl) (by rfl) (by rfl) B4.out B5.out NE45.out HB.out GE4.out GE5.out
 subst z
 obtain ⟨v0, rfl, hr_, -⟩ := hok_ rfl
 have HL := zz (Kd.R_lower hr_ L5.out)
 clear hok_ hno_ hr_
 rw [if_pos rfl] at h
 by_cases m1 : nodes.length ≤ 65536
 rotate_left
 ·rw [if_neg m1] at h; exact absurd h (by simp)
 rw [if_pos m1] at h
 have M1 := zz m1
 clear m1
 replace h := Option.bind_eq_some_iff.mp h
 obtain ⟨⟨kinds, re, ra0⟩, h0, h⟩ := h
 try dsimp only at h
 have AW := zz h0
 have AH := zz h
 clear h0 h
 dsimp only
 obtain ⟨hc9_0, hc9_1, hc9_2⟩ := three_cells BP.out
 obtain ⟨Al, cl, ev0⟩ := Kd.R_slice HL.out
 subst ev0
 obtain ⟨y0, hy0⟩ : ∃ y_ : List (List Int), y_ = List.replicate nodes.length ([] : List Int) := ⟨_, rfl⟩
 have AW2 := zz (show plan_all.l0 k nodes l y0 0 = some (kinds, re, ra0) from by rw [hy0]; exact AW.out)
 clear AW
 have NY := zz hy0
 clear hy0
 have L6 := zz (show g5 + 1 ≤ w9.heap.size from blk_lt B5.out)
 go_wp2_with fail
 refine region_noPan ?_
 refine start_ (n := 8) (S := fun w' => w'.cell? ⟨gp, 0, none⟩ = some (.slice An nodes.length cn) ∧ w'.cell? ⟨gp, 1, none⟩ = some (.slice Ao outs.length co) ∧ w'.cell? ⟨gp, 2, none⟩ = some (.int .i64 room)) (ds := []) #[false, false, false, false, false, false, false, false] (by kernel_rfl) rfl rfl ⟨hc9_0, hc9_1, hc9_2⟩ (fun hHeld => ?_)
 refine pure_ (i := 1) (N := some 20) (v := ?_) (a' := ?_) #[false, true, false, false, false, false, false, false] rfl rfl (by kernel_rfl) (fun _ _ _ h => h) (Or.inl ⟨by rfl, ?_⟩) ?_ ?_
 rotate_left
 ·intro w'
  go_simp
  with_reducible rfl
 rotate_left
 ·simp only [Act.put, List.setIfInBounds_toArray, List.set_cons_zero, List.set_cons_succ, i64_w, i32_w]
  rfl
 refine take_ (i := 0) (N := some 19) (v := ?_) (a' := ?_) #[true, true, false, false, false, false, false, false] rfl rfl (by kernel_rfl) (fun _ _ _ h => h) (Or.inl ⟨by rfl, ?_⟩) hHeld ?_ ?_
 rotate_left
 ·rintro w' ⟨s0, s1, s2⟩
  go_simp
  with_reducible rfl
 rotate_left
 ·simp only [Act.put, List.setIfInBounds_toArray, List.set_cons_zero, List.set_cons_succ, i64_w, i32_w]
  rfl
 refine take_ (i := 2) (N := some 21) (v := ?_) (a' := ?_) #[true, true, true, false, false, false, false, false] rfl rfl (by kernel_rfl) (fun _ _ _ h => h) (Or.inl ⟨by rfl, ?_⟩) hHeld ?_ ?_
 rotate_left
 ·rintro w' ⟨s0, s1, s2⟩
  go_simp
  with_reducible rfl
 rotate_left
 ·simp only [Act.put, List.setIfInBounds_toArray, List.set_cons_zero, List.set_cons_succ, i64_w, i32_w]
  rfl
 refine pure_ (i := 3) (N := some 22) (v := ?_) (a' := ?_) #[true, true, true, true, false, false, false, false] rfl rfl (by kernel_rfl) (fun _ _ _ h => h) (Or.inl ⟨by rfl, ?_⟩) ?_ ?_
 rotate_left
 ·intro w'
  go_simp
  with_reducible rfl
 rotate_left
 ·simp only [Act.put, List.setIfInBounds_toArray, List.set_cons_zero, List.set_cons_succ, i64_w, i32_w]
  rfl
 refine one_ (i := 4) (N := some 23) #[true, true, true, true, true, false, false, false] rfl rfl (by kernel_rfl) (by decide) (fun K hK => ?_)
 refine Kd.R_make_step (Kd.slice 3 (Kd.int .i64)) (w0 := w9.drew) _ 23 (by rfl) (N := 23) rfl 33 _ _ rfl (nodes.length : Int) rfl rfl Try.underlying33 (.slice none 0 0) 24 info23_ rfl (by decide) (by omega) ([] : List Int) (ok := fun _ => True) (okp := fun _ => True) ⟨.slice none 0 0, rfl, Kd.R_nil _ _ _ _ _⟩ (fun _ hk => hk) trivial (by omega) (by have := M1.out; rw [Int.toNat_natCast]; omega) (Below.refl _ _) (Nat.le_refl _) ?_
 intro v33 w10 hk33 hb10 hg10 _
 rw [Int.toNat_natCast, ← NY.out] at hk33
 have hb := hb10
 replace hk33 := Kd.R_lower hk33 (show g5 + 1 ≤ w9.drew.heap.size from L6.out)
 have m0_ := zz (blk_below (bk BP.out) hb)
 have m1_ := zz (blk_below (bk B4.out) hb)
 have m2_ := zz (blk_below (bk B5.out) hb)
 have k0_ := zz (Kd.R_below (rl HL.out) hb)
 have mb_ := zz (below_step (bel HB.out) hb)
 clear BP B4 B5 HL HB
 have BP := m0_
 have B4 := m1_
 have B5 := m2_
 have HL := k0_
 have HB := mb_
 clear m0_ m1_ m2_ k0_ mb_
 clear hb hb10 hg10
 obtain ⟨Ak, ck, ev1⟩ := Kd.R_slice hk33
 subst ev1
 have HK := zz hk33
 clear hk33
 obtain ⟨hc10_0, hc10_1, hc10_2⟩ := three_cells BP.out
 refine hK.out _ _ ⟨hc10_0, hc10_1, hc10_2⟩ (fun hHeld => ?_)
 clear hK K
 refine norm_ (a' := ?_) ?_ ?_
 rotate_left
 ·show Act.put _ (some 23) _ = _
  simp only [Act.put, List.setIfInBounds_toArray, List.set_cons_zero, List.set_cons_succ, i64_w, i32_w]
  rfl
 refine pure_ (i := 5) (N := some 24) (v := ?_) (a' := ?_) #[true, true, true, true, true, true, false, false] rfl rfl (by kernel_rfl) (fun _ _ _ h => h) (Or.inl ⟨by rfl, ?_⟩) ?_ ?_
 rotate_left
 ·intro w'
  go_simp
  with_reducible rfl
 rotate_left
 ·simp only [Act.put, List.setIfInBounds_toArray, List.set_cons_zero, List.set_cons_succ, i64_w, i32_w]
  rfl
 refine one_ (i := 6) (N := some 25) #[true, true, true, true, true, true, true, false] rfl rfl (by kernel_rfl) (by decide) (fun K hK => ?_)
 refine box_step (N := 25) (cs := #[.slice An nodes.length cn, .slice Ao outs.length co, .int .i64 room, .slice Ak y0.length ck]) (t := 135) (by rfl) rfl (by first | (go_simp; done) | (go_simp; rfl)) ?_
 intro gt hg_ w11 hbox hb
 have m0_ := zz (blk_below (bk BP.out) hb)
 have m1_ := zz (blk_below (bk B4.out) hb)
 have m2_ := zz (blk_below (bk B5.out) hb)
 have k0_ := zz (Kd.R_below (rl HL.out) hb)
 have k1_ := zz (Kd.R_below (rl HK.out) hb)
 have mb_ := zz (below_step (bel HB.out) hb)
 clear BP B4 B5 HL HK HB
 have BP := m0_
 have B4 := m1_
 have B5 := m2_
 have HL := k0_
 have HK := k1_
 have HB := mb_
 clear m0_ m1_ m2_ k0_ k1_ mb_
 have BT := zz hbox
 clear hbox hb hg_
 obtain ⟨hc11_0, hc11_1, hc11_2⟩ := three_cells BP.out
 refine hK.out _ _ ⟨hc11_0, hc11_1, hc11_2⟩ (fun hHeld => ?_)
 clear hK K
 refine norm_ (a' := ?_) ?_ ?_
 rotate_left
 ·show Act.put _ (some 25) _ = _
  simp only [Act.put, List.setIfInBounds_toArray, List.set_cons_zero, List.set_cons_succ, i64_w, i32_w]
  rfl
 refine pure_ (i := 7) (N := some 7) (v := ?_) (a' := ?_) #[true, true, true, true, true, true, true, true] rfl rfl (by kernel_rfl) (fun _ _ _ h => h) (Or.inl ⟨by rfl, ?_⟩) ?_ ?_
 rotate_left
 ·intro w'
  go_simp
  with_reducible rfl
 rotate_left
 ·simp only [Act.put, List.setIfInBounds_toArray, List.set_cons_zero, List.set_cons_succ, i64_w, i32_w]
  rfl
 refine done_ (by kernel_rfl) ?_
 refine NoPan.normal ?_
 obtain ⟨nk, hnk⟩ : ∃ nk, y0.length = nk := ⟨_, rfl⟩
 rw [hnk] at BT HK ⊢
 have hnk2 := hnk
 clear hnk2
 (try simp only [Exit.then])
 go_wp2_with fail
 go_loopg [28] k (fun kq v28 w' => ∃ (i : Int) (kd : List (List Int)), v28 = .int .i64 i ∧ Aside0 (plan_all.l0 kq nodes l kd i = some (kinds, re, ra0)) ∧ Aside0 (kq ≤ k) ∧ Aside0 (Kd.R (Kd.int .i64) 3 w' (g5 + 1) (fun _ => True) (.slice Al l.length cl) l) ∧ Aside0 ((Kd.slice 3 (Kd.int .i64)).R 23 w' (g5 + 1) (fun _ => True) (.slice Ak nk ck) kd) ∧ Aside0 (w'.heap[gp]? = some (.cells #[.slice An nodes.length cn, .slice Ao outs.length co, .int .i64 room] 25 (0, 0))) ∧ Aside0 (w'.heap[g4]? = some (.cells #[.int .i64 0] 28 (0, 0))) ∧ Aside0 (w'.heap[g5]? = some (.cells #[.int .i64 (nodes.length : Int)] 3 (0, 0))) ∧ Aside0 (w'.heap[gt]? = some (.cells #[.slice An nodes.length cn, .slice Ao outs.length co, .int .i64 room, .slice Ak nk ck] 135 (0, 0))) ∧ Aside0 (Below w.heap.size w w'))
 case atStart => exact ⟨0, y0, rfl, AW2, ⟨Nat.le_refl _⟩, ⟨(rl HL.out)⟩, ⟨(rl HK.out)⟩, ⟨(bk BP.out)⟩, ⟨(bk B4.out)⟩, ⟨(bk B5.out)⟩, ⟨(bk BT.out)⟩, ⟨(bel HB.out)⟩⟩
 case round =>
  clear AW2 HL HK BP B4 B5 BT HB
  clear hc9_0 hc9_1 hc9_2 hc10_0 hc10_1 hc10_2 hc11_0 hc11_1 hc11_2
  obtain ⟨i, kd, rfl, HA, HK9, HL, HK, BP, B4, B5, BT, HB⟩ := hrel
  cases gk with
  | zero => exact absurd HA.out (by simp [plan_all.l0])
  | succ k1 =>
   have h := HA.out
   clear HA
   simp only [plan_all.l0] at h
   by_cases c1 : i < (l.length : Int)
   ·rw [if_pos c1] at h
    have c1b : decide (i < (l.length : Int)) = true := decide_eq_true c1
    by_cases p1 : 0 ≤ i
    rotate_left
    ·rw [if_neg p1] at h; exact absurd h (by simp)
    rw [if_pos p1] at h
    obtain ⟨adl, el, hx⟩ := Kd.at_int (Kd.R_reads' HL.out).2.2 i p1 c1
    subst el
    generalize rd l i = j at hx h
    replace p1 := eq_true p1
    replace c1 := eq_true c1
    replace h := Option.bind_eq_some_iff.mp h
    obtain ⟨⟨x, e, at_⟩, h0, h⟩ := h
    try dsimp only at h
    have AT := zz h0
    clear h0
    have hct : wr.cell? ⟨gt, 3, none⟩ = some (.slice Ak nk ck) := (blk_cell BT.out 3).trans rfl
    by_cases z : e = 0
    ·rw [if_pos z] at h
     subst z
     by_cases p2 : 0 ≤ j
     rotate_left
     ·rw [if_neg p2] at h; exact absurd h (by simp)
     rw [if_pos p2] at h
     by_cases q2 : j < (kd.length : Int)
     rotate_left
     ·rw [if_neg q2] at h; exact absurd h (by simp)
     rw [if_pos q2] at h
     have H' := zz h
     clear h
     obtain ⟨gk_, ck_, eo, gb, gl, cl_, HG⟩ := Kd.R_form HK.out (by omega)
     cases eo
     obtain ⟨adk, Aq, cq, ea, hxk, -, -⟩ := at_L3 (Kd.R_reads' HK.out).2.2 j p2 q2
     cases ea
     rw [Addr.add_lit, Nat.zero_add] at hxk
     have GB := zz gb
     have GG := zz HG
     clear gb gl HG
     have PJ := zz p2
     have QJ := zz q2
     replace p2 := eq_true p2
     replace q2 := eq_true q2
     have BTk := BT
     go_wp2_with fail
     refine start_ (n := 10) (S := fun w' => w'.cell? ⟨gt, 3, none⟩ = some (.slice (some ⟨gk_, 0, none⟩) kd.length ck)) (ds := [9]) #[false, false, false, false, false, false, false, false, false, false] (by kernel_rfl) rfl rfl (hct) (fun hHeld => ?_)
     refine pure_ (i := 0) (N := some 32) (v := ?_) (a' := ?_) #[true, false, false, false, false, false, false, false, false, false] rfl rfl (by kernel_rfl) (fun _ _ _ h => leaves_put (results_put rfl _ 32 (by decide) _) _ _ _ h) (Or.inl ⟨by rfl, ?_⟩) ?_ ?_
     rotate_left
     ·intro w'
      go_simp
      with_reducible rfl
     rotate_left
     ·simp only [Act.put, List.setIfInBounds_toArray, List.set_cons_zero, List.set_cons_succ, i64_w, i32_w]
      rfl
     refine pure_ (i := 1) (N := some 33) (v := ?_) (a' := ?_) #[true, true, false, false, false, false, false, false, false, false] rfl rfl (by kernel_rfl) (fun _ _ _ h => leaves_put (results_put rfl _ 33 (by decide) _) _ _ _ h) (Or.inl ⟨by rfl, ?_⟩) ?_ ?_
     rotate_left
     ·intro w'
      go_simp
      with_reducible rfl
     rotate_left
     ·simp only [Act.put, List.setIfInBounds_toArray, List.set_cons_zero, List.set_cons_succ, i64_w, i32_w]
      rfl
     refine pure_ (i := 2) (N := some 34) (v := ?_) (a' := ?_) #[true, true, true, false, false, false, false, false, false, false] rfl rfl (by kernel_rfl) (fun _ _ _ h => leaves_put (results_put rfl _ 34 (by decide) _) _ _ _ h) (Or.inl ⟨by rfl, ?_⟩) ?_ ?_
     rotate_left
     ·intro w'
      go_simp
      with_reducible rfl
     rotate_left
     ·simp only [Act.put, List.setIfInBounds_toArray, List.set_cons_zero, List.set_cons_succ, i64_w, i32_w]
      rfl
     refine pure_ (i := 4) (N := some 36) (v := ?_) (a' := ?_) #[true, true, true, false, true, false, false, false, false, false] rfl rfl (by kernel_rfl) (fun _ _ _ h => leaves_put (results_put rfl _ 36 (by decide) _) _ _ _ h) (Or.inl ⟨by rfl, ?_⟩) ?_ ?_
     rotate_left
     ·intro w'
      go_simp
      with_reducible rfl
     rotate_left
     ·simp only [Act.put, List.setIfInBounds_toArray, List.set_cons_zero, List.set_cons_succ, i64_w, i32_w]
      rfl
     refine pure_ (i := 5) (N := some 37) (v := ?_) (a' := ?_) #[true, true, true, false, true, true, false, false, false, false] rfl rfl (by kernel_rfl) (fun _ _ _ h => leaves_put (results_put rfl _ 37 (by decide) _) _ _ _ h) (Or.inl ⟨by rfl, ?_⟩) ?_ ?_
     rotate_left
     ·intro w'
      go_simp
      with_reducible rfl
     rotate_left
     ·simp only [Act.put, List.setIfInBounds_toArray, List.set_cons_zero, List.set_cons_succ, i64_w, i32_w]
      rfl
     refine pure_ (i := 6) (N := some 38) (v := ?_) (a' := ?_) #[true, true, true, false, true, true, true, false, false, false] rfl rfl (by kernel_rfl) (fun _ _ _ h => leaves_put (results_put rfl _ 38 (by decide) _) _ _ _ h) (Or.inl ⟨by rfl, ?_⟩) ?_ ?_
     rotate_left
     ·intro w'
      go_simp
      with_reducible rfl
     rotate_left
     ·simp only [Act.put, List.setIfInBounds_toArray, List.set_cons_zero, List.set_cons_succ, i64_w, i32_w]
      rfl
     refine take_ (i := 3) (N := some 35) (v := ?_) (a' := ?_) #[true, true, true, true, true, true, true, false, false, false] rfl rfl (by kernel_rfl) (fun _ _ _ h => leaves_put (results_put rfl _ 35 (by decide) _) _ _ _ h) (Or.inl ⟨by rfl, ?_⟩) hHeld ?_ ?_
     rotate_left
     ·intro w' s0
      go_simp
      with_reducible rfl
     rotate_left
     ·simp only [Act.put, List.setIfInBounds_toArray, List.set_cons_zero, List.set_cons_succ, i64_w, i32_w]
      rfl
     refine one_ (i := 7) (N := some 39) #[true, true, true, true, true, true, true, true, false, false] rfl rfl (by kernel_rfl) (by decide) (fun K hK => ?_)
     refine goes_ Try.func88 (by kernel_rfl) rfl #[.pointer (some ⟨gt, 0, none⟩), .int .i64 j] (by rfl) rfl rfl (by simp only [List.map_toArray, List.map_cons, List.map_nil]; rfl) ?_
     with_reducible refine (plan_typer_of.calls k1 gt An cn nodes Ao outs.length co room (some ⟨gk_, 0, none⟩) ck kd j x 0 at_ _ (blk_drew BTk.out) (Kd.C_below HRN.out (below_drew HB.out)) (Kd.C_drew (Kd.R_reads' HK.out).2.2) AT.out).mono ?_
     rintro e9 w9_ ⟨hok_, -, hb⟩
     obtain ⟨v9, rfl, hr9, -⟩ := hok_ rfl
     obtain ⟨A9, c9, ev9⟩ := Kd.R_slice hr9
     subst ev9
     have HX := zz (Kd.R_lower hr9 (show g5 + 1 ≤ wr.heap.size from blk_lt B5.out))
     clear hok_ hr9
     refine ⟨_, rfl, ?_⟩
     have hxk9 := (hb.cell (World.block_lt_of_cell? wr _ hxk)).trans hxk
     have GG9 := zz (blk_below (blk_drew GG.out) hb)
     have hf9 := blk_frozen GG9.out j.toNat
     clear BTk
     have m0_ := zz (blk_below (blk_drew BP.out) hb)
     have m1_ := zz (blk_below (blk_drew B4.out) hb)
     have m2_ := zz (blk_below (blk_drew B5.out) hb)
     have m3_ := zz (blk_below (blk_drew BT.out) hb)
     have k0_ := zz (Kd.R_below (Kd.R_drew HL.out) hb)
     have k1_ := zz (Kd.R_below (Kd.R_drew HK.out) hb)
     have mb_ := zz (below_step (below_drew HB.out) hb)
     clear BP B4 B5 BT HL HK HB
     have BP := m0_
     have B4 := m1_
     have B5 := m2_
     have BT := m3_
     have HL := k0_
     have HK := k1_
     have HB := mb_
     clear m0_ m1_ m2_ m3_ k0_ k1_ mb_
     clear hb
     have hct9 : w9_.cell? ⟨gt, 3, none⟩ = some (.slice (some ⟨gk_, 0, none⟩) kd.length ck) := (blk_cell BT.out 3).trans rfl
     refine hK.out _ _ (hct9) (fun hHeld => ?_)
     clear hK K
     refine norm_ (a' := ?_) ?_ ?_
     rotate_left
     ·show Act.put _ (some 39) _ = _
      simp only [Act.put, List.setIfInBounds_toArray, List.set_cons_zero, List.set_cons_succ, i64_w, i32_w]
      rfl
     refine pure_ (i := 8) (N := some 40) (v := ?_) (a' := ?_) #[true, true, true, true, true, true, true, true, true, false] rfl rfl (by kernel_rfl) (fun _ _ _ h => leaves_put (results_put rfl _ 40 (by decide) _) _ _ _ h) (Or.inl ⟨by rfl, ?_⟩) ?_ ?_
     rotate_left
     ·intro w'
      go_simp
      with_reducible rfl
     rotate_left
     ·simp only [Act.put, List.setIfInBounds_toArray, List.set_cons_zero, List.set_cons_succ, i64_w, i32_w]
      rfl
     refine last_ (i := 9) (N := none) #[true, true, true, true, true, true, true, true, true, true] rfl rfl (by kernel_rfl) (by decide) (fun K hK => ?_)
     refine skip_ (w1 := ?_) (by rfl) rfl ?_ ?_
     rotate_left
     ·go_simp
      rfl
     refine hK.out _ _ ?_
     clear hK K
     refine done_ (by kernel_rfl) ?_
     have HP := R_put_row HK.out j.toNat (by have := PJ.out; have := QJ.out; omega) (Kd.R_types HX.out GG9.out (by decide))
     have hg := HP.2
     have n0_ := zz HP.1
     have n1_ := zz (Kd.R_over' HL.out (Kd.R_typed HK.out) (by decide) hg)
     have n2_ := zz (blk_grown (g := gp) BP.out hg (Kd.R_ne HK.out BP.out (by decide)))
     have n3_ := zz (blk_grown (g := g4) B4.out hg (Kd.R_ne HK.out B4.out (by decide)))
     have n4_ := zz (blk_grown (g := g5) B5.out hg (Kd.R_ne HK.out B5.out (by decide)))
     have n5_ := zz (blk_grown (g := gt) BT.out hg (Kd.R_ne HK.out BT.out (by decide)))
     have n6_ := zz (below_set (j := j.toNat) (v := (.slice A9 x.length c9)) HB.out (Nat.le_trans (show w.heap.size ≤ g5 + 1 from Nat.le_succ_of_le GE5.out) GB.out))
     clear HP hg HK HL BP B4 B5 BT HB
     have HK := n0_
     have HL := n1_
     have BP := n2_
     have B4 := n3_
     have B5 := n4_
     have BT := n5_
     have HB := n6_
     clear n0_ n1_ n2_ n3_ n4_ n5_ n6_
     (try simp only [Exit.inBlock, Exit.then])
     go_wp2_with fail
     go_roundg k1
     case measure => have := HK9.out; omega
     case rel => exact ⟨(wrap64 (i + 1)), kd.set j.toNat x, (by first | rfl | (simp; done) | (simp [*]; done)), H', ⟨by have := HK9.out; omega⟩, ⟨(rl HL.out)⟩, ⟨(rl HK.out)⟩, ⟨(bk BP.out)⟩, ⟨(bk B4.out)⟩, ⟨(bk B5.out)⟩, ⟨(bk BT.out)⟩, ⟨(bel HB.out)⟩⟩
    ·rw [if_neg z] at h
     simp only [Option.some.injEq, Prod.mk.injEq] at h
     obtain ⟨rfl, rfl, rfl⟩ := h
     have h := AH.out
     clear AH
     rw [if_neg z] at h
     simp only [Option.some.injEq, Prod.mk.injEq] at h
     obtain ⟨rfl, rfl, rfl, rfl⟩ := h
     have hlen := (Kd.R_reads' HK.out).1
     have BTk := zz (show wr.heap[gt]? = some (.cells #[.slice An nodes.length cn, .slice Ao outs.length co, .int .i64 room, .slice Ak kd.length ck] 135 (0, 0)) from by rw [← hlen]; exact BT.out)
     go_wp2_with fail
     refine start_ (n := 10) (S := fun w' => w'.cell? ⟨gt, 3, none⟩ = some (.slice Ak nk ck)) (ds := [9]) #[false, false, false, false, false, false, false, false, false, false] (by kernel_rfl) rfl rfl (hct) (fun hHeld => ?_)
     refine pure_ (i := 0) (N := some 32) (v := ?_) (a' := ?_) #[true, false, false, false, false, false, false, false, false, false] rfl rfl (by kernel_rfl) (fun _ _ _ h => leaves_put (results_put rfl _ 32 (by decide) _) _ _ _ h) (Or.inl ⟨by rfl, ?_⟩) ?_ ?_
     rotate_left
     ·intro w'
      go_simp
      with_reducible rfl
     rotate_left
     ·simp only [Act.put, List.setIfInBounds_toArray, List.set_cons_zero, List.set_cons_succ, i64_w, i32_w]
      rfl
     refine pure_ (i := 1) (N := some 33) (v := ?_) (a' := ?_) #[true, true, false, false, false, false, false, false, false, false] rfl rfl (by kernel_rfl) (fun _ _ _ h => leaves_put (results_put rfl _ 33 (by decide) _) _ _ _ h) (Or.inl ⟨by rfl, ?_⟩) ?_ ?_
     rotate_left
     ·intro w'
      go_simp
      with_reducible rfl
     rotate_left
     ·simp only [Act.put, List.setIfInBounds_toArray, List.set_cons_zero, List.set_cons_succ, i64_w, i32_w]
      rfl
     refine pure_ (i := 2) (N := some 34) (v := ?_) (a' := ?_) #[true, true, true, false, false, false, false, false, false, false] rfl rfl (by kernel_rfl) (fun _ _ _ h => leaves_put (results_put rfl _ 34 (by decide) _) _ _ _ h) (Or.inl ⟨by rfl, ?_⟩) ?_ ?_
     rotate_left
     ·intro w'
      go_simp
      with_reducible rfl
     rotate_left
     ·simp only [Act.put, List.setIfInBounds_toArray, List.set_cons_zero, List.set_cons_succ, i64_w, i32_w]
      rfl
     refine pure_ (i := 4) (N := some 36) (v := ?_) (a' := ?_) #[true, true, true, false, true, false, false, false, false, false] rfl rfl (by kernel_rfl) (fun _ _ _ h => leaves_put (results_put rfl _ 36 (by decide) _) _ _ _ h) (Or.inl ⟨by rfl, ?_⟩) ?_ ?_
     rotate_left
     ·intro w'
      go_simp
      with_reducible rfl
     rotate_left
     ·simp only [Act.put, List.setIfInBounds_toArray, List.set_cons_zero, List.set_cons_succ, i64_w, i32_w]
      rfl
     refine pure_ (i := 5) (N := some 37) (v := ?_) (a' := ?_) #[true, true, true, false, true, true, false, false, false, false] rfl rfl (by kernel_rfl) (fun _ _ _ h => leaves_put (results_put rfl _ 37 (by decide) _) _ _ _ h) (Or.inl ⟨by rfl, ?_⟩) ?_ ?_
     rotate_left
     ·intro w'
      go_simp
      with_reducible rfl
     rotate_left
     ·simp only [Act.put, List.setIfInBounds_toArray, List.set_cons_zero, List.set_cons_succ, i64_w, i32_w]
      rfl
     refine pure_ (i := 6) (N := some 38) (v := ?_) (a' := ?_) #[true, true, true, false, true, true, true, false, false, false] rfl rfl (by kernel_rfl) (fun _ _ _ h => leaves_put (results_put rfl _ 38 (by decide) _) _ _ _ h) (Or.inl ⟨by rfl, ?_⟩) ?_ ?_
     rotate_left
     ·intro w'
      go_simp
      with_reducible rfl
     rotate_left
     ·simp only [Act.put, List.setIfInBounds_toArray, List.set_cons_zero, List.set_cons_succ, i64_w, i32_w]
      rfl
     refine take_ (i := 3) (N := some 35) (v := ?_) (a' := ?_) #[true, true, true, true, true, true, true, false, false, false] rfl rfl (by kernel_rfl) (fun _ _ _ h => leaves_put (results_put rfl _ 35 (by decide) _) _ _ _ h) (Or.inl ⟨by rfl, ?_⟩) hHeld ?_ ?_
     rotate_left
     ·intro w' s0
      go_simp
      with_reducible rfl
     rotate_left
     ·simp only [Act.put, List.setIfInBounds_toArray, List.set_cons_zero, List.set_cons_succ, i64_w, i32_w]
      rfl
     refine one_ (i := 7) (N := some 39) #[true, true, true, true, true, true, true, true, false, false] rfl rfl (by kernel_rfl) (by decide) (fun K hK => ?_)
     refine goesP_ Try.func88 (by kernel_rfl) rfl #[.pointer (some ⟨gt, 0, none⟩), .int .i64 j] (by rfl) rfl (by simp only [List.map_toArray, List.map_cons, List.map_nil]; rfl) ?_
     with_reducible refine (plan_typer_of.calls k1 gt An cn nodes Ao outs.length co room Ak ck kd j x e at_ _ (blk_drew BTk.out) (Kd.C_below HRN.out (below_drew HB.out)) (Kd.C_drew (Kd.R_reads' HK.out).2.2) AT.out).mono ?_
     rintro e9 w9_ ⟨-, hno_, hb⟩
     obtain rfl := hno_ z
     refine ⟨_, rfl, ?_⟩
     have m0_ := zz (blk_below (blk_drew BP.out) hb)
     have m1_ := zz (blk_below (blk_drew B4.out) hb)
     have m2_ := zz (blk_below (blk_drew B5.out) hb)
     have m3_ := zz (blk_below (blk_drew BT.out) hb)
     have mb_ := zz (below_step (below_drew HB.out) hb)
     clear BP B4 B5 BT HB
     have BP := m0_
     have B4 := m1_
     have B5 := m2_
     have BT := m3_
     have HB := mb_
     clear m0_ m1_ m2_ m3_  mb_
     show Leaves Try.prog _ _ _ _ _ _
     exact all_fails rfl e at_ 0 (nodes.length : Int) (by rfl) (by rfl) (by rfl) (by rfl) B4.out B5.out NE45.out HB.out GE4.out GE5.out
   ·rw [if_neg c1] at h
    have c1b : decide (i < (l.length : Int)) = false := decide_eq_false c1
    clear c1
    simp only [Option.some.injEq, Prod.mk.injEq] at h
    obtain ⟨rfl, rfl, rfl⟩ := h
    have h := AH.out
    clear AH
    rw [if_pos rfl] at h
    simp only [Option.some.injEq, Prod.mk.injEq] at h
    obtain ⟨rfl, rfl, rfl, rfl⟩ := h
    have hct : wr.cell? ⟨gt, 3, none⟩ = some (.slice Ak nk ck) := (blk_cell BT.out 3).trans rfl
    have hcp : wr.cell? ⟨gp, 0, none⟩ = some (.slice An nodes.length cn) := (blk_cell BP.out 0).trans rfl
    have NEt4 := blk_ne BT.out B4.out (by decide)
    have NEp4 := blk_ne BP.out B4.out (by decide)
    have hc4 : wr.cell? ⟨g4, 0, none⟩ = some (.int .i64 0) := (blk_cell B4.out 0).trans rfl
    have hf4 := blk_frozen B4.out 0
    have hc5 : wr.cell? ⟨g5, 0, none⟩ = some (.int .i64 (nodes.length : Int)) := (blk_cell B5.out 0).trans rfl
    have hf5 := blk_frozen B5.out 0
    have ne45 := NE45.out
    have ne54 := NE45.out.symm
    have hct2 := (blk_cell (blk_far (blk_drew BT.out) (p := ⟨g4, 0, none⟩) NEt4 (.int .i64 0)) 3).trans (show _ = some _ from rfl)
    have hcp2 := (blk_cell (blk_far (blk_drew BP.out) (p := ⟨g4, 0, none⟩) NEp4 (.int .i64 0)) 0).trans (show _ = some _ from rfl)
    go_wp2_with fail
    refine region_noPan ?_
    refine start_ (n := 12) (S := fun w' => w'.cell? ⟨gt, 3, none⟩ = some (.slice Ak nk ck) ∧ w'.cell? ⟨gp, 0, none⟩ = some (.slice An nodes.length cn)) (ds := [11]) #[false, false, false, false, false, false, false, false, false, false, false, false] (by kernel_rfl) rfl rfl ⟨hct, hcp⟩ (fun hHeld => ?_)
    refine pure_ (i := 0) (N := some 42) (v := ?_) (a' := ?_) #[true, false, false, false, false, false, false, false, false, false, false, false] rfl rfl (by kernel_rfl) (fun _ _ _ h => h) (Or.inl ⟨by rfl, ?_⟩) ?_ ?_
    rotate_left
    ·intro w'
     go_simp
     with_reducible rfl
    rotate_left
    ·simp only [Act.put, List.setIfInBounds_toArray, List.set_cons_zero, List.set_cons_succ, i64_w, i32_w]
     rfl
    refine pure_ (i := 1) (N := some 43) (v := ?_) (a' := ?_) #[true, true, false, false, false, false, false, false, false, false, false, false] rfl rfl (by kernel_rfl) (fun _ _ _ h => h) (Or.inl ⟨by rfl, ?_⟩) ?_ ?_
    rotate_left
    ·intro w'
     go_simp
     with_reducible rfl
    rotate_left
    ·simp only [Act.put, List.setIfInBounds_toArray, List.set_cons_zero, List.set_cons_succ, i64_w, i32_w]
     rfl
    refine pure_ (i := 2) (N := some 44) (v := ?_) (a' := ?_) #[true, true, true, false, false, false, false, false, false, false, false, false] rfl rfl (by kernel_rfl) (fun _ _ _ h => h) (Or.inl ⟨by rfl, ?_⟩) ?_ ?_
    rotate_left
    ·intro w'
     go_simp
     with_reducible rfl
    rotate_left
    ·simp only [Act.put, List.setIfInBounds_toArray, List.set_cons_zero, List.set_cons_succ, i64_w, i32_w]
     rfl
    refine pure_ (i := 3) (N := some 45) (v := ?_) (a' := ?_) #[true, true, true, true, false, false, false, false, false, false, false, false] rfl rfl (by kernel_rfl) (fun _ _ _ h => h) (Or.inl ⟨by rfl, ?_⟩) ?_ ?_
    rotate_left
    ·intro w'
     go_simp
     with_reducible rfl
    rotate_left
    ·simp only [Act.put, List.setIfInBounds_toArray, List.set_cons_zero, List.set_cons_succ, i64_w, i32_w]
     rfl
    refine pure_ (i := 5) (N := some 47) (v := ?_) (a' := ?_) #[true, true, true, true, false, true, false, false, false, false, false, false] rfl rfl (by kernel_rfl) (fun _ _ _ h => h) (Or.inl ⟨by rfl, ?_⟩) ?_ ?_
    rotate_left
    ·intro w'
     go_simp
     with_reducible rfl
    rotate_left
    ·simp only [Act.put, List.setIfInBounds_toArray, List.set_cons_zero, List.set_cons_succ, i64_w, i32_w]
     rfl
    refine pure_ (i := 8) (N := some 2) (v := ?_) (a' := ?_) #[true, true, true, true, false, true, false, false, true, false, false, false] rfl rfl (by kernel_rfl) (fun _ _ _ h => h) (Or.inl ⟨by rfl, ?_⟩) ?_ ?_
    rotate_left
    ·intro w'
     go_simp
     with_reducible rfl
    rotate_left
    ·simp only [Act.put, List.setIfInBounds_toArray, List.set_cons_zero, List.set_cons_succ, i64_w, i32_w]
     rfl
    refine take_ (i := 4) (N := some 46) (v := ?_) (a' := ?_) #[true, true, true, true, true, true, false, false, true, false, false, false] rfl rfl (by kernel_rfl) (fun _ _ _ h => h) (Or.inl ⟨by rfl, ?_⟩) hHeld ?_ ?_
    rotate_left
    ·rintro w' ⟨s0, s1⟩
     go_simp
     with_reducible rfl
    rotate_left
    ·simp only [Act.put, List.setIfInBounds_toArray, List.set_cons_zero, List.set_cons_succ, i64_w, i32_w]
     rfl
    refine pure_ (i := 9) (N := some 3) (v := ?_) (a' := ?_) #[true, true, true, true, true, true, false, false, true, true, false, false] rfl rfl (by kernel_rfl) (fun _ _ _ h => h) (Or.inl ⟨by rfl, ?_⟩) ?_ ?_
    rotate_left
    ·intro w'
     go_simp
     with_reducible rfl
    rotate_left
    ·simp only [Act.put, List.setIfInBounds_toArray, List.set_cons_zero, List.set_cons_succ, i64_w, i32_w]
     rfl
    refine take_ (i := 6) (N := some 48) (v := ?_) (a' := ?_) #[true, true, true, true, true, true, true, false, true, true, false, false] rfl rfl (by kernel_rfl) (fun _ _ _ h => h) (Or.inl ⟨by rfl, ?_⟩) hHeld ?_ ?_
    rotate_left
    ·rintro w' ⟨s0, s1⟩
     go_simp
     with_reducible rfl
    rotate_left
    ·simp only [Act.put, List.setIfInBounds_toArray, List.set_cons_zero, List.set_cons_succ, i64_w, i32_w]
     rfl
    refine pure_ (i := 7) (N := some 49) (v := ?_) (a' := ?_) #[true, true, true, true, true, true, true, true, true, true, false, false] rfl rfl (by kernel_rfl) (fun _ _ _ h => h) (Or.inl ⟨by rfl, ?_⟩) ?_ ?_
    rotate_left
    ·intro w'
     go_simp
     with_reducible rfl
    rotate_left
    ·simp only [Act.put, List.setIfInBounds_toArray, List.set_cons_zero, List.set_cons_succ, i64_w, i32_w]
     rfl
    refine one_ (i := 10) (N := none) #[true, true, true, true, true, true, true, true, true, true, true, false] rfl rfl (by kernel_rfl) (by decide) (fun K hK => ?_)
    refine skip_ (w1 := ?_) (by rfl) rfl ?_ ?_
    rotate_left
    ·go_simp
     rfl
    refine hK.out _ _ ⟨hct2, hcp2⟩ (fun hHeld => ?_)
    clear hK K
    refine last_ (i := 11) (N := none) #[true, true, true, true, true, true, true, true, true, true, true, true] rfl rfl (by kernel_rfl) (by decide) (fun K hK => ?_)
    refine skip_ (w1 := ?_) (by rfl) rfl ?_ ?_
    rotate_left
    ·go_simp
     rfl
    refine hK.out _ _ ?_
    clear hK K
    refine done_ (by kernel_rfl) ?_
    refine NoPan.normal ?_
    (try simp only [Exit.then])
    go_wp2_with fail
    (try simp only [Exit.inBlock, Exit.then])
    show Leaves Try.prog _ _ _ _ _ _
    exact all_well rfl 0 (nodes.length : Int) (by rfl) (by rfl) (by rfl) (by rfl) (blk_far (blk_put (blk_drew B4.out) 0 (.int .i64 0) (by simp)) (p := ⟨g5, 0, none⟩) NE45.out _) (blk_put (blk_far (blk_drew B5.out) (p := ⟨g4, 0, none⟩) NE45.out.symm _) 0 _ (by simp)) (Kd.R_mono (ok' := fun _ => True) (Kd.R_lower (Kd.R_far (p := ⟨g5, 0, none⟩) (Kd.R_far (p := ⟨g4, 0, none⟩) (Kd.R_bound (Kd.R_drew HL.out)) (fun k_ hk => by have := hk.2.1; have := L45.out; show k_ ≠ g4; omega) _) (fun k_ hk => by have := hk.2.1; show k_ ≠ g5; omega) _) (Nat.le_succ_of_le GE5.out)) (fun _ _ => trivial)) (Kd.R_mono (ok' := fun _ => True) (Kd.R_lower (Kd.R_far (p := ⟨g5, 0, none⟩) (Kd.R_far (p := ⟨g4, 0, none⟩) (Kd.R_bound (Kd.R_drew HK.out)) (fun k_ hk => by have := hk.2.1; have := L45.out; show k_ ≠ g4; omega) _) (fun k_ hk => by have := hk.2.1; show k_ ≠ g5; omega) _) (Nat.le_succ_of_le GE5.out)) (fun _ _ => trivial)) (below_set (below_set (below_drew HB.out) GE4.out) GE5.out)



/-! ### plan_Check: function 13, by hand -/
def plan_Check.f (k : Nat) (l0_0 : List (S42)) (l0_1 : List Int) (a0_2 : Int) : Option (Int × Int) := (plan_all.f k l0_0 l0_1 a0_2).bind fun r => some (r.2.2.1, r.2.2.2)
theorem plan_Check.mono : ∀ a0 a1 a2 k, LeO (plan_Check.f k a0 a1 a2) (plan_Check.f (k + 1) a0 a1 a2) := fun a0 a1 a2 k => LeO.bind (plan_all.mono _ _ _ _) (fun _ => LeO.refl _)
theorem plan_Check.calls (k : Nat) (A0_0 : Option Addr) (c0_0 : Nat) (l0_0 : List (S42)) (A0_1 : Option Addr) (c0_1 : Nat) (l0_1 : List Int) (a0_2 : Int) (r1 : Int) (r2 : Int) (w : World) (hr0_0 : Kd.C k42 w A0_0 l0_0.length l0_0) (hc0_0 : l0_0.length ≤ c0_0) (hr0_1 : Kd.C (Kd.int .i64) w A0_1 l0_1.length l0_1) (hc0_1 : l0_1.length ≤ c0_1) (h : plan_Check.f k l0_0 l0_1 a0_2 = some (r1, r2)) :
  Calls Try.prog 13 #[.agg #[.slice A0_0 l0_0.length c0_0, .slice A0_1 l0_1.length c0_1, .int .i64 a0_2]] w fun e w' => e = .returned (.tuple #[.int .i64 r1, .int .i64 r2]) ∧ Below w.heap.size w w' := by
 have hu25 := Try.underlying25
 have HR0 := zz hr0_0
 have HC0 := zz hc0_0
 have HR1 := zz hr0_1
 have HC1 := zz hc0_1
 clear hr0_0 hc0_0 hr0_1 hc0_1
 have HB := zz (Below.refl w.heap.size w)
 unfold plan_Check.f at h
 replace h := Option.bind_eq_some_iff.mp h
 obtain ⟨⟨l, kd, e0, at0⟩, h0, h⟩ := h
 have AT := zz h0
 clear h0
 simp only [Option.some.injEq, Prod.mk.injEq] at h
 obtain ⟨rfl, rfl⟩ := h
 go_enter Try.func13, Try.ntmps13
 go_wp2_with (first | ((with_reducible refine gate_dst (N := 1) rfl ?_); refine box_event ?hg (N := 1) ?hd (cs := #[.slice A0_0 l0_0.length c0_0, .slice A0_1 l0_1.length c0_1, .int .i64 a0_2]) (t := 25) ?hr ?_; (case hd => rfl); (case hg => rfl); (case hr => first | (go_simp; done) | (go_simp; rfl)); intro gp hg_ w1 hbox hb; have n0_ := zz (below_step (bel HB.out) hb); have BP := zz hbox; clear HB; have HB := n0_; clear n0_ hb hbox hg_; obtain ⟨hc_0, hc_1, hc_2⟩ := three_cells BP.out) | ((with_reducible refine gate_callee (f := 49) rfl ?_); refine goesL_ (some 6) rfl rfl Try.func49 (by kernel_rfl) rfl #[.agg #[.slice A0_0 l0_0.length c0_0, .slice A0_1 l0_1.length c0_1, .int .i64 a0_2]] rfl (by (try simp only [List.map_toArray, List.map_cons, List.map_nil]); first | done | rfl) ?_; (with_reducible refine (plan_all.calls k A0_0 c0_0 l0_0 A0_1 c0_1 l0_1 a0_2 l kd e0 at0 _ (Kd.C_below HR0.out (bel HB.out)) HC0.out (Kd.C_below HR1.out (bel HB.out)) HC1.out AT.out).mono ?_); rintro e w9 ⟨v0_, v1_, rfl, hl, hk, hb⟩; refine ⟨_, rfl, ?_⟩; have HL := zz (Kd.R_lower hl (below_size (bel HB.out))); have HK := zz (Kd.R_lower hk (below_size (bel HB.out))); have n1_ := zz (below_step (bel HB.out) hb); clear HB hl hk; have HB := n1_; clear n1_ hb))
 go_ret2
 exact ⟨rfl, HB.out⟩



/-! ### plan_Kinds: function 15, by hand -/
def plan_Kinds.f (k : Nat) (l0_0 : List (S42)) (l0_1 : List Int) (a0_2 : Int) : Option (List (List Int) × Int) := (plan_all.f k l0_0 l0_1 a0_2).bind fun r => some (r.2.1, r.2.2.1)
theorem plan_Kinds.mono : ∀ a0 a1 a2 k, LeO (plan_Kinds.f k a0 a1 a2) (plan_Kinds.f (k + 1) a0 a1 a2) := fun a0 a1 a2 k => LeO.bind (plan_all.mono _ _ _ _) (fun _ => LeO.refl _)
theorem plan_Kinds.calls (k : Nat) (A0_0 : Option Addr) (c0_0 : Nat) (l0_0 : List (S42)) (A0_1 : Option Addr) (c0_1 : Nat) (l0_1 : List Int) (a0_2 : Int) (r1 : List (List Int)) (r2 : Int) (w : World) (hr0_0 : Kd.C k42 w A0_0 l0_0.length l0_0) (hc0_0 : l0_0.length ≤ c0_0) (hr0_1 : Kd.C (Kd.int .i64) w A0_1 l0_1.length l0_1) (hc0_1 : l0_1.length ≤ c0_1) (h : plan_Kinds.f k l0_0 l0_1 a0_2 = some (r1, r2)) :
  Calls Try.prog 15 #[.agg #[.slice A0_0 l0_0.length c0_0, .slice A0_1 l0_1.length c0_1, .int .i64 a0_2]] w fun e w' => ∃ v0_ : Value, e = .returned (.tuple #[v0_, .int .i64 r2]) ∧ Kd.R (Kd.slice 3 (Kd.int .i64)) 23 w' w.heap.size (fun _ => True) v0_ r1 ∧ Below w.heap.size w w' := by
 have hu25 := Try.underlying25
 have HR0 := zz hr0_0
 have HC0 := zz hc0_0
 have HR1 := zz hr0_1
 have HC1 := zz hc0_1
 clear hr0_0 hc0_0 hr0_1 hc0_1
 have HB := zz (Below.refl w.heap.size w)
 unfold plan_Kinds.f at h
 replace h := Option.bind_eq_some_iff.mp h
 obtain ⟨⟨l, kd, e0, at0⟩, h0, h⟩ := h
 have AT := zz h0
 clear h0
 simp only [Option.some.injEq, Prod.mk.injEq] at h
 obtain ⟨rfl, rfl⟩ := h
 go_enter Try.func15, Try.ntmps15
 go_wp2_with (first | ((with_reducible refine gate_dst (N := 1) rfl ?_); refine box_event ?hg (N := 1) ?hd (cs := #[.slice A0_0 l0_0.length c0_0, .slice A0_1 l0_1.length c0_1, .int .i64 a0_2]) (t := 25) ?hr ?_; (case hd => rfl); (case hg => rfl); (case hr => first | (go_simp; done) | (go_simp; rfl)); intro gp hg_ w1 hbox hb; have n0_ := zz (below_step (bel HB.out) hb); have BP := zz hbox; clear HB; have HB := n0_; clear n0_ hb hbox hg_; obtain ⟨hc_0, hc_1, hc_2⟩ := three_cells BP.out) | ((with_reducible refine gate_callee (f := 49) rfl ?_); refine goesL_ (some 10) rfl rfl Try.func49 (by kernel_rfl) rfl #[.agg #[.slice A0_0 l0_0.length c0_0, .slice A0_1 l0_1.length c0_1, .int .i64 a0_2]] rfl (by (try simp only [List.map_toArray, List.map_cons, List.map_nil]); first | done | rfl) ?_; (with_reducible refine (plan_all.calls k A0_0 c0_0 l0_0 A0_1 c0_1 l0_1 a0_2 l kd e0 at0 _ (Kd.C_below HR0.out (bel HB.out)) HC0.out (Kd.C_below HR1.out (bel HB.out)) HC1.out AT.out).mono ?_); rintro e w9 ⟨v0_, v1_, rfl, hl, hk, hb⟩; refine ⟨_, rfl, ?_⟩; have HL := zz (Kd.R_lower hl (below_size (bel HB.out))); have HK := zz (Kd.R_lower hk (below_size (bel HB.out))); have n1_ := zz (below_step (bel HB.out) hb); clear HB hl hk; have HB := n1_; clear n1_ hb))
 go_ret2
 exact ⟨_, rfl, HK.out, HB.out⟩


/-! ### runnellaw16_code: function 17 -/
def runnellaw16_code.f (a0 : Int) : Option (Int) := some a0
theorem runnellaw16_code.calls (a0 : Int) (r : Int) (w : World) (h : runnellaw16_code.f a0 = some r) :
  Calls Try.prog 17 #[.int .i64 a0] w fun e w' => e = .returned (.int .i64 r) ∧ Drawn0 w w' := by
 have H : (some a0) = some r := h
 clear h
 obtain rfl := Option.some.inj H
 go_enter Try.func17, Try.ntmps17
 go_wp2
 go_ret
 exact ⟨by first | rfl | (simp; done) | (simp [*]; done), by repeat (first | exact Drawn0.refl _ | apply Drawn0.step)⟩

end Go.Proofs.Ytdkkollonlmelaa.QPlanChecks
