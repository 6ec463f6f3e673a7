-- Written by this session's own program (wip/tools/ownprint.sh)
import Derived.Test.YtdkkollonlmelaaQPlanChecksx0
import Derived.Test.YtdkkollonlmelaaQPlanChecksx1
import Derived.Test.YtdkkollonlmelaaQPlanChecksx2
namespace Go.Proofs.Ytdkkollonlmelaa.QPlanChecks
open Go.RowKit Go.Proofs.YtdkkollonlmelaaW.PrintWords Go.Proofs.YtdkkollonlmelaaW.PrintLast Go.Proofs.YtdkkollonlmelaaW.PrintMore
attribute [local go_sem] max2_int min2_int max_two min_two max_three min_three max_four min_four Go.Proofs.Ytdkkollonlmelaa.Hand.str_gtr Go.Proofs.Ytdkkollonlmelaa.Hand.str_leq Go.Proofs.Ytdkkollonlmelaa.Hand.str_geq   -- for this text's walks alone
set_option linter.unusedVariables false
set_option maxHeartbeats 8000000
set_option maxRecDepth 100000
set_option linter.unusedSimpArgs false


/-! ### plan_order: function 87, by hand -/
theorem order1_calls (x : Int) (b : Nat) (w : World) (A : Option Addr) (n c : Nat) (done : List Bool) (hb : w.heap[b]? = some (.cells #[.slice A n c] 43 (0, 0))) (hn : n = done.length) (hd : Kd.C Kd.bool w A done.length done) (h0 : 0 ≤ x) (h1 : x < (done.length : Int)) :
  Calls Try.prog 125 (#[.int .i64 x] ++ #[.pointer (some ⟨b, 0, none⟩)]) w fun e w' => e = .returned (.bool (!(rdOf false done x))) ∧ Below w.heap.size w w' := by
 subst hn
 have hc0 : w.cell? ⟨b, 0, none⟩ = some (.slice A done.length c) := by simp [World.cell?, hb]
 obtain ⟨ad, e, hx⟩ := Kd.at_bool hd x h0 h1
 subst e
 have p0 := eq_true h0
 have q0 := eq_true h1
 clear hb hd h0 h1
 show Calls Try.prog 125 #[.int .i64 x, .pointer (some ⟨b, 0, none⟩)] w _
 go_enter Try.func125, Try.ntmps125
 go_wp2
 go_ret
 exact ⟨by first | rfl | simp, Below.refl _ _⟩
def plan_ndone (done : List Bool) (l : List Int) : Option Bool := if l.all (fun x => decide (0 ≤ x) && decide (x < (done.length : Int))) = true then some (decide (0 ≤ idx (fun x => !(rdOf false done x)) l)) else none
theorem plan_ndone_in {done : List Bool} {l : List Int} {r : Bool} (h : plan_ndone done l = some r) : (∀ x ∈ l, 0 ≤ x ∧ x < (done.length : Int)) ∧ decide (0 ≤ idx (fun x => !(rdOf false done x)) l) = r := by
 unfold plan_ndone at h
 split at h
 ·rename_i ha
  rw [List.all_eq_true] at ha
  exact ⟨fun x hx => by simpa using ha x hx, Option.some.inj h⟩
 ·cases h
def plan_order.l0 : Nat → List S42 → List Int → Int → Int → Option (Bool × Int)
 | 0, _, _, _, _ => none
 | k + 1, nodes, outs, room, i => if i < (nodes.length : Int) then ((plan_reaches.f k nodes outs room i i).bind fun t => (if t = true then some (true, i) else (plan_order.l0 k nodes outs room (wrap64 (i + 1))))) else some (false, 0)
def plan_order.l2 : Nat → List S42 → List Bool → Int → Int → Option Int
 | 0, _, _, _, _ => none
 | k + 1, nodes, done, i, j => if j < (nodes.length : Int) then (if 0 ≤ j then (if i < 0 then (if j < (done.length : Int) then (if rdOf false done j = true then (plan_order.l2 k nodes done i (wrap64 (j + 1))) else ((plan_ndone done (rd_T42 nodes j).f1).bind fun t => (if t = true then (plan_order.l2 k nodes done i (wrap64 (j + 1))) else (plan_order.l2 k nodes done j (wrap64 (j + 1)))))) else none) else (plan_order.l2 k nodes done i (wrap64 (j + 1)))) else none) else some i
def plan_order.l1 : Nat → List S42 → List Bool → List Int → Option (List Int)
 | 0, _, _, _ => none
 | k + 1, nodes, done, out => if (out.length : Int) < (nodes.length : Int) then ((plan_order.l2 k nodes done (-1) 0).bind fun i => (if 0 ≤ i then (if i < (done.length : Int) then (if out.length < 17592186044416 then (plan_order.l1 k nodes (done.set i.toNat true) (out ++ [i])) else none) else none) else none)) else some out
def plan_order.f (k : Nat) (nodes : List S42) (outs : List Int) (room : Int) : Option (List Int × Int × Int) := (plan_order.l0 k nodes outs room 0).bind fun e => (if e.1 = true then some (([] : List Int), 160, e.2) else (if nodes.length ≤ 281474976710656 then ((plan_order.l1 k nodes (List.replicate nodes.length false) []).bind fun l => some (l, 0, 0)) else none))
theorem plan_order.mono_l0 : ∀ k, (∀ y0 y1 y2 y3, LeO (plan_order.l0 k y0 y1 y2 y3) (plan_order.l0 (k + 1) y0 y1 y2 y3))
 | 0 => fun _ _ _ _ r h => by simp [plan_order.l0] at h
 | k + 1 => by
  have ih0 := plan_order.mono_l0 k
  intro y0 y1 y2 y3
  unfold plan_order.l0
  repeat' first
   | (with_reducible exact ih0 _ _ _ _)
   | (with_reducible exact plan_reaches.mono _ _ _ _ _ _)
   | (with_reducible exact LeO.refl _)
   | (with_reducible exact LeO.none _)
   | (with_reducible refine LeO.ite ?_ ?_)
   | (with_reducible refine LeO.bind ?_ (fun _ => ?_))
theorem plan_order.mono_l2 : ∀ k, (∀ y0 y1 y2 y3, LeO (plan_order.l2 k y0 y1 y2 y3) (plan_order.l2 (k + 1) y0 y1 y2 y3))
 | 0 => fun _ _ _ _ r h => by simp [plan_order.l2] at h
 | k + 1 => by
  have ih0 := plan_order.mono_l2 k
  intro y0 y1 y2 y3
  unfold plan_order.l2
  repeat' first
   | (with_reducible exact ih0 _ _ _ _)
   | (with_reducible exact LeO.refl _)
   | (with_reducible exact LeO.none _)
   | (with_reducible refine LeO.ite ?_ ?_)
   | (with_reducible refine LeO.bind ?_ (fun _ => ?_))
theorem plan_order.mono_l1 : ∀ k, (∀ y0 y1 y2, LeO (plan_order.l1 k y0 y1 y2) (plan_order.l1 (k + 1) y0 y1 y2))
 | 0 => fun _ _ _ r h => by simp [plan_order.l1] at h
 | k + 1 => by
  have ih0 := plan_order.mono_l1 k
  intro y0 y1 y2
  unfold plan_order.l1
  repeat' first
   | (with_reducible exact ih0 _ _ _)
   | (with_reducible exact plan_order.mono_l2 _ _ _ _ _)
   | (with_reducible exact LeO.refl _)
   | (with_reducible exact LeO.none _)
   | (with_reducible refine LeO.ite ?_ ?_)
   | (with_reducible refine LeO.bind ?_ (fun _ => ?_))
theorem plan_order.mono : ∀ a0 a1 a2 k, LeO (plan_order.f k a0 a1 a2) (plan_order.f (k + 1) a0 a1 a2) := by
 intro a0 a1 a2 k
 unfold plan_order.f
 repeat' first
   | (with_reducible exact plan_order.mono_l0 _ _ _ _ _)
   | (with_reducible exact plan_order.mono_l1 _ _ _ _)
   | (with_reducible exact LeO.refl _)
   | (with_reducible exact LeO.none _)
   | (with_reducible refine LeO.ite ?_ ?_)
   | (with_reducible refine LeO.bind ?_ (fun _ => ?_))
theorem plan_order.calls (k : Nat) (An : Option Addr) (cn : Nat) (nodes : List (S42)) (Ao : Option Addr) (co : Nat) (outs : List Int) (room : Int) (r1 : List Int) (r2 : Int) (r3 : Int) (w : World) (hr0_0 : Kd.C k42 w An nodes.length nodes) (hc0_0 : nodes.length ≤ cn) (hr0_1 : Kd.C (Kd.int .i64) w Ao outs.length outs) (hc0_1 : outs.length ≤ co) (h : plan_order.f k nodes outs room = some (r1, r2, r3)) :
  Calls Try.prog 87 #[.agg #[.slice An nodes.length cn, .slice Ao outs.length co, .int .i64 room]] w fun e w' => (r2 = 0 → ∃ v0_ : Value, e = .returned (v0_) ∧ Kd.R (Kd.int .i64) 3 w' w.heap.size (fun _ => True) v0_ r1 ∧ True) ∧ (r2 ≠ 0 → e = .panicked [{ v := .iface 177 (.agg #[.int .i64 r2, .int .i64 r3]), recovered := false }]) ∧ Below w.heap.size w w' := by
 have hu25 := Try.underlying25
 have hu42 := Try.underlying42
 have HRN := zz hr0_0
 have HCN := zz hc0_0
 have HRO := zz hr0_1
 have HCO := zz hc0_1
 clear hr0_0 hc0_0 hr0_1 hc0_1
 have HB := zz (Below.refl w.heap.size w)
 have hmf : ∀ (fn : Fn) (first cap : Array Value) (w : World), (Instr.makeFunc fn first cap).run Try.prog w = .ok (.func fn first cap) w := fun _ _ _ _ => rfl
 unfold plan_order.f at h
 replace h := Option.bind_eq_some_iff.mp h
 obtain ⟨⟨eb, ei⟩, h0, h⟩ := h
 try dsimp only at h
 have HL := zz h0
 have HE := zz h
 clear h0 h
 go_enter Try.func87, Try.ntmps87
 go_wp2_with (first | ((with_reducible refine gate_dst (N := 1) rfl ?_); refine box_event ?hg (N := 1) ?hd (cs := #[.slice An nodes.length cn, .slice Ao outs.length co, .int .i64 room]) (t := 25) ?hr ?_; (case hd => rfl); (case hg => rfl); (case hr => first | (go_simp; done) | (go_simp; rfl)); intro gb hg_ w1 hbox hb; have n0_ := zz (below_step (bel HB.out) hb); have BK := zz hbox; have GEb := zz ((by rw [hg_]; exact (below_size (bel HB.out))) : w.heap.size ≤ gb); clear HB; have HB := n0_; clear n0_ hb hbox hg_; obtain ⟨hc1_0, hc1_1, hc1_2⟩ := three_cells BK.out))
 go_loopg [12] k (fun kq v12 w' => ∃ (i : Int), v12 = .int .i64 i ∧ Aside0 (plan_order.l0 kq nodes outs room i = some (eb, ei)) ∧ Aside0 (kq ≤ k) ∧ Aside0 (w'.heap[gb]? = some (.cells #[.slice An nodes.length cn, .slice Ao outs.length co, .int .i64 room] 25 (0, 0))) ∧ Aside0 (Below w.heap.size w w'))
 case atStart => exact ⟨0, rfl, HL, ⟨Nat.le_refl _⟩, ⟨(bk BK.out)⟩, ⟨(bel HB.out)⟩⟩
 case round =>
  clear HL BK HB hc1_0 hc1_1 hc1_2
  obtain ⟨i, rfl, HA, HK1, BK, HB⟩ := hrel
  cases gk with
  | zero => exact absurd HA.out (by simp [plan_order.l0])
  | succ k1 =>
   have h := HA.out
   clear HA
   simp only [plan_order.l0] at h
   by_cases c1 : i < (nodes.length : Int)
   ·rw [if_pos c1] at h
    have c1b : decide (i < (nodes.length : Int)) = true := decide_eq_true c1
    clear c1
    replace h := Option.bind_eq_some_iff.mp h
    obtain ⟨t, AT0, h⟩ := h
    try dsimp only at h
    have AT := zz AT0
    clear AT0
    obtain ⟨hc1_0, hc1_1, hc1_2⟩ := three_cells BK.out
    cases t with
    | true =>
     rw [if_pos rfl] at h
     simp only [Option.some.injEq, Prod.mk.injEq] at h
     obtain ⟨rfl, rfl⟩ := h
     have h := HE.out
     clear HE
     rw [if_pos rfl] at h
     simp only [Option.some.injEq, Prod.mk.injEq] at h
     obtain ⟨rfl, rfl, rfl⟩ := h
     go_wp2_with (first | ((with_reducible refine gate_callee (f := 124) rfl ?_); refine goesL_ (some 18) rfl rfl Try.func124 (by kernel_rfl) rfl #[.agg #[.slice An nodes.length cn, .slice Ao outs.length co, .int .i64 room], .int .i64 i, .int .i64 i] rfl (by (try simp only [List.map_toArray, List.map_cons, List.map_nil]); first | done | rfl) ?_; (with_reducible refine (plan_reaches.calls k1 An cn nodes Ao co outs room i i true _ (Kd.C_below HRN.out (bel HB.out)) HCN.out (Kd.C_below HRO.out (bel HB.out)) HCO.out AT.out).mono ?_); rintro e9 w9 ⟨rfl, hb⟩; refine ⟨_, rfl, ?_⟩; have n0_ := zz (blk_below (g := gb) (o := _) (bk BK.out) hb); have n1_ := zz (below_step (bel HB.out) hb); clear BK HB; have BK := n0_; have HB := n1_; clear n0_ n1_ hb) | (go_at_call 119; (with_reducible refine (plan_fail.calls 160 i _).mono ?_); rintro e w' ⟨rfl, rfl⟩))
     ((try simp only [Exit.inBlock, Exit.then]); refine Go.Proofs.Ytdkkollonlmelaa.Hand.bodyPost_fail (by rfl) ?_)
     exact ⟨fun h_ => absurd h_ (by decide), fun _ => rfl, (bel HB.out)⟩
    | false =>
     rw [if_neg (by decide)] at h
     have H' := zz h
     clear h
     go_wp2_with (first | ((with_reducible refine gate_callee (f := 124) rfl ?_); refine goesL_ (some 18) rfl rfl Try.func124 (by kernel_rfl) rfl #[.agg #[.slice An nodes.length cn, .slice Ao outs.length co, .int .i64 room], .int .i64 i, .int .i64 i] rfl (by (try simp only [List.map_toArray, List.map_cons, List.map_nil]); first | done | rfl) ?_; (with_reducible refine (plan_reaches.calls k1 An cn nodes Ao co outs room i i false _ (Kd.C_below HRN.out (bel HB.out)) HCN.out (Kd.C_below HRO.out (bel HB.out)) HCO.out AT.out).mono ?_); rintro e9 w9 ⟨rfl, hb⟩; refine ⟨_, rfl, ?_⟩; have n0_ := zz (blk_below (g := gb) (o := _) (bk BK.out) hb); have n1_ := zz (below_step (bel HB.out) hb); clear BK HB; have BK := n0_; have HB := n1_; clear n0_ n1_ hb))
     go_roundg k1
     case measure => have := HK1.out; omega
     case rel => exact ⟨(wrap64 (i + 1)), (by first | rfl | (simp; done) | (simp [*]; done)), H', ⟨by have := HK1.out; omega⟩, ⟨(bk BK.out)⟩, ⟨(bel HB.out)⟩⟩
   ·rw [if_neg c1] at h
    have c1b : decide (i < (nodes.length : Int)) = false := decide_eq_false c1
    clear c1 HK1
    simp only [Option.some.injEq, Prod.mk.injEq] at h
    obtain ⟨rfl, rfl⟩ := h
    have h := HE.out
    clear HE
    rw [if_neg (by decide)] at h
    by_cases m1 : nodes.length ≤ 281474976710656
    rotate_left
    ·rw [if_neg m1] at h; exact absurd h (by simp)
    rw [if_pos m1] at h
    replace h := Option.bind_eq_some_iff.mp h
    obtain ⟨l, h0, h⟩ := h
    simp only [Option.some.injEq, Prod.mk.injEq] at h
    obtain ⟨rfl, rfl, rfl⟩ := h
    obtain ⟨y0, hy0⟩ : ∃ y_ : List Bool, y_ = List.replicate nodes.length false := ⟨_, rfl⟩
    rw [← hy0] at h0
    have HL := zz h0
    have NY0 := zz hy0
    have M1 := zz m1
    clear h0 hy0 m1
    obtain ⟨hc1_0, hc1_1, hc1_2⟩ := three_cells BK.out
    go_wp2_with (first | ((with_reducible refine gate_dst (N := 25) rfl ?_); refine Kd.R_make Kd.bool _ 4 rfl (N := 25) rfl 43 _ _ rfl (nodes.length : Int) rfl rfl Try.underlying43 (.bool false) 1 info4 rfl (by decide) (by omega) false (ok := fun _ => True) (okp := fun _ => True) rfl (fun _ hk => hk) trivial (by omega) (Nat.le_trans (Nat.mul_le_mul_right _ (show (nodes.length : Int).toNat ≤ 281474976710656 from M1.out)) (by omega)) (Below.refl _ _) (Nat.le_refl _) ?_; intro v133 w14 ho15 hb hg_ hnew_; clear hg_ hnew_; rw [Int.toNat_natCast, ← NY0.out] at ho15; have HD := zz (Kd.R_lower ho15 (below_size (bel HB.out))); have n1_ := zz (blk_below (g := gb) (o := _) (bk BK.out) hb); have n2_ := zz (below_step (bel HB.out) hb); clear BK HB; have BK := n1_; have HB := n2_; clear n1_ n2_ hb ho15) | ((with_reducible refine gate_dst (N := 4) rfl ?_); refine box_event ?hg (N := 4) ?hd (cs := #[.slice none 0 0]) (t := 43) ?hr ?_; (case hd => rfl); (case hg => rfl); (case hr => first | (go_simp; done) | (go_simp; rfl)); intro gbd hg_ wd hbox hb; have n0_ := zz (Kd.R_below (rl HD.out) hb); have n1_ := zz (blk_below (g := gb) (o := _) (bk BK.out) hb); have NBD := zz ((by rw [hg_]; exact Nat.ne_of_lt (blk_lt (g := gb) (o := _) (bk BK.out))) : gb ≠ gbd); have GEd := zz ((by rw [hg_]; exact (below_size (bel HB.out))) : w.heap.size ≤ gbd); have n2_ := zz (below_step (bel HB.out) hb); clear HD BK HB; have HD := n0_; have BK := n1_; have HB := n2_; have BD0 := zz hbox; clear n0_ n1_ n2_ hb hbox hg_; have hczd : wd.cell? ⟨gbd, 0, none⟩ = some (.slice none 0 0) := (blk_cell BD0.out 0).trans rfl; have hfzd := blk_frozen BD0.out 0; obtain ⟨Ad, cd, ed⟩ := Kd.R_slice HD.out; subst ed))
    obtain ⟨nd, hnd⟩ : ∃ nd, y0.length = nd := ⟨_, rfl⟩
    rw [hnd]
    have n0_ := zz (show Kd.R Kd.bool 4 wd w.heap.size (fun _ => True) (.slice Ad nd cd) y0 from by rw [← hnd]; exact HD.out)
    clear HD
    have HD := n0_
    clear n0_ hnd
    go_loopg [5] k (fun kq v5 w' => ∃ (done : List Bool) (out : List Int), Aside0 (plan_order.l1 kq nodes done out = some l) ∧ Aside0 (kq ≤ k) ∧ Aside0 (Kd.R Kd.bool 4 w' w.heap.size (fun _ => True) (.slice Ad nd cd) done) ∧ Aside0 (Kd.R (Kd.int .i64) 3 w' w.heap.size (fun _ => True) v5 out) ∧ Aside0 (w'.heap[gb]? = some (.cells #[.slice An nodes.length cn, .slice Ao outs.length co, .int .i64 room] 25 (0, 0))) ∧ Aside0 (w'.heap[gbd]? = some (.cells #[.slice Ad nd cd] 43 (0, 0))) ∧ Aside0 (Below w.heap.size w w'))
    case atStart => exact ⟨y0, [], HL, ⟨Nat.le_refl _⟩, ⟨Kd.R_mono (Kd.R_far (p := ⟨gbd, 0, none⟩) (Kd.R_types HD.out BD0.out (by decide)) (fun _ hk => hk.2) _) (fun _ _ => trivial)⟩, ⟨Kd.R_nil _ _ _ _ _⟩, ⟨blk_far BK.out NBD.out _⟩, ⟨blk_set BD0.out 0 _⟩, ⟨(by repeat (first | (with_reducible first | exact HB.out | apply below_alloc | apply pw_below_drewN | apply below_drew1 | refine below_set ?_ GEd.out) | exact HB.out))⟩⟩
    case round =>
     clear HL HD BK BD0 HB hc1_0 hc1_1 hc1_2 hczd hfzd
     obtain ⟨done, out, HA, HK2, HD, HO, BK, BD, HB⟩ := hrel
     cases gk with
     | zero => exact absurd HA.out (by simp [plan_order.l1])
     | succ k2 =>
      have h := HA.out
      clear HA
      simp only [plan_order.l1] at h
      obtain ⟨Aq, cq, eq⟩ := Kd.R_slice HO.out
      subst eq
      obtain ⟨hc1_0, hc1_1, hc1_2⟩ := three_cells BK.out
      by_cases c2 : (out.length : Int) < (nodes.length : Int)
      ·rw [if_pos c2] at h
       have c2b : decide ((out.length : Int) < (nodes.length : Int)) = true := decide_eq_true c2
       have c2c : decide (out.length < nodes.length) = true := decide_eq_true (by omega)
       clear c2
       replace h := Option.bind_eq_some_iff.mp h
       obtain ⟨ni, AI0, h⟩ := h
       try dsimp only at h
       by_cases p3 : 0 ≤ ni
       rotate_left
       ·rw [if_neg p3] at h; exact absurd h (by simp)
       rw [if_pos p3] at h
       by_cases q3 : ni < (done.length : Int)
       rotate_left
       ·rw [if_neg q3] at h; exact absurd h (by simp)
       rw [if_pos q3] at h
       by_cases m3 : out.length < 17592186044416
       rotate_left
       ·rw [if_neg m3] at h; exact absurd h (by simp)
       rw [if_pos m3] at h
       have HN := zz h
       have AI := zz AI0
       have P3 := zz p3
       have Q3 := zz q3
       have M3 := zz m3
       clear h AI0 p3 q3 m3
       go_wp2
       go_loopg [6, 35] k2 (fun kq v6 v35 w' => ∃ (i6 j : Int), v6 = .int .i64 i6 ∧ v35 = .int .i64 j ∧ Aside0 (plan_order.l2 kq nodes done i6 j = some ni) ∧ Aside0 (kq ≤ k2) ∧ Aside0 (Kd.R Kd.bool 4 w' w.heap.size (fun _ => True) (.slice Ad nd cd) done) ∧ Aside0 (Kd.R (Kd.int .i64) 3 w' w.heap.size (fun _ => True) (.slice Aq out.length cq) out) ∧ Aside0 (w'.heap[gb]? = some (.cells #[.slice An nodes.length cn, .slice Ao outs.length co, .int .i64 room] 25 (0, 0))) ∧ Aside0 (w'.heap[gbd]? = some (.cells #[.slice Ad nd cd] 43 (0, 0))) ∧ Aside0 (Below w.heap.size w w'))
       case atStart => exact ⟨-1, 0, (by first | rfl | (simp; done) | (simp [*]; done)), (by first | rfl | (simp; done) | (simp [*]; done)), AI, ⟨Nat.le_refl _⟩, ⟨(rl HD.out)⟩, ⟨(rl HO.out)⟩, ⟨(bk BK.out)⟩, ⟨(bk BD.out)⟩, ⟨(bel HB.out)⟩⟩
       case round =>
        clear AI HD HO BK BD HB hc1_0 hc1_1 hc1_2
        obtain ⟨i6, j, rfl, rfl, HA, HK3, HD, HO, BK, BD, HB⟩ := hrel
        cases gk with
        | zero => exact absurd HA.out (by simp [plan_order.l2])
        | succ k3 =>
         have h := HA.out
         clear HA
         simp only [plan_order.l2] at h
         obtain ⟨hc1_0, hc1_1, hc1_2⟩ := three_cells BK.out
         have hd1 : wr.cell? ⟨gbd, 0, none⟩ = some (.slice Ad nd cd) := (blk_cell BD.out 0).trans rfl
         have hlen := (Kd.R_reads' HD.out).1
         by_cases c4 : j < (nodes.length : Int)
         ·rw [if_pos c4] at h
          have c4b : decide (j < (nodes.length : Int)) = true := decide_eq_true c4
          by_cases c5 : 0 ≤ j
          rotate_left
          ·rw [if_neg c5] at h; exact absurd h (by simp)
          rw [if_pos c5] at h
          obtain ⟨ad, A1, c1, A2, c2, A3, c3, A4, c4_, e, hx0, hx1, hx2, hx3, hx4, hx5, hx6, hx7, hx8, hl1, hi1, hl2, hi2, hl3, hi3, hl4, hi4⟩ := at_T42 HRN.out j c5 c4
          cases e
          generalize rd_T42 nodes j = x at hx0 hx1 hx2 hx3 hx4 hx5 hx6 hx7 hx8 hl1 hi1 h
          clear hl2 hi2 hl3 hi3 hl4 hi4
          obtain ⟨f0, f1, f2, f3, f4, f5, f6, f7, f8⟩ := x
          dsimp only at hx0 hx1 hx2 hx3 hx4 hx5 hx6 hx7 hx8 hl1 hi1 h
          replace hx0 := (HB.out.cell (World.block_lt_of_cell? w _ hx0)).trans hx0
          replace hx1 := (HB.out.cell (World.block_lt_of_cell? w _ hx1)).trans hx1
          replace hx2 := (HB.out.cell (World.block_lt_of_cell? w _ hx2)).trans hx2
          replace hx3 := (HB.out.cell (World.block_lt_of_cell? w _ hx3)).trans hx3
          replace hx4 := (HB.out.cell (World.block_lt_of_cell? w _ hx4)).trans hx4
          replace hx5 := (HB.out.cell (World.block_lt_of_cell? w _ hx5)).trans hx5
          replace hx6 := (HB.out.cell (World.block_lt_of_cell? w _ hx6)).trans hx6
          replace hx7 := (HB.out.cell (World.block_lt_of_cell? w _ hx7)).trans hx7
          replace hx8 := (HB.out.cell (World.block_lt_of_cell? w _ hx8)).trans hx8
          have HR1 := zz hi1
          have HC1 := zz hl1
          clear hi1 hl1
          have P5 := zz c5
          replace c5 := eq_true c5
          replace c4 := eq_true c4
          by_cases c6 : i6 < 0
          ·rw [if_pos c6] at h
           have c6b : decide (i6 < 0) = true := decide_eq_true c6
           clear c6
           by_cases c7 : j < (done.length : Int)
           rotate_left
           ·rw [if_neg c7] at h; exact absurd h (by simp)
           rw [if_pos c7] at h
           obtain ⟨add, ea, hy⟩ := Kd.at_bool (Kd.R_reads' HD.out).2.2 j P5.out c7
           subst ea
           have c7n : (j < (nd : Int)) = True := eq_true (by omega)
           clear c7 hlen
           cases hb0 : rdOf false done j with
           | true =>
            rw [if_pos hb0] at h
            rw [hb0] at hy
            have H' := zz h
            clear h hb0
            go_wp2_with (first | ((with_reducible refine gate_dst (N := 8) rfl ?_); refine box_event ?hg (N := 8) ?hd (cs := #[.int .i64 0, .slice none 0 0, .slice none 0 0, .slice none 0 0, .slice none 0 0, .int .i64 0, .int .i64 0, .int .i64 0, .int .i64 0]) (t := 42) ?hr ?_; (case hd => rfl); (case hg => rfl); (case hr => first | (go_simp; done) | (go_simp; rfl)); intro gx hg_ wz hbox hb; have BZ := zz hbox; have HBZ := zz hb; have GX := zz (Nat.le_of_eq hg_.symm); clear hb hbox hg_; obtain ⟨hcz_0, hcz_1, hcz_2, hcz_3, hcz_4, hcz_5, hcz_6, hcz_7, hcz_8⟩ := nine_cells BZ.out; have hfz_0 := blk_frozen BZ.out 0; have hfz_1 := blk_frozen BZ.out 1; have hfz_2 := blk_frozen BZ.out 2; have hfz_3 := blk_frozen BZ.out 3; have hfz_4 := blk_frozen BZ.out 4; have hfz_5 := blk_frozen BZ.out 5; have hfz_6 := blk_frozen BZ.out 6; have hfz_7 := blk_frozen BZ.out 7; have hfz_8 := blk_frozen BZ.out 8) | ((with_reducible refine gate_dst (N := 41) rfl ?_); (with_reducible refine nine_event2 BZ.out HBZ.out GX.out ?_); intro w2 hbox hb; have n0_ := zz (Kd.R_below (rl HD.out) hb); have n1_ := zz (Kd.R_below (rl HO.out) hb); have n2_ := zz (blk_below (g := gb) (o := _) (bk BK.out) hb); have n3_ := zz (blk_below (g := gbd) (o := _) (bk BD.out) hb); have n4_ := zz (below_step (bel HB.out) hb); clear HD HO BK BD HB; have HD := n0_; have HO := n1_; have BK := n2_; have BD := n3_; have HB := n4_; clear n0_ n1_ n2_ n3_ n4_; have hy2 := (hb.cell (World.block_lt_of_cell? wr _ hy)).trans hy; have BX := zz hbox; clear hb hbox BZ HBZ; have hck_1 : w2.cell? ⟨gx, 1, none⟩ = some (.slice A1 f1.length c1) := (blk_cell BX.out 1).trans rfl; have hd2 : w2.cell? ⟨gbd, 0, none⟩ = some (.slice (some add) nd cd) := (blk_cell BD.out 0).trans rfl))
            go_roundg k3
            case measure => have := HK2.out; have := HK3.out; omega
            case rel => exact ⟨i6, (wrap64 (j + 1)), (by first | rfl | (simp; done) | (simp [*]; done)), (by first | rfl | (simp; done) | (simp [*]; done)), H', ⟨by have := HK3.out; omega⟩, ⟨(rl HD.out)⟩, ⟨(rl HO.out)⟩, ⟨(bk BK.out)⟩, ⟨(bk BD.out)⟩, ⟨(bel HB.out)⟩⟩
           | false =>
            rw [hb0, if_neg (by decide)] at h
            rw [hb0] at hy
            clear hb0
            replace h := Option.bind_eq_some_iff.mp h
            obtain ⟨t, AT0, h⟩ := h
            try dsimp only at h
            have AT := zz AT0
            clear AT0
            cases t with
            | true =>
             rw [if_pos rfl] at h
             have H' := zz h
             clear h
             go_wp2_with (first | ((with_reducible refine gate_dst (N := 8) rfl ?_); refine box_event ?hg (N := 8) ?hd (cs := #[.int .i64 0, .slice none 0 0, .slice none 0 0, .slice none 0 0, .slice none 0 0, .int .i64 0, .int .i64 0, .int .i64 0, .int .i64 0]) (t := 42) ?hr ?_; (case hd => rfl); (case hg => rfl); (case hr => first | (go_simp; done) | (go_simp; rfl)); intro gx hg_ wz hbox hb; have BZ := zz hbox; have HBZ := zz hb; have GX := zz (Nat.le_of_eq hg_.symm); clear hb hbox hg_; obtain ⟨hcz_0, hcz_1, hcz_2, hcz_3, hcz_4, hcz_5, hcz_6, hcz_7, hcz_8⟩ := nine_cells BZ.out; have hfz_0 := blk_frozen BZ.out 0; have hfz_1 := blk_frozen BZ.out 1; have hfz_2 := blk_frozen BZ.out 2; have hfz_3 := blk_frozen BZ.out 3; have hfz_4 := blk_frozen BZ.out 4; have hfz_5 := blk_frozen BZ.out 5; have hfz_6 := blk_frozen BZ.out 6; have hfz_7 := blk_frozen BZ.out 7; have hfz_8 := blk_frozen BZ.out 8) | ((with_reducible refine gate_dst (N := 41) rfl ?_); (with_reducible refine nine_event2 BZ.out HBZ.out GX.out ?_); intro w2 hbox hb; have n0_ := zz (Kd.R_below (rl HD.out) hb); have n1_ := zz (Kd.R_below (rl HO.out) hb); have n2_ := zz (blk_below (g := gb) (o := _) (bk BK.out) hb); have n3_ := zz (blk_below (g := gbd) (o := _) (bk BD.out) hb); have n4_ := zz (below_step (bel HB.out) hb); clear HD HO BK BD HB; have HD := n0_; have HO := n1_; have BK := n2_; have BD := n3_; have HB := n4_; clear n0_ n1_ n2_ n3_ n4_; have hy2 := (hb.cell (World.block_lt_of_cell? wr _ hy)).trans hy; have BX := zz hbox; clear hb hbox BZ HBZ; have hck_1 : w2.cell? ⟨gx, 1, none⟩ = some (.slice A1 f1.length c1) := (blk_cell BX.out 1).trans rfl; have hd2 : w2.cell? ⟨gbd, 0, none⟩ = some (.slice (some add) nd cd) := (blk_cell BD.out 0).trans rfl) | ((with_reducible refine gate_callee (f := 122) rfl ?_); (try (refine gate_guard (by rfl) ?_; dsimp only)); refine goesL_ (some 53) rfl rfl Try.func122 (by kernel_rfl) rfl #[.slice A1 f1.length c1, .func (.func 125) #[] #[.pointer (some ⟨gbd, 0, none⟩)]] rfl (by (try simp only [List.map_toArray, List.map_cons, List.map_nil]); first | done | rfl) ?_; (with_reducible refine (contains_calls (F := 125) Try.func125 (by kernel_rfl) rfl #[.pointer (some ⟨gbd, 0, none⟩)] (fun x => !(rdOf false done x)) A1 c1 f1 _ (Kd.C_below HR1.out (bel HB.out)) HC1.out ?cp).mono ?_); (case cp => exact fun x W hx hb => order1_calls x gbd W (some add) nd cd done (blk_below (bk BD.out) hb) (Kd.R_reads' HD.out).1 (Kd.C_below (Kd.R_reads' (rl HD.out)).2.2 hb) ((plan_ndone_in AT.out).1 x hx).1 ((plan_ndone_in AT.out).1 x hx).2); rintro e9 w9 ⟨rfl, hb⟩; rw [(plan_ndone_in AT.out).2]; refine ⟨_, rfl, ?_⟩; have n0_ := zz (Kd.R_below (rl HD.out) hb); have n1_ := zz (Kd.R_below (rl HO.out) hb); have n2_ := zz (blk_below (g := gb) (o := _) (bk BK.out) hb); have n3_ := zz (blk_below (g := gbd) (o := _) (bk BD.out) hb); have n4_ := zz (below_step (bel HB.out) hb); clear HD HO BK BD HB; have HD := n0_; have HO := n1_; have BK := n2_; have BD := n3_; have HB := n4_; clear n0_ n1_ n2_ n3_ n4_; clear hb))
             go_roundg k3
             case measure => have := HK2.out; have := HK3.out; omega
             case rel => exact ⟨i6, (wrap64 (j + 1)), (by first | rfl | (simp; done) | (simp [*]; done)), (by first | rfl | (simp; done) | (simp [*]; done)), H', ⟨by have := HK3.out; omega⟩, ⟨(rl HD.out)⟩, ⟨(rl HO.out)⟩, ⟨(bk BK.out)⟩, ⟨(bk BD.out)⟩, ⟨(bel HB.out)⟩⟩
            | false =>
             rw [if_neg (by decide)] at h
             have H' := zz h
             clear h
             go_wp2_with (first | ((with_reducible refine gate_dst (N := 8) rfl ?_); refine box_event ?hg (N := 8) ?hd (cs := #[.int .i64 0, .slice none 0 0, .slice none 0 0, .slice none 0 0, .slice none 0 0, .int .i64 0, .int .i64 0, .int .i64 0, .int .i64 0]) (t := 42) ?hr ?_; (case hd => rfl); (case hg => rfl); (case hr => first | (go_simp; done) | (go_simp; rfl)); intro gx hg_ wz hbox hb; have BZ := zz hbox; have HBZ := zz hb; have GX := zz (Nat.le_of_eq hg_.symm); clear hb hbox hg_; obtain ⟨hcz_0, hcz_1, hcz_2, hcz_3, hcz_4, hcz_5, hcz_6, hcz_7, hcz_8⟩ := nine_cells BZ.out; have hfz_0 := blk_frozen BZ.out 0; have hfz_1 := blk_frozen BZ.out 1; have hfz_2 := blk_frozen BZ.out 2; have hfz_3 := blk_frozen BZ.out 3; have hfz_4 := blk_frozen BZ.out 4; have hfz_5 := blk_frozen BZ.out 5; have hfz_6 := blk_frozen BZ.out 6; have hfz_7 := blk_frozen BZ.out 7; have hfz_8 := blk_frozen BZ.out 8) | ((with_reducible refine gate_dst (N := 41) rfl ?_); (with_reducible refine nine_event2 BZ.out HBZ.out GX.out ?_); intro w2 hbox hb; have n0_ := zz (Kd.R_below (rl HD.out) hb); have n1_ := zz (Kd.R_below (rl HO.out) hb); have n2_ := zz (blk_below (g := gb) (o := _) (bk BK.out) hb); have n3_ := zz (blk_below (g := gbd) (o := _) (bk BD.out) hb); have n4_ := zz (below_step (bel HB.out) hb); clear HD HO BK BD HB; have HD := n0_; have HO := n1_; have BK := n2_; have BD := n3_; have HB := n4_; clear n0_ n1_ n2_ n3_ n4_; have hy2 := (hb.cell (World.block_lt_of_cell? wr _ hy)).trans hy; have BX := zz hbox; clear hb hbox BZ HBZ; have hck_1 : w2.cell? ⟨gx, 1, none⟩ = some (.slice A1 f1.length c1) := (blk_cell BX.out 1).trans rfl; have hd2 : w2.cell? ⟨gbd, 0, none⟩ = some (.slice (some add) nd cd) := (blk_cell BD.out 0).trans rfl) | ((with_reducible refine gate_callee (f := 122) rfl ?_); (try (refine gate_guard (by rfl) ?_; dsimp only)); refine goesL_ (some 53) rfl rfl Try.func122 (by kernel_rfl) rfl #[.slice A1 f1.length c1, .func (.func 125) #[] #[.pointer (some ⟨gbd, 0, none⟩)]] rfl (by (try simp only [List.map_toArray, List.map_cons, List.map_nil]); first | done | rfl) ?_; (with_reducible refine (contains_calls (F := 125) Try.func125 (by kernel_rfl) rfl #[.pointer (some ⟨gbd, 0, none⟩)] (fun x => !(rdOf false done x)) A1 c1 f1 _ (Kd.C_below HR1.out (bel HB.out)) HC1.out ?cp).mono ?_); (case cp => exact fun x W hx hb => order1_calls x gbd W (some add) nd cd done (blk_below (bk BD.out) hb) (Kd.R_reads' HD.out).1 (Kd.C_below (Kd.R_reads' (rl HD.out)).2.2 hb) ((plan_ndone_in AT.out).1 x hx).1 ((plan_ndone_in AT.out).1 x hx).2); rintro e9 w9 ⟨rfl, hb⟩; rw [(plan_ndone_in AT.out).2]; refine ⟨_, rfl, ?_⟩; have n0_ := zz (Kd.R_below (rl HD.out) hb); have n1_ := zz (Kd.R_below (rl HO.out) hb); have n2_ := zz (blk_below (g := gb) (o := _) (bk BK.out) hb); have n3_ := zz (blk_below (g := gbd) (o := _) (bk BD.out) hb); have n4_ := zz (below_step (bel HB.out) hb); clear HD HO BK BD HB; have HD := n0_; have HO := n1_; have BK := n2_; have BD := n3_; have HB := n4_; clear n0_ n1_ n2_ n3_ n4_; clear hb))
             go_roundg k3
             case measure => have := HK2.out; have := HK3.out; omega
             case rel => exact ⟨j, (wrap64 (j + 1)), (by first | rfl | (simp; done) | (simp [*]; done)), (by first | rfl | (simp; done) | (simp [*]; done)), H', ⟨by have := HK3.out; omega⟩, ⟨(rl HD.out)⟩, ⟨(rl HO.out)⟩, ⟨(bk BK.out)⟩, ⟨(bk BD.out)⟩, ⟨(bel HB.out)⟩⟩
          ·rw [if_neg c6] at h
           have c6b : decide (i6 < 0) = false := decide_eq_false c6
           clear c6 hlen
           have H' := zz h
           clear h
           go_wp2_with (first | ((with_reducible refine gate_dst (N := 8) rfl ?_); refine box_event ?hg (N := 8) ?hd (cs := #[.int .i64 0, .slice none 0 0, .slice none 0 0, .slice none 0 0, .slice none 0 0, .int .i64 0, .int .i64 0, .int .i64 0, .int .i64 0]) (t := 42) ?hr ?_; (case hd => rfl); (case hg => rfl); (case hr => first | (go_simp; done) | (go_simp; rfl)); intro gx hg_ wz hbox hb; have BZ := zz hbox; have HBZ := zz hb; have GX := zz (Nat.le_of_eq hg_.symm); clear hb hbox hg_; obtain ⟨hcz_0, hcz_1, hcz_2, hcz_3, hcz_4, hcz_5, hcz_6, hcz_7, hcz_8⟩ := nine_cells BZ.out; have hfz_0 := blk_frozen BZ.out 0; have hfz_1 := blk_frozen BZ.out 1; have hfz_2 := blk_frozen BZ.out 2; have hfz_3 := blk_frozen BZ.out 3; have hfz_4 := blk_frozen BZ.out 4; have hfz_5 := blk_frozen BZ.out 5; have hfz_6 := blk_frozen BZ.out 6; have hfz_7 := blk_frozen BZ.out 7; have hfz_8 := blk_frozen BZ.out 8) | ((with_reducible refine gate_dst (N := 41) rfl ?_); (with_reducible refine nine_event2 BZ.out HBZ.out GX.out ?_); intro w2 hbox hb; have n0_ := zz (Kd.R_below (rl HD.out) hb); have n1_ := zz (Kd.R_below (rl HO.out) hb); have n2_ := zz (blk_below (g := gb) (o := _) (bk BK.out) hb); have n3_ := zz (blk_below (g := gbd) (o := _) (bk BD.out) hb); have n4_ := zz (below_step (bel HB.out) hb); clear HD HO BK BD HB; have HD := n0_; have HO := n1_; have BK := n2_; have BD := n3_; have HB := n4_; clear n0_ n1_ n2_ n3_ n4_; have BX := zz hbox; clear hb hbox BZ HBZ; have hck_1 : w2.cell? ⟨gx, 1, none⟩ = some (.slice A1 f1.length c1) := (blk_cell BX.out 1).trans rfl; have hd2 : w2.cell? ⟨gbd, 0, none⟩ = some (.slice Ad nd cd) := (blk_cell BD.out 0).trans rfl))
           go_roundg k3
           case measure => have := HK2.out; have := HK3.out; omega
           case rel => exact ⟨i6, (wrap64 (j + 1)), (by first | rfl | (simp; done) | (simp [*]; done)), (by first | rfl | (simp; done) | (simp [*]; done)), H', ⟨by have := HK3.out; omega⟩, ⟨(rl HD.out)⟩, ⟨(rl HO.out)⟩, ⟨(bk BK.out)⟩, ⟨(bk BD.out)⟩, ⟨(bel HB.out)⟩⟩
         ·rw [if_neg c4] at h
          have c4b : decide (j < (nodes.length : Int)) = false := decide_eq_false c4
          clear c4
          simp only [Option.some.injEq] at h
          subst h
          have HQ := zz hlen
          have p45 := P3.out
          have q45 : i6 < (nd : Int) := by have := Q3.out; omega
          obtain ⟨gd, cd_, eo45, gb45, gl45, cl45, HG45⟩ := Kd.R_form HD.out (by have := P3.out; have := Q3.out; omega)
          cases eo45
          have GB45 := zz gb45
          have GG45 := zz HG45
          clear gb45 gl45 hlen
          obtain ⟨hx45_0, hf45_0⟩ := Kd.R_celln false HD.out i6 p45 q45
          replace p45 := eq_true p45
          replace q45 := eq_true q45
          have HP47 := Kd.R_putg HD.out i6 true
          go_wp2_with (first | ((with_reducible refine gate_store (t := 4) (p := 60) rfl ?_); refine store_event (t := 4) (p := 60) (v := ?vo_) (w1 := (wr.setCell ⟨gd, i6.toNat, none⟩ (.bool true))) ?hg ?ho ?hn ?hr ?_; (case ho => rfl); (case hg => rfl); (case hn => rfl); (case hr => first | (go_simp; done) | (go_simp; rfl)); intro w48 hw; have hg : wr.grownBy w48 (some gd) := (by rw [hw]; exact HP47.2); have n0_ := zz (show Kd.R Kd.bool 4 w48 w.heap.size (fun _ => True) (.slice (some ⟨gd, 0, none⟩) done.length cd) (done.set i6.toNat true) from (by rw [hw]; exact HP47.1)); clear HP47; have n1_ := zz (Kd.R_over' (v := (.slice (some ⟨gd, 0, none⟩) done.length cd)) HO.out (Kd.R_typed HD.out) (by decide) hg); have n2_ := zz (blk_grown (g := gb) BK.out hg (Kd.R_ne HD.out BK.out (by decide))); have n3_ := zz (blk_grown (g := gbd) BD.out hg (Kd.R_ne HD.out BD.out (by decide))); have n4_ := zz ((by rw [hw]; exact below_set (HB.out) GB45.out : Below w.heap.size w w48)); clear HD HO BK BD HB; have HD := n0_; have HO := n1_; have BK := n2_; have BD := n3_; have HB := n4_; clear n0_ n1_ n2_ n3_ n4_ hg hw) | ((with_reducible refine gate_builtin (b := .append) (xs := #[.tmp 61, .tmp 63]) rfl ?_); (try (refine gate_guard (by rfl) ?_; dsimp only)); at_builtin; refine Kd.R_append (Kd.int .i64) (w0 := w) w.heap.size rfl (.tmp 61) (.tmp 63) 23 3 (.int .i64 0) 8 rfl Try.underlying23 info3 rfl (by decide) (by omega) (.slice Aq out.length cq) out i6 [.int .i64 i6] (fun _ => True) (fun _ => False) rfl rfl ?aP (fun _ hk => hk.elim) ?aF ?aO ?aB ?aS ?aL ?_; (case aP => exact rfl); (case aB => exact (bel HB.out)); (case aF => exact (fun _ _ => trivial)); (case aO => exact (rl HO.out)); (case aS => exact (below_size (bel HB.out))); (case aL => have := M3.out; omega); intro v141 w49 ho hb hg hat; have n0_ := zz (Kd.R_over' (rl HD.out) (Kd.R_typed (rl HO.out)) (by decide) hg); have n1_ := zz (blk_grown (g := gb) (bk BK.out) hg (Kd.R_ne HO.out BK.out (by decide))); have n2_ := zz (blk_grown (g := gbd) (bk BD.out) hg (Kd.R_ne HO.out BD.out (by decide))); have n3_ := zz hb; have n4_ := zz ho; clear HD BK BD HB HO; have HD := n0_; have BK := n1_; have BD := n2_; have HB := n3_; have HO := n4_; clear n0_ n1_ n2_ n3_ n4_ ho hb hg hat))
          go_roundg k2
          case measure => have := HK2.out; omega
          case rel => exact ⟨done.set i6.toNat true, out ++ [i6], HN, ⟨by have := HK2.out; omega⟩, ⟨(rl HD.out)⟩, ⟨(rl HO.out)⟩, ⟨(bk BK.out)⟩, ⟨(bk BD.out)⟩, ⟨(bel HB.out)⟩⟩
      ·rw [if_neg c2] at h
       have c2b : decide ((out.length : Int) < (nodes.length : Int)) = false := decide_eq_false c2
       have c2c : decide (out.length < nodes.length) = false := decide_eq_false (by omega)
       clear c2
       simp only [Option.some.injEq] at h
       subst h
       go_wp2
       go_ret
       first | (exact ⟨⟨_, by first | rfl | simp, (rl HO.out)⟩, (bel HB.out)⟩) | (exact ⟨fun _ => ⟨_, by first | rfl | simp, (rl HO.out), trivial⟩, fun h_ => absurd rfl h_, (bel HB.out)⟩)


/-! ### plan_Group: function 19 -/
def plan_Group.f (a0_0 : Int) (l0_1 : List Int) (l0_2 : List Int) (l0_3 : List (List (S128))) (l0_4 : List Int) (a0_5 : Int) (a0_6 : Int) (a0_7 : Int) (a0_8 : Int) : Option (Int × Bool) := if a0_0 = 9 then (some (0, true)) else (if a0_0 = 10 then (some (wrap64 ((wrap64 (a0_0 - 10)) + 1), true)) else (if a0_0 = 11 then (some (wrap64 ((wrap64 (a0_0 - 10)) + 1), true)) else (if a0_0 = 12 then (some (wrap64 ((wrap64 (a0_0 - 10)) + 1), true)) else (if a0_0 = 13 then (some (wrap64 ((wrap64 (a0_0 - 10)) + 1), true)) else (if a0_0 = 14 then (some (wrap64 ((wrap64 (a0_0 - 10)) + 1), true)) else (some (0, false)))))))
theorem plan_Group.calls (a0_0 : Int) (A0_1 : Option Addr) (c0_1 : Nat) (l0_1 : List Int) (A0_2 : Option Addr) (c0_2 : Nat) (l0_2 : List Int) (A0_3 : Option Addr) (c0_3 : Nat) (l0_3 : List (List (S128))) (A0_4 : Option Addr) (c0_4 : Nat) (l0_4 : List Int) (a0_5 : Int) (a0_6 : Int) (a0_7 : Int) (a0_8 : Int) (r1 : Int) (r2 : Bool) (w : World) (hr0_1 : Kd.C (Kd.int .i64) w A0_1 l0_1.length l0_1) (hc0_1 : l0_1.length ≤ c0_1) (hr0_2 : Kd.C (Kd.int .i64) w A0_2 l0_2.length l0_2) (hc0_2 : l0_2.length ≤ c0_2) (hr0_3 : Kd.C (Kd.slice 128 k128) w A0_3 l0_3.length l0_3) (hc0_3 : l0_3.length ≤ c0_3) (hr0_4 : Kd.C (Kd.int .i64) w A0_4 l0_4.length l0_4) (hc0_4 : l0_4.length ≤ c0_4) (h : plan_Group.f a0_0 l0_1 l0_2 l0_3 l0_4 a0_5 a0_6 a0_7 a0_8 = some (r1, r2)) :
  Calls Try.prog 19 #[.agg #[.int .i64 a0_0, .slice A0_1 l0_1.length c0_1, .slice A0_2 l0_2.length c0_2, .slice A0_3 l0_3.length c0_3, .slice A0_4 l0_4.length c0_4, .int .i64 a0_5, .int .i64 a0_6, .int .i64 a0_7, .int .i64 a0_8]] w fun e w' => e = .returned (.tuple #[.int .i64 r1, .bool r2]) ∧ Below w.heap.size w w' := by
 have hu42 := Try.underlying42
 have HR0_1 := zz hr0_1
 have HC0_1 := zz hc0_1
 clear hr0_1 hc0_1
 have HR0_2 := zz hr0_2
 have HC0_2 := zz hc0_2
 clear hr0_2 hc0_2
 have HR0_3 := zz hr0_3
 have HC0_3 := zz hc0_3
 clear hr0_3 hc0_3
 have HR0_4 := zz hr0_4
 have HC0_4 := zz hc0_4
 clear hr0_4 hc0_4
 have HB := zz (Below.refl w.heap.size w)
 have H := h
 unfold plan_Group.f at H
 clear h
 by_cases c2 : a0_0 = 9
 ·rw [if_pos c2] at H
  have c2b0 : (a0_0 == 9) = true := beq_iff_eq.mpr c2
  have c2b1 : (a0_0 != 9) = false := bne_eq_false_iff_eq.mpr c2
  clear c2
  simp only [Option.some.injEq, Prod.mk.injEq] at H
  obtain ⟨rfl, rfl⟩ := H
  go_enter Try.func19, Try.ntmps19
  go_wp2_with (first | ((with_reducible refine gate_dst (N := 1) rfl ?_); refine box_event ?hg (N := 1) ?hd (cs := #[.int .i64 a0_0, .slice A0_1 l0_1.length c0_1, .slice A0_2 l0_2.length c0_2, .slice A0_3 l0_3.length c0_3, .slice A0_4 l0_4.length c0_4, .int .i64 a0_5, .int .i64 a0_6, .int .i64 a0_7, .int .i64 a0_8]) (t := 42) ?hr ?_; (case hd => rfl); (case hg => rfl); (case hr => first | (go_simp; done) | (go_simp; rfl)); intro gb125 hg w3 hbox hb; have n0_ := zz (below_step (bel HB.out) hb); have n1_ := zz (hbox); have n2_ := zz ((by rw [hg]; exact (below_size (bel HB.out)) : w.heap.size ≤ gb125)); have n3_ := zz ((by rw [hg]; exact (below_size (bel HB.out)) : w.heap.size ≤ gb125)); clear HB; have HB := n0_; have BK125 := n1_; have GW125 := n2_; have GE125 := n3_; clear n0_ n1_ n2_ n3_; clear hb hbox hg; obtain ⟨hcz4_0, hcz4_1, hcz4_2, hcz4_3, hcz4_4, hcz4_5, hcz4_6, hcz4_7, hcz4_8⟩ := nine_cells BK125.out; have hfz4_0 := blk_frozen BK125.out 0; have hfz4_1 := blk_frozen BK125.out 1; have hfz4_2 := blk_frozen BK125.out 2; have hfz4_3 := blk_frozen BK125.out 3; have hfz4_4 := blk_frozen BK125.out 4; have hfz4_5 := blk_frozen BK125.out 5; have hfz4_6 := blk_frozen BK125.out 6; have hfz4_7 := blk_frozen BK125.out 7; have hfz4_8 := blk_frozen BK125.out 8))
  go_ret2
  exact ⟨by first | rfl | (simp [errW_none, errW_some] <;> rfl) | (simp [*, errW_none, errW_some] <;> rfl), by repeat (first | (with_reducible first | exact HB.out | apply below_alloc | apply pw_below_drewN | apply below_drew1 | refine below_set ?_ GE125.out) | exact HB.out)⟩
 ·rw [if_neg c2] at H
  have c2b0 : (a0_0 == 9) = false := beq_eq_false_iff_ne.mpr c2
  have c2b1 : (a0_0 != 9) = true := bne_iff_ne.mpr c2
  by_cases c5 : a0_0 = 10
  ·rw [if_pos c5] at H
   have c5b0 : (a0_0 == 10) = true := beq_iff_eq.mpr c5
   have c5b1 : (a0_0 != 10) = false := bne_eq_false_iff_eq.mpr c5
   clear c5
   simp only [Option.some.injEq, Prod.mk.injEq] at H
   obtain ⟨rfl, rfl⟩ := H
   go_enter Try.func19, Try.ntmps19
   go_wp2_with (first | ((with_reducible refine gate_dst (N := 1) rfl ?_); refine box_event ?hg (N := 1) ?hd (cs := #[.int .i64 a0_0, .slice A0_1 l0_1.length c0_1, .slice A0_2 l0_2.length c0_2, .slice A0_3 l0_3.length c0_3, .slice A0_4 l0_4.length c0_4, .int .i64 a0_5, .int .i64 a0_6, .int .i64 a0_7, .int .i64 a0_8]) (t := 42) ?hr ?_; (case hd => rfl); (case hg => rfl); (case hr => first | (go_simp; done) | (go_simp; rfl)); intro gb125 hg w6 hbox hb; have n0_ := zz (below_step (bel HB.out) hb); have n1_ := zz (hbox); have n2_ := zz ((by rw [hg]; exact (below_size (bel HB.out)) : w.heap.size ≤ gb125)); have n3_ := zz ((by rw [hg]; exact (below_size (bel HB.out)) : w.heap.size ≤ gb125)); clear HB; have HB := n0_; have BK125 := n1_; have GW125 := n2_; have GE125 := n3_; clear n0_ n1_ n2_ n3_; clear hb hbox hg; obtain ⟨hcz7_0, hcz7_1, hcz7_2, hcz7_3, hcz7_4, hcz7_5, hcz7_6, hcz7_7, hcz7_8⟩ := nine_cells BK125.out; have hfz7_0 := blk_frozen BK125.out 0; have hfz7_1 := blk_frozen BK125.out 1; have hfz7_2 := blk_frozen BK125.out 2; have hfz7_3 := blk_frozen BK125.out 3; have hfz7_4 := blk_frozen BK125.out 4; have hfz7_5 := blk_frozen BK125.out 5; have hfz7_6 := blk_frozen BK125.out 6; have hfz7_7 := blk_frozen BK125.out 7; have hfz7_8 := blk_frozen BK125.out 8))
   go_ret2
   exact ⟨by first | rfl | (simp [errW_none, errW_some] <;> rfl) | (simp [*, errW_none, errW_some] <;> rfl), by repeat (first | (with_reducible first | exact HB.out | apply below_alloc | apply pw_below_drewN | apply below_drew1 | refine below_set ?_ GE125.out) | exact HB.out)⟩
  ·rw [if_neg c5] at H
   have c5b0 : (a0_0 == 10) = false := beq_eq_false_iff_ne.mpr c5
   have c5b1 : (a0_0 != 10) = true := bne_iff_ne.mpr c5
   by_cases c8 : a0_0 = 11
   ·rw [if_pos c8] at H
    have c8b0 : (a0_0 == 11) = true := beq_iff_eq.mpr c8
    have c8b1 : (a0_0 != 11) = false := bne_eq_false_iff_eq.mpr c8
    clear c8
    simp only [Option.some.injEq, Prod.mk.injEq] at H
    obtain ⟨rfl, rfl⟩ := H
    go_enter Try.func19, Try.ntmps19
    go_wp2_with (first | ((with_reducible refine gate_dst (N := 1) rfl ?_); refine box_event ?hg (N := 1) ?hd (cs := #[.int .i64 a0_0, .slice A0_1 l0_1.length c0_1, .slice A0_2 l0_2.length c0_2, .slice A0_3 l0_3.length c0_3, .slice A0_4 l0_4.length c0_4, .int .i64 a0_5, .int .i64 a0_6, .int .i64 a0_7, .int .i64 a0_8]) (t := 42) ?hr ?_; (case hd => rfl); (case hg => rfl); (case hr => first | (go_simp; done) | (go_simp; rfl)); intro gb125 hg w9 hbox hb; have n0_ := zz (below_step (bel HB.out) hb); have n1_ := zz (hbox); have n2_ := zz ((by rw [hg]; exact (below_size (bel HB.out)) : w.heap.size ≤ gb125)); have n3_ := zz ((by rw [hg]; exact (below_size (bel HB.out)) : w.heap.size ≤ gb125)); clear HB; have HB := n0_; have BK125 := n1_; have GW125 := n2_; have GE125 := n3_; clear n0_ n1_ n2_ n3_; clear hb hbox hg; obtain ⟨hcz10_0, hcz10_1, hcz10_2, hcz10_3, hcz10_4, hcz10_5, hcz10_6, hcz10_7, hcz10_8⟩ := nine_cells BK125.out; have hfz10_0 := blk_frozen BK125.out 0; have hfz10_1 := blk_frozen BK125.out 1; have hfz10_2 := blk_frozen BK125.out 2; have hfz10_3 := blk_frozen BK125.out 3; have hfz10_4 := blk_frozen BK125.out 4; have hfz10_5 := blk_frozen BK125.out 5; have hfz10_6 := blk_frozen BK125.out 6; have hfz10_7 := blk_frozen BK125.out 7; have hfz10_8 := blk_frozen BK125.out 8))
    go_ret2
    exact ⟨by first | rfl | (simp [errW_none, errW_some] <;> rfl) | (simp [*, errW_none, errW_some] <;> rfl), by repeat (first | (with_reducible first | exact HB.out | apply below_alloc | apply pw_below_drewN | apply below_drew1 | refine below_set ?_ GE125.out) | exact HB.out)⟩
   ·rw [if_neg c8] at H
    have c8b0 : (a0_0 == 11) = false := beq_eq_false_iff_ne.mpr c8
    have c8b1 : (a0_0 != 11) = true := bne_iff_ne.mpr c8
    by_cases c11 : a0_0 = 12
    ·rw [if_pos c11] at H
     have c11b0 : (a0_0 == 12) = true := beq_iff_eq.mpr c11
     have c11b1 : (a0_0 != 12) = false := bne_eq_false_iff_eq.mpr c11
     clear c11
     simp only [Option.some.injEq, Prod.mk.injEq] at H
     obtain ⟨rfl, rfl⟩ := H
     go_enter Try.func19, Try.ntmps19
     go_wp2_with (first | ((with_reducible refine gate_dst (N := 1) rfl ?_); refine box_event ?hg (N := 1) ?hd (cs := #[.int .i64 a0_0, .slice A0_1 l0_1.length c0_1, .slice A0_2 l0_2.length c0_2, .slice A0_3 l0_3.length c0_3, .slice A0_4 l0_4.length c0_4, .int .i64 a0_5, .int .i64 a0_6, .int .i64 a0_7, .int .i64 a0_8]) (t := 42) ?hr ?_; (case hd => rfl); (case hg => rfl); (case hr => first | (go_simp; done) | (go_simp; rfl)); intro gb125 hg w12 hbox hb; have n0_ := zz (below_step (bel HB.out) hb); have n1_ := zz (hbox); have n2_ := zz ((by rw [hg]; exact (below_size (bel HB.out)) : w.heap.size ≤ gb125)); have n3_ := zz ((by rw [hg]; exact (below_size (bel HB.out)) : w.heap.size ≤ gb125)); clear HB; have HB := n0_; have BK125 := n1_; have GW125 := n2_; have GE125 := n3_; clear n0_ n1_ n2_ n3_; clear hb hbox hg; obtain ⟨hcz13_0, hcz13_1, hcz13_2, hcz13_3, hcz13_4, hcz13_5, hcz13_6, hcz13_7, hcz13_8⟩ := nine_cells BK125.out; have hfz13_0 := blk_frozen BK125.out 0; have hfz13_1 := blk_frozen BK125.out 1; have hfz13_2 := blk_frozen BK125.out 2; have hfz13_3 := blk_frozen BK125.out 3; have hfz13_4 := blk_frozen BK125.out 4; have hfz13_5 := blk_frozen BK125.out 5; have hfz13_6 := blk_frozen BK125.out 6; have hfz13_7 := blk_frozen BK125.out 7; have hfz13_8 := blk_frozen BK125.out 8))
     go_ret2
     exact ⟨by first | rfl | (simp [errW_none, errW_some] <;> rfl) | (simp [*, errW_none, errW_some] <;> rfl), by repeat (first | (with_reducible first | exact HB.out | apply below_alloc | apply pw_below_drewN | apply below_drew1 | refine below_set ?_ GE125.out) | exact HB.out)⟩
    ·rw [if_neg c11] at H
     have c11b0 : (a0_0 == 12) = false := beq_eq_false_iff_ne.mpr c11
     have c11b1 : (a0_0 != 12) = true := bne_iff_ne.mpr c11
     by_cases c14 : a0_0 = 13
     ·rw [if_pos c14] at H
      have c14b0 : (a0_0 == 13) = true := beq_iff_eq.mpr c14
      have c14b1 : (a0_0 != 13) = false := bne_eq_false_iff_eq.mpr c14
      clear c14
      simp only [Option.some.injEq, Prod.mk.injEq] at H
      obtain ⟨rfl, rfl⟩ := H
      go_enter Try.func19, Try.ntmps19
      go_wp2_with (first | ((with_reducible refine gate_dst (N := 1) rfl ?_); refine box_event ?hg (N := 1) ?hd (cs := #[.int .i64 a0_0, .slice A0_1 l0_1.length c0_1, .slice A0_2 l0_2.length c0_2, .slice A0_3 l0_3.length c0_3, .slice A0_4 l0_4.length c0_4, .int .i64 a0_5, .int .i64 a0_6, .int .i64 a0_7, .int .i64 a0_8]) (t := 42) ?hr ?_; (case hd => rfl); (case hg => rfl); (case hr => first | (go_simp; done) | (go_simp; rfl)); intro gb125 hg w15 hbox hb; have n0_ := zz (below_step (bel HB.out) hb); have n1_ := zz (hbox); have n2_ := zz ((by rw [hg]; exact (below_size (bel HB.out)) : w.heap.size ≤ gb125)); have n3_ := zz ((by rw [hg]; exact (below_size (bel HB.out)) : w.heap.size ≤ gb125)); clear HB; have HB := n0_; have BK125 := n1_; have GW125 := n2_; have GE125 := n3_; clear n0_ n1_ n2_ n3_; clear hb hbox hg; obtain ⟨hcz16_0, hcz16_1, hcz16_2, hcz16_3, hcz16_4, hcz16_5, hcz16_6, hcz16_7, hcz16_8⟩ := nine_cells BK125.out; have hfz16_0 := blk_frozen BK125.out 0; have hfz16_1 := blk_frozen BK125.out 1; have hfz16_2 := blk_frozen BK125.out 2; have hfz16_3 := blk_frozen BK125.out 3; have hfz16_4 := blk_frozen BK125.out 4; have hfz16_5 := blk_frozen BK125.out 5; have hfz16_6 := blk_frozen BK125.out 6; have hfz16_7 := blk_frozen BK125.out 7; have hfz16_8 := blk_frozen BK125.out 8))
      go_ret2
      exact ⟨by first | rfl | (simp [errW_none, errW_some] <;> rfl) | (simp [*, errW_none, errW_some] <;> rfl), by repeat (first | (with_reducible first | exact HB.out | apply below_alloc | apply pw_below_drewN | apply below_drew1 | refine below_set ?_ GE125.out) | exact HB.out)⟩
     ·rw [if_neg c14] at H
      have c14b0 : (a0_0 == 13) = false := beq_eq_false_iff_ne.mpr c14
      have c14b1 : (a0_0 != 13) = true := bne_iff_ne.mpr c14
      by_cases c17 : a0_0 = 14
      ·rw [if_pos c17] at H
       have c17b0 : (a0_0 == 14) = true := beq_iff_eq.mpr c17
       have c17b1 : (a0_0 != 14) = false := bne_eq_false_iff_eq.mpr c17
       clear c17
       simp only [Option.some.injEq, Prod.mk.injEq] at H
       obtain ⟨rfl, rfl⟩ := H
       go_enter Try.func19, Try.ntmps19
       go_wp2_with (first | ((with_reducible refine gate_dst (N := 1) rfl ?_); refine box_event ?hg (N := 1) ?hd (cs := #[.int .i64 a0_0, .slice A0_1 l0_1.length c0_1, .slice A0_2 l0_2.length c0_2, .slice A0_3 l0_3.length c0_3, .slice A0_4 l0_4.length c0_4, .int .i64 a0_5, .int .i64 a0_6, .int .i64 a0_7, .int .i64 a0_8]) (t := 42) ?hr ?_; (case hd => rfl); (case hg => rfl); (case hr => first | (go_simp; done) | (go_simp; rfl)); intro gb125 hg w18 hbox hb; have n0_ := zz (below_step (bel HB.out) hb); have n1_ := zz (hbox); have n2_ := zz ((by rw [hg]; exact (below_size (bel HB.out)) : w.heap.size ≤ gb125)); have n3_ := zz ((by rw [hg]; exact (below_size (bel HB.out)) : w.heap.size ≤ gb125)); clear HB; have HB := n0_; have BK125 := n1_; have GW125 := n2_; have GE125 := n3_; clear n0_ n1_ n2_ n3_; clear hb hbox hg; obtain ⟨hcz19_0, hcz19_1, hcz19_2, hcz19_3, hcz19_4, hcz19_5, hcz19_6, hcz19_7, hcz19_8⟩ := nine_cells BK125.out; have hfz19_0 := blk_frozen BK125.out 0; have hfz19_1 := blk_frozen BK125.out 1; have hfz19_2 := blk_frozen BK125.out 2; have hfz19_3 := blk_frozen BK125.out 3; have hfz19_4 := blk_frozen BK125.out 4; have hfz19_5 := blk_frozen BK125.out 5; have hfz19_6 := blk_frozen BK125.out 6; have hfz19_7 := blk_frozen BK125.out 7; have hfz19_8 := blk_frozen BK125.out 8))
       go_ret2
       exact ⟨by first | rfl | (simp [errW_none, errW_some] <;> rfl) | (simp [*, errW_none, errW_some] <;> rfl), by repeat (first | (with_reducible first | exact HB.out | apply below_alloc | apply pw_below_drewN | apply below_drew1 | refine below_set ?_ GE125.out) | exact HB.out)⟩
      ·rw [if_neg c17] at H
       have c17b0 : (a0_0 == 14) = false := beq_eq_false_iff_ne.mpr c17
       have c17b1 : (a0_0 != 14) = true := bne_iff_ne.mpr c17
       simp only [Option.some.injEq, Prod.mk.injEq] at H
       obtain ⟨rfl, rfl⟩ := H
       go_enter Try.func19, Try.ntmps19
       go_wp2_with (first | ((with_reducible refine gate_dst (N := 1) rfl ?_); refine box_event ?hg (N := 1) ?hd (cs := #[.int .i64 a0_0, .slice A0_1 l0_1.length c0_1, .slice A0_2 l0_2.length c0_2, .slice A0_3 l0_3.length c0_3, .slice A0_4 l0_4.length c0_4, .int .i64 a0_5, .int .i64 a0_6, .int .i64 a0_7, .int .i64 a0_8]) (t := 42) ?hr ?_; (case hd => rfl); (case hg => rfl); (case hr => first | (go_simp; done) | (go_simp; rfl)); intro gb125 hg w20 hbox hb; have n0_ := zz (below_step (bel HB.out) hb); have n1_ := zz (hbox); have n2_ := zz ((by rw [hg]; exact (below_size (bel HB.out)) : w.heap.size ≤ gb125)); have n3_ := zz ((by rw [hg]; exact (below_size (bel HB.out)) : w.heap.size ≤ gb125)); clear HB; have HB := n0_; have BK125 := n1_; have GW125 := n2_; have GE125 := n3_; clear n0_ n1_ n2_ n3_; clear hb hbox hg; obtain ⟨hcz21_0, hcz21_1, hcz21_2, hcz21_3, hcz21_4, hcz21_5, hcz21_6, hcz21_7, hcz21_8⟩ := nine_cells BK125.out; have hfz21_0 := blk_frozen BK125.out 0; have hfz21_1 := blk_frozen BK125.out 1; have hfz21_2 := blk_frozen BK125.out 2; have hfz21_3 := blk_frozen BK125.out 3; have hfz21_4 := blk_frozen BK125.out 4; have hfz21_5 := blk_frozen BK125.out 5; have hfz21_6 := blk_frozen BK125.out 6; have hfz21_7 := blk_frozen BK125.out 7; have hfz21_8 := blk_frozen BK125.out 8))
       go_ret2
       exact ⟨by first | rfl | (simp [errW_none, errW_some] <;> rfl) | (simp [*, errW_none, errW_some] <;> rfl), by repeat (first | (with_reducible first | exact HB.out | apply below_alloc | apply pw_below_drewN | apply below_drew1 | refine below_set ?_ GE125.out) | exact HB.out)⟩

/-! ### group_known: function 63 -/
def group_known.j0 : Nat → Int → Int → Bool → Option (Int)
 | 0, _, _, _ => none
 | k + 1, x0, x1, x5 => if x5 = true then (some 8) else (if x0 = 5 then (if x1 < 1 then (some 1) else (if x1 > 1000 then (some 1) else (some 0))) else (some 0))
def group_known.f (k : Nat) (a0 : Int) (a1 : Int) : Option (Int) := if a0 < 0 then (group_known.j0 k a0 a1 true) else (group_known.j0 k a0 a1 (decide (a0 ≥ 6)))
theorem group_known.mono_l : ∀ k, (∀ y0 y1 y2, LeO (group_known.j0 k y0 y1 y2) (group_known.j0 (k + 1) y0 y1 y2))
 | 0 => fun _ _ _ r h => by simp [group_known.j0] at h
 | k + 1 => by
  have ih0 := group_known.mono_l k
  ·intro y0 y1 y2
   unfold group_known.j0
   repeat' first
   | (with_reducible exact ih0 _ _ _)
   | (with_reducible exact LeO.refl _)
   | (with_reducible exact LeO.none _)
   | (with_reducible refine LeO.ite ?_ ?_)
   | (with_reducible refine LeO.bind ?_ (fun _ => ?_))
   | exact ih0 _ _ _
   | exact LeO.none _
   | refine LeO.ite ?_ ?_
   | refine LeO.bind ?_ (fun _ => ?_)
theorem group_known.mono : ∀ a0 a1 k, LeO (group_known.f k a0 a1) (group_known.f (k + 1) a0 a1) := by
 intro a0 a1 k
 have ih0 := group_known.mono_l k
 unfold group_known.f
 repeat' first
   | (with_reducible exact ih0 _ _ _)
   | (with_reducible exact LeO.refl _)
   | (with_reducible exact LeO.none _)
   | (with_reducible refine LeO.ite ?_ ?_)
   | (with_reducible refine LeO.bind ?_ (fun _ => ?_))
   | exact ih0 _ _ _
   | exact LeO.none _
   | refine LeO.ite ?_ ?_
   | refine LeO.bind ?_ (fun _ => ?_)
theorem group_known.calls (k : Nat) (a0 : Int) (a1 : Int) (r : Int) (w : World) (h : group_known.f k a0 a1 = some r) :
  Calls Try.prog 63 #[.int .i64 a0, .int .i64 a1] w fun e w' => e = .returned (.int .i64 r) ∧ Drawn0 w w' := by
 have H := h
 unfold group_known.f at H
 clear h
 have HC3 := zz H
 clear H
 go_enter Try.func63, Try.ntmps63
 go_upto_region 1 with (fail)
 go_cut [5] (fun v5 wc => ∃ (kq : Nat) (x5_2 : Bool), v5 = .bool x5_2 ∧ Aside0 (group_known.j0 kq a0 a1 x5_2 = some r) ∧ Aside0 (kq ≤ k) ∧ Drawn0 w wc)
 case first =>
  have H := HC3.out
  clear HC3
  by_cases c4 : a0 < 0
  ·rw [if_pos c4] at H
   have c4b0 : decide (a0 < 0) = true := decide_eq_true c4
   clear c4
   (first | rw [c4b0] | (simp only [i64_w, i32_w]; rw [c4b0]) | skip)
   have H' := zz H
   clear H
   go_wp2
   go_meet
   case rel => exact ⟨_, (true), (by first | rfl | (simp; done) | (simp [*]; done)), H', ⟨by first | omega | exact Nat.le_refl _⟩, by repeat (first | exact Drawn0.refl _ | apply Drawn0.step)⟩
  ·rw [if_neg c4] at H
   have c4b0 : decide (a0 < 0) = false := decide_eq_false c4
   clear c4
   (first | rw [c4b0] | (simp only [i64_w, i32_w]; rw [c4b0]) | skip)
   have H' := zz H
   clear H
   go_wp2
   go_meet
   case rel => exact ⟨_, (decide (a0 ≥ 6)), (by first | rfl | (simp; done) | (simp [*]; done)), H', ⟨by first | omega | exact Nat.le_refl _⟩, by repeat (first | exact Drawn0.refl _ | apply Drawn0.step)⟩
 case rest =>
  clear HC3
  obtain ⟨kq, x5_2, rfl, HA, HJ2, ⟨mc2, rfl⟩⟩ := hcut
  cases kq with
  | zero => exact absurd HA.out (by simp [group_known.j0])
  | succ kj2 =>
   have H := HA.out
   clear HA
   simp only [group_known.j0] at H
   by_cases c5 : x5_2 = true
   ·subst c5
    rw [if_pos rfl] at H
    obtain rfl := Option.some.inj H
    go_wp2
    go_ret
    exact ⟨by first | rfl | (simp; done) | (simp [*]; done), by repeat (first | exact Drawn0.refl _ | apply Drawn0.step)⟩
   ·replace c5 := Bool.eq_false_iff.mpr c5
    subst c5
    rw [if_neg (show ¬ (false = true) by decide)] at H
    by_cases c6 : a0 = 5
    ·rw [if_pos c6] at H
     have c6b0 : (a0 == 5) = true := beq_iff_eq.mpr c6
     have c6b1 : (a0 != 5) = false := bne_eq_false_iff_eq.mpr c6
     clear c6
     by_cases c7 : a1 < 1
     ·rw [if_pos c7] at H
      have c7b0 : decide (a1 < 1) = true := decide_eq_true c7
      clear c7
      obtain rfl := Option.some.inj H
      go_wp2
      go_ret
      exact ⟨by first | rfl | (simp; done) | (simp [*]; done), by repeat (first | exact Drawn0.refl _ | apply Drawn0.step)⟩
     ·rw [if_neg c7] at H
      have c7b0 : decide (a1 < 1) = false := decide_eq_false c7
      clear c7
      by_cases c8 : a1 > 1000
      ·rw [if_pos c8] at H
       have c8b0 : decide (1000 < a1) = true := decide_eq_true c8
       clear c8
       obtain rfl := Option.some.inj H
       go_wp2
       go_ret
       exact ⟨by first | rfl | (simp; done) | (simp [*]; done), by repeat (first | exact Drawn0.refl _ | apply Drawn0.step)⟩
      ·rw [if_neg c8] at H
       have c8b0 : decide (1000 < a1) = false := decide_eq_false c8
       clear c8
       obtain rfl := Option.some.inj H
       go_wp2
       go_ret
       exact ⟨by first | rfl | (simp; done) | (simp [*]; done), by repeat (first | exact Drawn0.refl _ | apply Drawn0.step)⟩
    ·rw [if_neg c6] at H
     have c6b0 : (a0 == 5) = false := beq_eq_false_iff_ne.mpr c6
     have c6b1 : (a0 != 5) = true := bne_iff_ne.mpr c6
     obtain rfl := Option.some.inj H
     go_wp2
     go_ret
     exact ⟨by first | rfl | (simp; done) | (simp [*]; done), by repeat (first | exact Drawn0.refl _ | apply Drawn0.step)⟩

end Go.Proofs.Ytdkkollonlmelaa.QPlanChecks
