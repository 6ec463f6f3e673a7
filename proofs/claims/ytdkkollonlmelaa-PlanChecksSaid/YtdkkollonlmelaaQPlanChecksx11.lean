-- Written by this session's own program (wip/tools/ownprint.sh)
import Derived.Test.YtdkkollonlmelaaQPlanChecksx0
import Derived.Test.YtdkkollonlmelaaQPlanChecksx10
namespace Go.Proofs.Ytdkkollonlmelaa.QPlanChecks
open Go.RowKit Go.Proofs.YtdkkollonlmelaaW.PrintWords Go.Proofs.YtdkkollonlmelaaW.PrintLast Go.Proofs.YtdkkollonlmelaaW.PrintMore
attribute [local go_sem] max2_int min2_int max_two min_two max_three min_three max_four min_four Go.Proofs.Ytdkkollonlmelaa.Hand.str_gtr Go.Proofs.Ytdkkollonlmelaa.Hand.str_leq Go.Proofs.Ytdkkollonlmelaa.Hand.str_geq   -- for this text's walks alone
set_option linter.unusedVariables false
set_option maxHeartbeats 8000000
set_option maxRecDepth 100000
set_option linter.unusedSimpArgs false


/-! ### runnelref16_order: function 52, by hand -/
def runnelref16_order.l3 : Nat → List Int → List Bool → Bool → Int → Option Bool
 | 0, _, _, _, _ => none
 | k + 1, ins, done, rdy, j => if j < (ins.length : Int) then (if 0 ≤ j then (if rdy = true then (if 0 ≤ rd ins j then (if rd ins j < (done.length : Int) then (runnelref16_order.l3 k ins done (rdOf false done (rd ins j)) (wrap64 (j + 1))) else none) else none) else (runnelref16_order.l3 k ins done false (wrap64 (j + 1)))) else none) else some rdy
def runnelref16_order.l2 : Nat → List S42 → List Bool → Int → Int → Option Int
 | 0, _, _, _, _ => none
 | k + 1, nodes, done, nx, i => if 0 ≤ i then (if i < (nodes.length : Int) then (if i < (done.length : Int) then ((runnelref16_order.l3 k (rd_T42 nodes i).f1 done (!(rdOf false done i)) 0).bind fun t => (if t = true then (runnelref16_order.l2 k nodes done i (wrap64 (i - 1))) else (runnelref16_order.l2 k nodes done nx (wrap64 (i - 1))))) else none) else none) else some nx
def runnelref16_order.l1 : Nat → List S42 → List Bool → List Int → Option (List Int)
 | 0, _, _, _ => none
 | k + 1, nodes, done, out => if (out.length : Int) < (nodes.length : Int) then ((runnelref16_order.l2 k nodes done (-1) (wrap64 ((nodes.length : Int) - 1))).bind fun nx => (if nx < 0 then some out else (if nx < (done.length : Int) then (if out.length < 17592186044416 then (runnelref16_order.l1 k nodes (done.set nx.toNat true) (out ++ [nx])) else none) else none))) else some out
def runnelref16_order.f (k : Nat) (nodes : List S42) (outs : List Int) (room : Int) : Option (List Int) := if nodes.length ≤ 281474976710656 then (runnelref16_order.l1 k nodes (List.replicate nodes.length false) []) else none
theorem runnelref16_order.calls (k : Nat) (An : Option Addr) (cn : Nat) (nodes : List (S42)) (Ao : Option Addr) (co : Nat) (outs : List Int) (room : Int) (r : List Int) (w : World) (hr0_0 : Kd.C k42 w An nodes.length nodes) (hc0_0 : nodes.length ≤ cn) (hr0_1 : Kd.C (Kd.int .i64) w Ao outs.length outs) (hc0_1 : outs.length ≤ co) (h : runnelref16_order.f k nodes outs room = some r) :
  Calls Try.prog 52 #[.agg #[.slice An nodes.length cn, .slice Ao outs.length co, .int .i64 room]] w fun e w' => ∃ v0_ : Value, e = .returned (v0_) ∧ Kd.R (Kd.int .i64) 3 w' w.heap.size (fun _ => True) v0_ r ∧ Below w.heap.size w w' := by
 have hu25 := Try.underlying25
 have hu42 := Try.underlying42
 have HRN := zz hr0_0
 clear hr0_0 hc0_0 hr0_1 hc0_1
 have HB := zz (Below.refl w.heap.size w)
 unfold runnelref16_order.f at h
 by_cases m1 : nodes.length ≤ 281474976710656
 rotate_left
 ·rw [if_neg m1] at h; exact absurd h (by simp)
 rw [if_pos m1] at h
 obtain ⟨y0, hy0⟩ : ∃ y_ : List Bool, y_ = List.replicate nodes.length false := ⟨_, rfl⟩
 rw [← hy0] at h
 have HL := zz h
 have NY0 := zz hy0
 have M1 := zz m1
 clear h hy0 m1
 go_enter Try.func52, Try.ntmps52
 go_wp2_with (first | ((with_reducible refine gate_dst (N := 1) rfl ?_); refine box_event ?hg (N := 1) ?hd (cs := #[.slice An nodes.length cn, .slice Ao outs.length co, .int .i64 room]) (t := 25) ?hr ?_; (case hd => rfl); (case hg => rfl); (case hr => first | (go_simp; done) | (go_simp; rfl)); intro gb hg_ w1 hbox hb; have n0_ := zz (below_step HB.out hb); have BK := zz hbox; clear HB; have HB := n0_; clear n0_ hb hbox hg_; have hc1_0 : w1.cell? ⟨gb, 0, none⟩ = some (.slice An nodes.length cn) := (blk_cell BK.out 0).trans rfl) | ((with_reducible refine gate_dst (N := 12) rfl ?_); refine Kd.R_make Kd.bool _ 4 rfl (N := 12) rfl 43 _ _ rfl (nodes.length : Int) rfl rfl Try.underlying43 (.bool false) 1 info4 rfl (by decide) (by omega) false (ok := fun _ => True) (okp := fun _ => True) rfl (fun _ hk => hk) trivial (by omega) (Nat.le_trans (Nat.mul_le_mul_right _ (show (nodes.length : Int).toNat ≤ 281474976710656 from M1.out)) (by omega)) (Below.refl _ _) (Nat.le_refl _) ?_; intro v133 w14 ho15 hb hg_ hnew_; clear hg_ hnew_; rw [Int.toNat_natCast, ← NY0.out] at ho15; have HD := zz (Kd.R_lower ho15 (below_size (bel HB.out))); have n1_ := zz (blk_below (g := gb) (o := _) (bk BK.out) hb); have n2_ := zz (below_step (bel HB.out) hb); clear BK HB; have BK := n1_; have HB := n2_; clear n1_ n2_ hb ho15; obtain ⟨Ad, cd, ed⟩ := Kd.R_slice HD.out; subst ed))
 obtain ⟨nd, hnd⟩ : ∃ nd, y0.length = nd := ⟨_, rfl⟩
 rw [hnd] at HD ⊢
 clear hnd
 go_loopg [4] k (fun kq v4 w' => ∃ (done : List Bool) (out : List Int), Aside0 (runnelref16_order.l1 kq nodes done out = some r) ∧ Aside0 (kq ≤ k) ∧ Aside0 (Kd.R Kd.bool 4 w' w.heap.size (fun _ => True) (.slice Ad nd cd) done) ∧ Aside0 (Kd.R (Kd.int .i64) 3 w' w.heap.size (fun _ => True) v4 out) ∧ Aside0 (w'.heap[gb]? = some (.cells #[.slice An nodes.length cn, .slice Ao outs.length co, .int .i64 room] 25 (0, 0))) ∧ Aside0 (Below w.heap.size w w'))
 case atStart => exact ⟨y0, [], HL, ⟨Nat.le_refl _⟩, ⟨(rl HD.out)⟩, ⟨Kd.R_nil _ _ _ _ _⟩, ⟨(bk BK.out)⟩, ⟨(bel HB.out)⟩⟩
 case round =>
  clear HL HD BK HB hc1_0
  obtain ⟨done, out, HA, HK1, HD, HO, BK, HB⟩ := hrel
  cases gk with
  | zero => exact absurd HA.out (by simp [runnelref16_order.l1])
  | succ k1 =>
   have h := HA.out
   clear HA
   simp only [runnelref16_order.l1] at h
   obtain ⟨Aq, cq, eq⟩ := Kd.R_slice HO.out
   subst eq
   have hc1_0 : wr.cell? ⟨gb, 0, none⟩ = some (.slice An nodes.length cn) := (blk_cell BK.out 0).trans rfl
   by_cases c1 : (out.length : Int) < (nodes.length : Int)
   rotate_left
   ·rw [if_neg c1] at h
    have c1b : decide ((out.length : Int) < (nodes.length : Int)) = false := decide_eq_false c1
    have c1c : decide (out.length < nodes.length) = false := decide_eq_false (by omega)
    clear c1
    simp only [Option.some.injEq] at h
    subst h
    go_wp2_with fail
    go_ret
    exact ⟨_, by first | rfl | simp, (rl HO.out), (bel HB.out)⟩
   rw [if_pos c1] at h
   have c1b : decide ((out.length : Int) < (nodes.length : Int)) = true := decide_eq_true c1
   have c1c : decide (out.length < nodes.length) = true := decide_eq_true (by omega)
   clear c1
   replace h := Option.bind_eq_some_iff.mp h
   obtain ⟨nx, h0, h⟩ := h
   have HL2 := zz h0
   have HE := zz h
   clear h0 h
   go_wp2_with fail
   go_loopg [5, 6] k1 (fun kq v5 v6 w' => ∃ (n5 i : Int), v5 = .int .i64 n5 ∧ v6 = .int .i64 i ∧ Aside0 (runnelref16_order.l2 kq nodes done n5 i = some nx) ∧ Aside0 (kq ≤ k1) ∧ Aside0 (Kd.R Kd.bool 4 w' w.heap.size (fun _ => True) (.slice Ad nd cd) done) ∧ Aside0 (Kd.R (Kd.int .i64) 3 w' w.heap.size (fun _ => True) (.slice Aq out.length cq) out) ∧ Aside0 (w'.heap[gb]? = some (.cells #[.slice An nodes.length cn, .slice Ao outs.length co, .int .i64 room] 25 (0, 0))) ∧ Aside0 (Below w.heap.size w w'))
   case atStart => exact ⟨-1, wrap64 ((nodes.length : Int) - 1), (by first | rfl | (simp; done) | (simp [*]; done)), (by first | rfl | (simp; done) | (simp [*]; done)), HL2, ⟨Nat.le_refl _⟩, ⟨(rl HD.out)⟩, ⟨(rl HO.out)⟩, ⟨(bk BK.out)⟩, ⟨(bel HB.out)⟩⟩
   case round =>
    clear HL2 HD HO BK HB hc1_0
    obtain ⟨n5, i, rfl, rfl, HA, HK2, HD, HO, BK, HB⟩ := hrel
    cases gk with
    | zero => exact absurd HA.out (by simp [runnelref16_order.l2])
    | succ k2 =>
     have h := HA.out
     clear HA
     simp only [runnelref16_order.l2] at h
     have hc1_0 : wr.cell? ⟨gb, 0, none⟩ = some (.slice An nodes.length cn) := (blk_cell BK.out 0).trans rfl
     by_cases c2 : 0 ≤ i
     rotate_left
     ·rw [if_neg c2] at h
      have c2b : decide (0 ≤ i) = false := decide_eq_false c2
      clear c2
      simp only [Option.some.injEq] at h
      subst h
      have h := HE.out
      clear HE
      by_cases c3 : n5 < 0
      ·rw [if_pos c3] at h
       have c3b : decide (n5 < 0) = true := decide_eq_true c3
       clear c3
       simp only [Option.some.injEq] at h
       subst h
       go_wp2_with fail
       go_ret
       exact ⟨_, by first | rfl | simp, (rl HO.out), (bel HB.out)⟩
      rw [if_neg c3] at h
      have c3b : decide (n5 < 0) = false := decide_eq_false c3
      by_cases q45 : n5 < (done.length : Int)
      rotate_left
      ·rw [if_neg q45] at h; exact absurd h (by simp)
      rw [if_pos q45] at h
      by_cases m3 : out.length < 17592186044416
      rotate_left
      ·rw [if_neg m3] at h; exact absurd h (by simp)
      rw [if_pos m3] at h
      have M3 := zz m3
      have H' := zz h
      clear h m3
      have hlen := (Kd.R_reads' HD.out).1
      have p45 : 0 ≤ n5 := by omega
      clear c3
      obtain ⟨gd, cd_, eo45, gb45, gl45, cl45, HG45⟩ := Kd.R_form HD.out (by omega)
      cases eo45
      have GB45 := zz gb45
      clear gb45 gl45 hlen
      obtain ⟨hx45_0, hf45_0⟩ := Kd.R_celln false HD.out n5 p45 q45
      replace p45 := eq_true p45
      replace q45 := eq_true q45
      have HP47 := Kd.R_putg HD.out n5 true
      go_wp2_with (first | ((with_reducible refine gate_store (t := 4) (p := 65) rfl ?_); refine store_event (t := 4) (p := 65) (v := ?vo_) (w1 := (wr.setCell ⟨gd, n5.toNat, none⟩ (.bool true))) ?hg ?ho ?hn ?hr ?_; (case ho => rfl); (case hg => rfl); (case hn => rfl); (case hr => first | (go_simp; done) | (go_simp; rfl)); intro w48 hw; have hg : wr.grownBy w48 (some gd) := (by rw [hw]; exact HP47.2); have n0_ := zz (show Kd.R Kd.bool 4 w48 w.heap.size (fun _ => True) (.slice (some ⟨gd, 0, none⟩) done.length cd) (done.set n5.toNat true) from (by rw [hw]; exact HP47.1)); clear HP47; have n1_ := zz (Kd.R_over' (v := (.slice (some ⟨gd, 0, none⟩) done.length cd)) HO.out (Kd.R_typed HD.out) (by decide) hg); have n2_ := zz (blk_grown (g := gb) BK.out hg (Kd.R_ne HD.out BK.out (by decide))); have n4_ := zz ((by rw [hw]; exact below_set (HB.out) GB45.out : Below w.heap.size w w48)); clear HD HO BK HB; have HD := n0_; have HO := n1_; have BK := n2_; have HB := n4_; clear n0_ n1_ n2_ n4_ hg hw) | ((with_reducible refine gate_builtin (b := .append) (xs := #[.tmp 66, .tmp 68]) rfl ?_); (try (refine gate_guard (by rfl) ?_; dsimp only)); at_builtin; refine Kd.R_append (Kd.int .i64) (w0 := w) w.heap.size rfl (.tmp 66) (.tmp 68) 23 3 (.int .i64 0) 8 rfl Try.underlying23 info3 rfl (by decide) (by omega) (.slice Aq out.length cq) out n5 [.int .i64 n5] (fun _ => True) (fun _ => False) rfl rfl ?aP (fun _ hk => hk.elim) ?aF ?aO ?aB ?aS ?aL ?_; (case aP => exact rfl); (case aB => exact (bel HB.out)); (case aF => exact (fun _ _ => trivial)); (case aO => exact (rl HO.out)); (case aS => exact (below_size (bel HB.out))); (case aL => have := M3.out; omega); intro v141 w49 ho hb hg hat; have n0_ := zz (Kd.R_over' (rl HD.out) (Kd.R_typed (rl HO.out)) (by decide) hg); have n1_ := zz (blk_grown (g := gb) (bk BK.out) hg (Kd.R_ne HO.out BK.out (by decide))); have n3_ := zz hb; have n4_ := zz ho; clear HD BK HB HO; have HD := n0_; have BK := n1_; have HB := n3_; have HO := n4_; clear n0_ n1_ n3_ n4_ ho hb hg hat))
      go_roundg k1
      case measure => have := HK1.out; omega
      case rel => exact ⟨done.set n5.toNat true, out ++ [n5], H', ⟨by have := HK1.out; omega⟩, ⟨(rl HD.out)⟩, ⟨(rl HO.out)⟩, ⟨(bk BK.out)⟩, ⟨(bel HB.out)⟩⟩
     rw [if_pos c2] at h
     have c2b : decide (0 ≤ i) = true := decide_eq_true c2
     by_cases q2 : i < (nodes.length : Int)
     rotate_left
     ·rw [if_neg q2] at h; exact absurd h (by simp)
     rw [if_pos q2] at h
     by_cases q3 : i < (done.length : Int)
     rotate_left
     ·rw [if_neg q3] at h; exact absurd h (by simp)
     rw [if_pos q3] at h
     obtain ⟨adb, A2, c2_, _, _, _, _, _, _, e, -, hi2, -, -, -, -, -, -, -, -, hr2, -, -, -, -, -, -⟩ := at_T42 HRN.out i c2 q2
     cases e
     generalize (rd_T42 nodes i).f1 = f2 at hi2 hr2 h
     have HI2 := zz hi2
     have HR2 := zz hr2
     clear hi2 hr2
     have hlen := (Kd.R_reads' HD.out).1
     obtain ⟨add, ea, hz⟩ := Kd.at_bool (Kd.R_reads' HD.out).2.2 i c2 q3
     cases ea
     have q3n : (i < (nd : Int)) = True := eq_true (by omega)
     clear q3 hlen
     replace c2 := eq_true c2
     replace q2 := eq_true q2
     replace h := Option.bind_eq_some_iff.mp h
     obtain ⟨tr, h0, h⟩ := h
     obtain ⟨b0, hb0⟩ : ∃ b, rdOf false done i = b := ⟨_, rfl⟩
     rw [hb0] at hz h0
     clear hb0
     have HL3 := zz h0
     have HE3 := zz h
     clear h0 h
     go_wp2_with fail
     go_loopg [7, 8] k2 (fun kq v7 v8 w' => ∃ (rdy : Bool) (j : Int), v7 = .bool rdy ∧ v8 = .int .i64 j ∧ Aside0 (runnelref16_order.l3 kq f2 done rdy j = some tr) ∧ Aside0 (kq ≤ k2) ∧ Aside0 (Kd.R Kd.bool 4 w' w.heap.size (fun _ => True) (.slice (some add) nd cd) done) ∧ Aside0 (Kd.R (Kd.int .i64) 3 w' w.heap.size (fun _ => True) (.slice Aq out.length cq) out) ∧ Aside0 (w'.heap[gb]? = some (.cells #[.slice (some adb) nodes.length cn, .slice Ao outs.length co, .int .i64 room] 25 (0, 0))) ∧ Aside0 (Below w.heap.size w w'))
     case atStart => exact ⟨!b0, 0, (by first | rfl | (simp; done) | (simp [*]; done)), (by first | rfl | (simp; done) | (simp [*]; done)), HL3, ⟨Nat.le_refl _⟩, ⟨(rl HD.out)⟩, ⟨(rl HO.out)⟩, ⟨(bk BK.out)⟩, ⟨(bel HB.out)⟩⟩
     case round =>
      clear HL3 HD HO BK HB hc1_0 hz
      obtain ⟨rdy, j, rfl, rfl, HA, HK3, HD, HO, BK, HB⟩ := hrel
      cases gk with
      | zero => exact absurd HA.out (by simp [runnelref16_order.l3])
      | succ k3 =>
       have h := HA.out
       clear HA
       simp only [runnelref16_order.l3] at h
       have hc1_0 : wr.cell? ⟨gb, 0, none⟩ = some (.slice (some adb) nodes.length cn) := (blk_cell BK.out 0).trans rfl
       have hi2 := (HB.out.cell (World.block_lt_of_cell? w _ HI2.out)).trans HI2.out
       by_cases c3 : j < (f2.length : Int)
       rotate_left
       ·rw [if_neg c3] at h
        have c3b : decide (j < (f2.length : Int)) = false := decide_eq_false c3
        clear c3
        simp only [Option.some.injEq] at h
        subst h
        have h := HE3.out
        clear HE3
        cases rdy with
        | true =>
         rw [if_pos rfl] at h
         have H' := zz h
         clear h
         go_wp2_with fail
         go_roundg k2
         case measure => have := HK1.out; have := HK2.out; omega
         case rel => exact ⟨i, wrap64 (i - 1), (by first | rfl | (simp; done) | (simp [*]; done)), (by first | rfl | (simp; done) | (simp [*]; done)), H', ⟨by have := HK2.out; omega⟩, ⟨(rl HD.out)⟩, ⟨(rl HO.out)⟩, ⟨(bk BK.out)⟩, ⟨(bel HB.out)⟩⟩
        | false =>
         rw [if_neg (by decide)] at h
         have H' := zz h
         clear h
         go_wp2_with fail
         go_roundg k2
         case measure => have := HK1.out; have := HK2.out; omega
         case rel => exact ⟨n5, wrap64 (i - 1), (by first | rfl | (simp; done) | (simp [*]; done)), (by first | rfl | (simp; done) | (simp [*]; done)), H', ⟨by have := HK2.out; omega⟩, ⟨(rl HD.out)⟩, ⟨(rl HO.out)⟩, ⟨(bk BK.out)⟩, ⟨(bel HB.out)⟩⟩
       rw [if_pos c3] at h
       have c3b : decide (j < (f2.length : Int)) = true := decide_eq_true c3
       by_cases p4 : 0 ≤ j
       rotate_left
       ·rw [if_neg p4] at h; exact absurd h (by simp)
       rw [if_pos p4] at h
       cases rdy with
       | false =>
        rw [if_neg (by decide)] at h
        have H' := zz h
        clear h c3
        go_wp2_with fail
        go_roundg k3
        case measure => have := HK1.out; have := HK2.out; have := HK3.out; omega
        case rel => exact ⟨false, wrap64 (j + 1), (by first | rfl | (simp; done) | (simp [*]; done)), (by first | rfl | (simp; done) | (simp [*]; done)), H', ⟨by have := HK3.out; omega⟩, ⟨(rl HD.out)⟩, ⟨(rl HO.out)⟩, ⟨(bk BK.out)⟩, ⟨(bel HB.out)⟩⟩
       | true =>
        rw [if_pos rfl] at h
        by_cases p5 : 0 ≤ rd f2 j
        rotate_left
        ·rw [if_neg p5] at h; exact absurd h (by simp)
        rw [if_pos p5] at h
        by_cases q5 : rd f2 j < (done.length : Int)
        rotate_left
        ·rw [if_neg q5] at h; exact absurd h (by simp)
        rw [if_pos q5] at h
        obtain ⟨adi, ei, hy⟩ := Kd.at_int HR2.out j p4 c3
        cases ei
        replace hy := (HB.out.cell (World.block_lt_of_cell? w _ hy)).trans hy
        generalize rd f2 j = jj at hy h p5 q5
        have hlen := (Kd.R_reads' HD.out).1
        obtain ⟨ad2, ea, hv⟩ := Kd.at_bool (Kd.R_reads' HD.out).2.2 jj p5 q5
        cases ea
        have q5n : (jj < (nd : Int)) = True := eq_true (by omega)
        clear q5 hlen
        replace p5 := eq_true p5
        replace p4 := eq_true p4
        replace c3 := eq_true c3
        have H' := zz h
        clear h
        go_wp2_with fail
        go_roundg k3
        case measure => have := HK1.out; have := HK2.out; have := HK3.out; omega
        case rel => exact ⟨rdOf false done jj, wrap64 (j + 1), (by first | rfl | (simp; done) | (simp [*]; done)), (by first | rfl | (simp; done) | (simp [*]; done)), H', ⟨by have := HK3.out; omega⟩, ⟨(rl HD.out)⟩, ⟨(rl HO.out)⟩, ⟨(bk BK.out)⟩, ⟨(bel HB.out)⟩⟩


/-! ### runnelref16_Group: function 20 -/
def runnelref16_Group.f (a0 : Int) : Option (Int × Bool) := (runnelref16_in.f a0 9 14).bind fun t192 => (if t192 = true then (some (wrap64 (a0 - 9), true)) else (some (0, false)))
theorem runnelref16_Group.calls (a0 : Int) (r1 : Int) (r2 : Bool) (w : World) (h : runnelref16_Group.f a0 = some (r1, r2)) :
  Calls Try.prog 20 #[.int .i64 a0] w fun e w' => e = .returned (.tuple #[.int .i64 r1, .bool r2]) ∧ Drawn0 w w' := by
 have H := h
 unfold runnelref16_Group.f at H
 clear h
 obtain ⟨t192, A20, H⟩ := Option.bind_eq_some_iff.mp H
 try dsimp only at H
 have A2 := zz A20
 clear A20
 by_cases c3 : t192 = true
 ·subst c3
  rw [if_pos rfl] at H
  simp only [Option.some.injEq, Prod.mk.injEq] at H
  obtain ⟨rfl, rfl⟩ := H
  go_enter Try.func20, Try.ntmps20
  go_wp2_with (first | ((with_reducible refine gate_callee (f := 55) rfl ?_); refine goesL_ (some 5) rfl rfl Try.func55 (by kernel_rfl) rfl #[.int .i64 a0, .int .i64 9, .int .i64 14] rfl (by (try simp only [List.map_toArray, List.map_cons, List.map_nil]); first | done | rfl | (simp only [List.length_drop, List.length_take]; rfl)) ?_; (with_reducible refine (runnelref16_in.calls a0 9 14 true _ A2.out).mono ?_); rintro e w' ⟨rfl, ⟨nd, rfl⟩⟩; refine ⟨_, rfl, ?_⟩))
  go_ret2
  exact ⟨by first | rfl | (simp; done) | (simp [*]; done), by repeat (first | exact Drawn0.refl _ | apply Drawn0.step)⟩
 ·replace c3 := Bool.eq_false_iff.mpr c3
  subst c3
  rw [if_neg (show ¬ (false = true) by decide)] at H
  simp only [Option.some.injEq, Prod.mk.injEq] at H
  obtain ⟨rfl, rfl⟩ := H
  go_enter Try.func20, Try.ntmps20
  go_wp2_with (first | ((with_reducible refine gate_callee (f := 55) rfl ?_); refine goesL_ (some 5) rfl rfl Try.func55 (by kernel_rfl) rfl #[.int .i64 a0, .int .i64 9, .int .i64 14] rfl (by (try simp only [List.map_toArray, List.map_cons, List.map_nil]); first | done | rfl | (simp only [List.length_drop, List.length_take]; rfl)) ?_; (with_reducible refine (runnelref16_in.calls a0 9 14 false _ A2.out).mono ?_); rintro e w' ⟨rfl, ⟨nd, rfl⟩⟩; refine ⟨_, rfl, ?_⟩))
  go_ret2
  exact ⟨by first | rfl | (simp; done) | (simp [*]; done), by repeat (first | exact Drawn0.refl _ | apply Drawn0.step)⟩

/-! ### runnelref16_same: function 54 -/
def runnelref16_same.l0 : Nat → List Int → List Int → Int → Option (Bool)
 | 0, _, _, _ => none
 | k + 1, x0, x1, x5 => if x5 < (x0.length : Int) then (if 0 ≤ x5 then (if x5 < (x1.length : Int) then (if (rd x0 x5) = (rd x1 x5) then (runnelref16_same.l0 k x0 x1 (wrap64 (x5 + 1))) else (some false)) else (none)) else (none)) else (some true)
def runnelref16_same.f (k : Nat) (l0 : List Int) (l1 : List Int) : Option (Bool) := if (l0.length : Int) = (l1.length : Int) then (runnelref16_same.l0 k l0 l1 0) else (some false)
theorem runnelref16_same.calls (k : Nat) (A0 : Option Addr) (c0 : Nat) (l0 : List Int) (A1 : Option Addr) (c1 : Nat) (l1 : List Int) (r : Bool) (w : World) (hr0 : Kd.C (Kd.int .i64) w A0 l0.length l0) (hc0 : l0.length ≤ c0) (hr1 : Kd.C (Kd.int .i64) w A1 l1.length l1) (hc1 : l1.length ≤ c1) (h : runnelref16_same.f k l0 l1 = some r) :
  Calls Try.prog 54 #[.slice A0 l0.length c0, .slice A1 l1.length c1] w fun e w' => e = .returned (.bool r) ∧ Drawn0 w w' := by
 have HR0 := zz hr0
 have HC0 := zz hc0
 clear hr0 hc0
 have HR1 := zz hr1
 have HC1 := zz hc1
 clear hr1 hc1
 have H := h
 unfold runnelref16_same.f at H
 clear h
 by_cases c3 : (l0.length : Int) = (l1.length : Int)
 ·rw [if_pos c3] at H
  have c3b0 : ((l0.length : Int) == (l1.length : Int)) = true := beq_iff_eq.mpr c3
  have c3b1 : ((l0.length : Int) != (l1.length : Int)) = false := bne_eq_false_iff_eq.mpr c3
  have c3b2 : (l0.length == l1.length) = true := by first | simpa using c3 | (simp at c3 ⊢; omega)
  clear c3
  have H' := zz H
  clear H
  go_enter Try.func54, Try.ntmps54
  go_wp2
  repeat (go_quiet (fail); try go_wp2)
  go_loopg [5] k (fun kq v5 w' => ∃ (x5_1 : Int), v5 = .int .i64 x5_1 ∧ Aside0 (runnelref16_same.l0 kq l0 l1 x5_1 = some r) ∧ Aside0 (kq ≤ k) ∧ Drawn0 w w')
  case atStart => exact ⟨(0), (by first | rfl | (simp; done) | (simp [*]; done)), H', ⟨Nat.le_refl _⟩, by repeat (first | exact Drawn0.refl _ | apply Drawn0.step)⟩
  case round =>
   clear H'
   try clear c1; try clear c3; try clear c3b0; try clear c3b1; try clear c3b2
   obtain ⟨x5_1, rfl, HA, HK1, ⟨m1, rfl⟩⟩ := hrel
   cases gk with
   | zero => exact absurd HA.out (by simp [runnelref16_same.l0])
   | succ k1 =>
    have H := HA.out
    clear HA
    simp only [runnelref16_same.l0] at H
    by_cases c4 : x5_1 < (l0.length : Int)
    ·rw [if_pos c4] at H
     have c4b0 : decide (x5_1 < (l0.length : Int)) = true := decide_eq_true c4
     clear c4
     by_cases c5 : 0 ≤ x5_1
     ·rw [if_pos c5] at H
      have c5b0 : decide (0 ≤ x5_1) = true := decide_eq_true c5
      clear c5
      by_cases c6 : x5_1 < (l1.length : Int)
      ·rw [if_pos c6] at H
       have c6b0 : decide (x5_1 < (l1.length : Int)) = true := decide_eq_true c6
       clear c6
       by_cases c7 : (rd l0 x5_1) = (rd l1 x5_1)
       ·rw [if_pos c7] at H
        have c7b0 : ((rd l0 x5_1) == (rd l1 x5_1)) = true := beq_iff_eq.mpr c7
        have c7b1 : ((rd l0 x5_1) != (rd l1 x5_1)) = false := bne_eq_false_iff_eq.mpr c7
        clear c7
        have H' := zz H
        clear H
        have p193 : 0 ≤ (x5_1 : Int) := of_decide_eq_true (by first | (with_reducible assumption) | assumption)
        have q193 : x5_1 < (l0.length : Int) := of_decide_eq_true (by first | (with_reducible assumption) | assumption)
        obtain ⟨ad193, e193, hx193_0⟩ := Kd.at_int HR0.out x5_1 p193 q193
        cases e193
        replace p193 := eq_true p193
        replace q193 := eq_true q193
        have p194 : 0 ≤ (x5_1 : Int) := of_decide_eq_true (by first | (with_reducible assumption) | assumption)
        have q194 : x5_1 < (l1.length : Int) := of_decide_eq_true (by first | (with_reducible assumption) | assumption)
        obtain ⟨ad194, e194, hx194_0⟩ := Kd.at_int HR1.out x5_1 p194 q194
        cases e194
        replace p194 := eq_true p194
        replace q194 := eq_true q194
        go_wp2
        repeat (go_quiet (fail); try go_wp2)
        go_roundg k1
        case measure => have := HK1.out; omega
        case rel => exact ⟨(wrap64 (x5_1 + 1)), (by first | rfl | (simp; done) | (simp [*]; done)), H', ⟨by have := HK1.out; omega⟩, by repeat (first | exact Drawn0.refl _ | apply Drawn0.step)⟩
       ·rw [if_neg c7] at H
        have c7b0 : ((rd l0 x5_1) == (rd l1 x5_1)) = false := beq_eq_false_iff_ne.mpr c7
        have c7b1 : ((rd l0 x5_1) != (rd l1 x5_1)) = true := bne_iff_ne.mpr c7
        obtain rfl := Option.some.inj H
        have p193 : 0 ≤ (x5_1 : Int) := of_decide_eq_true (by first | (with_reducible assumption) | assumption)
        have q193 : x5_1 < (l0.length : Int) := of_decide_eq_true (by first | (with_reducible assumption) | assumption)
        obtain ⟨ad193, e193, hx193_0⟩ := Kd.at_int HR0.out x5_1 p193 q193
        cases e193
        replace p193 := eq_true p193
        replace q193 := eq_true q193
        have p194 : 0 ≤ (x5_1 : Int) := of_decide_eq_true (by first | (with_reducible assumption) | assumption)
        have q194 : x5_1 < (l1.length : Int) := of_decide_eq_true (by first | (with_reducible assumption) | assumption)
        obtain ⟨ad194, e194, hx194_0⟩ := Kd.at_int HR1.out x5_1 p194 q194
        cases e194
        replace p194 := eq_true p194
        replace q194 := eq_true q194
        go_wp2
        repeat (go_quiet (fail); try go_wp2)
        go_ret
        exact ⟨by first | rfl | (simp; done) | (simp [*]; done), by repeat (first | exact Drawn0.refl _ | apply Drawn0.step)⟩
      ·rw [if_neg c6] at H
       exact absurd H (by simp)
     ·rw [if_neg c5] at H
      exact absurd H (by simp)
    ·rw [if_neg c4] at H
     have c4b0 : decide (x5_1 < (l0.length : Int)) = false := decide_eq_false c4
     clear c4
     obtain rfl := Option.some.inj H
     go_wp2
     repeat (go_quiet (fail); try go_wp2)
     go_ret
     exact ⟨by first | rfl | (simp; done) | (simp [*]; done), by repeat (first | exact Drawn0.refl _ | apply Drawn0.step)⟩
 ·rw [if_neg c3] at H
  have c3b0 : ((l0.length : Int) == (l1.length : Int)) = false := beq_eq_false_iff_ne.mpr c3
  have c3b1 : ((l0.length : Int) != (l1.length : Int)) = true := bne_iff_ne.mpr c3
  have c3b2 : (l0.length == l1.length) = false := by first | simpa using c3 | (simp at c3 ⊢; omega)
  obtain rfl := Option.some.inj H
  go_enter Try.func54, Try.ntmps54
  go_wp2
  repeat (go_quiet (fail); try go_wp2)
  go_ret
  exact ⟨by first | rfl | (simp; done) | (simp [*]; done), by repeat (first | exact Drawn0.refl _ | apply Drawn0.step)⟩


/-! ### runnelref15_Check: function 89, by hand -/
def IRow (P : Nat → Prop) (base : Nat) (W : World) (v : Value) (l : List Int) : Prop := Kd.V (Kd.int .i64) 3 W base (fun k => P k ∨ base ≤ k) v l
theorem IRow.nil (P : Nat → Prop) (base : Nat) (W : World) : IRow P base W (.slice none 0 0) [] := Kd.V_nil _ _ _ _ _
theorem IRow.of {P : Nat → Prop} {base : Nat} {W : World} {ok : Nat → Prop} {v : Value} {l : List Int} (h : (Kd.int .i64).R 3 W base ok v l) : IRow P base W v l := Kd.R_V (Kd.R_mono (Kd.R_bound h) (fun _ hk => .inr hk.2.1))
theorem IRow.arg {P : Nat → Prop} {w W : World} {base : Nat} {v : Value} {l : List Int} (h : Kd.V (Kd.int .i64) 3 w base P v l) (hb : Below w.heap.size w W) : IRow P base W v l := Kd.V_mono (Kd.V_below h hb) (fun _ hk => .inl hk)
theorem IRow.later {P : Nat → Prop} {base : Nat} {W W' : World} {v : Value} {l : List Int} (h : IRow P base W v l) [k : Later W W'] : IRow P base W' v l := Kd.V_below h k.below
theorem IRow.lower {P : Nat → Prop} {base b : Nat} {W : World} {v : Value} {l : List Int} (h : IRow P b W v l) (hb : base ≤ b) : IRow P base W v l := Kd.V_mono h (fun _ hk => hk.imp_right (Nat.le_trans hb))
def runnelref15_Check.t (a1 : Int) (l3 : List Int) : List Int × Int := if a1 ≥ 16 then (([] : List Int), 3) else (l3.take a1.toNat ++ [0], 0)
def runnelref15_Check.g (a0 a1 a2 : Int) (l3 : List Int) : List Int × Int :=
 if a0 < 0 then (([] : List Int), 8) else if a0 > 5 then (([] : List Int), 8) else if a0 = 0 then (l3, 0) else if a1 < 0 then (([] : List Int), 9) else if a1 > (l3.length : Int) then (([] : List Int), 9) else if a0 = 1 then runnelref15_Check.t a1 l3 else if a0 = 2 then (if a2 < 0 then (([] : List Int), 9) else if a2 ≥ (l3.length : Int) then (([] : List Int), 9) else if rd l3 a2 = 0 then runnelref15_Check.t a1 l3 else (([] : List Int), 80)) else if a0 = 5 then (if a2 < 1 then (([] : List Int), 1) else if a2 > 1000 then (([] : List Int), 1) else (l3, 0)) else (l3, 0)
def runnelref15_Check.f (a0 : Int) (a1 : Int) (a2 : Int) (l3 : List Int) : Option (List Int × Int) := some (runnelref15_Check.g a0 a1 a2 l3)
theorem runnelref15_Check.calls (P : Nat → Prop) (a0 : Int) (a1 : Int) (a2 : Int) (A3 : Option Addr) (c3 : Nat) (l3 : List Int) (r1 : List Int) (r2 : Int) (w : World) (hv3 : Kd.V (Kd.int .i64) 3 w w.heap.size P (.slice A3 l3.length c3) l3) (h : runnelref15_Check.f a0 a1 a2 l3 = some (r1, r2)) :
  Calls Try.prog 89 #[.int .i64 a0, .int .i64 a1, .int .i64 a2, .slice A3 l3.length c3] w fun e w' => ∃ v0_ : Value, e = .returned (.tuple #[v0_, .int .i64 r2]) ∧ IRow P w.heap.size w' v0_ r1 ∧ Below w.heap.size w w' := by
 have HV3 := zz hv3
 have HR3 := zz (Kd.V_reads' hv3).2.2
 have HC3 := zz (Kd.V_reads' hv3).2.1
 clear hv3
 have HB := zz (Below.refl w.heap.size w)
 unfold runnelref15_Check.f at h
 replace h := Option.some.inj h
 unfold runnelref15_Check.g at h
 by_cases q0 : a0 < 0
 ·rw [if_pos q0] at h
  obtain ⟨rfl, rfl⟩ := Prod.mk.inj h
  clear h
  have b0 : decide (a0 < 0) = true := decide_eq_true q0
  clear q0
  go_enter Try.func89, Try.ntmps89
  go_wp2_with fail
  go_ret2
  exact ⟨_, by first | rfl | simp, IRow.nil _ _ _, bel HB.out⟩
 rw [if_neg q0] at h
 have b0 : decide (a0 < 0) = false := decide_eq_false q0
 by_cases q1 : a0 > 5
 ·rw [if_pos q1] at h
  obtain ⟨rfl, rfl⟩ := Prod.mk.inj h
  clear h
  have b1 : decide (5 < a0) = true := decide_eq_true q1
  clear q1
  go_enter Try.func89, Try.ntmps89
  go_wp2_with fail
  go_ret2
  exact ⟨_, by first | rfl | simp, IRow.nil _ _ _, bel HB.out⟩
 rw [if_neg q1] at h
 have b1 : decide (5 < a0) = false := decide_eq_false q1
 have hz : a0 = 0 ∨ a0 = 1 ∨ a0 = 2 ∨ a0 = 3 ∨ a0 = 4 ∨ a0 = 5 := by omega
 clear q0 q1 b0 b1
 by_cases z0 : a0 = 0
 ·subst z0
  rw [if_pos rfl] at h
  obtain ⟨rfl, rfl⟩ := Prod.mk.inj h
  clear h hz
  go_enter Try.func89, Try.ntmps89
  go_wp2_with fail
  go_ret2
  exact ⟨_, by first | rfl | simp, IRow.arg HV3.out (bel HB.out), bel HB.out⟩
 rw [if_neg z0] at h
 by_cases q2 : a1 < 0
 ·rw [if_pos q2] at h
  obtain ⟨rfl, rfl⟩ := Prod.mk.inj h
  have b2 : decide (a1 < 0) = true := decide_eq_true q2
  clear h q2
  rcases hz with rfl | rfl | rfl | rfl | rfl | rfl
  ·exact absurd rfl z0
  ·clear z0
   go_enter Try.func89, Try.ntmps89
   go_wp2_with fail
   go_ret2
   exact ⟨_, by first | rfl | simp, IRow.nil _ _ _, bel HB.out⟩
  ·clear z0
   go_enter Try.func89, Try.ntmps89
   go_wp2_with fail
   go_ret2
   exact ⟨_, by first | rfl | simp, IRow.nil _ _ _, bel HB.out⟩
  ·clear z0
   go_enter Try.func89, Try.ntmps89
   go_wp2_with fail
   go_ret2
   exact ⟨_, by first | rfl | simp, IRow.nil _ _ _, bel HB.out⟩
  ·clear z0
   go_enter Try.func89, Try.ntmps89
   go_wp2_with fail
   go_ret2
   exact ⟨_, by first | rfl | simp, IRow.nil _ _ _, bel HB.out⟩
  ·clear z0
   go_enter Try.func89, Try.ntmps89
   go_wp2_with fail
   go_ret2
   exact ⟨_, by first | rfl | simp, IRow.nil _ _ _, bel HB.out⟩
 rw [if_neg q2] at h
 have b2 : decide (a1 < 0) = false := decide_eq_false q2
 by_cases q3 : a1 > (l3.length : Int)
 ·rw [if_pos q3] at h
  obtain ⟨rfl, rfl⟩ := Prod.mk.inj h
  have b3 : decide ((l3.length : Int) < a1) = true := decide_eq_true q3
  clear h q2 q3
  rcases hz with rfl | rfl | rfl | rfl | rfl | rfl
  ·exact absurd rfl z0
  ·clear z0
   go_enter Try.func89, Try.ntmps89
   go_wp2_with fail
   go_ret2
   exact ⟨_, by first | rfl | simp, IRow.nil _ _ _, bel HB.out⟩
  ·clear z0
   go_enter Try.func89, Try.ntmps89
   go_wp2_with fail
   go_ret2
   exact ⟨_, by first | rfl | simp, IRow.nil _ _ _, bel HB.out⟩
  ·clear z0
   go_enter Try.func89, Try.ntmps89
   go_wp2_with fail
   go_ret2
   exact ⟨_, by first | rfl | simp, IRow.nil _ _ _, bel HB.out⟩
  ·clear z0
   go_enter Try.func89, Try.ntmps89
   go_wp2_with fail
   go_ret2
   exact ⟨_, by first | rfl | simp, IRow.nil _ _ _, bel HB.out⟩
  ·clear z0
   go_enter Try.func89, Try.ntmps89
   go_wp2_with fail
   go_ret2
   exact ⟨_, by first | rfl | simp, IRow.nil _ _ _, bel HB.out⟩
 rw [if_neg q3] at h
 have b3 : decide ((l3.length : Int) < a1) = false := decide_eq_false q3
 rcases hz with rfl | rfl | rfl | rfl | rfl | rfl
 ·exact absurd rfl z0
 ·rw [if_pos rfl] at h
  clear z0
  unfold runnelref15_Check.t at h
  by_cases q5 : a1 ≥ 16
  ·rw [if_pos q5] at h
   obtain ⟨rfl, rfl⟩ := Prod.mk.inj h
   have b5 : decide (16 ≤ a1) = true := decide_eq_true q5
   clear h q2 q3 q5
   go_enter Try.func89, Try.ntmps89
   go_wp2_with fail
   go_ret2
   exact ⟨_, by first | rfl | simp, IRow.nil _ _ _, bel HB.out⟩
  rw [if_neg q5] at h
  have b5 : decide (16 ≤ a1) = false := decide_eq_false q5
  have hll : (l3.take a1.toNat).length ≤ 16 := by rw [List.length_take]; omega
  have hlj : (l3.take a1.toNat).length = a1.toNat := by rw [List.length_take]; omega
  obtain ⟨i0, hi, hz0, hz1, hz2⟩ := info_parts info3
  have hcut := cut_to (P := Try.prog) 23 3 .i64 Try.underlying23 hi A3 l3.length c3 a1 (by omega) (by omega) HC3.out
  have hCt := Kd.C_take (m := a1.toNat) HR3.out (by omega)
  clear hi hz0 hz1 hz2 q2 q3 q5
  obtain ⟨ys, hys⟩ : ∃ ys, ys = l3.take a1.toNat := ⟨_, rfl⟩
  rw [← hys] at hCt hll hlj h
  rw [← hlj] at hcut
  have HYL := zz hll
  have HY := zz hCt
  clear hys hlj hll hCt
  obtain ⟨rfl, rfl⟩ := Prod.mk.inj h
  clear h
  go_enter Try.func89, Try.ntmps89
  go_wp2_with (first | ((with_reducible refine gate_dst (N := 68) rfl ?_); (try (refine gate_guard (by rfl) ?_; dsimp only)); refine Kd.R_lit (Kd.int .i64) _ 3 ?hg (N := 68) ?hd (xs := ([] : List Int)) (inner := []) (ok := fun _ => True) (okp := fun _ => True) ?hr ?hp (fun _ hk => hk) trivial (Below.refl _ _) (Nat.le_refl _) (by simp) ?_; (case hd => rfl); (case hg => rfl); (case hr => first | (go_simp; done) | (go_simp; rfl)); (case hp => exact (Reps.none _ _)); intro v5 w5 ho hb hg_ hnew_; clear hg_ hnew_; have HO5 := zz (Kd.R_lower (Kd.R_mono (Kd.R_bound ho) (fun _ _ => trivial)) (below_size (bel HB.out))); have HB5 := zz (below_step (bel HB.out) hb); clear ho hb) | ((with_reducible refine gate_builtin (b := .append) (xs := #[.tmp 68, .tmp 71]) rfl ?_); at_builtin; refine Kd.R_append_rows (Kd.int .i64) (w0 := w) w.heap.size rfl (.tmp 68) (.tmp 71) 23 3 (.int .i64 0) 8 rfl Try.underlying23 info3 rfl (by decide) (by omega) v5 [] ys _ _ _ (fun _ => True) (fun _ => False) rfl rfl ?aO ?aR (fun _ _ h => h) (fun _ h => h.elim) ?aF ?aB ?aS ?aL ?_; (case aR => exact (Kd.C_below HY.out (bel HB5.out))); (case aB => exact (bel HB5.out)); (case aF => exact (fun _ _ => trivial)); (case aO => exact (rl HO5.out)); (case aS => exact below_size (bel HB5.out)); (case aL => have := HYL.out; simp only [List.length_nil]; omega); intro v6 w6 ho hb hg hat; clear hg hat; simp only [List.nil_append] at ho; have HO6 := zz ho; have HB6 := zz hb; clear ho hb) | ((with_reducible refine gate_builtin (b := .append) (xs := #[.tmp 72, .tmp 73]) rfl ?_); at_builtin; refine Kd.R_append (Kd.int .i64) (w0 := w) w.heap.size rfl (.tmp 72) (.tmp 73) 23 3 (.int .i64 0) 8 rfl Try.underlying23 info3 rfl (by decide) (by omega) v6 ys 0 [.int .i64 0] (fun _ => True) (fun _ => False) rfl rfl ?aP (fun _ hk => hk.elim) ?aF ?aO ?aB ?aS ?aL ?_; (case aP => exact rfl); (case aB => exact (bel HB6.out)); (case aF => exact (fun _ _ => trivial)); (case aO => exact (rl HO6.out)); (case aS => exact (below_size (bel HB6.out))); (case aL => have := HYL.out; omega); intro v7 w7 ho hb hg hat; clear hg hat; have HO7 := zz ho; have HB7 := zz hb; clear ho hb))
  go_ret2
  exact ⟨_, by first | rfl | simp, IRow.of (rl HO7.out), bel HB7.out⟩
 ·rw [if_neg (by decide), if_pos rfl] at h
  clear z0
  by_cases q6 : a2 < 0
  ·rw [if_pos q6] at h
   obtain ⟨rfl, rfl⟩ := Prod.mk.inj h
   have b6 : decide (a2 < 0) = true := decide_eq_true q6
   clear h q2 q3 q6
   go_enter Try.func89, Try.ntmps89
   go_wp2_with fail
   go_ret2
   exact ⟨_, by first | rfl | simp, IRow.nil _ _ _, bel HB.out⟩
  rw [if_neg q6] at h
  have b6 : decide (a2 < 0) = false := decide_eq_false q6
  by_cases q7 : a2 ≥ (l3.length : Int)
  ·rw [if_pos q7] at h
   obtain ⟨rfl, rfl⟩ := Prod.mk.inj h
   have b7 : decide ((l3.length : Int) ≤ a2) = true := decide_eq_true q7
   clear h q2 q3 q6 q7
   go_enter Try.func89, Try.ntmps89
   go_wp2_with fail
   go_ret2
   exact ⟨_, by first | rfl | simp, IRow.nil _ _ _, bel HB.out⟩
  rw [if_neg q7] at h
  have b7 : decide ((l3.length : Int) ≤ a2) = false := decide_eq_false q7
  obtain ⟨ad, e, hx⟩ := Kd.at_int HR3.out a2 (by omega) (by omega)
  subst e
  have d6 : decide (0 ≤ a2) = true := decide_eq_true (by omega)
  have d7 : decide (a2 < (l3.length : Int)) = true := decide_eq_true (by omega)
  have e6 : (0 ≤ a2) = True := eq_true (by omega)
  have e7 : (a2 < (l3.length : Int)) = True := eq_true (by omega)
  clear q6 q7
  by_cases q8 : rd l3 a2 = 0
  ·rw [if_pos q8] at h
   rw [q8] at hx
   clear q8
   unfold runnelref15_Check.t at h
   by_cases q5 : a1 ≥ 16
   ·rw [if_pos q5] at h
    obtain ⟨rfl, rfl⟩ := Prod.mk.inj h
    have b5 : decide (16 ≤ a1) = true := decide_eq_true q5
    clear h q2 q3 q5
    go_enter Try.func89, Try.ntmps89
    go_wp2_with fail
    go_ret2
    exact ⟨_, by first | rfl | simp, IRow.nil _ _ _, bel HB.out⟩
   rw [if_neg q5] at h
   have b5 : decide (16 ≤ a1) = false := decide_eq_false q5
   have hll : (l3.take a1.toNat).length ≤ 16 := by rw [List.length_take]; omega
   have hlj : (l3.take a1.toNat).length = a1.toNat := by rw [List.length_take]; omega
   obtain ⟨i0, hi, hz0, hz1, hz2⟩ := info_parts info3
   have hcut := cut_to (P := Try.prog) 23 3 .i64 Try.underlying23 hi (some ad) l3.length c3 a1 (by omega) (by omega) HC3.out
   have hCt := Kd.C_take (m := a1.toNat) HR3.out (by omega)
   clear hi hz0 hz1 hz2 q2 q3 q5
   obtain ⟨ys, hys⟩ : ∃ ys, ys = l3.take a1.toNat := ⟨_, rfl⟩
   rw [← hys] at hCt hll hlj h
   rw [← hlj] at hcut
   have HYL := zz hll
   have HY := zz hCt
   clear hys hlj hll hCt
   obtain ⟨rfl, rfl⟩ := Prod.mk.inj h
   clear h
   go_enter Try.func89, Try.ntmps89
   go_wp2_with (first | ((with_reducible refine gate_dst (N := 68) rfl ?_); (try (refine gate_guard (by rfl) ?_; dsimp only)); refine Kd.R_lit (Kd.int .i64) _ 3 ?hg (N := 68) ?hd (xs := ([] : List Int)) (inner := []) (ok := fun _ => True) (okp := fun _ => True) ?hr ?hp (fun _ hk => hk) trivial (Below.refl _ _) (Nat.le_refl _) (by simp) ?_; (case hd => rfl); (case hg => rfl); (case hr => first | (go_simp; done) | (go_simp; rfl)); (case hp => exact (Reps.none _ _)); intro v5 w5 ho hb hg_ hnew_; clear hg_ hnew_; have HO5 := zz (Kd.R_lower (Kd.R_mono (Kd.R_bound ho) (fun _ _ => trivial)) (below_size (bel HB.out))); have HB5 := zz (below_step (bel HB.out) hb); clear ho hb) | ((with_reducible refine gate_builtin (b := .append) (xs := #[.tmp 68, .tmp 71]) rfl ?_); at_builtin; refine Kd.R_append_rows (Kd.int .i64) (w0 := w) w.heap.size rfl (.tmp 68) (.tmp 71) 23 3 (.int .i64 0) 8 rfl Try.underlying23 info3 rfl (by decide) (by omega) v5 [] ys _ _ _ (fun _ => True) (fun _ => False) rfl rfl ?aO ?aR (fun _ _ h => h) (fun _ h => h.elim) ?aF ?aB ?aS ?aL ?_; (case aR => exact (Kd.C_below HY.out (bel HB5.out))); (case aB => exact (bel HB5.out)); (case aF => exact (fun _ _ => trivial)); (case aO => exact (rl HO5.out)); (case aS => exact below_size (bel HB5.out)); (case aL => have := HYL.out; simp only [List.length_nil]; omega); intro v6 w6 ho hb hg hat; clear hg hat; simp only [List.nil_append] at ho; have HO6 := zz ho; have HB6 := zz hb; clear ho hb) | ((with_reducible refine gate_builtin (b := .append) (xs := #[.tmp 72, .tmp 73]) rfl ?_); at_builtin; refine Kd.R_append (Kd.int .i64) (w0 := w) w.heap.size rfl (.tmp 72) (.tmp 73) 23 3 (.int .i64 0) 8 rfl Try.underlying23 info3 rfl (by decide) (by omega) v6 ys 0 [.int .i64 0] (fun _ => True) (fun _ => False) rfl rfl ?aP (fun _ hk => hk.elim) ?aF ?aO ?aB ?aS ?aL ?_; (case aP => exact rfl); (case aB => exact (bel HB6.out)); (case aF => exact (fun _ _ => trivial)); (case aO => exact (rl HO6.out)); (case aS => exact (below_size (bel HB6.out))); (case aL => have := HYL.out; omega); intro v7 w7 ho hb hg hat; clear hg hat; have HO7 := zz ho; have HB7 := zz hb; clear ho hb))
   go_ret2
   exact ⟨_, by first | rfl | simp, IRow.of (rl HO7.out), bel HB7.out⟩
  ·rw [if_neg q8] at h
   obtain ⟨rfl, rfl⟩ := Prod.mk.inj h
   have b8 : (rd l3 a2 == 0) = false := beq_eq_false_iff_ne.mpr q8
   have b9 : (rd l3 a2 != 0) = true := bne_iff_ne.mpr q8
   clear h q2 q3 q8
   go_enter Try.func89, Try.ntmps89
   go_wp2_with fail
   go_ret2
   exact ⟨_, by first | rfl | simp, IRow.nil _ _ _, bel HB.out⟩
 ·rw [if_neg (by decide), if_neg (by decide), if_neg (by decide)] at h
  obtain ⟨rfl, rfl⟩ := Prod.mk.inj h
  clear h q2 q3 z0
  go_enter Try.func89, Try.ntmps89
  go_wp2_with fail
  go_ret2
  exact ⟨_, by first | rfl | simp, IRow.arg HV3.out (bel HB.out), bel HB.out⟩
 ·rw [if_neg (by decide), if_neg (by decide), if_neg (by decide)] at h
  obtain ⟨rfl, rfl⟩ := Prod.mk.inj h
  clear h q2 q3 z0
  go_enter Try.func89, Try.ntmps89
  go_wp2_with fail
  go_ret2
  exact ⟨_, by first | rfl | simp, IRow.arg HV3.out (bel HB.out), bel HB.out⟩
 ·rw [if_neg (by decide), if_neg (by decide), if_pos rfl] at h
  clear z0 q2 q3
  by_cases q6 : a2 < 1
  ·rw [if_pos q6] at h
   obtain ⟨rfl, rfl⟩ := Prod.mk.inj h
   have b6 : decide (a2 < 1) = true := decide_eq_true q6
   clear h q6
   go_enter Try.func89, Try.ntmps89
   go_wp2_with fail
   go_ret2
   exact ⟨_, by first | rfl | simp, IRow.nil _ _ _, bel HB.out⟩
  rw [if_neg q6] at h
  have b6 : decide (a2 < 1) = false := decide_eq_false q6
  clear q6
  by_cases q7 : a2 > 1000
  ·rw [if_pos q7] at h
   obtain ⟨rfl, rfl⟩ := Prod.mk.inj h
   have b7 : decide (1000 < a2) = true := decide_eq_true q7
   clear h q7
   go_enter Try.func89, Try.ntmps89
   go_wp2_with fail
   go_ret2
   exact ⟨_, by first | rfl | simp, IRow.nil _ _ _, bel HB.out⟩
  rw [if_neg q7] at h
  have b7 : decide (1000 < a2) = false := decide_eq_false q7
  clear q7
  obtain ⟨rfl, rfl⟩ := Prod.mk.inj h
  clear h
  go_enter Try.func89, Try.ntmps89
  go_wp2_with fail
  go_ret2
  exact ⟨_, by first | rfl | simp, IRow.arg HV3.out (bel HB.out), bel HB.out⟩


end Go.Proofs.Ytdkkollonlmelaa.QPlanChecks
