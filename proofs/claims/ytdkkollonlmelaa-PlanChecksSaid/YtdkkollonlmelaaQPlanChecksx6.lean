-- Written by this session's own program (wip/tools/ownprint.sh)
import Derived.Test.YtdkkollonlmelaaQPlanChecksx0
import Derived.Test.YtdkkollonlmelaaQPlanChecksx1
import Derived.Test.YtdkkollonlmelaaQPlanChecksx4
import Derived.Test.YtdkkollonlmelaaQPlanChecksx5
namespace Go.Proofs.Ytdkkollonlmelaa.QPlanChecks
open Go.RowKit Go.Proofs.YtdkkollonlmelaaW.PrintWords Go.Proofs.YtdkkollonlmelaaW.PrintLast Go.Proofs.YtdkkollonlmelaaW.PrintMore
attribute [local go_sem] max2_int min2_int max_two min_two max_three min_three max_four min_four Go.Proofs.Ytdkkollonlmelaa.Hand.str_gtr Go.Proofs.Ytdkkollonlmelaa.Hand.str_leq Go.Proofs.Ytdkkollonlmelaa.Hand.str_geq   -- for this text's walks alone
set_option linter.unusedVariables false
set_option maxHeartbeats 8000000
set_option maxRecDepth 100000
set_option linter.unusedSimpArgs false


/-! ### expr_kinds_step: function 168, by hand -/
theorem Stk.drew {w0 w : World} {g : Nat} {cv v : Value} {l : List Int} (h : Stk w0 w g cv v l) : Stk w0 w.drew g cv v l :=
 ⟨below_drew h.below, h.ge, blk_drew h.blk, Kd.R_drew h.row⟩
def stepS (k : Nat) (cols : List Int) (o n : Int) (s : ByteArray) (st : List Int) : Option (Int × List Int) :=
 if o = 0 then (if n < 0 then some (9, st) else if n ≥ (cols.length : Int) then some (9, st) else some (pushS (rd cols n) st))
 else if o = 2 then (if (s.size : Int) > 4096 then some (2, st) else some (pushS 1 st))
 else if o = 1 then some (pushS 0 st)
 else if o < 0 then some (8, st) else if o ≥ 19 then some (8, st)
 else (expr_arity.f k o).bind fun a => if a < 0 then none else if (st.length : Int) < a then some (6, st) else (expr_made.f k o (st.drop ((st.length : Int) - a).toNat)).bind fun m => if m.2 = true then some (pushS m.1 (st.take ((st.length : Int) - a).toNat)) else some (80, st)
theorem cell_same {w w1 : World} {b i : Nat} (h : w1.heap[b]? = w.heap[b]?) : w1.cell? ⟨b, i, none⟩ = w.cell? ⟨b, i, none⟩ := by
 simp only [World.cell?, h]
theorem step_str_long (w0 w : World) (g : Nat) (A : Option Addr) (c : Nat) (cols : List Int) (v : Value) (l : List Int) (o n : Int) (s : ByteArray) (h : Stk w0 w g (.slice A cols.length c) v l) (hR : Kd.C (Kd.int .i64) w0 A cols.length cols) (hcc : cols.length ≤ c) (hm : l.length ≤ 16) (ho : o = 2) (hs : (s.size : Int) > 4096) :
  Calls Try.prog 168 #[.pointer (some ⟨g, 0, none⟩), .agg #[.int .i64 o, .int .i64 n, .string s]] w fun e w' => Told w0 w' g (.slice A cols.length c) ((2, l)) e := by
 have huT := Try.underlying128
 have huK := Try.underlying218
 have HS := zz h
 have HR := zz hR
 have HM := zz hm
 clear h hR hm
 have eo01 : (o == 0) = false := beq_eq_false_iff_ne.mpr (by omega)
 have eo02 : (o != 0) = true := bne_iff_ne.mpr (by omega)
 have eo21 : (o == 2) = true := beq_iff_eq.mpr (by omega)
 have eo22 : (o != 2) = false := bne_eq_false_iff_eq.mpr (by omega)
 have c1 : decide (4096 < (s.size : Int)) = true := decide_eq_true hs
 have c2 : decide (4096 < s.size) = true := decide_eq_true (by omega)
 clear ho hs
 go_enter Try.func168, Try.ntmps168
 go_wp2_with ((with_reducible refine gate_dst (N := 3) rfl ?_); refine box_event ?hg (N := 3) ?hd (cs := #[.int .i64 o, .int .i64 n, .string s]) (t := 128) ?hr ?_; (case hd => rfl); (case hg => rfl); (case hr => first | (go_simp; done) | (go_simp; rfl)); intro gb hgb w1 hbox hb; have HS1 := zz (HS.out.step hb); have HR1 := zz (Kd.C_below HR.out (HS.out.step hb).below); have hb0 : w1.cell? ⟨gb, 0, none⟩ = some (.int .i64 o) := (blk_cell hbox 0).trans rfl; have hb1 : w1.cell? ⟨gb, 1, none⟩ = some (.int .i64 n) := (blk_cell hbox 1).trans rfl; have hb2 : w1.cell? ⟨gb, 2, none⟩ = some (.string s) := (blk_cell hbox 2).trans rfl; have hc0 : w1.cell? ⟨g, 0, none⟩ = some (.slice A cols.length c) := (blk_cell HS1.out.blk 0).trans rfl; clear hb hbox hgb)
 go_ret
 exact ⟨rfl, HS1.out.below, fun h => absurd h (show ¬ (2 : Int) = 0 by decide)⟩

theorem step_str (w0 w : World) (g : Nat) (A : Option Addr) (c : Nat) (cols : List Int) (v : Value) (l : List Int) (o n : Int) (s : ByteArray) (h : Stk w0 w g (.slice A cols.length c) v l) (hR : Kd.C (Kd.int .i64) w0 A cols.length cols) (hcc : cols.length ≤ c) (hm : l.length ≤ 16) (ho : o = 2) (hs : ¬ (s.size : Int) > 4096) :
  Calls Try.prog 168 #[.pointer (some ⟨g, 0, none⟩), .agg #[.int .i64 o, .int .i64 n, .string s]] w fun e w' => Told w0 w' g (.slice A cols.length c) (pushS 1 l) e := by
 have huT := Try.underlying128
 have huK := Try.underlying218
 have HS := zz h
 have HR := zz hR
 have HM := zz hm
 clear h hR hm
 have eo01 : (o == 0) = false := beq_eq_false_iff_ne.mpr (by omega)
 have eo02 : (o != 0) = true := bne_iff_ne.mpr (by omega)
 have eo21 : (o == 2) = true := beq_iff_eq.mpr (by omega)
 have eo22 : (o != 2) = false := bne_eq_false_iff_eq.mpr (by omega)
 have c1 : decide (4096 < (s.size : Int)) = false := decide_eq_false hs
 have c2 : decide (4096 < s.size) = false := decide_eq_false (by omega)
 clear ho hs
 go_enter Try.func168, Try.ntmps168
 go_wp2_with (first | ((with_reducible refine gate_dst (N := 3) rfl ?_); refine box_event ?hg (N := 3) ?hd (cs := #[.int .i64 o, .int .i64 n, .string s]) (t := 128) ?hr ?_; (case hd => rfl); (case hg => rfl); (case hr => first | (go_simp; done) | (go_simp; rfl)); intro gb hgb w1 hbox hb; have HS1 := zz (HS.out.step hb); have HR1 := zz (Kd.C_below HR.out (HS.out.step hb).below); have hb0 : w1.cell? ⟨gb, 0, none⟩ = some (.int .i64 o) := (blk_cell hbox 0).trans rfl; have hb1 : w1.cell? ⟨gb, 1, none⟩ = some (.int .i64 n) := (blk_cell hbox 1).trans rfl; have hb2 : w1.cell? ⟨gb, 2, none⟩ = some (.string s) := (blk_cell hbox 2).trans rfl; have hc0 : w1.cell? ⟨g, 0, none⟩ = some (.slice A cols.length c) := (blk_cell HS1.out.blk 0).trans rfl; clear hb hbox hgb) | ((with_reducible refine gate_callee (f := 183) rfl ?_); refine goesL_ (some 43) rfl rfl Try.func183 (by kernel_rfl) rfl #[.pointer (some ⟨g, 0, none⟩), .int .i64 1] rfl (by (try simp only [List.map_toArray, List.map_cons, List.map_nil]); rfl) ?_; (refine (push_told w0 _ g (.slice A cols.length c) v l 1 (by with_reducible first | exact HS1.out | exact HS1.out.drewN _ | exact HS1.out.drewN 1) HM.out).mono ?_); rintro e w' ht; obtain ⟨rfl, htb, hts⟩ := ht; refine ⟨_, rfl, ?_⟩; have HT := zz htb; have HT2 := zz hts; clear htb hts))
 go_ret
 exact ⟨rfl, HT.out, HT2.out⟩

theorem step_int (w0 w : World) (g : Nat) (A : Option Addr) (c : Nat) (cols : List Int) (v : Value) (l : List Int) (o n : Int) (s : ByteArray) (h : Stk w0 w g (.slice A cols.length c) v l) (hR : Kd.C (Kd.int .i64) w0 A cols.length cols) (hcc : cols.length ≤ c) (hm : l.length ≤ 16) (ho : o = 1) :
  Calls Try.prog 168 #[.pointer (some ⟨g, 0, none⟩), .agg #[.int .i64 o, .int .i64 n, .string s]] w fun e w' => Told w0 w' g (.slice A cols.length c) (pushS 0 l) e := by
 have huT := Try.underlying128
 have huK := Try.underlying218
 have HS := zz h
 have HR := zz hR
 have HM := zz hm
 clear h hR hm
 have eo01 : (o == 0) = false := beq_eq_false_iff_ne.mpr (by omega)
 have eo02 : (o != 0) = true := bne_iff_ne.mpr (by omega)
 have eo21 : (o == 2) = false := beq_eq_false_iff_ne.mpr (by omega)
 have eo22 : (o != 2) = true := bne_iff_ne.mpr (by omega)
 have eo11 : (o == 1) = true := beq_iff_eq.mpr (by omega)
 have eo12 : (o != 1) = false := bne_eq_false_iff_eq.mpr (by omega)
 clear ho
 go_enter Try.func168, Try.ntmps168
 go_wp2_with (first | ((with_reducible refine gate_dst (N := 3) rfl ?_); refine box_event ?hg (N := 3) ?hd (cs := #[.int .i64 o, .int .i64 n, .string s]) (t := 128) ?hr ?_; (case hd => rfl); (case hg => rfl); (case hr => first | (go_simp; done) | (go_simp; rfl)); intro gb hgb w1 hbox hb; have HS1 := zz (HS.out.step hb); have HR1 := zz (Kd.C_below HR.out (HS.out.step hb).below); have hb0 : w1.cell? ⟨gb, 0, none⟩ = some (.int .i64 o) := (blk_cell hbox 0).trans rfl; have hb1 : w1.cell? ⟨gb, 1, none⟩ = some (.int .i64 n) := (blk_cell hbox 1).trans rfl; have hb2 : w1.cell? ⟨gb, 2, none⟩ = some (.string s) := (blk_cell hbox 2).trans rfl; have hc0 : w1.cell? ⟨g, 0, none⟩ = some (.slice A cols.length c) := (blk_cell HS1.out.blk 0).trans rfl; clear hb hbox hgb) | ((with_reducible refine gate_callee (f := 183) rfl ?_); refine goesL_ (some 47) rfl rfl Try.func183 (by kernel_rfl) rfl #[.pointer (some ⟨g, 0, none⟩), .int .i64 0] rfl (by (try simp only [List.map_toArray, List.map_cons, List.map_nil]); rfl) ?_; (refine (push_told w0 _ g (.slice A cols.length c) v l 0 (by with_reducible first | exact HS1.out | exact HS1.out.drewN _ | exact HS1.out.drewN 1) HM.out).mono ?_); rintro e w' ht; obtain ⟨rfl, htb, hts⟩ := ht; refine ⟨_, rfl, ?_⟩; have HT := zz htb; have HT2 := zz hts; clear htb hts))
 go_ret
 exact ⟨rfl, HT.out, HT2.out⟩

theorem step_col_low (w0 w : World) (g : Nat) (A : Option Addr) (c : Nat) (cols : List Int) (v : Value) (l : List Int) (o n : Int) (s : ByteArray) (h : Stk w0 w g (.slice A cols.length c) v l) (hR : Kd.C (Kd.int .i64) w0 A cols.length cols) (hcc : cols.length ≤ c) (hm : l.length ≤ 16) (ho : o = 0) (hn : n < 0) :
  Calls Try.prog 168 #[.pointer (some ⟨g, 0, none⟩), .agg #[.int .i64 o, .int .i64 n, .string s]] w fun e w' => Told w0 w' g (.slice A cols.length c) ((9, l)) e := by
 have huT := Try.underlying128
 have huK := Try.underlying218
 have HS := zz h
 have HR := zz hR
 have HM := zz hm
 clear h hR hm
 have eo01 : (o == 0) = true := beq_iff_eq.mpr (by omega)
 have eo02 : (o != 0) = false := bne_eq_false_iff_eq.mpr (by omega)
 have c1 : decide (n < 0) = true := decide_eq_true hn
 clear ho hn
 go_enter Try.func168, Try.ntmps168
 go_wp2_with ((with_reducible refine gate_dst (N := 3) rfl ?_); refine box_event ?hg (N := 3) ?hd (cs := #[.int .i64 o, .int .i64 n, .string s]) (t := 128) ?hr ?_; (case hd => rfl); (case hg => rfl); (case hr => first | (go_simp; done) | (go_simp; rfl)); intro gb hgb w1 hbox hb; have HS1 := zz (HS.out.step hb); have HR1 := zz (Kd.C_below HR.out (HS.out.step hb).below); have hb0 : w1.cell? ⟨gb, 0, none⟩ = some (.int .i64 o) := (blk_cell hbox 0).trans rfl; have hb1 : w1.cell? ⟨gb, 1, none⟩ = some (.int .i64 n) := (blk_cell hbox 1).trans rfl; have hb2 : w1.cell? ⟨gb, 2, none⟩ = some (.string s) := (blk_cell hbox 2).trans rfl; have hc0 : w1.cell? ⟨g, 0, none⟩ = some (.slice A cols.length c) := (blk_cell HS1.out.blk 0).trans rfl; clear hb hbox hgb)
 go_quiet (fail)
 go_wp2
 go_ret
 exact ⟨rfl, (HS1.out.drewN _).below, fun h => absurd h (show ¬ (9 : Int) = 0 by decide)⟩

theorem step_col_high (w0 w : World) (g : Nat) (A : Option Addr) (c : Nat) (cols : List Int) (v : Value) (l : List Int) (o n : Int) (s : ByteArray) (h : Stk w0 w g (.slice A cols.length c) v l) (hR : Kd.C (Kd.int .i64) w0 A cols.length cols) (hcc : cols.length ≤ c) (hm : l.length ≤ 16) (ho : o = 0) (hn : ¬ n < 0) (hk : n ≥ (cols.length : Int)) :
  Calls Try.prog 168 #[.pointer (some ⟨g, 0, none⟩), .agg #[.int .i64 o, .int .i64 n, .string s]] w fun e w' => Told w0 w' g (.slice A cols.length c) ((9, l)) e := by
 have huT := Try.underlying128
 have huK := Try.underlying218
 have HS := zz h
 have HR := zz hR
 have HM := zz hm
 clear h hR hm
 have eo01 : (o == 0) = true := beq_iff_eq.mpr (by omega)
 have eo02 : (o != 0) = false := bne_eq_false_iff_eq.mpr (by omega)
 have c1 : decide (n < 0) = false := decide_eq_false hn
 have c2 : decide ((cols.length : Int) ≤ n) = true := decide_eq_true hk
 clear ho hn hk
 go_enter Try.func168, Try.ntmps168
 go_wp2_with ((with_reducible refine gate_dst (N := 3) rfl ?_); refine box_event ?hg (N := 3) ?hd (cs := #[.int .i64 o, .int .i64 n, .string s]) (t := 128) ?hr ?_; (case hd => rfl); (case hg => rfl); (case hr => first | (go_simp; done) | (go_simp; rfl)); intro gb hgb w1 hbox hb; have HS1 := zz (HS.out.step hb); have HR1 := zz (Kd.C_below HR.out (HS.out.step hb).below); have hb0 : w1.cell? ⟨gb, 0, none⟩ = some (.int .i64 o) := (blk_cell hbox 0).trans rfl; have hb1 : w1.cell? ⟨gb, 1, none⟩ = some (.int .i64 n) := (blk_cell hbox 1).trans rfl; have hb2 : w1.cell? ⟨gb, 2, none⟩ = some (.string s) := (blk_cell hbox 2).trans rfl; have hc0 : w1.cell? ⟨g, 0, none⟩ = some (.slice A cols.length c) := (blk_cell HS1.out.blk 0).trans rfl; clear hb hbox hgb)
 go_quiet (fail)
 go_wp2
 go_ret
 exact ⟨rfl, (HS1.out.drewN _).below, fun h => absurd h (show ¬ (9 : Int) = 0 by decide)⟩

theorem step_col (w0 w : World) (g : Nat) (A : Option Addr) (c : Nat) (cols : List Int) (v : Value) (l : List Int) (o n : Int) (s : ByteArray) (h : Stk w0 w g (.slice A cols.length c) v l) (hR : Kd.C (Kd.int .i64) w0 A cols.length cols) (hcc : cols.length ≤ c) (hm : l.length ≤ 16) (ho : o = 0) (hn : ¬ n < 0) (hk : ¬ n ≥ (cols.length : Int)) :
  Calls Try.prog 168 #[.pointer (some ⟨g, 0, none⟩), .agg #[.int .i64 o, .int .i64 n, .string s]] w fun e w' => Told w0 w' g (.slice A cols.length c) (pushS (rd cols n) l) e := by
 have huT := Try.underlying128
 have huK := Try.underlying218
 have HS := zz h
 have HR := zz hR
 have HM := zz hm
 clear h hR hm
 have eo01 : (o == 0) = true := beq_iff_eq.mpr (by omega)
 have eo02 : (o != 0) = false := bne_eq_false_iff_eq.mpr (by omega)
 have c1 : decide (n < 0) = false := decide_eq_false hn
 have c2 : decide ((cols.length : Int) ≤ n) = false := decide_eq_false hk
 have hn0 : 0 ≤ n := by omega
 have hn1 : n < (cols.length : Int) := by omega
 clear ho hn hk
 go_enter Try.func168, Try.ntmps168
 go_wp2_with (((with_reducible refine gate_dst (N := 3) rfl ?_); refine box_event ?hg (N := 3) ?hd (cs := #[.int .i64 o, .int .i64 n, .string s]) (t := 128) ?hr ?_; (case hd => rfl); (case hg => rfl); (case hr => first | (go_simp; done) | (go_simp; rfl)); intro gb hgb w1 hbox hb; have HS1 := zz (HS.out.step hb); have HR1 := zz (Kd.C_below HR.out (HS.out.step hb).below); have hb0 : w1.cell? ⟨gb, 0, none⟩ = some (.int .i64 o) := (blk_cell hbox 0).trans rfl; have hb1 : w1.cell? ⟨gb, 1, none⟩ = some (.int .i64 n) := (blk_cell hbox 1).trans rfl; have hb2 : w1.cell? ⟨gb, 2, none⟩ = some (.string s) := (blk_cell hbox 2).trans rfl; have hc0 : w1.cell? ⟨g, 0, none⟩ = some (.slice A cols.length c) := (blk_cell HS1.out.blk 0).trans rfl; clear hb hbox hgb); obtain ⟨ad, e_, hcol⟩ := Kd.at_int HR1.out n hn0 hn1; subst e_)
 go_quiet (fail)
 go_wp2_with fail
 have HS2 := zz (HS1.out.drewN nq)
 have hd1 : (w1.drewN nq).cell? ⟨gb, 1, none⟩ = some (.int .i64 n) := hb1
 have hd0 : (w1.drewN nq).cell? ⟨g, 0, none⟩ = some (.slice (some ad) cols.length c) := hc0
 have hd2 : (w1.drewN nq).cell? (ad.add n.toNat) = some (.int .i64 (rd cols n)) := hcol
 clear hb0 hb1 hb2 hc0 hcol HS1 HR1
 generalize w1.drewN nq = w2 at *
 go_still_tail 9, (by kernel_rfl)
 change wpList _ _ _ _ _ (World.drew _)
 go_wp2_with ((with_reducible refine gate_callee (f := 183) rfl ?_); refine goesL_ (some 35) rfl rfl Try.func183 (by kernel_rfl) rfl #[.pointer (some ⟨g, 0, none⟩), .int .i64 (rd cols n)] rfl (by (try simp only [List.map_toArray, List.map_cons, List.map_nil]); rfl) ?_; (refine (push_told w0 _ g (.slice (some ad) cols.length c) v l (rd cols n) (by with_reducible first | exact HS2.out.drew) HM.out).mono ?_); rintro e w' ht; obtain ⟨rfl, htb, hts⟩ := ht; refine ⟨_, rfl, ?_⟩; have HT := zz htb; have HT2 := zz hts; clear htb hts)
 go_ret
 exact ⟨rfl, HT.out, HT2.out⟩

theorem step_low (w0 w : World) (g : Nat) (A : Option Addr) (c : Nat) (cols : List Int) (v : Value) (l : List Int) (o n : Int) (s : ByteArray) (h : Stk w0 w g (.slice A cols.length c) v l) (hR : Kd.C (Kd.int .i64) w0 A cols.length cols) (hcc : cols.length ≤ c) (hm : l.length ≤ 16) (ho : o < 0) :
  Calls Try.prog 168 #[.pointer (some ⟨g, 0, none⟩), .agg #[.int .i64 o, .int .i64 n, .string s]] w fun e w' => Told w0 w' g (.slice A cols.length c) ((8, l)) e := by
 have huT := Try.underlying128
 have huK := Try.underlying218
 have HS := zz h
 have HR := zz hR
 have HM := zz hm
 clear h hR hm
 have eo01 : (o == 0) = false := beq_eq_false_iff_ne.mpr (by omega)
 have eo02 : (o != 0) = true := bne_iff_ne.mpr (by omega)
 have eo21 : (o == 2) = false := beq_eq_false_iff_ne.mpr (by omega)
 have eo22 : (o != 2) = true := bne_iff_ne.mpr (by omega)
 have eo11 : (o == 1) = false := beq_eq_false_iff_ne.mpr (by omega)
 have eo12 : (o != 1) = true := bne_iff_ne.mpr (by omega)
 have c1 : decide (o < 0) = true := decide_eq_true ho
 clear ho
 go_enter Try.func168, Try.ntmps168
 go_wp2_with ((with_reducible refine gate_dst (N := 3) rfl ?_); refine box_event ?hg (N := 3) ?hd (cs := #[.int .i64 o, .int .i64 n, .string s]) (t := 128) ?hr ?_; (case hd => rfl); (case hg => rfl); (case hr => first | (go_simp; done) | (go_simp; rfl)); intro gb hgb w1 hbox hb; have HS1 := zz (HS.out.step hb); have HR1 := zz (Kd.C_below HR.out (HS.out.step hb).below); have hb0 : w1.cell? ⟨gb, 0, none⟩ = some (.int .i64 o) := (blk_cell hbox 0).trans rfl; have hb1 : w1.cell? ⟨gb, 1, none⟩ = some (.int .i64 n) := (blk_cell hbox 1).trans rfl; have hb2 : w1.cell? ⟨gb, 2, none⟩ = some (.string s) := (blk_cell hbox 2).trans rfl; have hc0 : w1.cell? ⟨g, 0, none⟩ = some (.slice A cols.length c) := (blk_cell HS1.out.blk 0).trans rfl; clear hb hbox hgb)
 go_ret
 exact ⟨rfl, HS1.out.below, fun h => absurd h (show ¬ (8 : Int) = 0 by decide)⟩

theorem step_high (w0 w : World) (g : Nat) (A : Option Addr) (c : Nat) (cols : List Int) (v : Value) (l : List Int) (o n : Int) (s : ByteArray) (h : Stk w0 w g (.slice A cols.length c) v l) (hR : Kd.C (Kd.int .i64) w0 A cols.length cols) (hcc : cols.length ≤ c) (hm : l.length ≤ 16) (ho : ¬ o < 0) (ho2 : o ≥ 19) :
  Calls Try.prog 168 #[.pointer (some ⟨g, 0, none⟩), .agg #[.int .i64 o, .int .i64 n, .string s]] w fun e w' => Told w0 w' g (.slice A cols.length c) ((8, l)) e := by
 have huT := Try.underlying128
 have huK := Try.underlying218
 have HS := zz h
 have HR := zz hR
 have HM := zz hm
 clear h hR hm
 have eo01 : (o == 0) = false := beq_eq_false_iff_ne.mpr (by omega)
 have eo02 : (o != 0) = true := bne_iff_ne.mpr (by omega)
 have eo21 : (o == 2) = false := beq_eq_false_iff_ne.mpr (by omega)
 have eo22 : (o != 2) = true := bne_iff_ne.mpr (by omega)
 have eo11 : (o == 1) = false := beq_eq_false_iff_ne.mpr (by omega)
 have eo12 : (o != 1) = true := bne_iff_ne.mpr (by omega)
 have c1 : decide (o < 0) = false := decide_eq_false ho
 have c2 : decide (19 ≤ o) = true := decide_eq_true ho2
 clear ho ho2
 go_enter Try.func168, Try.ntmps168
 go_wp2_with ((with_reducible refine gate_dst (N := 3) rfl ?_); refine box_event ?hg (N := 3) ?hd (cs := #[.int .i64 o, .int .i64 n, .string s]) (t := 128) ?hr ?_; (case hd => rfl); (case hg => rfl); (case hr => first | (go_simp; done) | (go_simp; rfl)); intro gb hgb w1 hbox hb; have HS1 := zz (HS.out.step hb); have HR1 := zz (Kd.C_below HR.out (HS.out.step hb).below); have hb0 : w1.cell? ⟨gb, 0, none⟩ = some (.int .i64 o) := (blk_cell hbox 0).trans rfl; have hb1 : w1.cell? ⟨gb, 1, none⟩ = some (.int .i64 n) := (blk_cell hbox 1).trans rfl; have hb2 : w1.cell? ⟨gb, 2, none⟩ = some (.string s) := (blk_cell hbox 2).trans rfl; have hc0 : w1.cell? ⟨g, 0, none⟩ = some (.slice A cols.length c) := (blk_cell HS1.out.blk 0).trans rfl; clear hb hbox hgb)
 go_ret
 exact ⟨rfl, HS1.out.below, fun h => absurd h (show ¬ (8 : Int) = 0 by decide)⟩

theorem step_short (w0 w : World) (g : Nat) (A : Option Addr) (c : Nat) (cols : List Int) (v : Value) (l : List Int) (o n : Int) (s : ByteArray) (h : Stk w0 w g (.slice A cols.length c) v l) (hR : Kd.C (Kd.int .i64) w0 A cols.length cols) (hcc : cols.length ≤ c) (hm : l.length ≤ 16) (k : Nat) (a : Int) (ho : ¬ o < 0) (ho2 : ¬ o ≥ 19) (ho3 : o ≠ 0 ∧ o ≠ 1 ∧ o ≠ 2) (ha : expr_arity.f k o = some a) (hl : (l.length : Int) < a) :
  Calls Try.prog 168 #[.pointer (some ⟨g, 0, none⟩), .agg #[.int .i64 o, .int .i64 n, .string s]] w fun e w' => Told w0 w' g (.slice A cols.length c) ((6, l)) e := by
 have huT := Try.underlying128
 have huK := Try.underlying218
 have HS := zz h
 have HR := zz hR
 have HM := zz hm
 clear h hR hm
 have eo01 : (o == 0) = false := beq_eq_false_iff_ne.mpr (by omega)
 have eo02 : (o != 0) = true := bne_iff_ne.mpr (by omega)
 have eo21 : (o == 2) = false := beq_eq_false_iff_ne.mpr (by omega)
 have eo22 : (o != 2) = true := bne_iff_ne.mpr (by omega)
 have eo11 : (o == 1) = false := beq_eq_false_iff_ne.mpr (by omega)
 have eo12 : (o != 1) = true := bne_iff_ne.mpr (by omega)
 have c1 : decide (o < 0) = false := decide_eq_false ho
 have c2 : decide (19 ≤ o) = false := decide_eq_false ho2
 have HA := zz ha
 have HL := zz hl
 clear ho ho2 ho3 ha hl
 go_enter Try.func168, Try.ntmps168
 go_wp2_with (first | ((with_reducible refine gate_dst (N := 3) rfl ?_); refine box_event ?hg (N := 3) ?hd (cs := #[.int .i64 o, .int .i64 n, .string s]) (t := 128) ?hr ?_; (case hd => rfl); (case hg => rfl); (case hr => first | (go_simp; done) | (go_simp; rfl)); intro gb hgb w1 hbox hb; have HS1 := zz (HS.out.step hb); have HR1 := zz (Kd.C_below HR.out (HS.out.step hb).below); have hb0 : w1.cell? ⟨gb, 0, none⟩ = some (.int .i64 o) := (blk_cell hbox 0).trans rfl; have hb1 : w1.cell? ⟨gb, 1, none⟩ = some (.int .i64 n) := (blk_cell hbox 1).trans rfl; have hb2 : w1.cell? ⟨gb, 2, none⟩ = some (.string s) := (blk_cell hbox 2).trans rfl; have hc0 : w1.cell? ⟨g, 0, none⟩ = some (.slice A cols.length c) := (blk_cell HS1.out.blk 0).trans rfl; clear hb hbox hgb) | ((with_reducible refine gate_callee (f := 153) rfl ?_); refine goesL_ (some 60) rfl rfl Try.func153 (by kernel_rfl) rfl #[.int .i64 o] rfl (by (try simp only [List.map_toArray, List.map_cons, List.map_nil]); rfl) ?_; (refine (expr_arity.calls k o a _ HA.out).mono ?_); rintro e w' ⟨rfl, ⟨nd, rfl⟩⟩; refine ⟨_, rfl, ?_⟩) | ((with_reducible refine gate_callee (f := 184) rfl ?_); refine goesL_ (some 61) rfl rfl Try.func184 (by kernel_rfl) rfl #[.pointer (some ⟨g, 0, none⟩), .int .i64 a] rfl (by (try simp only [List.map_toArray, List.map_cons, List.map_nil]); rfl) ?_; (refine (take_short w0 _ g (.slice A cols.length c) v l a (HS1.out.drewN _) HL.out).mono ?_); rintro e w2 ⟨rfl, rfl⟩; refine ⟨_, rfl, ?_⟩))
 go_ret
 exact ⟨rfl, (HS1.out.drewN _).below, fun h => absurd h (show ¬ (6 : Int) = 0 by decide)⟩

theorem step_wrong (w0 w : World) (g : Nat) (A : Option Addr) (c : Nat) (cols : List Int) (v : Value) (l : List Int) (o n : Int) (s : ByteArray) (h : Stk w0 w g (.slice A cols.length c) v l) (hR : Kd.C (Kd.int .i64) w0 A cols.length cols) (hcc : cols.length ≤ c) (hm : l.length ≤ 16) (k : Nat) (a : Int) (ys : List Int) (m1 : Int) (ho : ¬ o < 0) (ho2 : ¬ o ≥ 19) (ho3 : o ≠ 0 ∧ o ≠ 1 ∧ o ≠ 2) (ha : expr_arity.f k o = some a) (ha0 : 0 ≤ a) (hl : a ≤ (l.length : Int)) (hy : l.drop ((l.length : Int) - a).toNat = ys) (hf : expr_made.f k o ys = some (m1, false)) :
  Calls Try.prog 168 #[.pointer (some ⟨g, 0, none⟩), .agg #[.int .i64 o, .int .i64 n, .string s]] w fun e w' => Told w0 w' g (.slice A cols.length c) ((80, l)) e := by
 have huT := Try.underlying128
 have huK := Try.underlying218
 have HS := zz h
 have HR := zz hR
 have HM := zz hm
 clear h hR hm
 have eo01 : (o == 0) = false := beq_eq_false_iff_ne.mpr (by omega)
 have eo02 : (o != 0) = true := bne_iff_ne.mpr (by omega)
 have eo21 : (o == 2) = false := beq_eq_false_iff_ne.mpr (by omega)
 have eo22 : (o != 2) = true := bne_iff_ne.mpr (by omega)
 have eo11 : (o == 1) = false := beq_eq_false_iff_ne.mpr (by omega)
 have eo12 : (o != 1) = true := bne_iff_ne.mpr (by omega)
 have c1 : decide (o < 0) = false := decide_eq_false ho
 have c2 : decide (19 ≤ o) = false := decide_eq_false ho2
 have HA := zz ha
 have H0 := zz ha0
 have HL := zz hl
 have HY := zz hy
 have HF := zz hf
 clear ho ho2 ho3 ha ha0 hl hy hf
 go_enter Try.func168, Try.ntmps168
 go_wp2_with (first | ((with_reducible refine gate_dst (N := 3) rfl ?_); refine box_event ?hg (N := 3) ?hd (cs := #[.int .i64 o, .int .i64 n, .string s]) (t := 128) ?hr ?_; (case hd => rfl); (case hg => rfl); (case hr => first | (go_simp; done) | (go_simp; rfl)); intro gb hgb w1 hbox hb; have HG := zz (show gb < (w1.drewN 0).heap.size ∧ gb ≠ g from ⟨blk_lt hbox, (by have := HS.out.lt; rw [hgb]; omega)⟩); have HS1 := zz (HS.out.step hb); have HR1 := zz (Kd.C_below HR.out (HS.out.step hb).below); have hb0 : w1.cell? ⟨gb, 0, none⟩ = some (.int .i64 o) := (blk_cell hbox 0).trans rfl; have hb1 : w1.cell? ⟨gb, 1, none⟩ = some (.int .i64 n) := (blk_cell hbox 1).trans rfl; have hb2 : w1.cell? ⟨gb, 2, none⟩ = some (.string s) := (blk_cell hbox 2).trans rfl; have hc0 : w1.cell? ⟨g, 0, none⟩ = some (.slice A cols.length c) := (blk_cell HS1.out.blk 0).trans rfl; clear hb hbox hgb) | ((with_reducible refine gate_callee (f := 153) rfl ?_); refine goesL_ (some 60) rfl rfl Try.func153 (by kernel_rfl) rfl #[.int .i64 o] rfl (by (try simp only [List.map_toArray, List.map_cons, List.map_nil]); rfl) ?_; (refine (expr_arity.calls k o a _ HA.out).mono ?_); rintro e w' ⟨rfl, ⟨nd, rfl⟩⟩; refine ⟨_, rfl, ?_⟩) | ((with_reducible refine gate_callee (f := 184) rfl ?_); refine goesL_ (some 61) rfl rfl Try.func184 (by kernel_rfl) rfl #[.pointer (some ⟨g, 0, none⟩), .int .i64 a] rfl (by (try simp only [List.map_toArray, List.map_cons, List.map_nil]); rfl) ?_; (refine (take_some w0 _ g (.slice A cols.length c) v l a (HS1.out.drewN _) H0.out HL.out HM.out).mono ?_); rintro e w2 ⟨v0, v', rfl, ho, hs, hk⟩; obtain ⟨A2, c2, hv0⟩ := Kd.R_slice ho; subst hv0; refine ⟨_, rfl, ?_⟩; obtain ⟨A3, c3, he3, hc3, hC3⟩ := Kd.R_reads ho; obtain ⟨rfl, rfl⟩ : A2 = A3 ∧ c2 = c3 := (by injection he3 with h1 h2 h3; exact ⟨h1, h3⟩); have hk0 : w2.cell? ⟨gb, 0, none⟩ = some (.int .i64 o) := (cell_same (hk gb HG.out.1 HG.out.2)).trans hb0; rw [HY.out] at hC3 hc3 ⊢; have HC3 := zz hC3; have Hc3 := zz hc3; have HS3 := zz hs; clear he3 hC3 hc3 ho hs hk) | ((with_reducible refine gate_callee (f := 185) rfl ?_); refine goesL_ (some 71) rfl rfl Try.func185 (by kernel_rfl) rfl #[.int .i64 o, .slice A2 ys.length c2] rfl (by (try simp only [List.map_toArray, List.map_cons, List.map_nil]); rfl) ?_; (refine (expr_made.calls k o A2 c2 ys m1 false _ HC3.out Hc3.out HF.out).mono ?_); rintro e w3 ⟨rfl, hb⟩; refine ⟨_, rfl, ?_⟩; have HS4 := zz (HS3.out.step hb); clear hb))
 go_ret
 exact ⟨rfl, HS4.out.below, fun h => absurd h (show ¬ (80 : Int) = 0 by decide)⟩

theorem step_made (w0 w : World) (g : Nat) (A : Option Addr) (c : Nat) (cols : List Int) (v : Value) (l : List Int) (o n : Int) (s : ByteArray) (h : Stk w0 w g (.slice A cols.length c) v l) (hR : Kd.C (Kd.int .i64) w0 A cols.length cols) (hcc : cols.length ≤ c) (hm : l.length ≤ 16) (k : Nat) (a : Int) (ys : List Int) (m1 : Int) (ho : ¬ o < 0) (ho2 : ¬ o ≥ 19) (ho3 : o ≠ 0 ∧ o ≠ 1 ∧ o ≠ 2) (ha : expr_arity.f k o = some a) (ha0 : 0 ≤ a) (hl : a ≤ (l.length : Int)) (hy : l.drop ((l.length : Int) - a).toNat = ys) (hf : expr_made.f k o ys = some (m1, true)) :
  Calls Try.prog 168 #[.pointer (some ⟨g, 0, none⟩), .agg #[.int .i64 o, .int .i64 n, .string s]] w fun e w' => Told w0 w' g (.slice A cols.length c) (pushS m1 (l.take ((l.length : Int) - a).toNat)) e := by
 have huT := Try.underlying128
 have huK := Try.underlying218
 have HS := zz h
 have HR := zz hR
 have HM := zz hm
 clear h hR hm
 have eo01 : (o == 0) = false := beq_eq_false_iff_ne.mpr (by omega)
 have eo02 : (o != 0) = true := bne_iff_ne.mpr (by omega)
 have eo21 : (o == 2) = false := beq_eq_false_iff_ne.mpr (by omega)
 have eo22 : (o != 2) = true := bne_iff_ne.mpr (by omega)
 have eo11 : (o == 1) = false := beq_eq_false_iff_ne.mpr (by omega)
 have eo12 : (o != 1) = true := bne_iff_ne.mpr (by omega)
 have c1 : decide (o < 0) = false := decide_eq_false ho
 have c2 : decide (19 ≤ o) = false := decide_eq_false ho2
 have HA := zz ha
 have H0 := zz ha0
 have HL := zz hl
 have HY := zz hy
 have HF := zz hf
 clear ho ho2 ho3 ha ha0 hl hy hf
 go_enter Try.func168, Try.ntmps168
 go_wp2_with (first | ((with_reducible refine gate_dst (N := 3) rfl ?_); refine box_event ?hg (N := 3) ?hd (cs := #[.int .i64 o, .int .i64 n, .string s]) (t := 128) ?hr ?_; (case hd => rfl); (case hg => rfl); (case hr => first | (go_simp; done) | (go_simp; rfl)); intro gb hgb w1 hbox hb; have HG := zz (show gb < (w1.drewN 0).heap.size ∧ gb ≠ g from ⟨blk_lt hbox, (by have := HS.out.lt; rw [hgb]; omega)⟩); have HS1 := zz (HS.out.step hb); have HR1 := zz (Kd.C_below HR.out (HS.out.step hb).below); have hb0 : w1.cell? ⟨gb, 0, none⟩ = some (.int .i64 o) := (blk_cell hbox 0).trans rfl; have hb1 : w1.cell? ⟨gb, 1, none⟩ = some (.int .i64 n) := (blk_cell hbox 1).trans rfl; have hb2 : w1.cell? ⟨gb, 2, none⟩ = some (.string s) := (blk_cell hbox 2).trans rfl; have hc0 : w1.cell? ⟨g, 0, none⟩ = some (.slice A cols.length c) := (blk_cell HS1.out.blk 0).trans rfl; clear hb hbox hgb) | ((with_reducible refine gate_callee (f := 153) rfl ?_); refine goesL_ (some 60) rfl rfl Try.func153 (by kernel_rfl) rfl #[.int .i64 o] rfl (by (try simp only [List.map_toArray, List.map_cons, List.map_nil]); rfl) ?_; (refine (expr_arity.calls k o a _ HA.out).mono ?_); rintro e w' ⟨rfl, ⟨nd, rfl⟩⟩; refine ⟨_, rfl, ?_⟩) | ((with_reducible refine gate_callee (f := 184) rfl ?_); refine goesL_ (some 61) rfl rfl Try.func184 (by kernel_rfl) rfl #[.pointer (some ⟨g, 0, none⟩), .int .i64 a] rfl (by (try simp only [List.map_toArray, List.map_cons, List.map_nil]); rfl) ?_; (refine (take_some w0 _ g (.slice A cols.length c) v l a (HS1.out.drewN _) H0.out HL.out HM.out).mono ?_); rintro e w2 ⟨v0, v', rfl, ho, hs, hk⟩; obtain ⟨A2, c2, hv0⟩ := Kd.R_slice ho; subst hv0; refine ⟨_, rfl, ?_⟩; obtain ⟨A3, c3, he3, hc3, hC3⟩ := Kd.R_reads ho; obtain ⟨rfl, rfl⟩ : A2 = A3 ∧ c2 = c3 := (by injection he3 with h1 h2 h3; exact ⟨h1, h3⟩); have hk0 : w2.cell? ⟨gb, 0, none⟩ = some (.int .i64 o) := (cell_same (hk gb HG.out.1 HG.out.2)).trans hb0; rw [HY.out] at hC3 hc3 ⊢; have HC3 := zz hC3; have Hc3 := zz hc3; have HS3 := zz hs; clear he3 hC3 hc3 ho hs hk) | ((with_reducible refine gate_callee (f := 185) rfl ?_); refine goesL_ (some 71) rfl rfl Try.func185 (by kernel_rfl) rfl #[.int .i64 o, .slice A2 ys.length c2] rfl (by (try simp only [List.map_toArray, List.map_cons, List.map_nil]); rfl) ?_; (refine (expr_made.calls k o A2 c2 ys m1 true _ HC3.out Hc3.out HF.out).mono ?_); rintro e w3 ⟨rfl, hb⟩; refine ⟨_, rfl, ?_⟩; have HS4 := zz (HS3.out.step hb); clear hb) | ((with_reducible refine gate_callee (f := 183) rfl ?_); refine goesL_ (some 78) rfl rfl Try.func183 (by kernel_rfl) rfl #[.pointer (some ⟨g, 0, none⟩), .int .i64 m1] rfl (by (try simp only [List.map_toArray, List.map_cons, List.map_nil]); rfl) ?_; (refine (push_told w0 _ g (.slice A cols.length c) _ _ m1 (by with_reducible exact HS4.out) (by have := HM.out; rw [List.length_take]; omega)).mono ?_); rintro e w' ht; obtain ⟨rfl, htb, hts⟩ := ht; refine ⟨_, rfl, ?_⟩; have HT := zz htb; have HT2 := zz hts; clear htb hts))
 go_ret
 exact ⟨rfl, HT.out, HT2.out⟩

theorem step_told (k : Nat) (w0 w : World) (g : Nat) (A : Option Addr) (c : Nat) (cols : List Int) (v : Value) (l : List Int) (o n : Int) (s : ByteArray) (r : Int × List Int) (h : Stk w0 w g (.slice A cols.length c) v l) (hR : Kd.C (Kd.int .i64) w0 A cols.length cols) (hcc : cols.length ≤ c) (hm : l.length ≤ 16) (hf : stepS k cols o n s l = some r) :
  Calls Try.prog 168 #[.pointer (some ⟨g, 0, none⟩), .agg #[.int .i64 o, .int .i64 n, .string s]] w fun e w' => Told w0 w' g (.slice A cols.length c) r e := by
 unfold stepS at hf
 by_cases o0 : o = 0
 ·rw [if_pos o0] at hf
  by_cases n0 : n < 0
  ·rw [if_pos n0] at hf; obtain rfl := Option.some.inj hf
   exact step_col_low w0 w g A c cols v l o n s h hR hcc hm o0 n0
  ·rw [if_neg n0] at hf
   by_cases n1 : n ≥ (cols.length : Int)
   ·rw [if_pos n1] at hf; obtain rfl := Option.some.inj hf
    exact step_col_high w0 w g A c cols v l o n s h hR hcc hm o0 n0 n1
   ·rw [if_neg n1] at hf; obtain rfl := Option.some.inj hf
    exact step_col w0 w g A c cols v l o n s h hR hcc hm o0 n0 n1
 rw [if_neg o0] at hf
 by_cases o2 : o = 2
 ·rw [if_pos o2] at hf
  by_cases n0 : (s.size : Int) > 4096
  ·rw [if_pos n0] at hf; obtain rfl := Option.some.inj hf
   exact step_str_long w0 w g A c cols v l o n s h hR hcc hm o2 n0
  ·rw [if_neg n0] at hf; obtain rfl := Option.some.inj hf
   exact step_str w0 w g A c cols v l o n s h hR hcc hm o2 n0
 rw [if_neg o2] at hf
 by_cases o1 : o = 1
 ·rw [if_pos o1] at hf; obtain rfl := Option.some.inj hf
  exact step_int w0 w g A c cols v l o n s h hR hcc hm o1
 rw [if_neg o1] at hf
 by_cases ol : o < 0
 ·rw [if_pos ol] at hf; obtain rfl := Option.some.inj hf
  exact step_low w0 w g A c cols v l o n s h hR hcc hm ol
 rw [if_neg ol] at hf
 by_cases oh : o ≥ 19
 ·rw [if_pos oh] at hf; obtain rfl := Option.some.inj hf
  exact step_high w0 w g A c cols v l o n s h hR hcc hm ol oh
 rw [if_neg oh] at hf
 obtain ⟨a, ha, hf⟩ := Option.bind_eq_some_iff.1 hf
 by_cases a0 : a < 0
 ·rw [if_pos a0] at hf; cases hf
 rw [if_neg a0] at hf
 by_cases al : (l.length : Int) < a
 ·rw [if_pos al] at hf; obtain rfl := Option.some.inj hf
  exact step_short w0 w g A c cols v l o n s h hR hcc hm k a ol oh ⟨o0, o1, o2⟩ ha al
 rw [if_neg al] at hf
 obtain ⟨⟨m1, m2⟩, hm2, hf⟩ := Option.bind_eq_some_iff.1 hf
 cases m2 with
 | true =>
  obtain rfl := Option.some.inj hf
  exact step_made w0 w g A c cols v l o n s h hR hcc hm k a _ m1 ol oh ⟨o0, o1, o2⟩ ha (by omega) (by omega) rfl hm2
 | false =>
  obtain rfl := Option.some.inj hf
  exact step_wrong w0 w g A c cols v l o n s h hR hcc hm k a _ m1 ol oh ⟨o0, o1, o2⟩ ha (by omega) (by omega) rfl hm2
theorem stepS_mono (k : Nat) (cols : List Int) (o n : Int) (s : ByteArray) (st : List Int) : LeO (stepS k cols o n s st) (stepS (k + 1) cols o n s st) := by
 unfold stepS
 repeat' first
   | (with_reducible exact LeO.refl _)
   | (with_reducible exact LeO.none _)
   | (with_reducible exact expr_arity.mono _ _)
   | (with_reducible exact expr_made.mono _ _ _)
   | (with_reducible refine LeO.ite ?_ ?_)
   | (with_reducible refine LeO.bind ?_ (fun _ => ?_))
theorem pushS_le {k : Int} {st : List Int} (h : st.length ≤ 16) : (pushS k st).2.length ≤ 16 := by
 unfold pushS
 split
 ·exact h
 ·simp; omega
theorem stepS_le {k : Nat} {cols : List Int} {o n : Int} {s : ByteArray} {st : List Int} {r : Int × List Int} (hf : stepS k cols o n s st = some r) (h : st.length ≤ 16) : r.2.length ≤ 16 := by
 unfold stepS at hf
 have ht : ∀ m : Nat, (st.take m).length ≤ 16 := fun m => by rw [List.length_take]; omega
 repeat' split at hf
 all_goals first | (obtain rfl := Option.some.inj hf; first | exact h | exact pushS_le h) | skip
 obtain ⟨a, ha, hf⟩ := Option.bind_eq_some_iff.1 hf
 split at hf
 ·cases hf
 split at hf
 ·obtain rfl := Option.some.inj hf; exact h
 obtain ⟨m, hm, hf⟩ := Option.bind_eq_some_iff.1 hf
 split at hf
 ·obtain rfl := Option.some.inj hf; exact pushS_le (ht _)
 ·obtain rfl := Option.some.inj hf; exact h



/-! ### expr_Type: function 152, by hand -/
def expr_Type.l0 : Nat → List S128 → List Int → List Int → Int → Option (Int × Int × Int)
 | 0, _, _, _, _ => none
 | k + 1, x0, x1, st, i => if i < (x0.length : Int) then ((stepS k x1 (rd_T128 x0 i).f0 (rd_T128 x0 i).f1 (rd_T128 x0 i).f2 st).bind fun r => if r.1 = 0 then expr_Type.l0 k x0 x1 r.2 (i + 1) else some (0, r.1, i)) else if st.length = 1 then some (rd st 0, 0, (x0.length : Int)) else some (0, 6, (x0.length : Int))
def expr_Type.f (k : Nat) (l0 : List S128) (l1 : List Int) : Option (Int × Int × Int) := if (l0.length : Int) = 0 then some (0, 1, 0) else if (l0.length : Int) > 64 then some (0, 3, 0) else expr_Type.l0 k l0 l1 [] 0
theorem expr_Type.mono_l : ∀ k x0 x1 st i, LeO (expr_Type.l0 k x0 x1 st i) (expr_Type.l0 (k + 1) x0 x1 st i)
 | 0 => fun _ _ _ _ r h => by simp [expr_Type.l0] at h
 | k + 1 => by
  intro x0 x1 st i
  have ih := expr_Type.mono_l k
  unfold expr_Type.l0
  refine LeO.ite (LeO.bind (stepS_mono _ _ _ _ _ _) (fun r => LeO.ite (ih _ _ _ _) (LeO.refl _))) (LeO.refl _)
theorem expr_Type.mono : ∀ a0 a1 k, LeO (expr_Type.f k a0 a1) (expr_Type.f (k + 1) a0 a1) := by
 intro a0 a1 k
 unfold expr_Type.f
 exact LeO.ite (LeO.refl _) (LeO.ite (LeO.refl _) (expr_Type.mono_l k _ _ _ _))
theorem expr_Type.calls (k : Nat) (A0 : Option Addr) (c0 : Nat) (l0 : List S128) (A1 : Option Addr) (c1 : Nat) (l1 : List Int) (r1 : Int) (r2 : Int) (r3 : Int) (w : World) (hr0 : Kd.C k128 w A0 l0.length l0) (hc0 : l0.length ≤ c0) (hr1 : Kd.C (Kd.int .i64) w A1 l1.length l1) (hc1 : l1.length ≤ c1) (h : expr_Type.f k l0 l1 = some (r1, r2, r3)) :
  Calls Try.prog 152 #[.slice A0 l0.length c0, .slice A1 l1.length c1] w fun e w' => e = .returned (.tuple #[.int .i64 r1, .int .i64 r2, .int .i64 r3]) ∧ Below w.heap.size w w' := by
 have huT := Try.underlying128
 have huK := Try.underlying218
 have HR0 := zz hr0
 have HR1 := zz hr1
 have hlen := hr0.2.1
 clear hr0 hr1
 unfold expr_Type.f at h
 by_cases z : (l0.length : Int) = 0
 ·rw [if_pos z] at h
  simp only [Option.some.injEq, Prod.mk.injEq] at h
  obtain ⟨rfl, rfl, rfl⟩ := h
  have e1 : ((l0.length : Int) == 0) = true := beq_iff_eq.mpr z
  have e2 : (l0.length == 0) = true := beq_iff_eq.mpr (by omega)
  clear z
  go_enter Try.func152, Try.ntmps152
  go_wp2
  go_ret3
  exact ⟨rfl, Below.refl _ _⟩
 rw [if_neg z] at h
 have e1 : ((l0.length : Int) == 0) = false := beq_eq_false_iff_ne.mpr z
 by_cases y : (l0.length : Int) > 64
 ·rw [if_pos y] at h
  simp only [Option.some.injEq, Prod.mk.injEq] at h
  obtain ⟨rfl, rfl, rfl⟩ := h
  have d1 : decide (64 < (l0.length : Int)) = true := decide_eq_true y
  have d2 : decide (64 < l0.length) = true := decide_eq_true (by omega)
  clear z y
  go_enter Try.func152, Try.ntmps152
  go_wp2
  go_ret3
  exact ⟨rfl, Below.refl _ _⟩
 rw [if_neg y] at h
 have d1 : decide (64 < (l0.length : Int)) = false := decide_eq_false y
 have d2 : decide (64 < l0.length) = false := decide_eq_false (by omega)
 have H := zz h
 clear z y h
 go_enter Try.func152, Try.ntmps152
 go_wp2
 go_loopg [24] k (fun kq v24 w' => ∃ (i : Int) (st : List Int) (v : Value), v24 = .int .i64 i ∧ 0 ≤ i ∧ i ≤ l0.length ∧ Aside0 (expr_Type.l0 kq l0 l1 st i = some (r1, r2, r3)) ∧ Aside0 (kq ≤ k) ∧ Aside0 (Stk w w' w.heap.size (.slice A1 l1.length c1) v st) ∧ Aside0 (st.length ≤ 16))
 case atStart => exact ⟨0, [], .slice none 0 0, rfl, by omega, by omega, H, ⟨Nat.le_refl _⟩, ⟨below_alloc (Below.refl _ _) _, Nat.le_refl _, heap_alloc_new w _, Kd.R_nil _ _ _ _ _⟩, ⟨by simp⟩⟩
 case round =>
  clear H
  obtain ⟨i, st, v, rfl, hi0, hi1, HA, HK, HS, HM⟩ := hrel
  cases gk with
  | zero => exact absurd HA.out (by simp [expr_Type.l0])
  | succ k1 =>
   have H := HA.out
   clear HA
   simp only [expr_Type.l0] at H
   by_cases hlt : i < (l0.length : Int)
   ·rw [if_pos hlt] at H
    obtain ⟨⟨rc, rst⟩, hr, H⟩ := Option.bind_eq_some_iff.1 H
    have b1 : decide (i < (l0.length : Int)) = true := decide_eq_true hlt
    obtain ⟨ad, e_, hx0, hx1, hx2⟩ := at_T128 (Kd.C_below HR0.out HS.out.below) i hi0 hlt
    subst e_
    have hle := zz (stepS_le hr HM.out)
    have HF := zz hr
    clear hr
    by_cases e0 : rc = 0
    ·subst e0
     rw [if_pos rfl] at H
     have H' := zz H
     clear H
     go_wp2_with fail
     refine (step_told k1 w _ w.heap.size A1 c1 l1 v st _ _ _ (0, rst) (HS.out.step (below_alloc (Below.refl _ _) _)) HR1.out hc1 HM.out HF.out).mono ?_
     rintro e w2 ⟨rfl, htb, hts⟩
     obtain ⟨v', hs'⟩ := hts rfl
     have HS' := zz hs'
     clear hs' hts htb hx0 hx1 hx2
     go_wp2
     go_roundg k1
     case measure => have := HK.out; omega
     case rel => exact ⟨i + 1, rst, v', rfl, by omega, by omega, H', ⟨by have := HK.out; omega⟩, HS', hle⟩
    ·rw [if_neg e0] at H
     simp only [Option.some.injEq, Prod.mk.injEq] at H
     obtain ⟨rfl, rfl, rfl⟩ := H
     have f1 : (rc == 0) = false := beq_eq_false_iff_ne.mpr e0
     have f2 : (rc != 0) = true := bne_iff_ne.mpr e0
     clear e0
     go_wp2_with fail
     refine (step_told k1 w _ w.heap.size A1 c1 l1 v st _ _ _ (rc, rst) (HS.out.step (below_alloc (Below.refl _ _) _)) HR1.out hc1 HM.out HF.out).mono ?_
     rintro e w2 ⟨rfl, htb, hts⟩
     have HB2 := zz htb
     clear hts htb hx0 hx1 hx2
     go_wp2
     go_ret3
     exact ⟨rfl, HB2.out⟩
   ·rw [if_neg hlt] at H
    have b1 : decide (i < (l0.length : Int)) = false := decide_eq_false hlt
    obtain ⟨Av, cv, hv⟩ := Kd.R_slice HS.out.row
    subst hv
    have hg1 : wr.cell? ⟨w.heap.size, 1, none⟩ = some (.slice Av st.length cv) := (blk_cell HS.out.blk 1).trans rfl
    by_cases e1 : st.length = 1
    ·rw [if_pos e1] at H
     simp only [Option.some.injEq, Prod.mk.injEq] at H
     obtain ⟨rfl, rfl, rfl⟩ := H
     obtain ⟨A_, c_, he_, hcc, hC⟩ := Kd.R_reads HS.out.row
     obtain ⟨rfl, rfl⟩ : Av = A_ ∧ cv = c_ := by injection he_ with h1 h2 h3; exact ⟨h1, h3⟩
     obtain ⟨ad, e_, hx⟩ := Kd.at_int hC 0 (by omega) (by omega)
     subst e_
     have hx' : wr.cell? ad = some (.int .i64 (rd st 0)) := hx
     rw [e1] at hg1
     have HE1 := zz e1
     clear e1 hx hC he_ hlt
     go_wp2
     go_ret3
     exact ⟨rfl, HS.out.below⟩
    ·rw [if_neg e1] at H
     simp only [Option.some.injEq, Prod.mk.injEq] at H
     obtain ⟨rfl, rfl, rfl⟩ := H
     have f1 : ((st.length : Int) == 1) = false := beq_eq_false_iff_ne.mpr (by omega)
     have f2 : ((st.length : Int) != 1) = true := bne_iff_ne.mpr (by omega)
     have f3 : (st.length == 1) = false := beq_eq_false_iff_ne.mpr e1
     clear e1 hlt
     go_wp2
     go_ret3
     exact ⟨rfl, HS.out.below⟩


/-! ### plan_mapped: function 128 -/
def plan_mapped.l0 : Nat → List Int → Int → List Int → List (List (S128)) → Int → Int → Option (List Int × Int × Int)
 | 0, _, _, _, _, _, _ => none
 | k + 1, x1, x2, x7, x25, x26, x27 => if x27 < x26 then (if 0 ≤ x27 then (if x27 < (x25.length : Int) then ((expr_Type.f k (rd_L4 x25 x27) x1).bind fun bt162 => ((plan_must.f bt162.2.1 x2).bind fun bt165 => (if bt165.1 = 0 then (if x7.length < 17592186044416 then (plan_mapped.l0 k x1 x2 (x7 ++ [bt162.1]) x25 x26 (wrap64 (x27 + 1))) else (none)) else (some (([] : List Int), bt165.1, bt165.2))))) else (none)) else (none)) else (some (x7, 0, 0))
def plan_mapped.f (k : Nat) (l0 : List (List (S128))) (l1 : List Int) (a2 : Int) : Option (List Int × Int × Int) := if (l0.length : Int) = 0 then (some (([] : List Int), 1, a2)) else (if (l0.length : Int) > 16 then (some (([] : List Int), 3, a2)) else (plan_mapped.l0 k l1 a2 ([] : List Int) l0 (l0.length : Int) 0))
theorem plan_mapped.mono_l : ∀ k, (∀ y0 y1 y2 y3 y4 y5, LeO (plan_mapped.l0 k y0 y1 y2 y3 y4 y5) (plan_mapped.l0 (k + 1) y0 y1 y2 y3 y4 y5))
 | 0 => fun _ _ _ _ _ _ r h => by simp [plan_mapped.l0] at h
 | k + 1 => by
  have ih0 := plan_mapped.mono_l k
  ·intro y0 y1 y2 y3 y4 y5
   unfold plan_mapped.l0
   repeat' first
   | (with_reducible exact ih0 _ _ _ _ _ _)
   | (with_reducible exact expr_Type.mono _ _ _)
   | (with_reducible exact LeO.refl _)
   | (with_reducible exact LeO.none _)
   | (with_reducible refine LeO.ite ?_ ?_)
   | (with_reducible refine LeO.bind ?_ (fun _ => ?_))
   | exact ih0 _ _ _ _ _ _
   | exact expr_Type.mono _ _ _
   | exact LeO.none _
   | refine LeO.ite ?_ ?_
   | refine LeO.bind ?_ (fun _ => ?_)
theorem plan_mapped.mono : ∀ a0 a1 a2 k, LeO (plan_mapped.f k a0 a1 a2) (plan_mapped.f (k + 1) a0 a1 a2) := by
 intro a0 a1 a2 k
 have ih0 := plan_mapped.mono_l k
 unfold plan_mapped.f
 repeat' first
   | (with_reducible exact ih0 _ _ _ _ _ _)
   | (with_reducible exact expr_Type.mono _ _ _)
   | (with_reducible exact LeO.refl _)
   | (with_reducible exact LeO.none _)
   | (with_reducible refine LeO.ite ?_ ?_)
   | (with_reducible refine LeO.bind ?_ (fun _ => ?_))
   | exact ih0 _ _ _ _ _ _
   | exact expr_Type.mono _ _ _
   | exact LeO.none _
   | refine LeO.ite ?_ ?_
   | refine LeO.bind ?_ (fun _ => ?_)
theorem plan_mapped.calls (k : Nat) (A0 : Option Addr) (c0 : Nat) (l0 : List (List (S128))) (A1 : Option Addr) (c1 : Nat) (l1 : List Int) (a2 : Int) (r1 : List Int) (r2 : Int) (r3 : Int) (w : World) (hr0 : Kd.C (Kd.slice 128 k128) w A0 l0.length l0) (hc0 : l0.length ≤ c0) (hr1 : Kd.C (Kd.int .i64) w A1 l1.length l1) (hc1 : l1.length ≤ c1) (h : plan_mapped.f k l0 l1 a2 = some (r1, r2, r3)) :
  Calls Try.prog 128 #[.slice A0 l0.length c0, .slice A1 l1.length c1, .int .i64 a2] w fun e w' => (r2 = 0 → ∃ v0_ : Value, e = .returned (v0_) ∧ Kd.R (Kd.int .i64) 3 w' w.heap.size (fun _ => True) v0_ r1 ∧ True) ∧ (r2 ≠ 0 → e = .panicked [{ v := .iface 177 (.agg #[.int .i64 r2, .int .i64 r3]), recovered := false }]) ∧ Below w.heap.size w w' := by
 have HR0 := zz hr0
 have HC0 := zz hc0
 clear hr0 hc0
 have HR1 := zz hr1
 have HC1 := zz hc1
 clear hr1 hc1
 have HB := zz (Below.refl w.heap.size w)
 have H := h
 unfold plan_mapped.f at H
 clear h
 by_cases c4 : (l0.length : Int) = 0
 ·rw [if_pos c4] at H
  have c4b0 : ((l0.length : Int) == 0) = true := beq_iff_eq.mpr c4
  have c4b1 : ((l0.length : Int) != 0) = false := bne_eq_false_iff_eq.mpr c4
  clear c4
  simp only [Option.some.injEq, Prod.mk.injEq] at H
  obtain ⟨rfl, rfl, rfl⟩ := H
  go_enter Try.func128, Try.ntmps128
  go_wp2_with (first | (go_at_call 119; (with_reducible refine (plan_fail.calls 1 a2 _).mono ?_); rintro e w' ⟨rfl, rfl⟩))
  ((try simp only [Exit.inBlock, Exit.then]); refine Go.Proofs.Ytdkkollonlmelaa.Hand.bodyPost_fail (by rfl) ?_)
  exact ⟨fun h_ => absurd h_ (by first | decide | exact HNE.out | (intro z_; simp_all)), fun _ => rfl, bel HB.out⟩
 ·rw [if_neg c4] at H
  have c4b0 : ((l0.length : Int) == 0) = false := beq_eq_false_iff_ne.mpr c4
  have c4b1 : ((l0.length : Int) != 0) = true := bne_iff_ne.mpr c4
  have c4b2 : ¬ (l0 = []) := fun h_ => c4 (by rw [h_]; rfl)
  by_cases c5 : (l0.length : Int) > 16
  ·rw [if_pos c5] at H
   have c5b0 : decide (16 < (l0.length : Int)) = true := decide_eq_true c5
   have c5b1 : decide (16 < l0.length) = true := decide_eq_true (by omega)
   clear c5
   simp only [Option.some.injEq, Prod.mk.injEq] at H
   obtain ⟨rfl, rfl, rfl⟩ := H
   go_enter Try.func128, Try.ntmps128
   go_wp2_with (first | (go_at_call 119; (with_reducible refine (plan_fail.calls 3 a2 _).mono ?_); rintro e w' ⟨rfl, rfl⟩))
   ((try simp only [Exit.inBlock, Exit.then]); refine Go.Proofs.Ytdkkollonlmelaa.Hand.bodyPost_fail (by rfl) ?_)
   exact ⟨fun h_ => absurd h_ (by first | decide | exact HNE.out | (intro z_; simp_all)), fun _ => rfl, bel HB.out⟩
  ·rw [if_neg c5] at H
   have c5b0 : decide (16 < (l0.length : Int)) = false := decide_eq_false c5
   have c5b1 : decide (16 < l0.length) = false := decide_eq_false (by omega)
   clear c5
   have H' := zz H
   clear H
   go_enter Try.func128, Try.ntmps128
   go_wp2
   go_loopg [7, 27] k (fun kq v7 v27 w' => ∃ (x7_1 : List Int) (x27_1 : Int), v27 = .int .i64 x27_1 ∧ Aside0 (plan_mapped.l0 kq l1 a2 x7_1 l0 (l0.length : Int) x27_1 = some (r1, r2, r3)) ∧ Aside0 (kq ≤ k) ∧ Aside0 (Kd.R (Kd.int .i64) 3 w' w.heap.size (fun _ => True) v7 x7_1) ∧ Aside0 (Below w.heap.size w w'))
   case atStart => exact ⟨(([] : List Int)), (0), (by first | rfl | (simp; done) | (simp [*]; done)), H', ⟨Nat.le_refl _⟩, ⟨by first | exact Kd.R_nil _ _ _ _ _ | exact Kd.N_nil _ _ _ _ _ | exact Kd.V_nil _ _ _ _ _ | exact Kd.Q_nil _ _ _ _ _ | exact Kd.S_nil _ _ _ _ _⟩, ⟨bel HB.out⟩⟩
   case round =>
    clear H'
    try clear c1; try clear c4; try clear c4b0; try clear c4b1; try clear c4b2; try clear c5; try clear c5b0; try clear c5b1
    obtain ⟨x7_1, x27_1, rfl, HA, HK1, HO_7, HB⟩ := hrel
    cases gk with
    | zero => exact absurd HA.out (by simp [plan_mapped.l0])
    | succ k1 =>
     have H := HA.out
     clear HA
     simp only [plan_mapped.l0] at H
     by_cases c6 : x27_1 < (l0.length : Int)
     ·rw [if_pos c6] at H
      have c6b0 : decide (x27_1 < (l0.length : Int)) = true := decide_eq_true c6
      clear c6
      by_cases c7 : 0 ≤ x27_1
      ·rw [if_pos c7] at H
       have c7b0 : decide (0 ≤ x27_1) = true := decide_eq_true c7
       clear c7
       by_cases c8 : x27_1 < (l0.length : Int)
       ·rw [if_pos c8] at H
        have c8b0 : decide (x27_1 < (l0.length : Int)) = true := decide_eq_true c8
        clear c8
        obtain ⟨⟨t162, t163, t164⟩, A90, H⟩ := Option.bind_eq_some_iff.mp H
        try dsimp only at H
        have A9 := zz A90
        clear A90
        obtain ⟨⟨t165, t166⟩, A100, H⟩ := Option.bind_eq_some_iff.mp H
        try dsimp only at H
        have A10 := zz A100
        clear A100
        by_cases c11 : t165 = 0
        ·subst c11
         rw [if_pos rfl] at H
         by_cases c12 : x7_1.length < 17592186044416
         ·rw [if_pos c12] at H
          have LMc12 := zz c12
          clear c12
          obtain ⟨y167, hy167⟩ : ∃ y_ : List Int, y_ = (x7_1 ++ [t162]) := ⟨_, rfl⟩
          replace H : (plan_mapped.l0 k1 l1 a2 y167 l0 (l0.length : Int) (wrap64 (x27_1 + 1))) = some (r1, r2, r3) := by first | (rw [hy167]; with_reducible exact H) | (have H2_ := (Option.bind_some _ _).symm.trans H; rw [hy167]; with_reducible exact H2_) | (have H2_ := (Option.bind_some _ _).symm.trans H; with_reducible exact H2_) | with_reducible exact H | (rw [hy167]; exact H) | exact H
          have Ny167 := zz hy167
          clear hy167
          have H' := zz H
          clear H
          have p161 : 0 ≤ (x27_1 : Int) := of_decide_eq_true (by first | (with_reducible assumption) | assumption)
          have q161 : x27_1 < (l0.length : Int) := of_decide_eq_true (by first | (with_reducible assumption) | assumption)
          obtain ⟨ad161, A161_0, c161_0, e161, hx161_0, hl161_0, hi161_0⟩ := at_L4 HR0.out x27_1 p161 q161
          cases e161
          replace hx161_0 := (HB.out.cell (World.block_lt_of_cell? w _ hx161_0)).trans hx161_0
          have HR161_0 := zz hi161_0
          have HC161_0 := zz hl161_0
          clear hi161_0 hl161_0
          replace p161 := eq_true p161
          replace q161 := eq_true q161
          go_wp2_with (first | ((with_reducible refine gate_callee (f := 152) rfl ?_); refine goesL_ (some 34) rfl rfl Try.func152 (by kernel_rfl) rfl #[.slice A161_0 (rd_L4 l0 x27_1).length c161_0, .slice A1 l1.length c1] rfl (by (try simp only [List.map_toArray, List.map_cons, List.map_nil]); first | done | rfl | (simp only [List.length_drop, List.length_take]; rfl)) ?_; (with_reducible refine (expr_Type.calls k1 _ _ (rd_L4 l0 x27_1) _ _ l1 t162 t163 t164 _ ?side1 ?side2 ?side3 ?side4 A9.out).mono ?_); (case side1 => repeat (first | exact (Kd.C_below HR161_0.out HB.out) | (with_reducible refine Kd.C_alloc ?_ _) | (with_reducible refine Kd.C_drewN ?_ _) | (with_reducible refine Kd.C_drew ?_))); (case side2 => exact HC161_0.out); (case side3 => repeat (first | exact (Kd.C_below HR1.out HB.out) | (with_reducible refine Kd.C_alloc ?_ _) | (with_reducible refine Kd.C_drewN ?_ _) | (with_reducible refine Kd.C_drew ?_))); (case side4 => exact HC1.out); rintro e w13 ⟨rfl, hb⟩; refine ⟨_, rfl, ?_⟩; have n0_ := zz (Kd.R_below (rl HO_7.out) hb); have n1_ := zz (below_step (bel HB.out) hb); clear HO_7; clear HB; have HO_7 := n0_; have HB := n1_; clear n0_ n1_; (try clear hb); (try clear hb2); (try clear hk); (try clear hi)) | ((with_reducible refine gate_callee (f := 127) rfl ?_); refine goesL_ (some 40) rfl rfl Try.func127 (by kernel_rfl) rfl #[.int .i64 t163, .int .i64 a2] rfl (by (try simp only [List.map_toArray, List.map_cons, List.map_nil]); first | done | rfl | (simp only [List.length_drop, List.length_take]; rfl)) ?_; (with_reducible refine (plan_must.calls t163 a2 0 t166 _ A10.out).mono ?_); rintro e w14 ⟨hok_, -, hb⟩; obtain ⟨rfl, -⟩ := hok_ rfl; refine ⟨_, rfl, ?_⟩; have n0_ := zz (Kd.R_below (rl HO_7.out) hb); have n1_ := zz (below_step (bel HB.out) hb); clear HO_7; clear HB; have HO_7 := n0_; have HB := n1_; clear n0_ n1_; (try clear hb); (try clear hb2); (try clear hk); (try clear hi)) | ((with_reducible refine gate_builtin (b := .append) (xs := #[.tmp 41, .tmp 43]) rfl ?_); at_builtin; refine Kd.R_append (Kd.int .i64) (w0 := w) w.heap.size rfl (.tmp 41) (.tmp 43) 23 3 (.int .i64 0) 8 rfl Try.underlying23 info3 rfl (by decide) (by omega) u7 x7_1 t162 [.int .i64 t162] (fun _ => True) (fun _ => False) rfl rfl ?aP (fun _ hk => hk.elim) ?aF ?aO ?aB ?aS ?aL ?_; (case aP => exact rfl); (case aB => exact (bel HB.out)); (case aF => exact (fun _ _ => trivial)); (case aO => exact (rl HO_7.out)); (case aS => exact (below_size (bel HB.out))); (case aL => have := LMc12.out; omega); intro v168 w15 ho hb hg hat; rw [← Ny167.out] at ho; have n0_ := zz (hb); have n1_ := zz (ho); clear HB; clear HO_7; have HB := n0_; have HO169 := n1_; clear n0_ n1_; clear ho hb hg hat))
          go_roundg k1
          case measure => have := HK1.out; omega
          case rel => exact ⟨(y167), (wrap64 (x27_1 + 1)), (by first | rfl | (simp; done) | (simp [*]; done)), H', ⟨by have := HK1.out; omega⟩, ⟨rl HO169.out⟩, ⟨bel HB.out⟩⟩
         ·rw [if_neg c12] at H
          exact absurd H (by simp)
        ·rw [if_neg c11] at H
         have HNE := zz c11
         clear c11
         simp only [Option.some.injEq, Prod.mk.injEq] at H
         obtain ⟨rfl, rfl, rfl⟩ := H
         have p161 : 0 ≤ (x27_1 : Int) := of_decide_eq_true (by first | (with_reducible assumption) | assumption)
         have q161 : x27_1 < (l0.length : Int) := of_decide_eq_true (by first | (with_reducible assumption) | assumption)
         obtain ⟨ad161, A161_0, c161_0, e161, hx161_0, hl161_0, hi161_0⟩ := at_L4 HR0.out x27_1 p161 q161
         cases e161
         replace hx161_0 := (HB.out.cell (World.block_lt_of_cell? w _ hx161_0)).trans hx161_0
         have HR161_0 := zz hi161_0
         have HC161_0 := zz hl161_0
         clear hi161_0 hl161_0
         replace p161 := eq_true p161
         replace q161 := eq_true q161
         go_wp2_with (first | ((with_reducible refine gate_callee (f := 152) rfl ?_); refine goesL_ (some 34) rfl rfl Try.func152 (by kernel_rfl) rfl #[.slice A161_0 (rd_L4 l0 x27_1).length c161_0, .slice A1 l1.length c1] rfl (by (try simp only [List.map_toArray, List.map_cons, List.map_nil]); first | done | rfl | (simp only [List.length_drop, List.length_take]; rfl)) ?_; (with_reducible refine (expr_Type.calls k1 _ _ (rd_L4 l0 x27_1) _ _ l1 t162 t163 t164 _ ?side1 ?side2 ?side3 ?side4 A9.out).mono ?_); (case side1 => repeat (first | exact (Kd.C_below HR161_0.out HB.out) | (with_reducible refine Kd.C_alloc ?_ _) | (with_reducible refine Kd.C_drewN ?_ _) | (with_reducible refine Kd.C_drew ?_))); (case side2 => exact HC161_0.out); (case side3 => repeat (first | exact (Kd.C_below HR1.out HB.out) | (with_reducible refine Kd.C_alloc ?_ _) | (with_reducible refine Kd.C_drewN ?_ _) | (with_reducible refine Kd.C_drew ?_))); (case side4 => exact HC1.out); rintro e w16 ⟨rfl, hb⟩; refine ⟨_, rfl, ?_⟩; have n0_ := zz (Kd.R_below (rl HO_7.out) hb); have n1_ := zz (below_step (bel HB.out) hb); clear HO_7; clear HB; have HO_7 := n0_; have HB := n1_; clear n0_ n1_; (try clear hb); (try clear hb2); (try clear hk); (try clear hi)) | (go_at_call 127; (with_reducible refine (plan_must.calls t163 a2 t165 t166 _ A10.out).mono ?_); rintro e w17 ⟨-, hno_, hb⟩; obtain rfl := hno_ HNE.out; have n0_ := zz (below_step (bel HB.out) hb); clear HB; have HB := n0_; clear n0_; (try clear hb)))
         ((try simp only [Exit.inBlock, Exit.then]); refine Go.Proofs.Ytdkkollonlmelaa.Hand.bodyPost_fail (by rfl) ?_)
         exact ⟨fun h_ => absurd h_ (by first | decide | exact HNE.out | (intro z_; simp_all)), fun _ => rfl, bel HB.out⟩
       ·rw [if_neg c8] at H
        exact absurd H (by simp)
      ·rw [if_neg c7] at H
       exact absurd H (by simp)
     ·rw [if_neg c6] at H
      have c6b0 : decide (x27_1 < (l0.length : Int)) = false := decide_eq_false c6
      clear c6
      simp only [Option.some.injEq, Prod.mk.injEq] at H
      obtain ⟨rfl, rfl, rfl⟩ := H
      go_wp2
      go_ret
      first | (exact ⟨fun _ => ⟨_, by first | rfl | (simp [errW_none, errW_some] <;> rfl) | (simp [*, errW_none, errW_some] <;> rfl), by (with_reducible repeat (first | apply Kd.R_alloc | apply Kd.R_drewN | apply Kd.R_drew)); exact HO_7.out, trivial⟩, fun h_ => absurd rfl h_, bel HB.out⟩) | (exact ⟨⟨_, by first | rfl | (simp [errW_none, errW_some] <;> rfl) | (simp [*, errW_none, errW_some] <;> rfl), rl HO_7.out⟩, bel HB.out⟩)

/-! ### plan_projected: function 129 -/
def plan_projected.l0 : Nat → List Int → Int → List Int → List Int → Int → Int → Option (List Int × Int × Int)
 | 0, _, _, _, _, _, _ => none
 | k + 1, x1, x2, x7, x15, x16, x17 => if x17 < x16 then (if 0 ≤ x17 then (if x17 < (x15.length : Int) then ((plan_between.f (rd x15 x17) 0 (wrap64 ((x1.length : Int) - 1))).bind fun t171 => (if t171 = true then (if 0 ≤ (rd x15 x17) then (if (rd x15 x17) < (x1.length : Int) then (if x7.length < 17592186044416 then (plan_projected.l0 k x1 x2 (x7 ++ [rd x1 (rd x15 x17)]) x15 x16 (wrap64 (x17 + 1))) else (none)) else (none)) else (none)) else (some (([] : List Int), 9, x2)))) else (none)) else (none)) else (some (x7, 0, 0))
def plan_projected.f (k : Nat) (l0 : List Int) (l1 : List Int) (a2 : Int) : Option (List Int × Int × Int) := if (l0.length : Int) > 16 then (some (([] : List Int), 3, a2)) else (plan_projected.l0 k l1 a2 ([] : List Int) l0 (l0.length : Int) 0)
theorem plan_projected.mono_l : ∀ k, (∀ y0 y1 y2 y3 y4 y5, LeO (plan_projected.l0 k y0 y1 y2 y3 y4 y5) (plan_projected.l0 (k + 1) y0 y1 y2 y3 y4 y5))
 | 0 => fun _ _ _ _ _ _ r h => by simp [plan_projected.l0] at h
 | k + 1 => by
  have ih0 := plan_projected.mono_l k
  ·intro y0 y1 y2 y3 y4 y5
   unfold plan_projected.l0
   repeat' first
   | (with_reducible exact ih0 _ _ _ _ _ _)
   | (with_reducible exact LeO.refl _)
   | (with_reducible exact LeO.none _)
   | (with_reducible refine LeO.ite ?_ ?_)
   | (with_reducible refine LeO.bind ?_ (fun _ => ?_))
   | exact ih0 _ _ _ _ _ _
   | exact LeO.none _
   | refine LeO.ite ?_ ?_
   | refine LeO.bind ?_ (fun _ => ?_)
theorem plan_projected.mono : ∀ a0 a1 a2 k, LeO (plan_projected.f k a0 a1 a2) (plan_projected.f (k + 1) a0 a1 a2) := by
 intro a0 a1 a2 k
 have ih0 := plan_projected.mono_l k
 unfold plan_projected.f
 repeat' first
   | (with_reducible exact ih0 _ _ _ _ _ _)
   | (with_reducible exact LeO.refl _)
   | (with_reducible exact LeO.none _)
   | (with_reducible refine LeO.ite ?_ ?_)
   | (with_reducible refine LeO.bind ?_ (fun _ => ?_))
   | exact ih0 _ _ _ _ _ _
   | exact LeO.none _
   | refine LeO.ite ?_ ?_
   | refine LeO.bind ?_ (fun _ => ?_)
theorem plan_projected.calls (k : Nat) (A0 : Option Addr) (c0 : Nat) (l0 : List Int) (A1 : Option Addr) (c1 : Nat) (l1 : List Int) (a2 : Int) (r1 : List Int) (r2 : Int) (r3 : Int) (w : World) (hr0 : Kd.C (Kd.int .i64) w A0 l0.length l0) (hc0 : l0.length ≤ c0) (hr1 : Kd.C (Kd.int .i64) w A1 l1.length l1) (hc1 : l1.length ≤ c1) (h : plan_projected.f k l0 l1 a2 = some (r1, r2, r3)) :
  Calls Try.prog 129 #[.slice A0 l0.length c0, .slice A1 l1.length c1, .int .i64 a2] w fun e w' => (r2 = 0 → ∃ v0_ : Value, e = .returned (v0_) ∧ Kd.R (Kd.int .i64) 3 w' w.heap.size (fun _ => True) v0_ r1 ∧ True) ∧ (r2 ≠ 0 → e = .panicked [{ v := .iface 177 (.agg #[.int .i64 r2, .int .i64 r3]), recovered := false }]) ∧ Below w.heap.size w w' := by
 have HR0 := zz hr0
 have HC0 := zz hc0
 clear hr0 hc0
 have HR1 := zz hr1
 have HC1 := zz hc1
 clear hr1 hc1
 have HB := zz (Below.refl w.heap.size w)
 have H := h
 unfold plan_projected.f at H
 clear h
 by_cases c4 : (l0.length : Int) > 16
 ·rw [if_pos c4] at H
  have c4b0 : decide (16 < (l0.length : Int)) = true := decide_eq_true c4
  have c4b1 : decide (16 < l0.length) = true := decide_eq_true (by omega)
  clear c4
  simp only [Option.some.injEq, Prod.mk.injEq] at H
  obtain ⟨rfl, rfl, rfl⟩ := H
  go_enter Try.func129, Try.ntmps129
  go_wp2_with (first | (go_at_call 119; (with_reducible refine (plan_fail.calls 3 a2 _).mono ?_); rintro e w' ⟨rfl, rfl⟩))
  ((try simp only [Exit.inBlock, Exit.then]); refine Go.Proofs.Ytdkkollonlmelaa.Hand.bodyPost_fail (by rfl) ?_)
  exact ⟨fun h_ => absurd h_ (by first | decide | exact HNE.out | (intro z_; simp_all)), fun _ => rfl, bel HB.out⟩
 ·rw [if_neg c4] at H
  have c4b0 : decide (16 < (l0.length : Int)) = false := decide_eq_false c4
  have c4b1 : decide (16 < l0.length) = false := decide_eq_false (by omega)
  clear c4
  have H' := zz H
  clear H
  go_enter Try.func129, Try.ntmps129
  go_wp2
  go_loopg [7, 17] k (fun kq v7 v17 w' => ∃ (x7_1 : List Int) (x17_1 : Int), v17 = .int .i64 x17_1 ∧ Aside0 (plan_projected.l0 kq l1 a2 x7_1 l0 (l0.length : Int) x17_1 = some (r1, r2, r3)) ∧ Aside0 (kq ≤ k) ∧ Aside0 (Kd.R (Kd.int .i64) 3 w' w.heap.size (fun _ => True) v7 x7_1) ∧ Aside0 (Below w.heap.size w w'))
  case atStart => exact ⟨(([] : List Int)), (0), (by first | rfl | (simp; done) | (simp [*]; done)), H', ⟨Nat.le_refl _⟩, ⟨by first | exact Kd.R_nil _ _ _ _ _ | exact Kd.N_nil _ _ _ _ _ | exact Kd.V_nil _ _ _ _ _ | exact Kd.Q_nil _ _ _ _ _ | exact Kd.S_nil _ _ _ _ _⟩, ⟨bel HB.out⟩⟩
  case round =>
   clear H'
   try clear c1; try clear c4; try clear c4b0; try clear c4b1
   obtain ⟨x7_1, x17_1, rfl, HA, HK1, HO_7, HB⟩ := hrel
   cases gk with
   | zero => exact absurd HA.out (by simp [plan_projected.l0])
   | succ k1 =>
    have H := HA.out
    clear HA
    simp only [plan_projected.l0] at H
    by_cases c5 : x17_1 < (l0.length : Int)
    ·rw [if_pos c5] at H
     have c5b0 : decide (x17_1 < (l0.length : Int)) = true := decide_eq_true c5
     clear c5
     by_cases c6 : 0 ≤ x17_1
     ·rw [if_pos c6] at H
      have c6b0 : decide (0 ≤ x17_1) = true := decide_eq_true c6
      clear c6
      by_cases c7 : x17_1 < (l0.length : Int)
      ·rw [if_pos c7] at H
       have c7b0 : decide (x17_1 < (l0.length : Int)) = true := decide_eq_true c7
       clear c7
       obtain ⟨t171, A80, H⟩ := Option.bind_eq_some_iff.mp H
       try dsimp only at H
       have A8 := zz A80
       clear A80
       by_cases c9 : t171 = true
       ·subst c9
        rw [if_pos rfl] at H
        by_cases c10 : 0 ≤ (rd l0 x17_1)
        ·rw [if_pos c10] at H
         have c10b0 : decide (0 ≤ (rd l0 x17_1)) = true := decide_eq_true c10
         clear c10
         by_cases c11 : (rd l0 x17_1) < (l1.length : Int)
         ·rw [if_pos c11] at H
          have c11b0 : decide ((rd l0 x17_1) < (l1.length : Int)) = true := decide_eq_true c11
          clear c11
          by_cases c12 : x7_1.length < 17592186044416
          ·rw [if_pos c12] at H
           have LMc12 := zz c12
           clear c12
           obtain ⟨y173, hy173⟩ : ∃ y_ : List Int, y_ = (x7_1 ++ [rd l1 (rd l0 x17_1)]) := ⟨_, rfl⟩
           replace H : (plan_projected.l0 k1 l1 a2 y173 l0 (l0.length : Int) (wrap64 (x17_1 + 1))) = some (r1, r2, r3) := by first | (rw [hy173]; with_reducible exact H) | (have H2_ := (Option.bind_some _ _).symm.trans H; rw [hy173]; with_reducible exact H2_) | (have H2_ := (Option.bind_some _ _).symm.trans H; with_reducible exact H2_) | with_reducible exact H | (rw [hy173]; exact H) | exact H
           have Ny173 := zz hy173
           clear hy173
           have H' := zz H
           clear H
           have p170 : 0 ≤ (x17_1 : Int) := of_decide_eq_true (by first | (with_reducible assumption) | assumption)
           have q170 : x17_1 < (l0.length : Int) := of_decide_eq_true (by first | (with_reducible assumption) | assumption)
           obtain ⟨ad170, e170, hx170_0⟩ := Kd.at_int HR0.out x17_1 p170 q170
           cases e170
           replace hx170_0 := (HB.out.cell (World.block_lt_of_cell? w _ hx170_0)).trans hx170_0
           replace p170 := eq_true p170
           replace q170 := eq_true q170
           go_wp2_with (first | ((with_reducible refine gate_callee (f := 120) rfl ?_); refine goesL_ (some 25) rfl rfl Try.func120 (by kernel_rfl) rfl #[.int .i64 (rd l0 x17_1), .int .i64 0, .int .i64 (wrap64 ((l1.length : Int) - 1))] rfl (by (try simp only [List.map_toArray, List.map_cons, List.map_nil]); first | done | rfl | (simp only [List.length_drop, List.length_take]; rfl)) ?_; (with_reducible refine (plan_between.calls (rd l0 x17_1) 0 (wrap64 ((l1.length : Int) - 1)) true _ A8.out).mono ?_); rintro e w' ⟨rfl, ⟨nd, rfl⟩⟩; refine ⟨_, rfl, ?_⟩; have p172 : 0 ≤ ((rd l0 x17_1) : Int) := of_decide_eq_true (by first | (with_reducible assumption) | assumption); have q172 : (rd l0 x17_1) < (l1.length : Int) := of_decide_eq_true (by first | (with_reducible assumption) | assumption); obtain ⟨ad172, e172, hx172_0⟩ := Kd.at_int HR1.out (rd l0 x17_1) p172 q172; cases e172; replace hx172_0 := (HB.out.cell (World.block_lt_of_cell? w _ hx172_0)).trans hx172_0; replace p172 := eq_true p172; replace q172 := eq_true q172) | ((with_reducible refine gate_builtin (b := .append) (xs := #[.tmp 29, .tmp 34]) rfl ?_); at_builtin; refine Kd.R_append (Kd.int .i64) (w0 := w) w.heap.size rfl (.tmp 29) (.tmp 34) 23 3 (.int .i64 0) 8 rfl Try.underlying23 info3 rfl (by decide) (by omega) u7 x7_1 (rd l1 (rd l0 x17_1)) [.int .i64 (rd l1 (rd l0 x17_1))] (fun _ => True) (fun _ => False) rfl rfl ?aP (fun _ hk => hk.elim) ?aF ?aO ?aB ?aS ?aL ?_; (case aP => exact rfl); (case aB => exact (bel HB.out)); (case aF => exact (fun _ _ => trivial)); (case aO => exact (rl HO_7.out)); (case aS => exact (below_size (bel HB.out))); (case aL => have := LMc12.out; omega); intro v174 w13 ho hb hg hat; rw [← Ny173.out] at ho; have n0_ := zz (hb); have n1_ := zz (ho); clear HB; clear HO_7; have HB := n0_; have HO175 := n1_; clear n0_ n1_; clear ho hb hg hat))
           go_roundg k1
           case measure => have := HK1.out; omega
           case rel => exact ⟨(y173), (wrap64 (x17_1 + 1)), (by first | rfl | (simp; done) | (simp [*]; done)), H', ⟨by have := HK1.out; omega⟩, ⟨rl HO175.out⟩, ⟨bel HB.out⟩⟩
          ·rw [if_neg c12] at H
           exact absurd H (by simp)
         ·rw [if_neg c11] at H
          exact absurd H (by simp)
        ·rw [if_neg c10] at H
         exact absurd H (by simp)
       ·replace c9 := Bool.eq_false_iff.mpr c9
        subst c9
        rw [if_neg (show ¬ (false = true) by decide)] at H
        simp only [Option.some.injEq, Prod.mk.injEq] at H
        obtain ⟨rfl, rfl, rfl⟩ := H
        have p170 : 0 ≤ (x17_1 : Int) := of_decide_eq_true (by first | (with_reducible assumption) | assumption)
        have q170 : x17_1 < (l0.length : Int) := of_decide_eq_true (by first | (with_reducible assumption) | assumption)
        obtain ⟨ad170, e170, hx170_0⟩ := Kd.at_int HR0.out x17_1 p170 q170
        cases e170
        replace hx170_0 := (HB.out.cell (World.block_lt_of_cell? w _ hx170_0)).trans hx170_0
        replace p170 := eq_true p170
        replace q170 := eq_true q170
        go_wp2_with (first | ((with_reducible refine gate_callee (f := 120) rfl ?_); refine goesL_ (some 25) rfl rfl Try.func120 (by kernel_rfl) rfl #[.int .i64 (rd l0 x17_1), .int .i64 0, .int .i64 (wrap64 ((l1.length : Int) - 1))] rfl (by (try simp only [List.map_toArray, List.map_cons, List.map_nil]); first | done | rfl | (simp only [List.length_drop, List.length_take]; rfl)) ?_; (with_reducible refine (plan_between.calls (rd l0 x17_1) 0 (wrap64 ((l1.length : Int) - 1)) false _ A8.out).mono ?_); rintro e w' ⟨rfl, ⟨nd, rfl⟩⟩; refine ⟨_, rfl, ?_⟩) | (go_at_call 119; (with_reducible refine (plan_fail.calls 9 a2 _).mono ?_); rintro e w' ⟨rfl, rfl⟩))
        ((try simp only [Exit.inBlock, Exit.then]); refine Go.Proofs.Ytdkkollonlmelaa.Hand.bodyPost_fail (by rfl) ?_)
        exact ⟨fun h_ => absurd h_ (by first | decide | exact HNE.out | (intro z_; simp_all)), fun _ => rfl, bel HB.out⟩
      ·rw [if_neg c7] at H
       exact absurd H (by simp)
     ·rw [if_neg c6] at H
      exact absurd H (by simp)
    ·rw [if_neg c5] at H
     have c5b0 : decide (x17_1 < (l0.length : Int)) = false := decide_eq_false c5
     clear c5
     simp only [Option.some.injEq, Prod.mk.injEq] at H
     obtain ⟨rfl, rfl, rfl⟩ := H
     go_wp2
     go_ret
     first | (exact ⟨fun _ => ⟨_, by first | rfl | (simp [errW_none, errW_some] <;> rfl) | (simp [*, errW_none, errW_some] <;> rfl), by (with_reducible repeat (first | apply Kd.R_alloc | apply Kd.R_drewN | apply Kd.R_drew)); exact HO_7.out, trivial⟩, fun h_ => absurd rfl h_, bel HB.out⟩) | (exact ⟨⟨_, by first | rfl | (simp [errW_none, errW_some] <;> rfl) | (simp [*, errW_none, errW_some] <;> rfl), rl HO_7.out⟩, bel HB.out⟩)

end Go.Proofs.Ytdkkollonlmelaa.QPlanChecks
