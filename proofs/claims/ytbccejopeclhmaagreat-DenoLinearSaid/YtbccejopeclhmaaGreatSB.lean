import Derived.Test.YtbccejopeclhmaaGreatSA
import Derived.Test.YtbccejopeclhmaaGreatLG2
namespace Go.V
open Go Go.RowKit Go.Proofs
set_option maxRecDepth 100000
set_option maxHeartbeats 4000000
set_option linter.unusedVariables false
set_option linter.unusedSimpArgs false
theorem compare_row (a b : List Val) (Q : PV → Mem → Prop)  (h : Q (vi (orderR a b)) []) : Does Tryz.prog 138 [.sl (a.map eV), .sl (b.map eV), .fn 139 []] [] 0 Q := by
  refine does_of mixed Tryz.func138 rfl (by kernel_rfl) no (slots [(0, [0, 1, 2, 11, 12, 13])]) ?_
  simp only [Tryz.f138]
  repeat' (first
    | simp -implicitDefEqProofs only [go_sem, eV, Nat.reduceAdd, Nat.reduceEqDiff, Nat.reduceLT, Nat.reduceBEq, Nat.reduceLeDiff, Nat.reduceSub, Int.reduceLE, Int.reduceNeg, Int.reduceEq, Int.reduceToNat]
    | with_reducible refine know_of fun _ => ?_
    | with_reducible refine ifD1 (by omega) ?_
    | with_reducible refine ifD0 (by omega) ?_
    | with_reducible refine ifE1 (by omega) ?_
    | with_reducible refine ifE0 (by omega) ?_
    | with_reducible refine ifN1 (by omega) ?_
    | with_reducible refine ifN0 (by omega) ?_
    | with_reducible refine ifD_of (fun _ => ?_) (fun _ => ?_)
    | with_reducible refine ifE_of (fun _ => ?_) (fun _ => ?_)
    | with_reducible refine ifN_of (fun _ => ?_) (fun _ => ?_)
    | with_reducible refine Go.V.if1 (by assumption) ?_
    | with_reducible refine Go.V.if0 (by assumption) ?_
    | with_reducible refine if_of (fun _ => ?_) (fun _ => ?_)
    | with_reducible refine s_of (idx_get _ _ _ (by omega) (by omega)) ?_
    | with_reducible refine s_of (idx_get _ _ _ (by omega) (by simp only [List.length_set, List.length_append, List.length_take, List.length_drop, List.length_reverse, List.length_singleton]; omega)) ?_
    | with_reducible refine s_of (map_get _ _ _ (by omega)) ?_
    | with_reducible refine s_of (map_get _ _ _ (by simp only [List.length_set]; omega)) ?_
    | with_reducible refine s_of (if_neg (by omega)) ?_
    | with_reducible refine s_of (if_pos (by omega)) ?_
    | with_reducible refine need_of (by omega) ?_
    | with_reducible refine nil_of (fun _ => ?_) ?_
    | with_reducible refine alt_of ?_ ?_
    | (with_reducible apply join_of; intro _ _)
    | with_reducible assumption)
  refine loop_then (loop_ind (σ := Nat) (fun s => [(0, .sl (a.map eV)), (1, .sl (b.map eV)), (2, .fn 139 []), (11, .sl (a.map eV)), (12, vi a.length), (13, vi s)]) (fun s => []) (fun s => a.length - s) (fun s => s ≤ a.length ∧ s ≤ b.length ∧ Q (vi (orderR (a.drop s) (b.drop s))) []) ?_ 0 ⟨Nat.zero_le _, Nat.zero_le _, h⟩)
  rintro X i ⟨ha, hb, hQ⟩ ih
  try dsimp only at ih ⊢
  repeat' (first
    | simp -implicitDefEqProofs only [go_sem, eV, Int.toNat_natCast, Nat.reduceAdd, Nat.reduceEqDiff, Nat.reduceLT, Nat.reduceBEq, Nat.reduceLeDiff, Nat.reduceSub, Int.reduceLE, Int.reduceNeg, Int.reduceEq, Int.reduceToNat]
    | with_reducible refine know_of fun _ => ?_
    | (with_reducible refine does_then (row_Cmp _ _ _ _ _ _ _ ?_))
    | with_reducible refine ifD1 (by omega) ?_
    | with_reducible refine ifD0 (by omega) ?_
    | with_reducible refine ifE1 (by omega) ?_
    | with_reducible refine ifE0 (by omega) ?_
    | with_reducible refine ifN1 (by omega) ?_
    | with_reducible refine ifN0 (by omega) ?_
    | with_reducible refine ifD_of (fun _ => ?_) (fun _ => ?_)
    | with_reducible refine ifE_of (fun _ => ?_) (fun _ => ?_)
    | with_reducible refine ifN_of (fun _ => ?_) (fun _ => ?_)
    | with_reducible refine Go.V.if1 (by assumption) ?_
    | with_reducible refine Go.V.if0 (by assumption) ?_
    | with_reducible refine if_of (fun _ => ?_) (fun _ => ?_)
    | with_reducible refine s_of (idx_get _ _ _ (by omega) (by omega)) ?_
    | with_reducible refine s_of (idx_get _ _ _ (by omega) (by simp only [List.length_set, List.length_append, List.length_take, List.length_drop, List.length_reverse, List.length_singleton]; omega)) ?_
    | with_reducible refine s_of (map_get _ _ _ (by omega)) ?_
    | with_reducible refine s_of (map_get _ _ _ (by simp only [List.length_set]; omega)) ?_
    | with_reducible refine s_of (if_neg (by omega)) ?_
    | with_reducible refine s_of (if_pos (by omega)) ?_
    | with_reducible refine need_of (by omega) ?_
    | with_reducible refine nil_of (fun _ => ?_) ?_
    | with_reducible refine alt_of ?_ ?_
    | (with_reducible apply join_of; intro _ _)
    | with_reducible assumption)
  all_goals first
    | (rw [drop_getD a i (by omega), drop_getD b i (by omega), orderR, if_pos (by assumption)] at hQ; exact hQ)
    | (rw [drop_getD a i (by omega), drop_getD b i (by omega), orderR, if_neg (not_not_intro (by assumption))] at hQ; rw [wnat i (by omega)]; exact ih (i + 1) (by omega) ⟨by omega, by omega, hQ⟩)
    | (rw [List.drop_eq_nil_of_le (show a.length ≤ i by omega), drop_getD b i (by omega), orderR] at hQ; exact hQ)
    | (rw [List.drop_eq_nil_of_le (show b.length ≤ i by omega), drop_getD a i (by omega), orderR] at hQ; exact hQ)
    | (rw [List.drop_eq_nil_of_le (show b.length ≤ i by omega), List.drop_eq_nil_of_le (show a.length ≤ i by omega), orderR] at hQ; exact hQ)
    | (exfalso; omega)
theorem row_Order (a b : List Val) (Q : PV → Mem → Prop)  (h : Q (vi (orderR a b)) []) : Does Tryz.prog 88 [.sl (a.map eV), .sl (b.map eV)] [] 0 Q := by
  refine does_of mixed Tryz.func88 rfl (by kernel_rfl) no (slots []) ?_
  simp only [Tryz.f88]
  repeat' (first
    | simp -implicitDefEqProofs only [go_sem, Nat.reduceAdd, Nat.reduceEqDiff, Nat.reduceLT, Nat.reduceBEq, Nat.reduceLeDiff, Nat.reduceSub, Int.reduceLE, Int.reduceNeg, Int.reduceEq, Int.reduceToNat]
    | with_reducible refine know_of fun _ => ?_
    | (with_reducible refine does_then (compare_row _ _ _ ?_))
    | with_reducible refine ifD1 (by omega) ?_
    | with_reducible refine ifD0 (by omega) ?_
    | with_reducible refine ifE1 (by omega) ?_
    | with_reducible refine ifE0 (by omega) ?_
    | with_reducible refine ifN1 (by omega) ?_
    | with_reducible refine ifN0 (by omega) ?_
    | with_reducible refine ifD_of (fun _ => ?_) (fun _ => ?_)
    | with_reducible refine ifE_of (fun _ => ?_) (fun _ => ?_)
    | with_reducible refine ifN_of (fun _ => ?_) (fun _ => ?_)
    | with_reducible refine Go.V.if1 (by assumption) ?_
    | with_reducible refine Go.V.if0 (by assumption) ?_
    | with_reducible refine if_of (fun _ => ?_) (fun _ => ?_)
    | with_reducible refine s_of (idx_get _ _ _ (by omega) (by omega)) ?_
    | with_reducible refine s_of (idx_get _ _ _ (by omega) (by simp only [List.length_set, List.length_append, List.length_take, List.length_drop, List.length_reverse, List.length_singleton]; omega)) ?_
    | with_reducible refine s_of (map_get _ _ _ (by omega)) ?_
    | with_reducible refine s_of (map_get _ _ _ (by simp only [List.length_set]; omega)) ?_
    | with_reducible refine s_of (if_neg (by omega)) ?_
    | with_reducible refine s_of (if_pos (by omega)) ?_
    | with_reducible refine need_of (by omega) ?_
    | with_reducible refine nil_of (fun _ => ?_) ?_
    | with_reducible refine alt_of ?_ ?_
    | (with_reducible apply join_of; intro _ _)
    | with_reducible assumption)
  all_goals first | exact h | simpa using h
theorem row_Same (a b : List Val) (Q : PV → Mem → Prop)  (h : Q (vb (orderR a b == 0)) []) : Does Tryz.prog 84 [.sl (a.map eV), .sl (b.map eV)] [] 0 Q := by
  refine does_of mixed Tryz.func84 rfl (by kernel_rfl) no (slots []) ?_
  simp only [Tryz.f84]
  repeat' (first
    | simp -implicitDefEqProofs only [go_sem, Nat.reduceAdd, Nat.reduceEqDiff, Nat.reduceLT, Nat.reduceBEq, Nat.reduceLeDiff, Nat.reduceSub, Int.reduceLE, Int.reduceNeg, Int.reduceEq, Int.reduceToNat]
    | with_reducible refine know_of fun _ => ?_
    | (with_reducible refine does_then (row_Order _ _ _ ?_))
    | with_reducible refine ifD1 (by omega) ?_
    | with_reducible refine ifD0 (by omega) ?_
    | with_reducible refine ifE1 (by omega) ?_
    | with_reducible refine ifE0 (by omega) ?_
    | with_reducible refine ifN1 (by omega) ?_
    | with_reducible refine ifN0 (by omega) ?_
    | with_reducible refine ifD_of (fun _ => ?_) (fun _ => ?_)
    | with_reducible refine ifE_of (fun _ => ?_) (fun _ => ?_)
    | with_reducible refine ifN_of (fun _ => ?_) (fun _ => ?_)
    | with_reducible refine Go.V.if1 (by assumption) ?_
    | with_reducible refine Go.V.if0 (by assumption) ?_
    | with_reducible refine if_of (fun _ => ?_) (fun _ => ?_)
    | with_reducible refine s_of (idx_get _ _ _ (by omega) (by omega)) ?_
    | with_reducible refine s_of (idx_get _ _ _ (by omega) (by simp only [List.length_set, List.length_append, List.length_take, List.length_drop, List.length_reverse, List.length_singleton]; omega)) ?_
    | with_reducible refine s_of (map_get _ _ _ (by omega)) ?_
    | with_reducible refine s_of (map_get _ _ _ (by simp only [List.length_set]; omega)) ?_
    | with_reducible refine s_of (if_neg (by omega)) ?_
    | with_reducible refine s_of (if_pos (by omega)) ?_
    | with_reducible refine need_of (by omega) ?_
    | with_reducible refine nil_of (fun _ => ?_) ?_
    | with_reducible refine alt_of ?_ ?_
    | (with_reducible apply join_of; intro _ _)
    | with_reducible assumption)
  all_goals first | exact h | simpa using h
structure Side where
  row : List Val
  diff : Int
  away : Bool
deriving Inhabited, DecidableEq
def eS (x : Side) : List PV := [.sl (x.row.map eV), vi x.diff, vb x.away]
def cS (x y : Side) : Int := orderR x.row y.row
theorem ord_S' : Ordr cS := ⟨fun a b => ord_R.anti _ _, fun a b d => ord_R.trans _ _ _⟩
def cC (x y : Count) : Int := orderR x.row y.row
theorem ord_C : Ordr cC := ⟨fun a b => ord_R.anti _ _, fun a b d => ord_R.trans _ _ _⟩
theorem fitS (l : List Side) : Fit Tryz.prog 135 (l.map eS) = True := eq_true (fit_map eS (fun a => by rw [fit_135]; rfl) l)
attribute [go_sem] fitS
theorem lenM {α : Type} (f : α → List PV) (n : Nat) (h : ∀ x, (f x).length = n) (l : List α) : ∀ x ∈ l.map f, x.length = n := by
  intro x hx
  obtain ⟨y, _, rfl⟩ := List.mem_map.1 hx
  exact h y
theorem lenV (l : List Val) : ∀ x ∈ l.map eV, x.length = 3 := lenM eV 3 (fun _ => rfl) l
theorem lenC (l : List Count) : ∀ x ∈ l.map eC, x.length = 2 := lenM eC 2 (fun _ => rfl) l
theorem lenS (l : List Side) : ∀ x ∈ l.map eS, x.length = 3 := lenM eS 3 (fun _ => rfl) l
theorem dropM {α : Type} (f : α → List PV) (n : Nat) (s : List α) : List.drop n (s.map f) = (s.drop n).map f := by rw [List.map_drop]
theorem takeM {α : Type} (f : α → List PV) (n : Nat) (s : List α) : List.take n (s.map f) = (s.take n).map f := by rw [List.map_take]
theorem takeAll {α : Type} (f : α → List PV) (s : List α) : List.take s.length (s.map f) = s.map f := by rw [← List.length_map (f := f), List.take_length]
theorem clone_side (l : List Side) (Q : PV → Mem → Prop) (hl : l.length ≤ 1000000000) (h : Q (.own 0) [.row 135 (l.map eS)]) : Does Tryz.prog 141 [.sl (l.map eS)] [] 0 Q := by
  refine does_of mixed Tryz.func141 rfl (by kernel_rfl) no (slots []) ?_
  simp only [Tryz.f141]
  repeat' (first
    | simp -implicitDefEqProofs only [go_sem, Nat.reduceAdd, Nat.reduceEqDiff, Nat.reduceLT, Nat.reduceBEq, Nat.reduceLeDiff, Nat.reduceSub, Int.reduceLE, Int.reduceNeg, Int.reduceEq, Int.reduceToNat]
    | with_reducible refine know_of fun _ => ?_
    | with_reducible refine ifD1 (by omega) ?_
    | with_reducible refine ifD0 (by omega) ?_
    | with_reducible refine ifE1 (by omega) ?_
    | with_reducible refine ifE0 (by omega) ?_
    | with_reducible refine ifN1 (by omega) ?_
    | with_reducible refine ifN0 (by omega) ?_
    | with_reducible refine ifD_of (fun _ => ?_) (fun _ => ?_)
    | with_reducible refine ifE_of (fun _ => ?_) (fun _ => ?_)
    | with_reducible refine ifN_of (fun _ => ?_) (fun _ => ?_)
    | with_reducible refine Go.V.if1 (by assumption) ?_
    | with_reducible refine Go.V.if0 (by assumption) ?_
    | with_reducible refine if_of (fun _ => ?_) (fun _ => ?_)
    | with_reducible refine s_of (idx_get _ _ _ (by omega) (by omega)) ?_
    | with_reducible refine s_of (idx_get _ _ _ (by omega) (by simp only [List.length_set, List.length_append, List.length_take, List.length_drop, List.length_reverse, List.length_singleton]; omega)) ?_
    | with_reducible refine s_of (map_get _ _ _ (by omega)) ?_
    | with_reducible refine s_of (map_get _ _ _ (by simp only [List.length_set]; omega)) ?_
    | with_reducible refine s_of (if_neg (by omega)) ?_
    | with_reducible refine s_of (if_pos (by omega)) ?_
    | with_reducible refine need_of (by omega) ?_
    | with_reducible refine nil_of (fun _ => ?_) ?_
    | with_reducible refine alt_of ?_ ?_
    | (with_reducible apply join_of; intro _ _)
    | with_reducible assumption)
  all_goals first | exact h | (have hl : l = [] := List.map_eq_nil_iff.mp (show List.map eS l = [] by assumption); subst hl; exact h)
theorem clone_count (l : List Count) (Q : PV → Mem → Prop) (hl : l.length ≤ 1000000000) (h : Q (.own 0) [.row 61 (l.map eC)]) : Does Tryz.prog 191 [.sl (l.map eC)] [] 0 Q := by
  refine does_of mixed Tryz.func191 rfl (by kernel_rfl) no (slots []) ?_
  simp only [Tryz.f191]
  repeat' (first
    | simp -implicitDefEqProofs only [go_sem, Nat.reduceAdd, Nat.reduceEqDiff, Nat.reduceLT, Nat.reduceBEq, Nat.reduceLeDiff, Nat.reduceSub, Int.reduceLE, Int.reduceNeg, Int.reduceEq, Int.reduceToNat]
    | with_reducible refine know_of fun _ => ?_
    | with_reducible refine ifD1 (by omega) ?_
    | with_reducible refine ifD0 (by omega) ?_
    | with_reducible refine ifE1 (by omega) ?_
    | with_reducible refine ifE0 (by omega) ?_
    | with_reducible refine ifN1 (by omega) ?_
    | with_reducible refine ifN0 (by omega) ?_
    | with_reducible refine ifD_of (fun _ => ?_) (fun _ => ?_)
    | with_reducible refine ifE_of (fun _ => ?_) (fun _ => ?_)
    | with_reducible refine ifN_of (fun _ => ?_) (fun _ => ?_)
    | with_reducible refine Go.V.if1 (by assumption) ?_
    | with_reducible refine Go.V.if0 (by assumption) ?_
    | with_reducible refine if_of (fun _ => ?_) (fun _ => ?_)
    | with_reducible refine s_of (idx_get _ _ _ (by omega) (by omega)) ?_
    | with_reducible refine s_of (idx_get _ _ _ (by omega) (by simp only [List.length_set, List.length_append, List.length_take, List.length_drop, List.length_reverse, List.length_singleton]; omega)) ?_
    | with_reducible refine s_of (map_get _ _ _ (by omega)) ?_
    | with_reducible refine s_of (map_get _ _ _ (by simp only [List.length_set]; omega)) ?_
    | with_reducible refine s_of (if_neg (by omega)) ?_
    | with_reducible refine s_of (if_pos (by omega)) ?_
    | with_reducible refine need_of (by omega) ?_
    | with_reducible refine nil_of (fun _ => ?_) ?_
    | with_reducible refine alt_of ?_ ?_
    | (with_reducible apply join_of; intro _ _)
    | with_reducible assumption)
  all_goals first | exact h | (have hl : l = [] := List.map_eq_nil_iff.mp (show List.map eC l = [] by assumption); subst hl; exact h)
theorem less_cmp (x y : Side) (Q : PV → Mem → Prop)  (h : Q (vi (cS x y)) []) : Does Tryz.prog 87 [.agg [.sl (x.row.map eV), vi x.diff, vb x.away], .agg [.sl (y.row.map eV), vi y.diff, vb y.away]] [] 0 Q := by
  refine does_of mixed Tryz.func87 rfl (by kernel_rfl) no (slots []) ?_
  simp only [Tryz.f87]
  repeat' (first
    | simp -implicitDefEqProofs only [go_sem, Nat.reduceAdd, Nat.reduceEqDiff, Nat.reduceLT, Nat.reduceBEq, Nat.reduceLeDiff, Nat.reduceSub, Int.reduceLE, Int.reduceNeg, Int.reduceEq, Int.reduceToNat]
    | with_reducible refine know_of fun _ => ?_
    | (with_reducible refine does_then (row_Order _ _ _ ?_))
    | with_reducible refine ifD1 (by omega) ?_
    | with_reducible refine ifD0 (by omega) ?_
    | with_reducible refine ifE1 (by omega) ?_
    | with_reducible refine ifE0 (by omega) ?_
    | with_reducible refine ifN1 (by omega) ?_
    | with_reducible refine ifN0 (by omega) ?_
    | with_reducible refine ifD_of (fun _ => ?_) (fun _ => ?_)
    | with_reducible refine ifE_of (fun _ => ?_) (fun _ => ?_)
    | with_reducible refine ifN_of (fun _ => ?_) (fun _ => ?_)
    | with_reducible refine Go.V.if1 (by assumption) ?_
    | with_reducible refine Go.V.if0 (by assumption) ?_
    | with_reducible refine if_of (fun _ => ?_) (fun _ => ?_)
    | with_reducible refine s_of (idx_get _ _ _ (by omega) (by omega)) ?_
    | with_reducible refine s_of (idx_get _ _ _ (by omega) (by simp only [List.length_set, List.length_append, List.length_take, List.length_drop, List.length_reverse, List.length_singleton]; omega)) ?_
    | with_reducible refine s_of (map_get _ _ _ (by omega)) ?_
    | with_reducible refine s_of (map_get _ _ _ (by simp only [List.length_set]; omega)) ?_
    | with_reducible refine s_of (if_neg (by omega)) ?_
    | with_reducible refine s_of (if_pos (by omega)) ?_
    | with_reducible refine need_of (by omega) ?_
    | with_reducible refine nil_of (fun _ => ?_) ?_
    | with_reducible refine alt_of ?_ ?_
    | (with_reducible apply join_of; intro _ _)
    | with_reducible assumption)
  all_goals first | exact h | simpa using h
theorem row_Cut (r : List Val) (k : Int) (Q : PV → Mem → Prop) (hl : r.length ≤ 1000000) (h0 : k < 0 ∨ (r.length : Int) < k → Q (.tup [.own 0, .own 1, vi 9]) [.row 83 [], .row 83 []]) (h1 : 0 ≤ k → k ≤ r.length → Q (.tup [.own 0, .own 1, vi 0]) [.row 83 ((r.take k.toNat).map eV), .row 83 ((r.drop k.toNat).map eV)]) : Does Tryz.prog 99 [.sl (r.map eV), vi k] [] 0 Q := by
  refine does_ofT mixed Tryz.func99 rfl (treesT [(3, (.one 0 (.one 1 (.one 2 (.one 4 (.one 5 (.one 6 (.one 3 (.one 7 (.one 8 (.one 9 (.one 10 .nil)))))))))), [4, 5, 6]))]) (by kernel_rfl) no (slots []) ?_
  simp only [Tryz.f99]
  repeat' (first
    | refine need_of ⟨by omega, by omega, lenV _⟩ ?_
    | refine need_of ⟨by omega, by omega, by omega, lenV _⟩ ?_
    | simp -implicitDefEqProofs only [go_sem, takeM, dropM, List.take_length, List.drop_zero, Int.toNat_natCast, Nat.reduceAdd, Nat.reduceEqDiff, Nat.reduceLT, Nat.reduceBEq, Nat.reduceLeDiff, Nat.reduceSub, Int.reduceLE, Int.reduceNeg, Int.reduceEq, Int.reduceToNat]
    | with_reducible refine know_of fun _ => ?_
    | (with_reducible refine does_then (clone_row _ _ (by simp; omega) ?_))
    | with_reducible refine ifD1 (by omega) ?_
    | with_reducible refine ifD0 (by omega) ?_
    | with_reducible refine ifE1 (by omega) ?_
    | with_reducible refine ifE0 (by omega) ?_
    | with_reducible refine ifN1 (by omega) ?_
    | with_reducible refine ifN0 (by omega) ?_
    | with_reducible refine ifD_of (fun _ => ?_) (fun _ => ?_)
    | with_reducible refine ifE_of (fun _ => ?_) (fun _ => ?_)
    | with_reducible refine ifN_of (fun _ => ?_) (fun _ => ?_)
    | with_reducible refine Go.V.if1 (by assumption) ?_
    | with_reducible refine Go.V.if0 (by assumption) ?_
    | with_reducible refine if_of (fun _ => ?_) (fun _ => ?_)
    | with_reducible refine s_of (idx_get _ _ _ (by omega) (by omega)) ?_
    | with_reducible refine s_of (idx_get _ _ _ (by omega) (by simp only [List.length_set, List.length_append, List.length_take, List.length_drop, List.length_reverse, List.length_singleton]; omega)) ?_
    | with_reducible refine s_of (map_get _ _ _ (by omega)) ?_
    | with_reducible refine s_of (map_get _ _ _ (by simp only [List.length_set]; omega)) ?_
    | with_reducible refine s_of (if_neg (by omega)) ?_
    | with_reducible refine s_of (if_pos (by omega)) ?_
    | with_reducible refine need_of (by omega) ?_
    | with_reducible refine nil_of (fun _ => ?_) ?_
    | with_reducible refine alt_of ?_ ?_
    | (with_reducible apply join_of; intro _ _)
    | with_reducible assumption)
  all_goals first | exact h0 (by omega) | (have h2 := h1 (by omega) (by omega); simp only [List.map_take, List.map_drop] at h2 ⊢; exact h2)
end Go.V
