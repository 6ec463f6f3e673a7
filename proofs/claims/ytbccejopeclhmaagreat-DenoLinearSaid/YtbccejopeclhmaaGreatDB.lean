import Derived.Test.YtbccejopeclhmaaGreatDA
import Derived.Test.YtbccejopeclhmaaGreatLO0
import Derived.Test.YtbccejopeclhmaaGreatLD
import Derived.Test.YtbccejopeclhmaaGreatPE0
import Derived.Test.YtbccejopeclhmaaGreatSH
namespace Go.V
open Go Go.RowKit Go.Proofs
set_option maxRecDepth 100000
set_option maxHeartbeats 4000000
set_option linter.unusedVariables false
set_option linter.unusedSimpArgs false
theorem deno_with (r : List Val) (d : Int) (Q : PV → Mem → Prop)  (h : Q (.own 0) [.row 61 ([(⟨r, d⟩ : Count)].map eC)]) : Does Tryz.prog 103 [.sl (r.map eV), vi d] [] 0 Q := by
  refine does_of mixed Tryz.func103 rfl (by kernel_rfl) no (slots []) ?_
  simp only [Tryz.f103]
  repeat' (first
    | simp -implicitDefEqProofs only [go_sem, eC, Nat.reduceAdd, Nat.reduceEqDiff, Nat.reduceLT, Nat.reduceBEq, Nat.reduceLeDiff, Nat.reduceSub, Int.reduceLE, Int.reduceNeg, Int.reduceEq, Int.reduceToNat]
    | with_reducible refine know_of fun _ => ?_
    | with_reducible refine ifD1 (by omega) ?_
    | with_reducible refine ifD0 (by omega) ?_
    | with_reducible refine ifE1 (by omega) ?_
    | with_reducible refine ifE0 (by omega) ?_
    | with_reducible refine ifN1 (by omega) ?_
    | with_reducible refine ifN0 (by omega) ?_
    | with_reducible refine ifD_of (fun _ => ?_) (fun _ => ?_)
    | with_reducible refine ifE_of (fun _ => ?_) (fun _ => ?_)
    | with_reducible refine ifN_of (fun _ => ?_) (fun _ => ?_)
    | with_reducible refine Go.V.if1 (by assumption) ?_
    | with_reducible refine Go.V.if0 (by assumption) ?_
    | with_reducible refine if_of (fun _ => ?_) (fun _ => ?_)
    | with_reducible refine s_of (idx_get _ _ _ (by omega) (by omega)) ?_
    | with_reducible refine s_of (idx_get _ _ _ (by omega) (by simp only [List.length_set, List.length_append, List.length_take, List.length_drop, List.length_reverse, List.length_singleton]; omega)) ?_
    | with_reducible refine s_of (map_get _ _ _ (by omega)) ?_
    | with_reducible refine s_of (map_get _ _ _ (by simp only [List.length_set]; omega)) ?_
    | with_reducible refine s_of (if_neg (by omega)) ?_
    | with_reducible refine s_of (if_pos (by omega)) ?_
    | with_reducible refine need_of (by omega) ?_
    | with_reducible refine nil_of (fun _ => ?_) ?_
    | with_reducible refine alt_of ?_ ?_
    | (with_reducible apply join_of; intro _ _)
    | with_reducible assumption)
  all_goals first | exact h | simpa using h
theorem deno_asked (n : Node) (m : Nat) (Q : PV → Mem → Prop)  (h : Q (vb (askedD n.kind m)) []) : Does Tryz.prog 54 [.agg [vi n.kind, .sl (n.ins.map eI), .sl (n.kinds.map eI), .sl (n.exprs.map eE), .sl (n.cols.map eI), vi n.key, vi n.n, vi n.size, vi n.slide], vi m] [] 0 Q := by
  refine does_of mixed Tryz.func54 rfl (by kernel_rfl) no (slots []) ?_
  simp only [Tryz.f54]
  repeat' (first
    | simp -implicitDefEqProofs only [go_sem, Nat.reduceAdd, Nat.reduceEqDiff, Nat.reduceLT, Nat.reduceBEq, Nat.reduceLeDiff, Nat.reduceSub, Int.reduceLE, Int.reduceNeg, Int.reduceEq, Int.reduceToNat]
    | with_reducible refine know_of fun _ => ?_
    | with_reducible refine ifD1 (by omega) ?_
    | with_reducible refine ifD0 (by omega) ?_
    | with_reducible refine ifE1 (by omega) ?_
    | with_reducible refine ifE0 (by omega) ?_
    | with_reducible refine ifN1 (by omega) ?_
    | with_reducible refine ifN0 (by omega) ?_
    | with_reducible refine ifD_of (fun _ => ?_) (fun _ => ?_)
    | with_reducible refine ifE_of (fun _ => ?_) (fun _ => ?_)
    | with_reducible refine ifN_of (fun _ => ?_) (fun _ => ?_)
    | with_reducible refine Go.V.if1 (by assumption) ?_
    | with_reducible refine Go.V.if0 (by assumption) ?_
    | with_reducible refine if_of (fun _ => ?_) (fun _ => ?_)
    | with_reducible refine s_of (idx_get _ _ _ (by omega) (by omega)) ?_
    | with_reducible refine s_of (idx_get _ _ _ (by omega) (by simp only [List.length_set, List.length_append, List.length_take, List.length_drop, List.length_reverse, List.length_singleton]; omega)) ?_
    | with_reducible refine s_of (map_get _ _ _ (by omega)) ?_
    | with_reducible refine s_of (map_get _ _ _ (by simp only [List.length_set]; omega)) ?_
    | with_reducible refine s_of (if_neg (by omega)) ?_
    | with_reducible refine s_of (if_pos (by omega)) ?_
    | with_reducible refine need_of (by omega) ?_
    | with_reducible refine nil_of (fun _ => ?_) ?_
    | with_reducible refine alt_of ?_ ?_
    | (with_reducible apply join_of; intro _ _)
    | with_reducible assumption)
  all_goals refine Eq.mp (congrArg (fun x => Q (vb x) []) ?_) h
  all_goals (simp only [askedD]; (repeat' split) <;> first | (exfalso; omega) | (rw [Bool.eq_iff_iff]; simp only [beq_iff_eq, decide_eq_true_eq, Bool.and_eq_true, true_iff, false_iff, iff_true, iff_false, eq_self, Bool.false_eq_true, not_and]; omega))
/-- What a maker does with the rows of a list. -/
abbrev Maker (g : FuncId) (caps : List PV) (f : Count → List Count × Int) (l : List Count) : Prop := ∀ c ∈ l, ∀ Q : PV → Mem → Prop, ((f c).2 = 0 → Q (.tup [.own 0, vi 0]) [.row 61 ((f c).1.map eC)]) → ((f c).2 ≠ 0 → ∀ es, Q (.tup [.own 0, vi (f c).2]) [.row 61 es]) → Does Tryz.prog g (.agg [.sl (c.row.map eV), vi c.diff] :: caps) [] 0 Q
theorem deno_each0 (l : List Count) (g : FuncId) (f : Count → List Count × Int) (B : Nat) (Q : PV → Mem → Prop) (hg : Maker g [] f l) (hf : ∀ c, (f c).1.length ≤ B) (hb : l.length * B ≤ 1000000000) (hl : l.length ≤ 1000000) (h : Q (.tup [.own 0, vi (eachF f l []).2]) [.row 61 ((eachF f l []).1.map eC)]) : Does Tryz.prog 58 [.sl (l.map eC), .fn g []] [] 0 Q := by
  refine does_of mixed Tryz.func58 rfl (by kernel_rfl) no (slots [(0, [1, 6, 11, 12, 13])]) ?_
  simp only [Tryz.f58]
  repeat' (first
    | simp -implicitDefEqProofs only [go_sem, eC, Nat.reduceAdd, Nat.reduceEqDiff, Nat.reduceLT, Nat.reduceBEq, Nat.reduceLeDiff, Nat.reduceSub, Int.reduceLE, Int.reduceNeg, Int.reduceEq, Int.reduceToNat]
    | with_reducible refine know_of fun _ => ?_
    | with_reducible refine ifD1 (by omega) ?_
    | with_reducible refine ifD0 (by omega) ?_
    | with_reducible refine ifE1 (by omega) ?_
    | with_reducible refine ifE0 (by omega) ?_
    | with_reducible refine ifN1 (by omega) ?_
    | with_reducible refine ifN0 (by omega) ?_
    | with_reducible refine ifD_of (fun _ => ?_) (fun _ => ?_)
    | with_reducible refine ifE_of (fun _ => ?_) (fun _ => ?_)
    | with_reducible refine ifN_of (fun _ => ?_) (fun _ => ?_)
    | with_reducible refine Go.V.if1 (by assumption) ?_
    | with_reducible refine Go.V.if0 (by assumption) ?_
    | with_reducible refine if_of (fun _ => ?_) (fun _ => ?_)
    | with_reducible refine s_of (idx_get _ _ _ (by omega) (by omega)) ?_
    | with_reducible refine s_of (idx_get _ _ _ (by omega) (by simp only [List.length_set, List.length_append, List.length_take, List.length_drop, List.length_reverse, List.length_singleton]; omega)) ?_
    | with_reducible refine s_of (map_get _ _ _ (by omega)) ?_
    | with_reducible refine s_of (map_get _ _ _ (by simp only [List.length_set]; omega)) ?_
    | with_reducible refine s_of (if_neg (by omega)) ?_
    | with_reducible refine s_of (if_pos (by omega)) ?_
    | with_reducible refine need_of (by omega) ?_
    | with_reducible refine nil_of (fun _ => ?_) ?_
    | with_reducible refine alt_of ?_ ?_
    | (with_reducible apply join_of; intro _ _)
    | with_reducible assumption)
  refine loop_then (loop_ind (σ := List Count × Nat) (fun s => [(1, .fn g []), (6, .own 0), (11, .sl (l.map eC)), (12, vi l.length), (13, vi s.2)]) (fun s => [.row 61 (s.1.map eC)]) (fun s => l.length - s.2) (fun s => s.2 ≤ l.length ∧ s.1.length ≤ s.2 * B ∧ eachF f (l.drop s.2) s.1 = eachF f l []) ?_ ([], 0) ⟨Nat.zero_le _, Nat.zero_le _, rfl⟩)
  rintro X ⟨acc, i⟩ ⟨hi, ha, he⟩ ih
  try dsimp only at ih ⊢
  dsimp only at hi ha he
  have hfi := hf (l.getD i default)
  have hbi : i < l.length → i * B + B ≤ l.length * B := fun hh => by have := Nat.mul_le_mul_right B (show i + 1 ≤ l.length by omega); rwa [Nat.add_mul, Nat.one_mul] at this
  repeat' (first
    | with_reducible refine need_of (by have := hbi (by omega); omega) ?_
    | simp -implicitDefEqProofs only [go_sem, eC, Int.toNat_natCast, Nat.reduceAdd, Nat.reduceEqDiff, Nat.reduceLT, Nat.reduceBEq, Nat.reduceLeDiff, Nat.reduceSub, Int.reduceLE, Int.reduceNeg, Int.reduceEq, Int.reduceToNat]
    | with_reducible refine know_of fun _ => ?_
    | (with_reducible refine does_then (hg _ (getD_mem' l i (by omega)) _ (fun _ => ?_) (fun _ _ => ?_)))
    | with_reducible refine ifD1 (by omega) ?_
    | with_reducible refine ifD0 (by omega) ?_
    | with_reducible refine ifE1 (by omega) ?_
    | with_reducible refine ifE0 (by omega) ?_
    | with_reducible refine ifN1 (by omega) ?_
    | with_reducible refine ifN0 (by omega) ?_
    | with_reducible refine ifD_of (fun _ => ?_) (fun _ => ?_)
    | with_reducible refine ifE_of (fun _ => ?_) (fun _ => ?_)
    | with_reducible refine ifN_of (fun _ => ?_) (fun _ => ?_)
    | with_reducible refine Go.V.if1 (by assumption) ?_
    | with_reducible refine Go.V.if0 (by assumption) ?_
    | with_reducible refine if_of (fun _ => ?_) (fun _ => ?_)
    | with_reducible refine s_of (idx_get _ _ _ (by omega) (by omega)) ?_
    | with_reducible refine s_of (idx_get _ _ _ (by omega) (by simp only [List.length_set, List.length_append, List.length_take, List.length_drop, List.length_reverse, List.length_singleton]; omega)) ?_
    | with_reducible refine s_of (map_get _ _ _ (by omega)) ?_
    | with_reducible refine s_of (map_get _ _ _ (by simp only [List.length_set]; omega)) ?_
    | with_reducible refine s_of (if_neg (by omega)) ?_
    | with_reducible refine s_of (if_pos (by omega)) ?_
    | with_reducible refine need_of (by omega) ?_
    | with_reducible refine nil_of (fun _ => ?_) ?_
    | with_reducible refine alt_of ?_ ?_
    | (with_reducible apply join_of; intro _ _)
    | with_reducible assumption)
  · rename_i hz _
    rw [drop_getD l i (by omega), eachF, if_pos hz] at he
    have hbi := hbi (by omega)
    rw [wnat i (by omega)]
    have hi1 := ih (acc ++ (f (l.getD i default)).1, i + 1) (by dsimp only; omega) ⟨by dsimp only; omega, by dsimp only; rw [List.length_append, Nat.add_mul, Nat.one_mul]; omega, he⟩
    dsimp only at hi1
    rw [List.map_append] at hi1
    exact hi1
  · rename_i hz _
    rw [drop_getD l i (by omega), eachF, if_neg hz] at he
    rw [← he] at h
    exact h
  · rw [List.drop_eq_nil_of_le (by omega), eachF] at he
    rw [← he] at h
    exact h
theorem deno_each1 (l : List Count) (g : FuncId) (cs : List PV) (f : Count → List Count × Int) (B : Nat) (Q : PV → Mem → Prop) (hg : Maker g [.cad cs] f l) (hf : ∀ c, (f c).1.length ≤ B) (hb : l.length * B ≤ 1000000000) (hl : l.length ≤ 1000000) (h : Q (.tup [.own 0, vi (eachF f l []).2]) [.row 61 ((eachF f l []).1.map eC)]) : Does Tryz.prog 58 [.sl (l.map eC), .fn g [.cad cs]] [] 0 Q := by
  refine does_of mixed Tryz.func58 rfl (by kernel_rfl) no (slots [(0, [1, 6, 11, 12, 13])]) ?_
  simp only [Tryz.f58]
  repeat' (first
    | simp -implicitDefEqProofs only [go_sem, eC, Nat.reduceAdd, Nat.reduceEqDiff, Nat.reduceLT, Nat.reduceBEq, Nat.reduceLeDiff, Nat.reduceSub, Int.reduceLE, Int.reduceNeg, Int.reduceEq, Int.reduceToNat]
    | with_reducible refine know_of fun _ => ?_
    | with_reducible refine ifD1 (by omega) ?_
    | with_reducible refine ifD0 (by omega) ?_
    | with_reducible refine ifE1 (by omega) ?_
    | with_reducible refine ifE0 (by omega) ?_
    | with_reducible refine ifN1 (by omega) ?_
    | with_reducible refine ifN0 (by omega) ?_
    | with_reducible refine ifD_of (fun _ => ?_) (fun _ => ?_)
    | with_reducible refine ifE_of (fun _ => ?_) (fun _ => ?_)
    | with_reducible refine ifN_of (fun _ => ?_) (fun _ => ?_)
    | with_reducible refine Go.V.if1 (by assumption) ?_
    | with_reducible refine Go.V.if0 (by assumption) ?_
    | with_reducible refine if_of (fun _ => ?_) (fun _ => ?_)
    | with_reducible refine s_of (idx_get _ _ _ (by omega) (by omega)) ?_
    | with_reducible refine s_of (idx_get _ _ _ (by omega) (by simp only [List.length_set, List.length_append, List.length_take, List.length_drop, List.length_reverse, List.length_singleton]; omega)) ?_
    | with_reducible refine s_of (map_get _ _ _ (by omega)) ?_
    | with_reducible refine s_of (map_get _ _ _ (by simp only [List.length_set]; omega)) ?_
    | with_reducible refine s_of (if_neg (by omega)) ?_
    | with_reducible refine s_of (if_pos (by omega)) ?_
    | with_reducible refine need_of (by omega) ?_
    | with_reducible refine nil_of (fun _ => ?_) ?_
    | with_reducible refine alt_of ?_ ?_
    | (with_reducible apply join_of; intro _ _)
    | with_reducible assumption)
  refine loop_then (loop_ind (σ := List Count × Nat) (fun s => [(1, .fn g [.cad cs]), (6, .own 0), (11, .sl (l.map eC)), (12, vi l.length), (13, vi s.2)]) (fun s => [.row 61 (s.1.map eC)]) (fun s => l.length - s.2) (fun s => s.2 ≤ l.length ∧ s.1.length ≤ s.2 * B ∧ eachF f (l.drop s.2) s.1 = eachF f l []) ?_ ([], 0) ⟨Nat.zero_le _, Nat.zero_le _, rfl⟩)
  rintro X ⟨acc, i⟩ ⟨hi, ha, he⟩ ih
  try dsimp only at ih ⊢
  dsimp only at hi ha he
  have hfi := hf (l.getD i default)
  have hbi : i < l.length → i * B + B ≤ l.length * B := fun hh => by have := Nat.mul_le_mul_right B (show i + 1 ≤ l.length by omega); rwa [Nat.add_mul, Nat.one_mul] at this
  repeat' (first
    | with_reducible refine need_of (by have := hbi (by omega); omega) ?_
    | simp -implicitDefEqProofs only [go_sem, eC, Int.toNat_natCast, Nat.reduceAdd, Nat.reduceEqDiff, Nat.reduceLT, Nat.reduceBEq, Nat.reduceLeDiff, Nat.reduceSub, Int.reduceLE, Int.reduceNeg, Int.reduceEq, Int.reduceToNat]
    | with_reducible refine know_of fun _ => ?_
    | (with_reducible refine does_then (hg _ (getD_mem' l i (by omega)) _ (fun _ => ?_) (fun _ _ => ?_)))
    | with_reducible refine ifD1 (by omega) ?_
    | with_reducible refine ifD0 (by omega) ?_
    | with_reducible refine ifE1 (by omega) ?_
    | with_reducible refine ifE0 (by omega) ?_
    | with_reducible refine ifN1 (by omega) ?_
    | with_reducible refine ifN0 (by omega) ?_
    | with_reducible refine ifD_of (fun _ => ?_) (fun _ => ?_)
    | with_reducible refine ifE_of (fun _ => ?_) (fun _ => ?_)
    | with_reducible refine ifN_of (fun _ => ?_) (fun _ => ?_)
    | with_reducible refine Go.V.if1 (by assumption) ?_
    | with_reducible refine Go.V.if0 (by assumption) ?_
    | with_reducible refine if_of (fun _ => ?_) (fun _ => ?_)
    | with_reducible refine s_of (idx_get _ _ _ (by omega) (by omega)) ?_
    | with_reducible refine s_of (idx_get _ _ _ (by omega) (by simp only [List.length_set, List.length_append, List.length_take, List.length_drop, List.length_reverse, List.length_singleton]; omega)) ?_
    | with_reducible refine s_of (map_get _ _ _ (by omega)) ?_
    | with_reducible refine s_of (map_get _ _ _ (by simp only [List.length_set]; omega)) ?_
    | with_reducible refine s_of (if_neg (by omega)) ?_
    | with_reducible refine s_of (if_pos (by omega)) ?_
    | with_reducible refine need_of (by omega) ?_
    | with_reducible refine nil_of (fun _ => ?_) ?_
    | with_reducible refine alt_of ?_ ?_
    | (with_reducible apply join_of; intro _ _)
    | with_reducible assumption)
  · rename_i hz _
    rw [drop_getD l i (by omega), eachF, if_pos hz] at he
    have hbi := hbi (by omega)
    rw [wnat i (by omega)]
    have hi1 := ih (acc ++ (f (l.getD i default)).1, i + 1) (by dsimp only; omega) ⟨by dsimp only; omega, by dsimp only; rw [List.length_append, Nat.add_mul, Nat.one_mul]; omega, he⟩
    dsimp only at hi1
    rw [List.map_append] at hi1
    exact hi1
  · rename_i hz _
    rw [drop_getD l i (by omega), eachF, if_neg hz] at he
    rw [← he] at h
    exact h
  · rw [List.drop_eq_nil_of_le (by omega), eachF] at he
    rw [← he] at h
    exact h
theorem deno_each2 (l : List Count) (g : FuncId) (cs ds : List PV) (f : Count → List Count × Int) (B : Nat) (Q : PV → Mem → Prop) (hg : Maker g [.cad cs, .cad ds] f l) (hf : ∀ c, (f c).1.length ≤ B) (hb : l.length * B ≤ 1000000000) (hl : l.length ≤ 1000000) (h : Q (.tup [.own 0, vi (eachF f l []).2]) [.row 61 ((eachF f l []).1.map eC)]) : Does Tryz.prog 58 [.sl (l.map eC), .fn g [.cad cs, .cad ds]] [] 0 Q := by
  refine does_of mixed Tryz.func58 rfl (by kernel_rfl) no (slots [(0, [1, 6, 11, 12, 13])]) ?_
  simp only [Tryz.f58]
  repeat' (first
    | simp -implicitDefEqProofs only [go_sem, eC, Nat.reduceAdd, Nat.reduceEqDiff, Nat.reduceLT, Nat.reduceBEq, Nat.reduceLeDiff, Nat.reduceSub, Int.reduceLE, Int.reduceNeg, Int.reduceEq, Int.reduceToNat]
    | with_reducible refine know_of fun _ => ?_
    | with_reducible refine ifD1 (by omega) ?_
    | with_reducible refine ifD0 (by omega) ?_
    | with_reducible refine ifE1 (by omega) ?_
    | with_reducible refine ifE0 (by omega) ?_
    | with_reducible refine ifN1 (by omega) ?_
    | with_reducible refine ifN0 (by omega) ?_
    | with_reducible refine ifD_of (fun _ => ?_) (fun _ => ?_)
    | with_reducible refine ifE_of (fun _ => ?_) (fun _ => ?_)
    | with_reducible refine ifN_of (fun _ => ?_) (fun _ => ?_)
    | with_reducible refine Go.V.if1 (by assumption) ?_
    | with_reducible refine Go.V.if0 (by assumption) ?_
    | with_reducible refine if_of (fun _ => ?_) (fun _ => ?_)
    | with_reducible refine s_of (idx_get _ _ _ (by omega) (by omega)) ?_
    | with_reducible refine s_of (idx_get _ _ _ (by omega) (by simp only [List.length_set, List.length_append, List.length_take, List.length_drop, List.length_reverse, List.length_singleton]; omega)) ?_
    | with_reducible refine s_of (map_get _ _ _ (by omega)) ?_
    | with_reducible refine s_of (map_get _ _ _ (by simp only [List.length_set]; omega)) ?_
    | with_reducible refine s_of (if_neg (by omega)) ?_
    | with_reducible refine s_of (if_pos (by omega)) ?_
    | with_reducible refine need_of (by omega) ?_
    | with_reducible refine nil_of (fun _ => ?_) ?_
    | with_reducible refine alt_of ?_ ?_
    | (with_reducible apply join_of; intro _ _)
    | with_reducible assumption)
  refine loop_then (loop_ind (σ := List Count × Nat) (fun s => [(1, .fn g [.cad cs, .cad ds]), (6, .own 0), (11, .sl (l.map eC)), (12, vi l.length), (13, vi s.2)]) (fun s => [.row 61 (s.1.map eC)]) (fun s => l.length - s.2) (fun s => s.2 ≤ l.length ∧ s.1.length ≤ s.2 * B ∧ eachF f (l.drop s.2) s.1 = eachF f l []) ?_ ([], 0) ⟨Nat.zero_le _, Nat.zero_le _, rfl⟩)
  rintro X ⟨acc, i⟩ ⟨hi, ha, he⟩ ih
  try dsimp only at ih ⊢
  dsimp only at hi ha he
  have hfi := hf (l.getD i default)
  have hbi : i < l.length → i * B + B ≤ l.length * B := fun hh => by have := Nat.mul_le_mul_right B (show i + 1 ≤ l.length by omega); rwa [Nat.add_mul, Nat.one_mul] at this
  repeat' (first
    | with_reducible refine need_of (by have := hbi (by omega); omega) ?_
    | simp -implicitDefEqProofs only [go_sem, eC, Int.toNat_natCast, Nat.reduceAdd, Nat.reduceEqDiff, Nat.reduceLT, Nat.reduceBEq, Nat.reduceLeDiff, Nat.reduceSub, Int.reduceLE, Int.reduceNeg, Int.reduceEq, Int.reduceToNat]
    | with_reducible refine know_of fun _ => ?_
    | (with_reducible refine does_then (hg _ (getD_mem' l i (by omega)) _ (fun _ => ?_) (fun _ _ => ?_)))
    | with_reducible refine ifD1 (by omega) ?_
    | with_reducible refine ifD0 (by omega) ?_
    | with_reducible refine ifE1 (by omega) ?_
    | with_reducible refine ifE0 (by omega) ?_
    | with_reducible refine ifN1 (by omega) ?_
    | with_reducible refine ifN0 (by omega) ?_
    | with_reducible refine ifD_of (fun _ => ?_) (fun _ => ?_)
    | with_reducible refine ifE_of (fun _ => ?_) (fun _ => ?_)
    | with_reducible refine ifN_of (fun _ => ?_) (fun _ => ?_)
    | with_reducible refine Go.V.if1 (by assumption) ?_
    | with_reducible refine Go.V.if0 (by assumption) ?_
    | with_reducible refine if_of (fun _ => ?_) (fun _ => ?_)
    | with_reducible refine s_of (idx_get _ _ _ (by omega) (by omega)) ?_
    | with_reducible refine s_of (idx_get _ _ _ (by omega) (by simp only [List.length_set, List.length_append, List.length_take, List.length_drop, List.length_reverse, List.length_singleton]; omega)) ?_
    | with_reducible refine s_of (map_get _ _ _ (by omega)) ?_
    | with_reducible refine s_of (map_get _ _ _ (by simp only [List.length_set]; omega)) ?_
    | with_reducible refine s_of (if_neg (by omega)) ?_
    | with_reducible refine s_of (if_pos (by omega)) ?_
    | with_reducible refine need_of (by omega) ?_
    | with_reducible refine nil_of (fun _ => ?_) ?_
    | with_reducible refine alt_of ?_ ?_
    | (with_reducible apply join_of; intro _ _)
    | with_reducible assumption)
  · rename_i hz _
    rw [drop_getD l i (by omega), eachF, if_pos hz] at he
    have hbi := hbi (by omega)
    rw [wnat i (by omega)]
    have hi1 := ih (acc ++ (f (l.getD i default)).1, i + 1) (by dsimp only; omega) ⟨by dsimp only; omega, by dsimp only; rw [List.length_append, Nat.add_mul, Nat.one_mul]; omega, he⟩
    dsimp only at hi1
    rw [List.map_append] at hi1
    exact hi1
  · rename_i hz _
    rw [drop_getD l i (by omega), eachF, if_neg hz] at he
    rw [← he] at h
    exact h
  · rw [List.drop_eq_nil_of_le (by omega), eachF] at he
    rw [← he] at h
    exact h
def mapR (exprs : List (List Term)) (c : Count) : List Count × Int := ([⟨(mapA c.row exprs []).1, c.diff⟩], (mapA c.row exprs []).2)
theorem deno_mapped1 (c : Count) (exprs : List (List Term)) (Q : PV → Mem → Prop) (hr : c.row.length ≤ 1000000) (hx : exprs.length ≤ 1000000) (h : (mapR exprs c).2 = 0 → Q (.tup [.own 0, vi 0]) [.row 61 ((mapR exprs c).1.map eC)]) (h0 : (mapR exprs c).2 ≠ 0 → ∀ es, Q (.tup [.own 0, vi (mapR exprs c).2]) [.row 61 es]) : Does Tryz.prog 151 [.agg [.sl (c.row.map eV), vi c.diff], .cad [.sl (exprs.map eE)]] [] 0 Q := by
  refine does_of mixed Tryz.func151 rfl (by kernel_rfl) no (slots [(0, [2, 5, 10, 11, 12])]) ?_
  simp only [Tryz.f151]
  unfold mapR at h h0
  repeat' (first
    | simp -implicitDefEqProofs only [go_sem, eC, eE, Nat.reduceAdd, Nat.reduceEqDiff, Nat.reduceLT, Nat.reduceBEq, Nat.reduceLeDiff, Nat.reduceSub, Int.reduceLE, Int.reduceNeg, Int.reduceEq, Int.reduceToNat]
    | with_reducible refine know_of fun _ => ?_
    | with_reducible refine ifD1 (by omega) ?_
    | with_reducible refine ifD0 (by omega) ?_
    | with_reducible refine ifE1 (by omega) ?_
    | with_reducible refine ifE0 (by omega) ?_
    | with_reducible refine ifN1 (by omega) ?_
    | with_reducible refine ifN0 (by omega) ?_
    | with_reducible refine ifD_of (fun _ => ?_) (fun _ => ?_)
    | with_reducible refine ifE_of (fun _ => ?_) (fun _ => ?_)
    | with_reducible refine ifN_of (fun _ => ?_) (fun _ => ?_)
    | with_reducible refine Go.V.if1 (by assumption) ?_
    | with_reducible refine Go.V.if0 (by assumption) ?_
    | with_reducible refine if_of (fun _ => ?_) (fun _ => ?_)
    | with_reducible refine s_of (idx_get _ _ _ (by omega) (by omega)) ?_
    | with_reducible refine s_of (idx_get _ _ _ (by omega) (by simp only [List.length_set, List.length_append, List.length_take, List.length_drop, List.length_reverse, List.length_singleton]; omega)) ?_
    | with_reducible refine s_of (map_get _ _ _ (by omega)) ?_
    | with_reducible refine s_of (map_get _ _ _ (by simp only [List.length_set]; omega)) ?_
    | with_reducible refine s_of (if_neg (by omega)) ?_
    | with_reducible refine s_of (if_pos (by omega)) ?_
    | with_reducible refine need_of (by omega) ?_
    | with_reducible refine nil_of (fun _ => ?_) ?_
    | with_reducible refine alt_of ?_ ?_
    | (with_reducible apply join_of; intro _ _)
    | with_reducible assumption)
  refine loop_then (loop_ind (σ := Nat × List Val) (fun s => [(2, .adr 0 0), (5, .own 1), (10, .sl (exprs.map eE)), (11, vi exprs.length), (12, vi s.1)]) (fun s => [.var [.sl (c.row.map eV), vi c.diff], .row 83 (s.2.map eV)]) (fun s => exprs.length - s.1) (fun s => s.1 ≤ exprs.length ∧ s.2.length ≤ s.1 ∧ mapA c.row exprs [] = mapA c.row (exprs.drop s.1) s.2) ?_ (0, []) ⟨Nat.zero_le _, Nat.zero_le _, rfl⟩)
  rintro X ⟨i, a⟩ ⟨hi, ha, hm⟩ ih
  try dsimp only at ih ⊢
  dsimp only at hi ha hm
  repeat' (first
    | rw [appV]
    | simp -implicitDefEqProofs only [go_sem, eE, eC, Int.toNat_natCast, Nat.reduceAdd, Nat.reduceEqDiff, Nat.reduceLT, Nat.reduceBEq, Nat.reduceLeDiff, Nat.reduceSub, Int.reduceLE, Int.reduceNeg, Int.reduceEq, Int.reduceToNat]
    | with_reducible refine know_of fun _ => ?_
    | (with_reducible refine does_then (expr_Eval _ _ _ (by omega) ?_))
    | (with_reducible refine does_then (deno_with _ _ _ ?_))
    | with_reducible refine ifD1 (by omega) ?_
    | with_reducible refine ifD0 (by omega) ?_
    | with_reducible refine ifE1 (by omega) ?_
    | with_reducible refine ifE0 (by omega) ?_
    | with_reducible refine ifN1 (by omega) ?_
    | with_reducible refine ifN0 (by omega) ?_
    | with_reducible refine ifD_of (fun _ => ?_) (fun _ => ?_)
    | with_reducible refine ifE_of (fun _ => ?_) (fun _ => ?_)
    | with_reducible refine ifN_of (fun _ => ?_) (fun _ => ?_)
    | with_reducible refine Go.V.if1 (by assumption) ?_
    | with_reducible refine Go.V.if0 (by assumption) ?_
    | with_reducible refine if_of (fun _ => ?_) (fun _ => ?_)
    | with_reducible refine s_of (idx_get _ _ _ (by omega) (by omega)) ?_
    | with_reducible refine s_of (idx_get _ _ _ (by omega) (by simp only [List.length_set, List.length_append, List.length_take, List.length_drop, List.length_reverse, List.length_singleton]; omega)) ?_
    | with_reducible refine s_of (map_get _ _ _ (by omega)) ?_
    | with_reducible refine s_of (map_get _ _ _ (by simp only [List.length_set]; omega)) ?_
    | with_reducible refine s_of (if_neg (by omega)) ?_
    | with_reducible refine s_of (if_pos (by omega)) ?_
    | with_reducible refine need_of (by omega) ?_
    | with_reducible refine nil_of (fun _ => ?_) ?_
    | with_reducible refine alt_of ?_ ?_
    | (with_reducible apply join_of; intro _ _)
    | with_reducible assumption)
  all_goals first
    | (rw [drop_getD exprs i (by omega), mapA, if_neg (by assumption)] at hm
       rw [hm] at h0; exact h0 (by assumption) _)
    | (rw [drop_getD exprs i (by omega), mapA, if_pos (by assumption)] at hm
       rw [wnat i (by omega)]
       exact ih (i + 1, _) (by dsimp only; omega) ⟨by dsimp only; omega, by simp; omega, hm⟩)
    | (rw [List.drop_eq_nil_of_le (by omega), mapA] at hm
       rw [hm] at h; exact h rfl)
theorem deno_lin1 (c : Count) (n : Node) (Q : PV → Mem → Prop) (hr : c.row.length ≤ 1000000) (hk : n.kind = 2) (hx : n.exprs.length = 1) (h : (rowN n c).2 = 0 → Q (.tup [.own 0, vi 0]) [.row 61 ((rowN n c).1.map eC)]) (h0 : (rowN n c).2 ≠ 0 → ∀ es, Q (.tup [.own 0, vi (rowN n c).2]) [.row 61 es]) : Does Tryz.prog 107 [.agg [.sl (c.row.map eV), vi c.diff], .cad [vi n.kind, .sl (n.ins.map eI), .sl (n.kinds.map eI), .sl (n.exprs.map eE), .sl (n.cols.map eI), vi n.key, vi n.n, vi n.size, vi n.slide]] [] 0 Q := by
  refine does_ofT mixed Tryz.func107 rfl (treesT [(1, (.one 0 (.one 1 (.one 2 (.one 3 (.one 4 (.one 5 (.alt (.one 6 (.one 7 (.one 8 (.one 9 (.one 10 (.one 11 (.one 12 .nil))))))) (.one 10 (.one 6 (.one 7 (.one 8 (.one 9 (.one 11 (.one 12 .nil))))))))))))), [2, 5, 6]))]) (by kernel_rfl) no (slots []) ?_
  simp only [Tryz.f107]
  unfold rowN at h h0
  rw [if_neg (by omega), if_pos hk] at h h0
  repeat' (first
    | simp -implicitDefEqProofs only [go_sem, eC, eE, Int.toNat_zero, Nat.reduceAdd, Nat.reduceEqDiff, Nat.reduceLT, Nat.reduceBEq, Nat.reduceLeDiff, Nat.reduceSub, Int.reduceLE, Int.reduceNeg, Int.reduceEq, Int.reduceToNat]
    | with_reducible refine know_of fun _ => ?_
    | (with_reducible refine does_then (expr_Eval _ _ _ (by omega) ?_))
    | (with_reducible refine does_then (expr_Truth _ _ _ _ ?_))
    | (with_reducible refine does_then (deno_with _ _ _ ?_))
    | with_reducible refine ifD1 (by omega) ?_
    | with_reducible refine ifD0 (by omega) ?_
    | with_reducible refine ifE1 (by omega) ?_
    | with_reducible refine ifE0 (by omega) ?_
    | with_reducible refine ifN1 (by omega) ?_
    | with_reducible refine ifN0 (by omega) ?_
    | with_reducible refine ifD_of (fun _ => ?_) (fun _ => ?_)
    | with_reducible refine ifE_of (fun _ => ?_) (fun _ => ?_)
    | with_reducible refine ifN_of (fun _ => ?_) (fun _ => ?_)
    | with_reducible refine Go.V.if1 (by assumption) ?_
    | with_reducible refine Go.V.if0 (by assumption) ?_
    | with_reducible refine if_of (fun _ => ?_) (fun _ => ?_)
    | with_reducible refine s_of (idx_get _ _ _ (by omega) (by omega)) ?_
    | with_reducible refine s_of (idx_get _ _ _ (by omega) (by simp only [List.length_set, List.length_append, List.length_take, List.length_drop, List.length_reverse, List.length_singleton]; omega)) ?_
    | with_reducible refine s_of (map_get _ _ _ (by omega)) ?_
    | with_reducible refine s_of (map_get _ _ _ (by simp only [List.length_set]; omega)) ?_
    | with_reducible refine s_of (if_neg (by omega)) ?_
    | with_reducible refine s_of (if_pos (by omega)) ?_
    | with_reducible refine need_of (by omega) ?_
    | with_reducible refine nil_of (fun _ => ?_) ?_
    | with_reducible refine alt_of ?_ ?_
    | (with_reducible apply join_of; intro _ _)
    | with_reducible assumption)
  all_goals first
    | (rw [if_pos (by assumption)] at h0; exact h0 (by assumption) _)
    | (rw [if_neg (not_not_intro (by assumption)), if_pos (by assumption)] at h; exact h rfl)
    | (rw [if_neg (not_not_intro (by assumption)), if_neg (by rw [show truthV _ = false by assumption]; exact Bool.false_ne_true)] at h; rw [show (evalE (n.exprs.getD 0 default) c.row).2 = 0 by assumption]; exact h rfl)
    | trace_state
theorem deno_lin2 (c : Count) (n : Node) (Q : PV → Mem → Prop) (hr : c.row.length ≤ 1000000) (hk : n.kind = 3) (hc : n.cols.length ≤ 1000000) (h : (rowN n c).2 = 0 → Q (.tup [.own 0, vi 0]) [.row 61 ((rowN n c).1.map eC)]) (h0 : (rowN n c).2 ≠ 0 → ∀ es, Q (.tup [.own 0, vi (rowN n c).2]) [.row 61 es]) : Does Tryz.prog 110 [.agg [.sl (c.row.map eV), vi c.diff], .cad [vi n.kind, .sl (n.ins.map eI), .sl (n.kinds.map eI), .sl (n.exprs.map eE), .sl (n.cols.map eI), vi n.key, vi n.n, vi n.size, vi n.slide]] [] 0 Q := by
  refine does_of mixed Tryz.func110 rfl (by kernel_rfl) no (slots []) ?_
  simp only [Tryz.f110]
  unfold rowN at h h0
  rw [if_neg (by omega), if_neg (by omega), if_pos hk] at h h0
  have hh : ∀ e, (partA c.row n.cols []).2 = e → Q (.tup [.own 0, vi e]) [.row 61 ([(⟨(partA c.row n.cols []).1, c.diff⟩ : Count)].map eC)] := fun e he => by
    by_cases hz : (partA c.row n.cols []).2 = 0
    · rw [← he, hz]; exact h hz
    · rw [← he]; exact h0 hz _
  repeat' (first
    | simp -implicitDefEqProofs only [go_sem, eC, Nat.reduceAdd, Nat.reduceEqDiff, Nat.reduceLT, Nat.reduceBEq, Nat.reduceLeDiff, Nat.reduceSub, Int.reduceLE, Int.reduceNeg, Int.reduceEq, Int.reduceToNat]
    | with_reducible refine know_of fun _ => ?_
    | (with_reducible refine does_then (row_Part _ _ _ (by omega) ?_))
    | (with_reducible refine does_then (deno_with _ _ _ ?_))
    | with_reducible refine ifD1 (by omega) ?_
    | with_reducible refine ifD0 (by omega) ?_
    | with_reducible refine ifE1 (by omega) ?_
    | with_reducible refine ifE0 (by omega) ?_
    | with_reducible refine ifN1 (by omega) ?_
    | with_reducible refine ifN0 (by omega) ?_
    | with_reducible refine ifD_of (fun _ => ?_) (fun _ => ?_)
    | with_reducible refine ifE_of (fun _ => ?_) (fun _ => ?_)
    | with_reducible refine ifN_of (fun _ => ?_) (fun _ => ?_)
    | with_reducible refine Go.V.if1 (by assumption) ?_
    | with_reducible refine Go.V.if0 (by assumption) ?_
    | with_reducible refine if_of (fun _ => ?_) (fun _ => ?_)
    | with_reducible refine s_of (idx_get _ _ _ (by omega) (by omega)) ?_
    | with_reducible refine s_of (idx_get _ _ _ (by omega) (by simp only [List.length_set, List.length_append, List.length_take, List.length_drop, List.length_reverse, List.length_singleton]; omega)) ?_
    | with_reducible refine s_of (map_get _ _ _ (by omega)) ?_
    | with_reducible refine s_of (map_get _ _ _ (by simp only [List.length_set]; omega)) ?_
    | with_reducible refine s_of (if_neg (by omega)) ?_
    | with_reducible refine s_of (if_pos (by omega)) ?_
    | with_reducible refine need_of (by omega) ?_
    | with_reducible refine nil_of (fun _ => ?_) ?_
    | with_reducible refine alt_of ?_ ?_
    | (with_reducible apply join_of; intro _ _)
    | with_reducible assumption)
  all_goals exact hh _ rfl
theorem deno_lin3 (c : Count) (n : Node) (Q : PV → Mem → Prop) (hr : c.row.length ≤ 1000000) (hk : n.kind = 5) (h : (rowN n c).2 = 0 → Q (.tup [.own 0, vi 0]) [.row 61 ((rowN n c).1.map eC)]) (h0 : (rowN n c).2 ≠ 0 → ∀ es, Q (.tup [.own 0, vi (rowN n c).2]) [.row 61 es]) : Does Tryz.prog 112 [.agg [.sl (c.row.map eV), vi c.diff]] [] 0 Q := by
  refine does_of mixed Tryz.func112 rfl (by kernel_rfl) no (slots []) ?_
  simp only [Tryz.f112]
  unfold rowN at h h0
  rw [if_neg (by omega), if_neg (by omega), if_neg (by omega), if_pos hk] at h h0
  have hh : ∀ e, (over (0 - c.diff)).2 = e → Q (.tup [.own 0, vi e]) [.row 61 ([(⟨c.row, (over (0 - c.diff)).1⟩ : Count)].map eC)] := fun e he => by
    by_cases hz : (over (0 - c.diff)).2 = 0
    · rw [← he, hz]; exact h hz
    · rw [← he]; exact h0 hz _
  repeat' (first
    | simp -implicitDefEqProofs only [go_sem, eC, Nat.reduceAdd, Nat.reduceEqDiff, Nat.reduceLT, Nat.reduceBEq, Nat.reduceLeDiff, Nat.reduceSub, Int.reduceLE, Int.reduceNeg, Int.reduceEq, Int.reduceToNat]
    | with_reducible refine know_of fun _ => ?_
    | (with_reducible refine does_then (weigh_Neg _ _ ?_))
    | (with_reducible refine does_then (deno_with _ _ _ ?_))
    | with_reducible refine ifD1 (by omega) ?_
    | with_reducible refine ifD0 (by omega) ?_
    | with_reducible refine ifE1 (by omega) ?_
    | with_reducible refine ifE0 (by omega) ?_
    | with_reducible refine ifN1 (by omega) ?_
    | with_reducible refine ifN0 (by omega) ?_
    | with_reducible refine ifD_of (fun _ => ?_) (fun _ => ?_)
    | with_reducible refine ifE_of (fun _ => ?_) (fun _ => ?_)
    | with_reducible refine ifN_of (fun _ => ?_) (fun _ => ?_)
    | with_reducible refine Go.V.if1 (by assumption) ?_
    | with_reducible refine Go.V.if0 (by assumption) ?_
    | with_reducible refine if_of (fun _ => ?_) (fun _ => ?_)
    | with_reducible refine s_of (idx_get _ _ _ (by omega) (by omega)) ?_
    | with_reducible refine s_of (idx_get _ _ _ (by omega) (by simp only [List.length_set, List.length_append, List.length_take, List.length_drop, List.length_reverse, List.length_singleton]; omega)) ?_
    | with_reducible refine s_of (map_get _ _ _ (by omega)) ?_
    | with_reducible refine s_of (map_get _ _ _ (by simp only [List.length_set]; omega)) ?_
    | with_reducible refine s_of (if_neg (by omega)) ?_
    | with_reducible refine s_of (if_pos (by omega)) ?_
    | with_reducible refine need_of (by omega) ?_
    | with_reducible refine nil_of (fun _ => ?_) ?_
    | with_reducible refine alt_of ?_ ?_
    | (with_reducible apply join_of; intro _ _)
    | with_reducible assumption)
  all_goals exact hh _ rfl
theorem deno_lin4 (c : Count) (n : Node) (Q : PV → Mem → Prop) (hr : c.row.length ≤ 1000000) (hk : n.kind = 7) (h : (rowN n c).2 = 0 → Q (.tup [.own 0, vi 0]) [.row 61 ((rowN n c).1.map eC)]) (h0 : (rowN n c).2 ≠ 0 → ∀ es, Q (.tup [.own 0, vi (rowN n c).2]) [.row 61 es]) : Does Tryz.prog 114 [.agg [.sl (c.row.map eV), vi c.diff], .cad [vi n.kind, .sl (n.ins.map eI), .sl (n.kinds.map eI), .sl (n.exprs.map eE), .sl (n.cols.map eI), vi n.key, vi n.n, vi n.size, vi n.slide]] [] 0 Q := by
  refine does_of mixed Tryz.func114 rfl (by kernel_rfl) no (slots [(0, [2, 6, 7, 22, 23, 24])]) ?_
  simp only [Tryz.f114]
  unfold rowN at h h0
  rw [if_neg (by omega), if_neg (by omega), if_neg (by omega), if_neg (by omega), if_pos hk] at h h0
  have hal := assign_len (r := c.row) (c := n.n) (s := n.size) (t := n.slide)
  have hh : ∀ e, (assignW c.row n.n n.size n.slide).2 = e → Q (.tup [.own 0, vi e]) [.row 61 (((assignW c.row n.n n.size n.slide).1.map fun r => (⟨r, c.diff⟩ : Count)).map eC)] := fun e he => by
    by_cases hz : (assignW c.row n.n n.size n.slide).2 = 0
    · rw [← he, hz]; exact h hz
    · rw [← he]; exact h0 hz _
  repeat' (first
    | simp -implicitDefEqProofs only [go_sem, eC, Nat.reduceAdd, Nat.reduceEqDiff, Nat.reduceLT, Nat.reduceBEq, Nat.reduceLeDiff, Nat.reduceSub, Int.reduceLE, Int.reduceNeg, Int.reduceEq, Int.reduceToNat]
    | with_reducible refine know_of fun _ => ?_
    | (with_reducible refine does_then (window_Assign _ _ _ _ _ ?_))
    | with_reducible refine ifD1 (by omega) ?_
    | with_reducible refine ifD0 (by omega) ?_
    | with_reducible refine ifE1 (by omega) ?_
    | with_reducible refine ifE0 (by omega) ?_
    | with_reducible refine ifN1 (by omega) ?_
    | with_reducible refine ifN0 (by omega) ?_
    | with_reducible refine ifD_of (fun _ => ?_) (fun _ => ?_)
    | with_reducible refine ifE_of (fun _ => ?_) (fun _ => ?_)
    | with_reducible refine ifN_of (fun _ => ?_) (fun _ => ?_)
    | with_reducible refine Go.V.if1 (by assumption) ?_
    | with_reducible refine Go.V.if0 (by assumption) ?_
    | with_reducible refine if_of (fun _ => ?_) (fun _ => ?_)
    | with_reducible refine s_of (idx_get _ _ _ (by omega) (by omega)) ?_
    | with_reducible refine s_of (idx_get _ _ _ (by omega) (by simp only [List.length_set, List.length_append, List.length_take, List.length_drop, List.length_reverse, List.length_singleton]; omega)) ?_
    | with_reducible refine s_of (map_get _ _ _ (by omega)) ?_
    | with_reducible refine s_of (map_get _ _ _ (by simp only [List.length_set]; omega)) ?_
    | with_reducible refine s_of (if_neg (by omega)) ?_
    | with_reducible refine s_of (if_pos (by omega)) ?_
    | with_reducible refine need_of (by omega) ?_
    | with_reducible refine nil_of (fun _ => ?_) ?_
    | with_reducible refine alt_of ?_ ?_
    | (with_reducible apply join_of; intro _ _)
    | with_reducible assumption)
  have hh := hh _ rfl
  generalize (assignW c.row n.n n.size n.slide).2 = e at *
  generalize (assignW c.row n.n n.size n.slide).1 = R at *
  refine loop_then (loop_ind (σ := Nat) (fun s => [(2, .adr 0 0), (6, vi e), (7, .own 1), (22, .own 2), (23, vi R.length), (24, vi s)]) (fun s => [.var [.sl (c.row.map eV), vi c.diff], .row 61 ((R.take s).map fun r => eC ⟨r, c.diff⟩), .row 59 (R.map eR)]) (fun s => R.length - s) (fun s => s ≤ R.length) ?_ 0 (Nat.zero_le _))
  rintro X i hi ih
  try dsimp only at ih ⊢
  repeat' (first
    | simp -implicitDefEqProofs only [go_sem, eR, eC, Int.toNat_natCast, List.length_take, Nat.reduceAdd, Nat.reduceEqDiff, Nat.reduceLT, Nat.reduceBEq, Nat.reduceLeDiff, Nat.reduceSub, Int.reduceLE, Int.reduceNeg, Int.reduceEq, Int.reduceToNat]
    | with_reducible refine know_of fun _ => ?_
    | (with_reducible refine does_then (deno_with _ _ _ ?_))
    | with_reducible refine ifD1 (by omega) ?_
    | with_reducible refine ifD0 (by omega) ?_
    | with_reducible refine ifE1 (by omega) ?_
    | with_reducible refine ifE0 (by omega) ?_
    | with_reducible refine ifN1 (by omega) ?_
    | with_reducible refine ifN0 (by omega) ?_
    | with_reducible refine ifD_of (fun _ => ?_) (fun _ => ?_)
    | with_reducible refine ifE_of (fun _ => ?_) (fun _ => ?_)
    | with_reducible refine ifN_of (fun _ => ?_) (fun _ => ?_)
    | with_reducible refine Go.V.if1 (by assumption) ?_
    | with_reducible refine Go.V.if0 (by assumption) ?_
    | with_reducible refine if_of (fun _ => ?_) (fun _ => ?_)
    | with_reducible refine s_of (idx_get _ _ _ (by omega) (by omega)) ?_
    | with_reducible refine s_of (idx_get _ _ _ (by omega) (by simp only [List.length_set, List.length_append, List.length_take, List.length_drop, List.length_reverse, List.length_singleton]; omega)) ?_
    | with_reducible refine s_of (map_get _ _ _ (by omega)) ?_
    | with_reducible refine s_of (map_get _ _ _ (by simp only [List.length_set]; omega)) ?_
    | with_reducible refine s_of (if_neg (by omega)) ?_
    | with_reducible refine s_of (if_pos (by omega)) ?_
    | with_reducible refine need_of (by omega) ?_
    | with_reducible refine nil_of (fun _ => ?_) ?_
    | with_reducible refine alt_of ?_ ?_
    | (with_reducible apply join_of; intro _ _)
    | with_reducible assumption)
  · rw [wnat i (by omega)]
    have ht := takeS (fun r => eC ⟨r, c.diff⟩) R i (by omega)
    unfold eC at ht
    rw [ht]; exact ih (i + 1) (by omega) (by omega)
  · rw [List.take_of_length_le (by omega)]; rw [List.map_map] at hh; exact hh
theorem deno_lin5 (c : Count) (Q : PV → Mem → Prop) (hr : c.row.length ≤ 1000000) (h : Q (.tup [.own 0, vi 0]) [.row 61 ([c].map eC)]) : Does Tryz.prog 116 [.agg [.sl (c.row.map eV), vi c.diff]] [] 0 Q := by
  refine does_of mixed Tryz.func116 rfl (by kernel_rfl) no (slots []) ?_
  simp only [Tryz.f116]
  repeat' (first
    | simp -implicitDefEqProofs only [go_sem, eC, Nat.reduceAdd, Nat.reduceEqDiff, Nat.reduceLT, Nat.reduceBEq, Nat.reduceLeDiff, Nat.reduceSub, Int.reduceLE, Int.reduceNeg, Int.reduceEq, Int.reduceToNat]
    | with_reducible refine know_of fun _ => ?_
    | (with_reducible refine does_then (deno_with _ _ _ ?_))
    | with_reducible refine ifD1 (by omega) ?_
    | with_reducible refine ifD0 (by omega) ?_
    | with_reducible refine ifE1 (by omega) ?_
    | with_reducible refine ifE0 (by omega) ?_
    | with_reducible refine ifN1 (by omega) ?_
    | with_reducible refine ifN0 (by omega) ?_
    | with_reducible refine ifD_of (fun _ => ?_) (fun _ => ?_)
    | with_reducible refine ifE_of (fun _ => ?_) (fun _ => ?_)
    | with_reducible refine ifN_of (fun _ => ?_) (fun _ => ?_)
    | with_reducible refine Go.V.if1 (by assumption) ?_
    | with_reducible refine Go.V.if0 (by assumption) ?_
    | with_reducible refine if_of (fun _ => ?_) (fun _ => ?_)
    | with_reducible refine s_of (idx_get _ _ _ (by omega) (by omega)) ?_
    | with_reducible refine s_of (idx_get _ _ _ (by omega) (by simp only [List.length_set, List.length_append, List.length_take, List.length_drop, List.length_reverse, List.length_singleton]; omega)) ?_
    | with_reducible refine s_of (map_get _ _ _ (by omega)) ?_
    | with_reducible refine s_of (map_get _ _ _ (by simp only [List.length_set]; omega)) ?_
    | with_reducible refine s_of (if_neg (by omega)) ?_
    | with_reducible refine s_of (if_pos (by omega)) ?_
    | with_reducible refine need_of (by omega) ?_
    | with_reducible refine nil_of (fun _ => ?_) ?_
    | with_reducible refine alt_of ?_ ?_
    | (with_reducible apply join_of; intro _ _)
    | with_reducible assumption)
  all_goals first | exact h | simpa using h
theorem deno_join11 (c x : Count) (key : Int) (Q : PV → Mem → Prop) (hr : c.row.length ≤ 1000000) (hr2 : x.row.length ≤ 1000000) (hk : 0 ≤ key) (hk1 : key ≤ c.row.length) (hk2 : key ≤ x.row.length) (h : (joinQ key x c).2 = 0 → Q (.tup [.own 0, vi 0]) [.row 61 ((joinQ key x c).1.map eC)]) (h0 : (joinQ key x c).2 ≠ 0 → ∀ es, Q (.tup [.own 0, vi (joinQ key x c).2]) [.row 61 es]) : Does Tryz.prog 101 [.agg [.sl (c.row.map eV), vi c.diff], .cad [.sl (x.row.map eV), vi x.diff], .cad [vi key]] [] 0 Q := by
  refine does_ofT mixed Tryz.func101 rfl (treesT [(4, (.one 0 (.one 1 (.one 2 (.one 3 (.one 4 (.one 5 (.one 8 (.one 10 (.one 6 (.one 7 (.one 9 (.one 11 (.one 12 .nil)))))))))))), [4, 5]))]) (by kernel_rfl) no (slots []) ?_
  simp only [Tryz.f101]
  unfold joinQ at h h0
  have hj : orderR (x.row.take key.toNat) (c.row.take key.toNat) = 0 → ∀ e, (over (x.diff * c.diff)).2 = e → Q (.tup [.own 0, vi e]) [.row 61 ([(⟨x.row ++ c.row.drop key.toNat, (over (x.diff * c.diff)).1⟩ : Count)].map eC)] := fun hz e he => by
    rw [if_pos hz] at h h0
    by_cases hy : (over (x.diff * c.diff)).2 = 0
    · rw [← he, hy]; exact h hy
    · rw [← he]; exact h0 hy _
  repeat' (first
    | refine need_of ⟨by omega, by omega, lenM eV 3 (fun _ => rfl) _⟩ ?_
    | refine need_of ⟨by omega, by omega, by omega, lenM eV 3 (fun _ => rfl) _⟩ ?_
    | simp -implicitDefEqProofs only [go_sem, eC, takeM, dropM, Int.toNat_natCast, List.take_length, Nat.reduceAdd, Nat.reduceEqDiff, Nat.reduceLT, Nat.reduceBEq, Nat.reduceLeDiff, Nat.reduceSub, Int.reduceLE, Int.reduceNeg, Int.reduceEq, Int.reduceToNat]
    | with_reducible refine know_of fun _ => ?_
    | (with_reducible refine does_then (row_Same _ _ _ ?_))
    | (with_reducible refine does_then (weigh_Mul _ _ _ ?_))
    | (with_reducible refine does_then (row_Join _ _ _ (by omega) (by rw [List.length_drop]; omega) ?_))
    | (with_reducible refine does_then (deno_with _ _ _ ?_))
    | with_reducible refine ifD1 (by omega) ?_
    | with_reducible refine ifD0 (by omega) ?_
    | with_reducible refine ifE1 (by omega) ?_
    | with_reducible refine ifE0 (by omega) ?_
    | with_reducible refine ifN1 (by omega) ?_
    | with_reducible refine ifN0 (by omega) ?_
    | with_reducible refine ifD_of (fun _ => ?_) (fun _ => ?_)
    | with_reducible refine ifE_of (fun _ => ?_) (fun _ => ?_)
    | with_reducible refine ifN_of (fun _ => ?_) (fun _ => ?_)
    | with_reducible refine Go.V.if1 (by assumption) ?_
    | with_reducible refine Go.V.if0 (by assumption) ?_
    | with_reducible refine if_of (fun _ => ?_) (fun _ => ?_)
    | with_reducible refine s_of (idx_get _ _ _ (by omega) (by omega)) ?_
    | with_reducible refine s_of (idx_get _ _ _ (by omega) (by simp only [List.length_set, List.length_append, List.length_take, List.length_drop, List.length_reverse, List.length_singleton]; omega)) ?_
    | with_reducible refine s_of (map_get _ _ _ (by omega)) ?_
    | with_reducible refine s_of (map_get _ _ _ (by simp only [List.length_set]; omega)) ?_
    | with_reducible refine s_of (if_neg (by omega)) ?_
    | with_reducible refine s_of (if_pos (by omega)) ?_
    | with_reducible refine need_of (by omega) ?_
    | with_reducible refine nil_of (fun _ => ?_) ?_
    | with_reducible refine alt_of ?_ ?_
    | (with_reducible apply join_of; intro _ _)
    | with_reducible assumption)
  all_goals first | exact hj (by assumption) _ rfl | (rw [if_neg (by assumption)] at h; exact h rfl) | trace_state
end Go.V
