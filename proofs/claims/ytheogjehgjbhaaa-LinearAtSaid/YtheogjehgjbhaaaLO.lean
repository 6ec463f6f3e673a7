import Derived.Test.YtheogjehgjbhaaaLN
import Derived.Test.YtheogjehgjbhaaaLM
import Derived.Test.YtheogjehgjbhaaaLQ
namespace Go.V
open Go Go.RowKit Go.Proofs
set_option maxRecDepth 100000
set_option maxHeartbeats 4000000
set_option linter.unusedVariables false
set_option linter.unusedSimpArgs false
/-- What a node that is no join and no group makes of a row. -/
def rowN (n : Node) (c : Count) : List Count × Int :=
  if n.kind = 1 then ([⟨(mapA c.row n.exprs []).1, c.diff⟩], (mapA c.row n.exprs []).2)
  else if n.kind = 2 then (if (evalE (n.exprs.getD 0 default) c.row).2 ≠ 0 then ([], (evalE (n.exprs.getD 0 default) c.row).2) else if truthV (evalE (n.exprs.getD 0 default) c.row).1 = true then ([c], 0) else ([], 0))
  else if n.kind = 3 then ([⟨(partA c.row n.cols []).1, c.diff⟩], (partA c.row n.cols []).2)
  else if n.kind = 5 then ([⟨c.row, (over (0 - c.diff)).1⟩], (over (0 - c.diff)).2)
  else if n.kind = 7 then ((assignW c.row n.n n.size n.slide).1.map fun r => ⟨r, c.diff⟩, (assignW c.row n.n n.size n.slide).2)
  else ([c], 0)
def rowsA (n : Node) : List Count → List Count → List Count × Int
  | [], a => (a, 0)
  | c :: l, a => if (rowN n c).2 = 0 then rowsA n l (a ++ (rowN n c).1) else ([], (rowN n c).2)
def nodeN (n : Node) (l : List Count) : List Count × Int :=
  if n.kind = 2 ∧ n.exprs.length ≠ 1 then ([], 1) else if (lessC l).2 ≠ 0 then ([], (lessC l).2)
  else if (rowsA n (lessC l).1 []).2 ≠ 0 then ([], (rowsA n (lessC l).1 []).2) else lessC (rowsA n (lessC l).1 []).1
theorem idx_o1 (x : List PV) : idx [x] ((0 : Nat) : Int) = some x := rfl
theorem idx_o2 (x : List PV) : idx [x] 0 = some x := rfl
theorem truth_f1 {v : Val} (h : v.kind ≠ 0) : ¬ truthV v = true := by unfold truthV; simp [h]
theorem truth_f2 {v : Val} (h : v.int = 0) : ¬ truthV v = true := by unfold truthV; simp [h]
theorem truth_t {v : Val} (h : v.kind = 0) (h1 : v.int ≠ 0) : truthV v = true := by unfold truthV; simp [h, h1]
theorem rowN_len (n : Node) (c : Count) : (rowN n c).1.length ≤ 64 := by
  unfold rowN
  (repeat' split) <;> first | exact Nat.zero_le _ | exact (by decide : (1 : Nat) ≤ 64) | (rw [List.length_map]; exact assign_len)
theorem rowsA_len (n : Node) : ∀ (l a : List Count), (rowsA n l a).1.length ≤ a.length + 64 * l.length
  | [], a => by rw [rowsA]; exact Nat.le_add_right _ _
  | c :: l, a => by
    rw [rowsA]
    have h1 := rowN_len n c
    split
    · refine Nat.le_trans (rowsA_len n l _) ?_
      rw [List.length_append, List.length_cons]; omega
    · exact Nat.zero_le _
theorem takeCR (R : List (List Val)) (d : Int) (i : Nat) (h : i < R.length) : ((R.take i).map fun r => eC ⟨r, d⟩) ++ [[.sl ((R.getD i default).map eV), vi d]] = (R.take (i + 1)).map fun r => eC ⟨r, d⟩ := takeS (fun r => eC ⟨r, d⟩) R i h
theorem ref18_mapped (l : List (List Term)) (r : List Val) (Q : PV → Mem → Prop) (hl : l.length ≤ 1000000) (hr : r.length ≤ 1000000) (h : Q (.tup [.own 0, vi (mapA r l []).2]) [.row 75 ((mapA r l []).1.map eV)]) : Does Try.prog 93 [.sl (l.map eE), .sl (r.map eV)] [] 0 Q := by
  refine does_of mixed Try.func93 rfl (by kernel_rfl) no (slots [(0, [0, 1, 6, 7])]) ?_
  simp only [Try.f93]
  repeat' (first
    | simp -implicitDefEqProofs only [go_sem, Nat.reduceAdd, Nat.reduceEqDiff, Nat.reduceLT, Nat.reduceBEq, Nat.reduceLeDiff, Nat.reduceSub, Int.reduceLE, Int.reduceNeg, Int.reduceEq, Int.reduceToNat]
    | with_reducible refine know_of fun _ => ?_
    | with_reducible refine ifD1 (by omega) ?_
    | with_reducible refine ifD0 (by omega) ?_
    | with_reducible refine ifE1 (by omega) ?_
    | with_reducible refine ifE0 (by omega) ?_
    | with_reducible refine ifN1 (by omega) ?_
    | with_reducible refine ifN0 (by omega) ?_
    | with_reducible refine ifD_of (fun _ => ?_) (fun _ => ?_)
    | with_reducible refine ifE_of (fun _ => ?_) (fun _ => ?_)
    | with_reducible refine ifN_of (fun _ => ?_) (fun _ => ?_)
    | with_reducible refine Go.V.if1 (by assumption) ?_
    | with_reducible refine Go.V.if0 (by assumption) ?_
    | with_reducible refine if_of (fun _ => ?_) (fun _ => ?_)
    | with_reducible refine s_of (idx_get _ _ _ (by omega) (by omega)) ?_
    | with_reducible refine s_of (idx_get _ _ _ (by omega) (by simp only [List.length_set, List.length_append, List.length_take, List.length_drop, List.length_reverse, List.length_singleton]; omega)) ?_
    | with_reducible refine s_of (map_get _ _ _ (by omega)) ?_
    | with_reducible refine s_of (map_get _ _ _ (by simp only [List.length_set]; omega)) ?_
    | with_reducible refine s_of (if_neg (by omega)) ?_
    | with_reducible refine s_of (if_pos (by omega)) ?_
    | with_reducible refine need_of (by omega) ?_
    | with_reducible refine nil_of (fun _ => ?_) ?_
    | with_reducible refine alt_of ?_ ?_
    | (with_reducible apply join_of; intro _ _)
    | with_reducible assumption)
  refine loop_then (loop_ind (σ := Nat × List Val) (fun s => [(0, .sl (l.map eE)), (1, .sl (r.map eV)), (6, .own 0), (7, vi s.1)]) (fun s => [.row 75 (s.2.map eV)]) (fun s => l.length - s.1) (fun s => s.1 ≤ l.length ∧ s.2.length ≤ s.1 ∧ mapA r l [] = mapA r (l.drop s.1) s.2) ?_ (0, []) ⟨Nat.zero_le _, Nat.zero_le _, rfl⟩)
  rintro X ⟨i, a⟩ ⟨hi, ha, hm⟩ ih
  try dsimp only at ih ⊢
  dsimp only at hi ha hm
  repeat' (first
    | rw [appV]
    | simp -implicitDefEqProofs only [go_sem, eE, Int.toNat_natCast, Nat.reduceAdd, Nat.reduceEqDiff, Nat.reduceLT, Nat.reduceBEq, Nat.reduceLeDiff, Nat.reduceSub, Int.reduceLE, Int.reduceNeg, Int.reduceEq, Int.reduceToNat]
    | with_reducible refine know_of fun _ => ?_
    | (with_reducible refine does_then (ref08_Eval _ _ _ (by omega) ?_))
    | with_reducible refine ifD1 (by omega) ?_
    | with_reducible refine ifD0 (by omega) ?_
    | with_reducible refine ifE1 (by omega) ?_
    | with_reducible refine ifE0 (by omega) ?_
    | with_reducible refine ifN1 (by omega) ?_
    | with_reducible refine ifN0 (by omega) ?_
    | with_reducible refine ifD_of (fun _ => ?_) (fun _ => ?_)
    | with_reducible refine ifE_of (fun _ => ?_) (fun _ => ?_)
    | with_reducible refine ifN_of (fun _ => ?_) (fun _ => ?_)
    | with_reducible refine Go.V.if1 (by assumption) ?_
    | with_reducible refine Go.V.if0 (by assumption) ?_
    | with_reducible refine if_of (fun _ => ?_) (fun _ => ?_)
    | with_reducible refine s_of (idx_get _ _ _ (by omega) (by omega)) ?_
    | with_reducible refine s_of (idx_get _ _ _ (by omega) (by simp only [List.length_set, List.length_append, List.length_take, List.length_drop, List.length_reverse, List.length_singleton]; omega)) ?_
    | with_reducible refine s_of (map_get _ _ _ (by omega)) ?_
    | with_reducible refine s_of (map_get _ _ _ (by simp only [List.length_set]; omega)) ?_
    | with_reducible refine s_of (if_neg (by omega)) ?_
    | with_reducible refine s_of (if_pos (by omega)) ?_
    | with_reducible refine need_of (by omega) ?_
    | with_reducible refine nil_of (fun _ => ?_) ?_
    | with_reducible refine alt_of ?_ ?_
    | (with_reducible apply join_of; intro _ _)
    | with_reducible assumption)
  all_goals first
    | (rw [drop_getD l i (by omega), mapA, if_neg (by assumption)] at hm
       rw [hm] at h; exact h)
    | (rw [drop_getD l i (by omega), mapA, if_pos (by assumption)] at hm
       rw [wnat i (by omega)]
       exact ih (i + 1, _) (by dsimp only; omega) ⟨by dsimp only; omega, by simp; omega, hm⟩)
    | (rw [List.drop_eq_nil_of_le (by omega), mapA] at hm
       rw [hm] at h; exact h)
theorem ref18_row (n : Node) (c : Count) (Q : PV → Mem → Prop) (hc : c.row.length ≤ 1000000 ∧ n.exprs.length ≤ 1000000 ∧ n.cols.length ≤ 1000000) (h2 : n.kind = 2 → n.exprs.length = 1) (h : Q (.tup [.own 0, vi (rowN n c).2]) [.row 84 ((rowN n c).1.map eC)]) : Does Try.prog 59 [.agg [vi n.kind, .sl (n.ins.map eI), .sl (n.kinds.map eI), .sl (n.exprs.map eE), .sl (n.cols.map eI), vi n.key, vi n.n, vi n.size, vi n.slide], .agg [.sl (c.row.map eV), vi c.diff]] [] 0 Q := by
  refine does_ofT mixed Try.func59 rfl (treesT [(6, (.one 0 (.one 1 (.one 2 (.one 3 (.one 4 (.one 5 (.alt (.one 6 (.one 7 (.one 8 (.one 9 (.one 10 (.one 11 (.one 12 .nil))))))) (.one 10 (.one 6 (.one 7 (.one 8 (.one 9 (.one 11 (.one 12 .nil))))))))))))), [3, 8, 9]))]) (by kernel_rfl) no (slots [(1, [3, 14, 15, 16, 17])]) ?_
  simp only [Try.f59]
  unfold rowN at h
  have hal := assign_len (r := c.row) (c := n.n) (s := n.size) (t := n.slide)
  repeat' (first
    | simp -implicitDefEqProofs only [go_sem, eE, Nat.reduceAdd, Nat.reduceEqDiff, Nat.reduceLT, Nat.reduceBEq, Nat.reduceLeDiff, Nat.reduceSub, Int.reduceLE, Int.reduceNeg, Int.reduceEq, Int.reduceToNat]
    | with_reducible refine know_of fun _ => ?_
    | (with_reducible refine does_then (ref18_mapped _ _ _ (by omega) (by omega) ?_))
    | (with_reducible refine does_then (ref18_one _ _ _ ?_))
    | (with_reducible refine does_then (ref08_Eval _ _ _ (by omega) ?_))
    | (with_reducible refine does_then (ref03_Part _ _ _ (by omega) ?_))
    | (with_reducible refine does_then (ref06_Sub _ _ _ ?_))
    | (with_reducible refine does_then (ref14_Assign _ _ _ _ _ ?_))
    | with_reducible refine ifD1 (by omega) ?_
    | with_reducible refine ifD0 (by omega) ?_
    | with_reducible refine ifE1 (by omega) ?_
    | with_reducible refine ifE0 (by omega) ?_
    | with_reducible refine ifN1 (by omega) ?_
    | with_reducible refine ifN0 (by omega) ?_
    | with_reducible refine ifD_of (fun _ => ?_) (fun _ => ?_)
    | with_reducible refine ifE_of (fun _ => ?_) (fun _ => ?_)
    | with_reducible refine ifN_of (fun _ => ?_) (fun _ => ?_)
    | with_reducible refine Go.V.if1 (by assumption) ?_
    | with_reducible refine Go.V.if0 (by assumption) ?_
    | with_reducible refine if_of (fun _ => ?_) (fun _ => ?_)
    | with_reducible refine s_of (idx_get _ _ _ (by omega) (by omega)) ?_
    | with_reducible refine s_of (idx_get _ _ _ (by omega) (by simp only [List.length_set, List.length_append, List.length_take, List.length_drop, List.length_reverse, List.length_singleton]; omega)) ?_
    | with_reducible refine s_of (map_get _ _ _ (by omega)) ?_
    | with_reducible refine s_of (map_get _ _ _ (by simp only [List.length_set]; omega)) ?_
    | with_reducible refine s_of (if_neg (by omega)) ?_
    | with_reducible refine s_of (if_pos (by omega)) ?_
    | with_reducible refine need_of (by omega) ?_
    | with_reducible refine nil_of (fun _ => ?_) ?_
    | with_reducible refine alt_of ?_ ?_
    | (with_reducible apply join_of; intro _ _)
    | with_reducible assumption)
  · rw [if_pos (by assumption)] at h; exact h
  · rw [if_neg (by omega), if_pos (by assumption), if_pos (by assumption)] at h; exact h
  · have hz : (evalE (n.exprs.getD 0 default) c.row).2 = 0 := by assumption
    have hk : (evalE (n.exprs.getD 0 default) c.row).1.kind ≠ 0 := by assumption
    rw [if_neg (by omega), if_pos (by assumption), if_neg (not_not_intro hz), if_neg (truth_f1 hk)] at h
    rw [hz]; exact h
  · have hz : (evalE (n.exprs.getD 0 default) c.row).2 = 0 := by assumption
    have hk : (evalE (n.exprs.getD 0 default) c.row).1.int = 0 := by assumption
    rw [if_neg (by omega), if_pos (by assumption), if_neg (not_not_intro hz), if_neg (truth_f2 hk)] at h
    rw [hz]; exact h
  · have hz : (evalE (n.exprs.getD 0 default) c.row).2 = 0 := by assumption
    have hk : (evalE (n.exprs.getD 0 default) c.row).1.kind = 0 := by assumption
    have hj : (evalE (n.exprs.getD 0 default) c.row).1.int ≠ 0 := by assumption
    rw [if_neg (by omega), if_pos (by assumption), if_neg (not_not_intro hz), if_pos (truth_t hk hj)] at h
    exact h
  · rw [if_neg (by omega), if_neg (by omega), if_pos (by assumption)] at h; exact h
  · rw [if_neg (by omega), if_neg (by omega), if_neg (by omega), if_pos (by assumption)] at h; exact h
  · rw [if_neg (by omega), if_neg (by omega), if_neg (by omega), if_neg (by omega), if_pos (by assumption)] at h
    generalize assignW c.row n.n n.size n.slide = q at *
    obtain ⟨R, e⟩ := q
    dsimp only at h hal ⊢
    refine loop_then (loop_ind (σ := Nat) (fun s => [(3, .adr 0 0), (14, .own 1), (15, vi e), (16, .own 2), (17, vi s)]) (fun s => [.var [.sl (c.row.map eV), vi c.diff], .row 69 (R.map eR), .row 84 ((R.take s).map fun r => eC ⟨r, c.diff⟩)]) (fun s => R.length - s) (fun s => s ≤ R.length) ?_ 0 (Nat.zero_le _))
    rintro X i hi ih
    try dsimp only at ih ⊢
    repeat' (first
      | simp -implicitDefEqProofs only [go_sem, eR, eC, Int.toNat_natCast, List.length_take, Nat.reduceAdd, Nat.reduceEqDiff, Nat.reduceLT, Nat.reduceBEq, Nat.reduceLeDiff, Nat.reduceSub, Int.reduceLE, Int.reduceNeg, Int.reduceEq, Int.reduceToNat]
      | with_reducible refine know_of fun _ => ?_
      | with_reducible refine ifD1 (by omega) ?_
      | with_reducible refine ifD0 (by omega) ?_
      | with_reducible refine ifE1 (by omega) ?_
      | with_reducible refine ifE0 (by omega) ?_
      | with_reducible refine ifN1 (by omega) ?_
      | with_reducible refine ifN0 (by omega) ?_
      | with_reducible refine ifD_of (fun _ => ?_) (fun _ => ?_)
      | with_reducible refine ifE_of (fun _ => ?_) (fun _ => ?_)
      | with_reducible refine ifN_of (fun _ => ?_) (fun _ => ?_)
      | with_reducible refine Go.V.if1 (by assumption) ?_
      | with_reducible refine Go.V.if0 (by assumption) ?_
      | with_reducible refine if_of (fun _ => ?_) (fun _ => ?_)
      | with_reducible refine s_of (idx_get _ _ _ (by omega) (by omega)) ?_
      | with_reducible refine s_of (idx_get _ _ _ (by omega) (by simp only [List.length_set, List.length_append, List.length_take, List.length_drop, List.length_reverse, List.length_singleton]; omega)) ?_
      | with_reducible refine s_of (map_get _ _ _ (by omega)) ?_
      | with_reducible refine s_of (map_get _ _ _ (by simp only [List.length_set]; omega)) ?_
      | with_reducible refine s_of (if_neg (by omega)) ?_
      | with_reducible refine s_of (if_pos (by omega)) ?_
      | with_reducible refine need_of (by omega) ?_
      | with_reducible refine nil_of (fun _ => ?_) ?_
      | with_reducible refine alt_of ?_ ?_
      | (with_reducible apply join_of; intro _ _)
      | with_reducible assumption)
    · rw [wnat i (by omega)]
      have ht := takeCR R c.diff i (by omega)
      unfold eC at ht
      rw [ht]; exact ih (i + 1) (by omega) (by omega)
    · rw [List.take_of_length_le (by omega)]; rw [List.map_map] at h; exact h
  · rw [if_neg (by omega), if_neg (by omega), if_neg (by omega), if_neg (by omega), if_neg (by omega)] at h; exact h
theorem lessC_rows {l : List Count} (h : (lessC l).2 = 0) (hr : ∀ c ∈ l, c.row.length ≤ 1000000) : ∀ c ∈ (lessC l).1, c.row.length ≤ 1000000 := fun c hc => by
  obtain ⟨d, hd, e⟩ := (lessC_ok h).2.2 c hc
  rw [← e]; exact hr d hd
theorem ref18_Node (n : Node) (l : List Count) (Q : PV → Mem → Prop) (hk : isF n.kind = true) (hn : n.exprs.length ≤ 1000000 ∧ n.cols.length ≤ 1000000) (hl : l.length ≤ 10000) (hr : ∀ c ∈ l, c.row.length ≤ 1000000) (h : Q (.tup [.own 0, vi (nodeN n l).2]) [.row 84 ((nodeN n l).1.map eC)]) : Does Try.prog 30 [.agg [vi n.kind, .sl (n.ins.map eI), .sl (n.kinds.map eI), .sl (n.exprs.map eE), .sl (n.cols.map eI), vi n.key, vi n.n, vi n.size, vi n.slide], .sl [[.sl (l.map eC)]]] [] 0 Q := by
  refine does_of mixed Try.func30 rfl (by kernel_rfl) no (slots [(0, [1, 2, 8, 9]), (2, [2, 8, 16, 17]), (4, [2, 8, 16, 17, 18])]) ?_
  simp only [Try.f30]
  have hk9 : 1 ≤ n.kind ∧ n.kind < 9 := by unfold isF at hk; split at hk <;> first | omega | cases hk
  repeat' (first
    | simp -implicitDefEqProofs only [go_sem, Nat.reduceAdd, Nat.reduceEqDiff, Nat.reduceLT, Nat.reduceBEq, Nat.reduceLeDiff, Nat.reduceSub, Int.reduceLE, Int.reduceNeg, Int.reduceEq, Int.reduceToNat]
    | with_reducible refine know_of fun _ => ?_
    | with_reducible refine ifD1 (by omega) ?_
    | with_reducible refine ifD0 (by omega) ?_
    | with_reducible refine ifE1 (by omega) ?_
    | with_reducible refine ifE0 (by omega) ?_
    | with_reducible refine ifN1 (by omega) ?_
    | with_reducible refine ifN0 (by omega) ?_
    | with_reducible refine ifD_of (fun _ => ?_) (fun _ => ?_)
    | with_reducible refine ifE_of (fun _ => ?_) (fun _ => ?_)
    | with_reducible refine ifN_of (fun _ => ?_) (fun _ => ?_)
    | with_reducible refine Go.V.if1 (by assumption) ?_
    | with_reducible refine Go.V.if0 (by assumption) ?_
    | with_reducible refine if_of (fun _ => ?_) (fun _ => ?_)
    | with_reducible refine s_of (idx_get _ _ _ (by omega) (by omega)) ?_
    | with_reducible refine s_of (idx_get _ _ _ (by omega) (by simp only [List.length_set, List.length_append, List.length_take, List.length_drop, List.length_reverse, List.length_singleton]; omega)) ?_
    | with_reducible refine s_of (map_get _ _ _ (by omega)) ?_
    | with_reducible refine s_of (map_get _ _ _ (by simp only [List.length_set]; omega)) ?_
    | with_reducible refine s_of (if_neg (by omega)) ?_
    | with_reducible refine s_of (if_pos (by omega)) ?_
    | with_reducible refine need_of (by omega) ?_
    | with_reducible refine nil_of (fun _ => ?_) ?_
    | with_reducible refine alt_of ?_ ?_
    | (with_reducible apply join_of; intro _ _)
    | with_reducible assumption)
  all_goals try (unfold nodeN at h; rw [if_pos ⟨by omega, by omega⟩] at h; exact h)
  all_goals
    unfold nodeN at h
    rw [if_neg (by omega)] at h
    refine loop_then (loop_ind (σ := Nat) (fun s => [(1, .sl [[.sl (l.map eC)]]), (2, .adr 0 0), (8, .own 1), (9, vi s)]) (fun s => [.var [vi n.kind, .sl (n.ins.map eI), .sl (n.kinds.map eI), .sl (n.exprs.map eE), .sl (n.cols.map eI), vi n.key, vi n.n, vi n.size, vi n.slide], .row 58 (if s = 0 then [] else [[PV.sl ((lessC l).1.map eC)]])]) (fun s => 1 - s) (fun s => s ≤ 1 ∧ (s = 1 → (lessC l).2 = 0)) ?_ 0 ⟨Nat.zero_le _, fun h => absurd h (by decide)⟩)
    rintro X i ⟨hi, hz⟩ ih
    try dsimp only at ih ⊢
    have hc : i = 0 ∨ i = 1 := by omega
    rcases hc with rfl | rfl
    · repeat' (first
      | simp -implicitDefEqProofs only [go_sem, idx_o1, idx_o2, Nat.reduceAdd, Nat.reduceEqDiff, Nat.reduceLT, Nat.reduceBEq, Nat.reduceLeDiff, Nat.reduceSub, Int.reduceLE, Int.reduceNeg, Int.reduceEq, Int.reduceToNat]
      | with_reducible refine know_of fun _ => ?_
      | (with_reducible refine does_then (ref07_Less _ _ (by omega) ?_))
      | with_reducible refine ifD1 (by omega) ?_
      | with_reducible refine ifD0 (by omega) ?_
      | with_reducible refine ifE1 (by omega) ?_
      | with_reducible refine ifE0 (by omega) ?_
      | with_reducible refine ifN1 (by omega) ?_
      | with_reducible refine ifN0 (by omega) ?_
      | with_reducible refine ifD_of (fun _ => ?_) (fun _ => ?_)
      | with_reducible refine ifE_of (fun _ => ?_) (fun _ => ?_)
      | with_reducible refine ifN_of (fun _ => ?_) (fun _ => ?_)
      | with_reducible refine Go.V.if1 (by assumption) ?_
      | with_reducible refine Go.V.if0 (by assumption) ?_
      | with_reducible refine if_of (fun _ => ?_) (fun _ => ?_)
      | with_reducible refine s_of (idx_get _ _ _ (by omega) (by omega)) ?_
      | with_reducible refine s_of (idx_get _ _ _ (by omega) (by simp only [List.length_set, List.length_append, List.length_take, List.length_drop, List.length_reverse, List.length_singleton]; omega)) ?_
      | with_reducible refine s_of (map_get _ _ _ (by omega)) ?_
      | with_reducible refine s_of (map_get _ _ _ (by simp only [List.length_set]; omega)) ?_
      | with_reducible refine s_of (if_neg (by omega)) ?_
      | with_reducible refine s_of (if_pos (by omega)) ?_
      | with_reducible refine need_of (by omega) ?_
      | with_reducible refine nil_of (fun _ => ?_) ?_
      | with_reducible refine alt_of ?_ ?_
      | (with_reducible apply join_of; intro _ _)
      | with_reducible assumption)
      · rw [if_pos (by assumption)] at h; exact h
      · rw [wnat 0 (by omega)]; exact ih 1 (by decide) ⟨by decide, fun _ => by assumption⟩
    have hz := hz rfl
    rw [if_neg (not_not_intro hz)] at h
    have hL := lessC_len l
    have hLr := lessC_rows hz hr
    generalize (lessC l).1 = L at *
    clear ih
    repeat' (first
      | simp -implicitDefEqProofs only [go_sem, if_neg (show ¬ (1 : Nat) = 0 by decide), Nat.reduceAdd, Nat.reduceEqDiff, Nat.reduceLT, Nat.reduceBEq, Nat.reduceLeDiff, Nat.reduceSub, Int.reduceLE, Int.reduceNeg, Int.reduceEq, Int.reduceToNat]
      | with_reducible refine know_of fun _ => ?_
      | (with_reducible refine does_then (ref16_Group _ _ (by omega) ?_))
      | with_reducible refine ifD1 (by omega) ?_
      | with_reducible refine ifD0 (by omega) ?_
      | with_reducible refine ifE1 (by omega) ?_
      | with_reducible refine ifE0 (by omega) ?_
      | with_reducible refine ifN1 (by omega) ?_
      | with_reducible refine ifN0 (by omega) ?_
      | with_reducible refine ifD_of (fun _ => ?_) (fun _ => ?_)
      | with_reducible refine ifE_of (fun _ => ?_) (fun _ => ?_)
      | with_reducible refine ifN_of (fun _ => ?_) (fun _ => ?_)
      | with_reducible refine Go.V.if1 (by assumption) ?_
      | with_reducible refine Go.V.if0 (by assumption) ?_
      | with_reducible refine if_of (fun _ => ?_) (fun _ => ?_)
      | with_reducible refine s_of (idx_get _ _ _ (by omega) (by omega)) ?_
      | with_reducible refine s_of (idx_get _ _ _ (by omega) (by simp only [List.length_set, List.length_append, List.length_take, List.length_drop, List.length_reverse, List.length_singleton]; omega)) ?_
      | with_reducible refine s_of (map_get _ _ _ (by omega)) ?_
      | with_reducible refine s_of (map_get _ _ _ (by simp only [List.length_set]; omega)) ?_
      | with_reducible refine s_of (if_neg (by omega)) ?_
      | with_reducible refine s_of (if_pos (by omega)) ?_
      | with_reducible refine need_of (by omega) ?_
      | with_reducible refine nil_of (fun _ => ?_) ?_
      | with_reducible refine alt_of ?_ ?_
      | (with_reducible apply join_of; intro _ _)
      | with_reducible assumption)
    refine loop_then (loop_ind (σ := Nat) (fun s => [(2, .adr 0 0), (8, .own 1), (16, .own 2), (17, vi s)]) (fun s => [.var [vi n.kind, .sl (n.ins.map eI), .sl (n.kinds.map eI), .sl (n.exprs.map eE), .sl (n.cols.map eI), vi n.key, vi n.n, vi n.size, vi n.slide], .row 58 [[.sl (L.map eC)]], .row 84 ((if s = 0 then [] else (rowsA n L []).1).map eC)]) (fun s => 1 - s) (fun s => s ≤ 1 ∧ (s = 1 → (rowsA n L []).2 = 0)) ?_ 0 ⟨Nat.zero_le _, fun h => absurd h (by decide)⟩)
    rintro X i ⟨hi, hz2⟩ ih
    try dsimp only at ih ⊢
    have hc : i = 0 ∨ i = 1 := by omega
    rcases hc with rfl | rfl
    · repeat' (first
      | simp -implicitDefEqProofs only [go_sem, idx_o1, idx_o2, Nat.reduceAdd, Nat.reduceEqDiff, Nat.reduceLT, Nat.reduceBEq, Nat.reduceLeDiff, Nat.reduceSub, Int.reduceLE, Int.reduceNeg, Int.reduceEq, Int.reduceToNat]
      | with_reducible refine know_of fun _ => ?_
      | with_reducible refine ifD1 (by omega) ?_
      | with_reducible refine ifD0 (by omega) ?_
      | with_reducible refine ifE1 (by omega) ?_
      | with_reducible refine ifE0 (by omega) ?_
      | with_reducible refine ifN1 (by omega) ?_
      | with_reducible refine ifN0 (by omega) ?_
      | with_reducible refine ifD_of (fun _ => ?_) (fun _ => ?_)
      | with_reducible refine ifE_of (fun _ => ?_) (fun _ => ?_)
      | with_reducible refine ifN_of (fun _ => ?_) (fun _ => ?_)
      | with_reducible refine Go.V.if1 (by assumption) ?_
      | with_reducible refine Go.V.if0 (by assumption) ?_
      | with_reducible refine if_of (fun _ => ?_) (fun _ => ?_)
      | with_reducible refine s_of (idx_get _ _ _ (by omega) (by omega)) ?_
      | with_reducible refine s_of (idx_get _ _ _ (by omega) (by simp only [List.length_set, List.length_append, List.length_take, List.length_drop, List.length_reverse, List.length_singleton]; omega)) ?_
      | with_reducible refine s_of (map_get _ _ _ (by omega)) ?_
      | with_reducible refine s_of (map_get _ _ _ (by simp only [List.length_set]; omega)) ?_
      | with_reducible refine s_of (if_neg (by omega)) ?_
      | with_reducible refine s_of (if_pos (by omega)) ?_
      | with_reducible refine need_of (by omega) ?_
      | with_reducible refine nil_of (fun _ => ?_) ?_
      | with_reducible refine alt_of ?_ ?_
      | (with_reducible apply join_of; intro _ _)
      | with_reducible assumption)
      have ih0 := ih
      clear ih
      refine loop_then (loop_ind (σ := Nat × List Count) (fun s => [(2, .adr 0 0), (8, .own 1), (16, .own 2), (17, vi 0), (18, vi s.1)]) (fun s => [.var [vi n.kind, .sl (n.ins.map eI), .sl (n.kinds.map eI), .sl (n.exprs.map eE), .sl (n.cols.map eI), vi n.key, vi n.n, vi n.size, vi n.slide], .row 58 [[.sl (L.map eC)]], .row 84 (s.2.map eC)]) (fun s => L.length - s.1) (fun s => s.1 ≤ L.length ∧ s.2.length ≤ 64 * s.1 ∧ rowsA n L [] = rowsA n (L.drop s.1) s.2) ?_ (0, []) ⟨Nat.zero_le _, Nat.zero_le _, rfl⟩)
      rintro X ⟨k, a⟩ ⟨hk2, ha, hm⟩ ih
      try dsimp only at ih ⊢
      dsimp only at hk2 ha hm
      by_cases hkl : k < L.length
      · have hrow := hLr _ (mem_at hkl)
        have hrl := rowN_len n (L.getD k default)
        rw [drop_getD L k hkl, rowsA] at hm
        repeat' (first
        | rw [appCC]
        | simp -implicitDefEqProofs only [go_sem, eC, idx_o1, idx_o2, Int.toNat_natCast, Nat.reduceAdd, Nat.reduceEqDiff, Nat.reduceLT, Nat.reduceBEq, Nat.reduceLeDiff, Nat.reduceSub, Int.reduceLE, Int.reduceNeg, Int.reduceEq, Int.reduceToNat]
        | with_reducible refine know_of fun _ => ?_
        | (with_reducible refine does_then (ref18_row n (L.getD k default) _ ⟨hrow, hn.1, hn.2⟩ (fun h => by omega) ?_))
        | with_reducible refine ifD1 (by omega) ?_
        | with_reducible refine ifD0 (by omega) ?_
        | with_reducible refine ifE1 (by omega) ?_
        | with_reducible refine ifE0 (by omega) ?_
        | with_reducible refine ifN1 (by omega) ?_
        | with_reducible refine ifN0 (by omega) ?_
        | with_reducible refine ifD_of (fun _ => ?_) (fun _ => ?_)
        | with_reducible refine ifE_of (fun _ => ?_) (fun _ => ?_)
        | with_reducible refine ifN_of (fun _ => ?_) (fun _ => ?_)
        | with_reducible refine Go.V.if1 (by assumption) ?_
        | with_reducible refine Go.V.if0 (by assumption) ?_
        | with_reducible refine if_of (fun _ => ?_) (fun _ => ?_)
        | with_reducible refine s_of (idx_get _ _ _ (by omega) (by omega)) ?_
        | with_reducible refine s_of (idx_get _ _ _ (by omega) (by simp only [List.length_set, List.length_append, List.length_take, List.length_drop, List.length_reverse, List.length_singleton]; omega)) ?_
        | with_reducible refine s_of (map_get _ _ _ (by omega)) ?_
        | with_reducible refine s_of (map_get _ _ _ (by simp only [List.length_set]; omega)) ?_
        | with_reducible refine s_of (if_neg (by omega)) ?_
        | with_reducible refine s_of (if_pos (by omega)) ?_
        | with_reducible refine need_of (by omega) ?_
        | with_reducible refine nil_of (fun _ => ?_) ?_
        | with_reducible refine alt_of ?_ ?_
        | (with_reducible apply join_of; intro _ _)
        | with_reducible assumption)
        · rw [if_neg (by assumption)] at hm
          rw [hm, if_pos (by assumption)] at h; exact h
        · rw [if_pos (by assumption)] at hm
          rw [wnat k (by omega)]; exact ih (k + 1, _) (by dsimp only; omega) ⟨by dsimp only; omega, by dsimp only; rw [List.length_append]; omega, hm⟩
      · rw [List.drop_eq_nil_of_le (by omega), rowsA] at hm
        repeat' (first
        | simp -implicitDefEqProofs only [go_sem, idx_o1, idx_o2, Nat.reduceAdd, Nat.reduceEqDiff, Nat.reduceLT, Nat.reduceBEq, Nat.reduceLeDiff, Nat.reduceSub, Int.reduceLE, Int.reduceNeg, Int.reduceEq, Int.reduceToNat]
        | with_reducible refine know_of fun _ => ?_
        | with_reducible refine ifD1 (by omega) ?_
        | with_reducible refine ifD0 (by omega) ?_
        | with_reducible refine ifE1 (by omega) ?_
        | with_reducible refine ifE0 (by omega) ?_
        | with_reducible refine ifN1 (by omega) ?_
        | with_reducible refine ifN0 (by omega) ?_
        | with_reducible refine ifD_of (fun _ => ?_) (fun _ => ?_)
        | with_reducible refine ifE_of (fun _ => ?_) (fun _ => ?_)
        | with_reducible refine ifN_of (fun _ => ?_) (fun _ => ?_)
        | with_reducible refine Go.V.if1 (by assumption) ?_
        | with_reducible refine Go.V.if0 (by assumption) ?_
        | with_reducible refine if_of (fun _ => ?_) (fun _ => ?_)
        | with_reducible refine s_of (idx_get _ _ _ (by omega) (by omega)) ?_
        | with_reducible refine s_of (idx_get _ _ _ (by omega) (by simp only [List.length_set, List.length_append, List.length_take, List.length_drop, List.length_reverse, List.length_singleton]; omega)) ?_
        | with_reducible refine s_of (map_get _ _ _ (by omega)) ?_
        | with_reducible refine s_of (map_get _ _ _ (by simp only [List.length_set]; omega)) ?_
        | with_reducible refine s_of (if_neg (by omega)) ?_
        | with_reducible refine s_of (if_pos (by omega)) ?_
        | with_reducible refine need_of (by omega) ?_
        | with_reducible refine nil_of (fun _ => ?_) ?_
        | with_reducible refine alt_of ?_ ?_
        | (with_reducible apply join_of; intro _ _)
        | with_reducible assumption)
        all_goals first | (exfalso; omega) | skip
        have q := ih0 1 (by decide) ⟨by decide, fun _ => by rw [hm]⟩
        rw [if_neg (by decide), hm] at q
        have e : w64 (0 + 1) = ((1 : Nat) : Int) := wnat 0 (by omega)
        rw [e]; exact q
    have hz2 := hz2 rfl
    rw [if_neg (not_not_intro hz2)] at h
    have hR := rowsA_len n L []
    simp only [List.length_nil] at hR
    generalize (rowsA n L []).1 = R at *
    clear ih
    repeat' (first
      | simp -implicitDefEqProofs only [go_sem, if_neg (show ¬ (1 : Nat) = 0 by decide), Nat.reduceAdd, Nat.reduceEqDiff, Nat.reduceLT, Nat.reduceBEq, Nat.reduceLeDiff, Nat.reduceSub, Int.reduceLE, Int.reduceNeg, Int.reduceEq, Int.reduceToNat]
      | with_reducible refine know_of fun _ => ?_
      | (with_reducible refine does_then (ref07_Less _ _ (by omega) ?_))
      | with_reducible refine ifD1 (by omega) ?_
      | with_reducible refine ifD0 (by omega) ?_
      | with_reducible refine ifE1 (by omega) ?_
      | with_reducible refine ifE0 (by omega) ?_
      | with_reducible refine ifN1 (by omega) ?_
      | with_reducible refine ifN0 (by omega) ?_
      | with_reducible refine ifD_of (fun _ => ?_) (fun _ => ?_)
      | with_reducible refine ifE_of (fun _ => ?_) (fun _ => ?_)
      | with_reducible refine ifN_of (fun _ => ?_) (fun _ => ?_)
      | with_reducible refine Go.V.if1 (by assumption) ?_
      | with_reducible refine Go.V.if0 (by assumption) ?_
      | with_reducible refine if_of (fun _ => ?_) (fun _ => ?_)
      | with_reducible refine s_of (idx_get _ _ _ (by omega) (by omega)) ?_
      | with_reducible refine s_of (idx_get _ _ _ (by omega) (by simp only [List.length_set, List.length_append, List.length_take, List.length_drop, List.length_reverse, List.length_singleton]; omega)) ?_
      | with_reducible refine s_of (map_get _ _ _ (by omega)) ?_
      | with_reducible refine s_of (map_get _ _ _ (by simp only [List.length_set]; omega)) ?_
      | with_reducible refine s_of (if_neg (by omega)) ?_
      | with_reducible refine s_of (if_pos (by omega)) ?_
      | with_reducible refine need_of (by omega) ?_
      | with_reducible refine nil_of (fun _ => ?_) ?_
      | with_reducible refine alt_of ?_ ?_
      | (with_reducible apply join_of; intro _ _)
      | with_reducible assumption)
    all_goals exact h
end Go.V
