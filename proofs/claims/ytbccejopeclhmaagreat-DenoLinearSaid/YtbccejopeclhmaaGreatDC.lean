import Derived.Test.YtbccejopeclhmaaGreatDB
namespace Go.V
open Go Go.RowKit Go.Proofs
set_option maxRecDepth 100000
set_option maxHeartbeats 4000000
set_option linter.unusedVariables false
set_option linter.unusedSimpArgs false
theorem joinQ_len (key : Int) (x y : Count) : (joinQ key x y).1.length ≤ 1 := by
  unfold joinQ; split <;> simp
theorem badK_f {key : Int} {c : Count} (h : badK key c = false) : 0 ≤ key ∧ key ≤ c.row.length := by
  unfold badK at h
  rw [Bool.or_eq_false_iff, decide_eq_false_iff_not, decide_eq_false_iff_not] at h
  omega
theorem badK_t {key : Int} {c : Count} (h : key < 0 ∨ (c.row.length : Int) < key) : badK key c = true := by
  unfold badK
  rw [Bool.or_eq_true, decide_eq_true_eq, decide_eq_true_eq]; exact h
theorem deno_join1 (c : Count) (b : List Count) (key : Int) (Q : PV → Mem → Prop) (hr : c.row.length ≤ 1000000) (hr2 : ∀ y ∈ b, y.row.length ≤ 1000000) (hl : b.length ≤ 1000000) (hk : badK key c = false) (hk2 : ∀ y ∈ b, badK key y = false) (h : (eachF (joinQ key c) b []).2 = 0 → Q (.tup [.own 0, vi 0]) [.row 61 ((eachF (joinQ key c) b []).1.map eC)]) (h0 : (eachF (joinQ key c) b []).2 ≠ 0 → ∀ es, Q (.tup [.own 0, vi (eachF (joinQ key c) b []).2]) [.row 61 es]) : Does Tryz.prog 100 [.agg [.sl (c.row.map eV), vi c.diff], .cad [.sl (b.map eC)], .cad [vi key]] [] 0 Q := by
  refine does_of mixed Tryz.func100 rfl (by kernel_rfl) no (slots []) ?_
  simp only [Tryz.f100]
  have hh : ∀ e, (eachF (joinQ key c) b []).2 = e → Q (.tup [.own 0, vi e]) [.row 61 ((eachF (joinQ key c) b []).1.map eC)] := fun e he => by
    by_cases hz : (eachF (joinQ key c) b []).2 = 0
    · rw [← he, hz]; exact h hz
    · rw [← he]; exact h0 hz _
  repeat' (first
    | simp -implicitDefEqProofs only [go_sem, eC, Nat.reduceAdd, Nat.reduceEqDiff, Nat.reduceLT, Nat.reduceBEq, Nat.reduceLeDiff, Nat.reduceSub, Int.reduceLE, Int.reduceNeg, Int.reduceEq, Int.reduceToNat]
    | with_reducible refine know_of fun _ => ?_
    | (with_reducible refine does_then (deno_each2 b _ _ _ (joinQ key c) 1 _ (fun y hy Q h h0 => deno_join11 y c key Q (hr2 y hy) hr (badK_f hk).1 (badK_f (hk2 y hy)).2 (badK_f hk).2 h h0) (joinQ_len key c) (by omega) (by omega) ?_))
    | with_reducible refine ifD1 (by omega) ?_
    | with_reducible refine ifD0 (by omega) ?_
    | with_reducible refine ifE1 (by omega) ?_
    | with_reducible refine ifE0 (by omega) ?_
    | with_reducible refine ifN1 (by omega) ?_
    | with_reducible refine ifN0 (by omega) ?_
    | with_reducible refine ifD_of (fun _ => ?_) (fun _ => ?_)
    | with_reducible refine ifE_of (fun _ => ?_) (fun _ => ?_)
    | with_reducible refine ifN_of (fun _ => ?_) (fun _ => ?_)
    | with_reducible refine Go.V.if1 (by assumption) ?_
    | with_reducible refine Go.V.if0 (by assumption) ?_
    | with_reducible refine if_of (fun _ => ?_) (fun _ => ?_)
    | with_reducible refine s_of (idx_get _ _ _ (by omega) (by omega)) ?_
    | with_reducible refine s_of (idx_get _ _ _ (by omega) (by simp only [List.length_set, List.length_append, List.length_take, List.length_drop, List.length_reverse, List.length_singleton]; omega)) ?_
    | with_reducible refine s_of (map_get _ _ _ (by omega)) ?_
    | with_reducible refine s_of (map_get _ _ _ (by simp only [List.length_set]; omega)) ?_
    | with_reducible refine s_of (if_neg (by omega)) ?_
    | with_reducible refine s_of (if_pos (by omega)) ?_
    | with_reducible refine need_of (by omega) ?_
    | with_reducible refine nil_of (fun _ => ?_) ?_
    | with_reducible refine alt_of ?_ ?_
    | (with_reducible apply join_of; intro _ _)
    | with_reducible assumption)
  all_goals exact hh _ rfl
theorem grow_cnt0 (n : Nat) (Q : PV → Mem → Prop) (hn : n ≤ 1000000000) (h0 : Q (.val (.slice none 0 0)) []) (h1 : ∀ es, Q (.osl 0 0 0) [.row 61 es]) : Does Tryz.prog 105 [.val (.slice none 0 0), vi n] [] 0 Q := by
  refine does_of mixed Tryz.func105 rfl (by kernel_rfl) no (slots []) ?_
  simp only [Tryz.f105]
  repeat' (first
    | rw [w64_of _ (by omega)]
    | simp -implicitDefEqProofs only [go_sem, eI, Nat.reduceAdd, Nat.reduceEqDiff, Nat.reduceLT, Nat.reduceBEq, Nat.reduceLeDiff, Nat.reduceSub, Int.reduceLE, Int.reduceNeg, Int.reduceEq, Int.reduceToNat]
    | with_reducible refine know_of fun _ => ?_
    | with_reducible refine ifD1 (by omega) ?_
    | with_reducible refine ifD0 (by omega) ?_
    | with_reducible refine ifE1 (by omega) ?_
    | with_reducible refine ifE0 (by omega) ?_
    | with_reducible refine ifN1 (by omega) ?_
    | with_reducible refine ifN0 (by omega) ?_
    | with_reducible refine ifD_of (fun _ => ?_) (fun _ => ?_)
    | with_reducible refine ifE_of (fun _ => ?_) (fun _ => ?_)
    | with_reducible refine ifN_of (fun _ => ?_) (fun _ => ?_)
    | with_reducible refine Go.V.if1 (by assumption) ?_
    | with_reducible refine Go.V.if0 (by assumption) ?_
    | with_reducible refine if_of (fun _ => ?_) (fun _ => ?_)
    | with_reducible refine s_of (idx_get _ _ _ (by omega) (by omega)) ?_
    | with_reducible refine s_of (idx_get _ _ _ (by omega) (by simp only [List.length_set, List.length_append, List.length_take, List.length_drop, List.length_reverse, List.length_singleton]; omega)) ?_
    | with_reducible refine s_of (map_get _ _ _ (by omega)) ?_
    | with_reducible refine s_of (map_get _ _ _ (by simp only [List.length_set]; omega)) ?_
    | with_reducible refine s_of (if_neg (by omega)) ?_
    | with_reducible refine s_of (if_pos (by omega)) ?_
    | with_reducible refine need_of (by omega) ?_
    | with_reducible refine nil_of (fun _ => ?_) ?_
    | with_reducible refine alt_of ?_ ?_
    | (with_reducible apply join_of; intro _ _)
    | with_reducible assumption)
  all_goals first | exact h1 _ | exact h0
theorem grow_cnt (n : Nat) (Q : PV → Mem → Prop) (hn : n ≤ 1000000000) (h : Q (.own 0) [.row 61 []]) : Does Tryz.prog 105 [.val (.slice none 0 0), vi n] [] 0 Q :=
  does_own (z := 2) (by kernel_rfl) (grow_cnt0 n _ hn (.inl ⟨rfl, rfl⟩) (fun es => .inr ⟨es, rfl, rfl⟩)) h
theorem concat_cnts (ls : List (List Count)) (Q : PV → Mem → Prop) (hl : sumL ls ls.length ≤ 1000000000) (h : Q (.own 0) [.row 61 (ls.flatten.map eC)]) : Does Tryz.prog 59 [.sl (ls.map eL)] [] 0 Q := by
  refine does_of mixed Tryz.func59 rfl (by kernel_rfl) no (slots [(0, [0, 3, 9, 10, 11]), (2, [6, 25, 26, 27])]) ?_
  simp only [Tryz.f59]
  have hmx := sumL_le ls
  repeat' (first
    | simp -implicitDefEqProofs only [go_sem, eC, eL, Nat.reduceAdd, Nat.reduceEqDiff, Nat.reduceLT, Nat.reduceBEq, Nat.reduceLeDiff, Nat.reduceSub, Int.reduceLE, Int.reduceNeg, Int.reduceEq, Int.reduceToNat]
    | with_reducible refine know_of fun _ => ?_
    | with_reducible refine ifD1 (by omega) ?_
    | with_reducible refine ifD0 (by omega) ?_
    | with_reducible refine ifE1 (by omega) ?_
    | with_reducible refine ifE0 (by omega) ?_
    | with_reducible refine ifN1 (by omega) ?_
    | with_reducible refine ifN0 (by omega) ?_
    | with_reducible refine ifD_of (fun _ => ?_) (fun _ => ?_)
    | with_reducible refine ifE_of (fun _ => ?_) (fun _ => ?_)
    | with_reducible refine ifN_of (fun _ => ?_) (fun _ => ?_)
    | with_reducible refine Go.V.if1 (by assumption) ?_
    | with_reducible refine Go.V.if0 (by assumption) ?_
    | with_reducible refine if_of (fun _ => ?_) (fun _ => ?_)
    | with_reducible refine s_of (idx_get _ _ _ (by omega) (by omega)) ?_
    | with_reducible refine s_of (idx_get _ _ _ (by omega) (by simp only [List.length_set, List.length_append, List.length_take, List.length_drop, List.length_reverse, List.length_singleton]; omega)) ?_
    | with_reducible refine s_of (map_get _ _ _ (by omega)) ?_
    | with_reducible refine s_of (map_get _ _ _ (by simp only [List.length_set]; omega)) ?_
    | with_reducible refine s_of (if_neg (by omega)) ?_
    | with_reducible refine s_of (if_pos (by omega)) ?_
    | with_reducible refine need_of (by omega) ?_
    | with_reducible refine nil_of (fun _ => ?_) ?_
    | with_reducible refine alt_of ?_ ?_
    | (with_reducible apply join_of; intro _ _)
    | with_reducible assumption)
  refine loop_then (loop_ind (σ := Nat) (fun s => [(0, .sl (ls.map eL)), (3, vi (sumL ls s)), (9, .sl (ls.map eL)), (10, vi ls.length), (11, vi s)]) (fun s => []) (fun s => ls.length - s) (fun s => s ≤ ls.length) ?_ 0 (Nat.zero_le _))
  rintro X i hi ih
  try dsimp only at ih ⊢
  have hs := hmx i hi
  repeat' (first
    | rw [w64_of (_ + ((ls.getD i default).length : Int)) (by have := sumL_step ls i (by omega); omega)]
    | simp -implicitDefEqProofs only [go_sem, eC, eL, Int.toNat_natCast, Nat.reduceAdd, Nat.reduceEqDiff, Nat.reduceLT, Nat.reduceBEq, Nat.reduceLeDiff, Nat.reduceSub, Int.reduceLE, Int.reduceNeg, Int.reduceEq, Int.reduceToNat]
    | with_reducible refine know_of fun _ => ?_
    | (with_reducible refine does_then (grow_cnt _ _ (by omega) ?_))
    | with_reducible refine ifD1 (by omega) ?_
    | with_reducible refine ifD0 (by omega) ?_
    | with_reducible refine ifE1 (by omega) ?_
    | with_reducible refine ifE0 (by omega) ?_
    | with_reducible refine ifN1 (by omega) ?_
    | with_reducible refine ifN0 (by omega) ?_
    | with_reducible refine ifD_of (fun _ => ?_) (fun _ => ?_)
    | with_reducible refine ifE_of (fun _ => ?_) (fun _ => ?_)
    | with_reducible refine ifN_of (fun _ => ?_) (fun _ => ?_)
    | with_reducible refine Go.V.if1 (by assumption) ?_
    | with_reducible refine Go.V.if0 (by assumption) ?_
    | with_reducible refine if_of (fun _ => ?_) (fun _ => ?_)
    | with_reducible refine s_of (idx_get _ _ _ (by omega) (by omega)) ?_
    | with_reducible refine s_of (idx_get _ _ _ (by omega) (by simp only [List.length_set, List.length_append, List.length_take, List.length_drop, List.length_reverse, List.length_singleton]; omega)) ?_
    | with_reducible refine s_of (map_get _ _ _ (by omega)) ?_
    | with_reducible refine s_of (map_get _ _ _ (by simp only [List.length_set]; omega)) ?_
    | with_reducible refine s_of (if_neg (by omega)) ?_
    | with_reducible refine s_of (if_pos (by omega)) ?_
    | with_reducible refine need_of (by omega) ?_
    | with_reducible refine nil_of (fun _ => ?_) ?_
    | with_reducible refine alt_of ?_ ?_
    | (with_reducible apply join_of; intro _ _)
    | with_reducible assumption)
  · rw [wnat i (by omega), show ((sumL ls i : Nat) : Int) + ((ls.getD i default).length : Int) = ((sumL ls (i + 1) : Nat) : Int) from by rw [sumL_succ ls i (by omega)]; rfl]
    exact ih (i + 1) (by omega) (by omega)
  refine loop_then (loop_ind (σ := Nat) (fun s => [(6, .own 0), (25, .sl (ls.map eL)), (26, vi ls.length), (27, vi s)]) (fun s => [.row 61 ((catL ls s).map eC)]) (fun s => ls.length - s) (fun s => s ≤ ls.length) ?_ 0 (Nat.zero_le _))
  rintro X k hk ih
  try dsimp only at ih ⊢
  have hs := hmx k hk
  have hc := catL_len ls k
  repeat' (first
    | refine need_of (by have := sumL_step ls k (by omega); rw [hc]; omega) ?_
    | simp -implicitDefEqProofs only [go_sem, eC, eL, Int.toNat_natCast, Nat.reduceAdd, Nat.reduceEqDiff, Nat.reduceLT, Nat.reduceBEq, Nat.reduceLeDiff, Nat.reduceSub, Int.reduceLE, Int.reduceNeg, Int.reduceEq, Int.reduceToNat]
    | with_reducible refine know_of fun _ => ?_
    | with_reducible refine ifD1 (by omega) ?_
    | with_reducible refine ifD0 (by omega) ?_
    | with_reducible refine ifE1 (by omega) ?_
    | with_reducible refine ifE0 (by omega) ?_
    | with_reducible refine ifN1 (by omega) ?_
    | with_reducible refine ifN0 (by omega) ?_
    | with_reducible refine ifD_of (fun _ => ?_) (fun _ => ?_)
    | with_reducible refine ifE_of (fun _ => ?_) (fun _ => ?_)
    | with_reducible refine ifN_of (fun _ => ?_) (fun _ => ?_)
    | with_reducible refine Go.V.if1 (by assumption) ?_
    | with_reducible refine Go.V.if0 (by assumption) ?_
    | with_reducible refine if_of (fun _ => ?_) (fun _ => ?_)
    | with_reducible refine s_of (idx_get _ _ _ (by omega) (by omega)) ?_
    | with_reducible refine s_of (idx_get _ _ _ (by omega) (by simp only [List.length_set, List.length_append, List.length_take, List.length_drop, List.length_reverse, List.length_singleton]; omega)) ?_
    | with_reducible refine s_of (map_get _ _ _ (by omega)) ?_
    | with_reducible refine s_of (map_get _ _ _ (by simp only [List.length_set]; omega)) ?_
    | with_reducible refine s_of (if_neg (by omega)) ?_
    | with_reducible refine s_of (if_pos (by omega)) ?_
    | with_reducible refine need_of (by omega) ?_
    | with_reducible refine nil_of (fun _ => ?_) ?_
    | with_reducible refine alt_of ?_ ?_
    | (with_reducible apply join_of; intro _ _)
    | with_reducible assumption)
  · rw [wnat k (by omega), ← List.map_append, ← catL_succ ls k (by omega)]
    exact ih (k + 1) (by omega) (by omega)
  · rw [show k = ls.length by omega, show catL ls ls.length = ls.flatten from by unfold catL; rw [List.take_length]]
    exact h
theorem concat_c2 (a b : List Count) (Q : PV → Mem → Prop) (hl : a.length + b.length ≤ 1000000000) (h : Q (.own 0) [.row 61 ((a ++ b).map eC)]) : Does Tryz.prog 59 [.sl [[.sl (a.map eC)], [.sl (b.map eC)]]] [] 0 Q :=
  concat_cnts [a, b] Q (by simp [sumL]; omega) (by simpa using h)
theorem any_take {α : Type} [Inhabited α] (p : α → Bool) (l : List α) (i : Nat) (h : i < l.length) (h1 : (l.take i).any p = false) (h2 : p (l.getD i default) = false) : (l.take (i + 1)).any p = false := by
  rw [take_cons' l i h, List.any_append, h1, Bool.false_or, List.any_cons, h2]; rfl
theorem any_at {α : Type} [Inhabited α] (p : α → Bool) (l : List α) (i : Nat) (h : i < l.length) (h2 : p (l.getD i default) = true) : l.any p = true := List.any_eq_true.2 ⟨_, getD_mem' l i h, h2⟩
theorem deno_joined (key : Int) (a b : List Count) (Q : PV → Mem → Prop) (ha : ∀ y ∈ a, y.row.length ≤ 1000000) (hb : ∀ y ∈ b, y.row.length ≤ 1000000) (hla : a.length ≤ 1000000) (hlb : b.length ≤ 1000000) (hab : a.length * b.length ≤ 1000000000) (h : Q (.tup [.own 0, vi (joinD key a b).2]) [.row 61 ((joinD key a b).1.map eC)]) : Does Tryz.prog 57 [vi key, .sl (a.map eC), .sl (b.map eC)] [] 0 Q := by
  refine does_of mixed Tryz.func57 rfl (by kernel_rfl) no (slots [(0, [1, 3, 5, 16, 17, 18])]) ?_
  simp only [Tryz.f57]
  have hLm : ∀ x ∈ a ++ b, x.row.length ≤ 1000000 := fun x hx => (List.mem_append.1 hx).elim (ha x) (hb x)
  have hLl : (a ++ b).length = a.length + b.length := List.length_append
  have hj : joinD key a b = if (a ++ b).any (badK key) = true then ([], 9) else eachF (fun x => eachF (joinQ key x) b []) a [] := rfl
  rw [hj] at h
  have hma : ∀ x ∈ a, x ∈ a ++ b := fun x hx => List.mem_append_left _ hx
  have hmb : ∀ x ∈ b, x ∈ a ++ b := fun x hx => List.mem_append_right _ hx
  have hcc := concat_c2 a b
  generalize a ++ b = L at *
  repeat' (first
    | simp -implicitDefEqProofs only [go_sem, eC, Nat.reduceAdd, Nat.reduceEqDiff, Nat.reduceLT, Nat.reduceBEq, Nat.reduceLeDiff, Nat.reduceSub, Int.reduceLE, Int.reduceNeg, Int.reduceEq, Int.reduceToNat]
    | with_reducible refine know_of fun _ => ?_
    | (with_reducible refine does_then (hcc _ (by omega) ?_))
    | with_reducible refine ifD1 (by omega) ?_
    | with_reducible refine ifD0 (by omega) ?_
    | with_reducible refine ifE1 (by omega) ?_
    | with_reducible refine ifE0 (by omega) ?_
    | with_reducible refine ifN1 (by omega) ?_
    | with_reducible refine ifN0 (by omega) ?_
    | with_reducible refine ifD_of (fun _ => ?_) (fun _ => ?_)
    | with_reducible refine ifE_of (fun _ => ?_) (fun _ => ?_)
    | with_reducible refine ifN_of (fun _ => ?_) (fun _ => ?_)
    | with_reducible refine Go.V.if1 (by assumption) ?_
    | with_reducible refine Go.V.if0 (by assumption) ?_
    | with_reducible refine if_of (fun _ => ?_) (fun _ => ?_)
    | with_reducible refine s_of (idx_get _ _ _ (by omega) (by omega)) ?_
    | with_reducible refine s_of (idx_get _ _ _ (by omega) (by simp only [List.length_set, List.length_append, List.length_take, List.length_drop, List.length_reverse, List.length_singleton]; omega)) ?_
    | with_reducible refine s_of (map_get _ _ _ (by omega)) ?_
    | with_reducible refine s_of (map_get _ _ _ (by simp only [List.length_set]; omega)) ?_
    | with_reducible refine s_of (if_neg (by omega)) ?_
    | with_reducible refine s_of (if_pos (by omega)) ?_
    | with_reducible refine need_of (by omega) ?_
    | with_reducible refine nil_of (fun _ => ?_) ?_
    | with_reducible refine alt_of ?_ ?_
    | (with_reducible apply join_of; intro _ _)
    | with_reducible assumption)
  refine loop_then (loop_ind (σ := Nat) (fun s => [(1, .sl (a.map eC)), (3, .adr 0 0), (5, .adr 1 0), (16, .own 2), (17, vi L.length), (18, vi s)]) (fun s => [.var [vi key], .var [.sl (b.map eC)], .row 61 (L.map eC)]) (fun s => L.length - s) (fun s => s ≤ L.length ∧ (L.take s).any (badK key) = false) ?_ 0 ⟨Nat.zero_le _, rfl⟩)
  rintro X i ⟨hi, hn⟩ ih
  try dsimp only at ih ⊢
  have hall : L.length ≤ i → ∀ x ∈ L, badK key x = false := fun hh x hx => by
    rw [List.take_of_length_le hh] at hn
    simpa using List.any_eq_false.1 hn x hx
  have hrow : i < L.length → (L.getD i default).row.length ≤ 1000000 := fun hh => hLm _ (getD_mem' L i hh)
  repeat' (first
    | simp -implicitDefEqProofs only [go_sem, eC, Int.toNat_natCast, Nat.reduceAdd, Nat.reduceEqDiff, Nat.reduceLT, Nat.reduceBEq, Nat.reduceLeDiff, Nat.reduceSub, Int.reduceLE, Int.reduceNeg, Int.reduceEq, Int.reduceToNat]
    | with_reducible refine know_of fun _ => ?_
    | (with_reducible refine does_then (deno_each2 a _ _ _ (fun x => eachF (joinQ key x) b []) b.length _ (fun x hx Q h h0 => deno_join1 x b key Q (ha x hx) hb hlb (hall (by omega) x (hma x hx)) (fun y hy => hall (by omega) y (hmb y hy)) h h0) (fun x => by have := eachF_len (joinQ_len key x) b []; simpa using this) hab hla ?_))
    | (with_reducible refine does_then (row_Cut _ _ _ (hrow (by omega)) (fun _ => ?_) (fun _ _ => ?_)))
    | with_reducible refine ifD1 (by omega) ?_
    | with_reducible refine ifD0 (by omega) ?_
    | with_reducible refine ifE1 (by omega) ?_
    | with_reducible refine ifE0 (by omega) ?_
    | with_reducible refine ifN1 (by omega) ?_
    | with_reducible refine ifN0 (by omega) ?_
    | with_reducible refine ifD_of (fun _ => ?_) (fun _ => ?_)
    | with_reducible refine ifE_of (fun _ => ?_) (fun _ => ?_)
    | with_reducible refine ifN_of (fun _ => ?_) (fun _ => ?_)
    | with_reducible refine Go.V.if1 (by assumption) ?_
    | with_reducible refine Go.V.if0 (by assumption) ?_
    | with_reducible refine if_of (fun _ => ?_) (fun _ => ?_)
    | with_reducible refine s_of (idx_get _ _ _ (by omega) (by omega)) ?_
    | with_reducible refine s_of (idx_get _ _ _ (by omega) (by simp only [List.length_set, List.length_append, List.length_take, List.length_drop, List.length_reverse, List.length_singleton]; omega)) ?_
    | with_reducible refine s_of (map_get _ _ _ (by omega)) ?_
    | with_reducible refine s_of (map_get _ _ _ (by simp only [List.length_set]; omega)) ?_
    | with_reducible refine s_of (if_neg (by omega)) ?_
    | with_reducible refine s_of (if_pos (by omega)) ?_
    | with_reducible refine need_of (by omega) ?_
    | with_reducible refine nil_of (fun _ => ?_) ?_
    | with_reducible refine alt_of ?_ ?_
    | (with_reducible apply join_of; intro _ _)
    | with_reducible assumption)
  · rw [if_pos (any_at (badK key) L i (by omega) (badK_t (by assumption)))] at h; exact h
  · rw [wnat i (by omega)]
    refine ih (i + 1) (by omega) ⟨by omega, any_take _ _ _ (by omega) hn ?_⟩
    unfold badK
    rw [Bool.or_eq_false_iff, decide_eq_false_iff_not, decide_eq_false_iff_not]
    omega
  · rw [List.take_of_length_le (by omega)] at hn
    rw [if_neg (by rw [hn]; decide)] at h; exact h
theorem deno_mapped (exprs : List (List Term)) (Q : PV → Mem → Prop)  (h : Q (.fn 151 [.adr 0 0]) [.var [.sl (exprs.map eE)]]) : Does Tryz.prog 106 [.sl (exprs.map eE)] [] 0 Q := by
  refine does_of mixed Tryz.func106 rfl (by kernel_rfl) no (slots []) ?_
  simp only [Tryz.f106]
  repeat' (first
    | simp -implicitDefEqProofs only [go_sem, Nat.reduceAdd, Nat.reduceEqDiff, Nat.reduceLT, Nat.reduceBEq, Nat.reduceLeDiff, Nat.reduceSub, Int.reduceLE, Int.reduceNeg, Int.reduceEq, Int.reduceToNat]
    | with_reducible refine know_of fun _ => ?_
    | with_reducible refine ifD1 (by omega) ?_
    | with_reducible refine ifD0 (by omega) ?_
    | with_reducible refine ifE1 (by omega) ?_
    | with_reducible refine ifE0 (by omega) ?_
    | with_reducible refine ifN1 (by omega) ?_
    | with_reducible refine ifN0 (by omega) ?_
    | with_reducible refine ifD_of (fun _ => ?_) (fun _ => ?_)
    | with_reducible refine ifE_of (fun _ => ?_) (fun _ => ?_)
    | with_reducible refine ifN_of (fun _ => ?_) (fun _ => ?_)
    | with_reducible refine Go.V.if1 (by assumption) ?_
    | with_reducible refine Go.V.if0 (by assumption) ?_
    | with_reducible refine if_of (fun _ => ?_) (fun _ => ?_)
    | with_reducible refine s_of (idx_get _ _ _ (by omega) (by omega)) ?_
    | with_reducible refine s_of (idx_get _ _ _ (by omega) (by simp only [List.length_set, List.length_append, List.length_take, List.length_drop, List.length_reverse, List.length_singleton]; omega)) ?_
    | with_reducible refine s_of (map_get _ _ _ (by omega)) ?_
    | with_reducible refine s_of (map_get _ _ _ (by simp only [List.length_set]; omega)) ?_
    | with_reducible refine s_of (if_neg (by omega)) ?_
    | with_reducible refine s_of (if_pos (by omega)) ?_
    | with_reducible refine need_of (by omega) ?_
    | with_reducible refine nil_of (fun _ => ?_) ?_
    | with_reducible refine alt_of ?_ ?_
    | (with_reducible apply join_of; intro _ _)
    | with_reducible assumption)
  all_goals first | exact h | simpa using h
theorem deno_linear (n : Node) (Q : PV → Mem → Prop)  (h1 : n.kind = 1 → Q (.fn 151 [.adr 0 0]) [.var [.sl (n.exprs.map eE)]]) (h2 : n.kind = 2 → Q (.fn 107 [.adr 0 0]) [.var [vi n.kind, .sl (n.ins.map eI), .sl (n.kinds.map eI), .sl (n.exprs.map eE), .sl (n.cols.map eI), vi n.key, vi n.n, vi n.size, vi n.slide]]) (h3 : n.kind = 3 → Q (.fn 110 [.adr 0 0]) [.var [vi n.kind, .sl (n.ins.map eI), .sl (n.kinds.map eI), .sl (n.exprs.map eE), .sl (n.cols.map eI), vi n.key, vi n.n, vi n.size, vi n.slide]]) (h5 : n.kind = 5 → Q (.fn 112 []) []) (h7 : n.kind = 7 → Q (.fn 114 [.adr 0 0]) [.var [vi n.kind, .sl (n.ins.map eI), .sl (n.kinds.map eI), .sl (n.exprs.map eE), .sl (n.cols.map eI), vi n.key, vi n.n, vi n.size, vi n.slide]]) (h0 : n.kind ≠ 1 → n.kind ≠ 2 → n.kind ≠ 3 → n.kind ≠ 5 → n.kind ≠ 7 → Q (.fn 116 []) []) : Does Tryz.prog 60 [.agg [vi n.kind, .sl (n.ins.map eI), .sl (n.kinds.map eI), .sl (n.exprs.map eE), .sl (n.cols.map eI), vi n.key, vi n.n, vi n.size, vi n.slide]] [] 0 Q := by
  refine does_of mixed Tryz.func60 rfl (by kernel_rfl) no (slots []) ?_
  simp only [Tryz.f60]
  repeat' (first
    | simp -implicitDefEqProofs only [go_sem, Nat.reduceAdd, Nat.reduceEqDiff, Nat.reduceLT, Nat.reduceBEq, Nat.reduceLeDiff, Nat.reduceSub, Int.reduceLE, Int.reduceNeg, Int.reduceEq, Int.reduceToNat]
    | with_reducible refine know_of fun _ => ?_
    | (with_reducible refine does_then (deno_mapped _ _ ?_))
    | with_reducible refine ifD1 (by omega) ?_
    | with_reducible refine ifD0 (by omega) ?_
    | with_reducible refine ifE1 (by omega) ?_
    | with_reducible refine ifE0 (by omega) ?_
    | with_reducible refine ifN1 (by omega) ?_
    | with_reducible refine ifN0 (by omega) ?_
    | with_reducible refine ifD_of (fun _ => ?_) (fun _ => ?_)
    | with_reducible refine ifE_of (fun _ => ?_) (fun _ => ?_)
    | with_reducible refine ifN_of (fun _ => ?_) (fun _ => ?_)
    | with_reducible refine Go.V.if1 (by assumption) ?_
    | with_reducible refine Go.V.if0 (by assumption) ?_
    | with_reducible refine if_of (fun _ => ?_) (fun _ => ?_)
    | with_reducible refine s_of (idx_get _ _ _ (by omega) (by omega)) ?_
    | with_reducible refine s_of (idx_get _ _ _ (by omega) (by simp only [List.length_set, List.length_append, List.length_take, List.length_drop, List.length_reverse, List.length_singleton]; omega)) ?_
    | with_reducible refine s_of (map_get _ _ _ (by omega)) ?_
    | with_reducible refine s_of (map_get _ _ _ (by simp only [List.length_set]; omega)) ?_
    | with_reducible refine s_of (if_neg (by omega)) ?_
    | with_reducible refine s_of (if_pos (by omega)) ?_
    | with_reducible refine need_of (by omega) ?_
    | with_reducible refine nil_of (fun _ => ?_) ?_
    | with_reducible refine alt_of ?_ ?_
    | (with_reducible apply join_of; intro _ _)
    | with_reducible assumption)
  all_goals first | exact h1 (by assumption) | exact h2 (by assumption) | exact h3 (by assumption) | exact h5 (by assumption) | exact h7 (by assumption) | exact h0 (by assumption) (by assumption) (by assumption) (by assumption) (by assumption) | trace_state
end Go.V
