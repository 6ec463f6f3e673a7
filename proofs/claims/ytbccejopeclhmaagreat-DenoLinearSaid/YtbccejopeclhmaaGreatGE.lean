import Derived.Test.YtbccejopeclhmaaGreatGD
namespace Go.V
open Go Go.RowKit Go.Proofs
set_option maxRecDepth 100000
set_option maxHeartbeats 4000000
set_option linter.unusedVariables false
set_option linter.unusedSimpArgs false
theorem dropWhile_len {α : Type} (p : α → Bool) (l : List α) : (l.dropWhile p).length ≤ l.length := by
  induction l with
  | nil => simp
  | cons x l ih => rw [List.dropWhile_cons]; split <;> simp <;> omega
def cutG {α : Type} (p : α → α → Bool) : List α → List (List α)
  | [] => []
  | x :: l => (x :: l.takeWhile (p x)) :: cutG p (l.dropWhile (p x))
termination_by l => l.length
decreasing_by have := dropWhile_len (p x) l; simp; omega
theorem tw_le {α : Type} (p : α → Bool) (l : List α) : (l.takeWhile p).length ≤ l.length := by
  induction l with
  | nil => simp
  | cons x l ih => rw [List.takeWhile_cons]; split <;> simp <;> omega
theorem tw_lt {α : Type} [Inhabited α] (p : α → Bool) : ∀ (l : List α) (i : Nat), i < (l.takeWhile p).length → p (l.getD i default) = true
  | [], i, h => by simp at h
  | x :: l, i, h => by
    rw [List.takeWhile_cons] at h
    split at h
    · cases i with
      | zero => simpa
      | succ i => rw [List.getD_cons_succ]; exact tw_lt p l i (by simpa using h)
    · simp at h
theorem tw_eq {α : Type} [Inhabited α] (p : α → Bool) : ∀ (l : List α), (l.takeWhile p).length < l.length → p (l.getD (l.takeWhile p).length default) = false
  | [], h => by simp at h
  | x :: l, h => by
    rw [List.takeWhile_cons] at h ⊢
    split
    · rename_i hp
      rw [if_pos hp] at h
      rw [List.length_cons, List.getD_cons_succ]; exact tw_eq p l (by simpa using h)
    · simpa using ‹¬ p x = true›
theorem tw_take {α : Type} (p : α → Bool) (l : List α) : l.take (l.takeWhile p).length = l.takeWhile p := by
  induction l with
  | nil => simp
  | cons x l ih =>
    rw [List.takeWhile_cons]
    split
    · rw [List.length_cons, List.take_succ_cons, ih]
    · simp
theorem tw_drop {α : Type} (p : α → Bool) (l : List α) : l.drop (l.takeWhile p).length = l.dropWhile p := by
  induction l with
  | nil => simp
  | cons x l ih =>
    rw [List.takeWhile_cons, List.dropWhile_cons]
    split
    · rw [List.length_cons, List.drop_succ_cons, ih]
    · simp
theorem fitL1 (l : List Count) : Fit Tryz.prog 26 [[.sl (l.map eC)]] = True := fitL [l]
attribute [go_sem] fitL1
theorem appL (A : List (List Count)) (l : List Count) : A.map eL ++ [[.sl (l.map eC)]] = (A ++ [l]).map eL := by rw [List.map_append]; rfl
theorem group_cut (l : List Count) (g : FuncId) (cs : List PV) (p : Count → Count → Bool) (Q : PV → Mem → Prop) (hl : l.length ≤ 1000000) (hg : ∀ x ∈ l, ∀ y ∈ l, ∀ Q : PV → Mem → Prop, Q (vb (p x y)) [] → Does Tryz.prog g [.agg [.sl (x.row.map eV), vi x.diff], .agg [.sl (y.row.map eV), vi y.diff], .cad cs] [] 0 Q) (h : Q (.own 0) [.row 26 ((cutG p l).map eL)]) : Does Tryz.prog 96 [.sl (l.map eC), .fn g [.cad cs]] [] 0 Q := by
  refine does_of mixed Tryz.func96 rfl (by kernel_rfl) no (slots [(0, [0, 1, 5]), (2, [0, 1, 5, 6])]) ?_
  simp only [Tryz.f96]
  repeat' (first
    | simp -implicitDefEqProofs only [go_sem, eC, Nat.reduceAdd, Nat.reduceEqDiff, Nat.reduceLT, Nat.reduceBEq, Nat.reduceLeDiff, Nat.reduceSub, Int.reduceLE, Int.reduceNeg, Int.reduceEq, Int.reduceToNat]
    | with_reducible refine know_of fun _ => ?_
    | with_reducible refine ifD1 (by omega) ?_
    | with_reducible refine ifD0 (by omega) ?_
    | with_reducible refine ifE1 (by omega) ?_
    | with_reducible refine ifE0 (by omega) ?_
    | with_reducible refine ifN1 (by omega) ?_
    | with_reducible refine ifN0 (by omega) ?_
    | with_reducible refine ifD_of (fun _ => ?_) (fun _ => ?_)
    | with_reducible refine ifE_of (fun _ => ?_) (fun _ => ?_)
    | with_reducible refine ifN_of (fun _ => ?_) (fun _ => ?_)
    | with_reducible refine Go.V.if1 (by assumption) ?_
    | with_reducible refine Go.V.if0 (by assumption) ?_
    | with_reducible refine if_of (fun _ => ?_) (fun _ => ?_)
    | with_reducible refine s_of (idx_get _ _ _ (by omega) (by omega)) ?_
    | with_reducible refine s_of (idx_get _ _ _ (by omega) (by simp only [List.length_set, List.length_append, List.length_take, List.length_drop, List.length_reverse, List.length_singleton]; omega)) ?_
    | with_reducible refine s_of (map_get _ _ _ (by omega)) ?_
    | with_reducible refine s_of (map_get _ _ _ (by simp only [List.length_set]; omega)) ?_
    | with_reducible refine s_of (if_neg (by omega)) ?_
    | with_reducible refine s_of (if_pos (by omega)) ?_
    | with_reducible refine need_of (by omega) ?_
    | with_reducible refine nil_of (fun _ => ?_) ?_
    | with_reducible refine alt_of ?_ ?_
    | (with_reducible apply join_of; intro _ _)
    | with_reducible assumption)
  refine loop_then (loop_ind (σ := List Count × List (List Count)) (fun s => [(0, .sl (s.1.map eC)), (1, .fn g [.cad cs]), (5, .own 0)]) (fun s => [.row 26 (s.2.map eL)]) (fun s => s.1.length) (fun s => s.1.length + s.2.length ≤ 1000000 ∧ (∀ y ∈ s.1, y ∈ l) ∧ s.2 ++ cutG p s.1 = cutG p l) ?_ (l, []) ⟨by simpa using hl, fun _ hy => hy, rfl⟩)
  rintro X ⟨r, A⟩ ⟨hA, hm, hs⟩ ih
  try dsimp only at ih ⊢
  dsimp only at hA hm hs
  repeat' (first
    | simp -implicitDefEqProofs only [go_sem, eC, Int.toNat_natCast, Nat.reduceAdd, Nat.reduceEqDiff, Nat.reduceLT, Nat.reduceBEq, Nat.reduceLeDiff, Nat.reduceSub, Int.reduceLE, Int.reduceNeg, Int.reduceEq, Int.reduceToNat]
    | with_reducible refine know_of fun _ => ?_
    | with_reducible refine ifD1 (by omega) ?_
    | with_reducible refine ifD0 (by omega) ?_
    | with_reducible refine ifE1 (by omega) ?_
    | with_reducible refine ifE0 (by omega) ?_
    | with_reducible refine ifN1 (by omega) ?_
    | with_reducible refine ifN0 (by omega) ?_
    | with_reducible refine ifD_of (fun _ => ?_) (fun _ => ?_)
    | with_reducible refine ifE_of (fun _ => ?_) (fun _ => ?_)
    | with_reducible refine ifN_of (fun _ => ?_) (fun _ => ?_)
    | with_reducible refine Go.V.if1 (by assumption) ?_
    | with_reducible refine Go.V.if0 (by assumption) ?_
    | with_reducible refine if_of (fun _ => ?_) (fun _ => ?_)
    | with_reducible refine s_of (idx_get _ _ _ (by omega) (by omega)) ?_
    | with_reducible refine s_of (idx_get _ _ _ (by omega) (by simp only [List.length_set, List.length_append, List.length_take, List.length_drop, List.length_reverse, List.length_singleton]; omega)) ?_
    | with_reducible refine s_of (map_get _ _ _ (by omega)) ?_
    | with_reducible refine s_of (map_get _ _ _ (by simp only [List.length_set]; omega)) ?_
    | with_reducible refine s_of (if_neg (by omega)) ?_
    | with_reducible refine s_of (if_pos (by omega)) ?_
    | with_reducible refine need_of (by omega) ?_
    | with_reducible refine nil_of (fun _ => ?_) ?_
    | with_reducible refine alt_of ?_ ?_
    | (with_reducible apply join_of; intro _ _)
    | with_reducible assumption)
  rotate_left
  · obtain rfl : r = [] := List.eq_nil_of_length_eq_zero (by omega)
    rw [cutG, List.append_nil] at hs
    rw [hs]; exact h
  obtain ⟨x, r', hr⟩ : ∃ x r', r = x :: r' := by
    cases r with
    | nil => simp at *
    | cons x r' => exact ⟨x, r', rfl⟩
  have hW := tw_le (p x) r'
  have hrl : r.length = r'.length + 1 := by rw [hr]; rfl
  have g0 : r.getD 0 default = x := by rw [hr]; rfl
  have gn : ∀ n, 1 ≤ n → r.getD n default = r'.getD (n - 1) default := by
    intro n hn
    obtain ⟨q, rfl⟩ : ∃ q, n = q + 1 := ⟨n - 1, by omega⟩
    rw [hr, List.getD_cons_succ]; rfl
  have ih0 := ih
  clear ih
  refine loop_then (loop_ind (σ := Nat) (fun s => [(0, .sl (r.map eC)), (1, .fn g [.cad cs]), (5, .own 0), (6, vi s)]) (fun s => [.row 26 (A.map eL)]) (fun s => r.length - s) (fun s => 1 ≤ s ∧ s ≤ (r'.takeWhile (p x)).length + 1) ?_ 1 ⟨Nat.le_refl _, by omega⟩)
  rintro X n ⟨hn1, hn⟩ ih
  try dsimp only at ih ⊢
  repeat' (first
    | with_reducible refine need_of ⟨by omega, by omega, by omega, by omega, lenC _⟩ ?_
    | with_reducible refine need_of ⟨by omega, by omega, by omega, lenC _⟩ ?_
    | with_reducible refine s_of (idx_get _ _ 0 (by omega) (by omega)) ?_
    | rw [appL]
    | simp -implicitDefEqProofs only [go_sem, eC, takeM, dropM, List.drop_zero, Int.toNat_natCast, Nat.reduceAdd, Nat.reduceEqDiff, Nat.reduceLT, Nat.reduceBEq, Nat.reduceLeDiff, Nat.reduceSub, Int.reduceLE, Int.reduceNeg, Int.reduceEq, Int.reduceToNat]
    | with_reducible refine know_of fun _ => ?_
    | (with_reducible refine does_then (hg (r.getD 0 default) (hm _ (getD_mem' r 0 (by omega))) (r.getD n default) (hm _ (getD_mem' r n (by omega))) _ ?_))
    | with_reducible refine ifD1 (by omega) ?_
    | with_reducible refine ifD0 (by omega) ?_
    | with_reducible refine ifE1 (by omega) ?_
    | with_reducible refine ifE0 (by omega) ?_
    | with_reducible refine ifN1 (by omega) ?_
    | with_reducible refine ifN0 (by omega) ?_
    | with_reducible refine ifD_of (fun _ => ?_) (fun _ => ?_)
    | with_reducible refine ifE_of (fun _ => ?_) (fun _ => ?_)
    | with_reducible refine ifN_of (fun _ => ?_) (fun _ => ?_)
    | with_reducible refine Go.V.if1 (by assumption) ?_
    | with_reducible refine Go.V.if0 (by assumption) ?_
    | with_reducible refine if_of (fun _ => ?_) (fun _ => ?_)
    | with_reducible refine s_of (idx_get _ _ _ (by omega) (by omega)) ?_
    | with_reducible refine s_of (idx_get _ _ _ (by omega) (by simp only [List.length_set, List.length_append, List.length_take, List.length_drop, List.length_reverse, List.length_singleton]; omega)) ?_
    | with_reducible refine s_of (map_get _ _ _ (by omega)) ?_
    | with_reducible refine s_of (map_get _ _ _ (by simp only [List.length_set]; omega)) ?_
    | with_reducible refine s_of (if_neg (by omega)) ?_
    | with_reducible refine s_of (if_pos (by omega)) ?_
    | with_reducible refine need_of (by omega) ?_
    | with_reducible refine nil_of (fun _ => ?_) ?_
    | with_reducible refine alt_of ?_ ?_
    | (with_reducible apply join_of; intro _ _)
    | with_reducible assumption)
  · rename_i hp _
    rw [wnat n (by omega)]
    refine ih (n + 1) (by omega) ⟨by omega, ?_⟩
    rcases Nat.lt_or_ge n ((r'.takeWhile (p x)).length + 1) with h3 | h3
    · omega
    · exfalso
      rw [g0, gn n hn1, show n - 1 = (r'.takeWhile (p x)).length by omega, tw_eq (p x) r' (by omega)] at hp
      cases hp
  all_goals
    have hnW : n = (r'.takeWhile (p x)).length + 1 := by
      first
      | omega
      | (rename_i hp
         rcases Nat.lt_or_ge n ((r'.takeWhile (p x)).length + 1) with h3 | h3
         · exfalso
           rw [g0, gn n hn1, tw_lt (p x) r' (n - 1) (by omega)] at hp
           cases hp
         · omega)
    have e1 : r.take n = x :: r'.takeWhile (p x) := by rw [hnW, hr, List.take_succ_cons, tw_take]
    have e2 : r.drop n = r'.dropWhile (p x) := by rw [hnW, hr, List.drop_succ_cons, tw_drop]
    rw [List.take_length]
    refine ih0 (r.drop n, A ++ [r.take n]) (by simp only [List.length_drop]; omega) ⟨by simp only [List.length_drop, List.length_append, List.length_singleton]; omega, fun y hy => hm y (List.mem_of_mem_drop hy), ?_⟩
    dsimp only
    rw [hr, cutG] at hs
    rw [e1, e2, List.append_assoc]; exact hs
end Go.V
