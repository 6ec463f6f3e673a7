import Derived.Test.YtbccejopeclhmaaGreatSC
namespace Go.V
open Go Go.RowKit Go.Proofs
set_option maxRecDepth 100000
set_option maxHeartbeats 4000000
set_option linter.unusedVariables false
set_option linter.unusedSimpArgs false
theorem whalf (n : Nat) (h : n < 4000000000) : w64 (wu (n : Int) / 2) = ((n / 2 : Nat) : Int) := by rw [wu_of _ (by omega), w64_of _ (by omega)]; omega
theorem wsub1 (n : Nat) (h : 1 ≤ n) (h2 : n < 4000000000) : w64 ((n : Int) - 1) = ((n - 1 : Nat) : Int) := by rw [w64_of _ (by omega)]; omega
theorem getD_mid2 {α : Type} [Inhabited α] (A X Y B : List α) (i : Nat) (hi : i < X.length) : (A ++ X ++ Y ++ B).getD (A.length + i) default = X[i] := by
  rw [List.getD_eq_getElem?_getD, List.getElem?_append_left (by simp only [List.length_append]; omega), List.getElem?_append_left (by simp only [List.length_append]; omega), List.getElem?_append_right (by omega), Nat.add_sub_cancel_left, List.getElem?_eq_getElem hi]; rfl
theorem getD_mid3 {α : Type} [Inhabited α] (A X Y B : List α) (i : Nat) (hi : i < Y.length) : (A ++ X ++ Y ++ B).getD (A.length + X.length + i) default = Y[i] := by
  rw [List.getD_eq_getElem?_getD, List.getElem?_append_left (by simp only [List.length_append]; omega), List.getElem?_append_right (by simp only [List.length_append]; omega), List.length_append, Nat.add_sub_cancel_left, List.getElem?_eq_getElem hi]; rfl
theorem rot_side_of (l : List Side) (a b s m e mid : Nat) (Q : PV → Mem → Prop) (hl : l.length ≤ 1000000000) (h1 : s < m) (h2 : m < e) (h3 : e ≤ l.length) (ha : a ≤ s) (hb : e ≤ b) (hmid : s + e = mid + m) (hlt : ∀ i j, s ≤ i → i < m → m ≤ j → j < e → cS (l.getD j default) (l.getD i default) < 0)
    (h : ∀ l1, Rot l l1 s m e mid → Stab cS a b l l1 → Q (.tup []) [.row 135 (l1.map eS)]) : Does Tryz.prog 235 [.own 0, vi s, vi m, vi e, .fn 87 []] [.row 135 (l.map eS)] 1 Q := by
  obtain ⟨A, X, Y, B, rfl, hA, hX, hY⟩ := cut4 l (show s ≤ m by omega) (show m ≤ e by omega) h3
  obtain rfl : s = A.length := hA.symm
  obtain rfl : m = A.length + X.length := by omega
  obtain rfl : e = A.length + X.length + Y.length := by omega
  obtain rfl : mid = A.length + Y.length := by omega
  refine rot_side A X Y B Q hl (by omega) (by omega) (h _ (rot_of rfl) (Stab.rot ord_S' ha hb fun x hx y hy => ?_))
  obtain ⟨i, hi, rfl⟩ := List.getElem_of_mem hx
  obtain ⟨j, hj, rfl⟩ := List.getElem_of_mem hy
  have := hlt (A.length + i) (A.length + X.length + j) (by omega) (by omega) (by omega) (by omega)
  rwa [getD_mid2 _ _ _ _ _ hi, getD_mid3 _ _ _ _ _ hj] at this
theorem sym_step (l : List Side) (a m b : Nat) (Q : PV → Mem → Prop) (hl : l.length ≤ 1000000000) (ham : a < m) (hmb : m < b) (hb : b ≤ l.length) (h1 : Srt cS l a m) (h2 : Srt cS l m b) (IH : ∀ (l2 : List Side) (a2 m2 b2 : Nat) (Q2 : PV → Mem → Prop), b2 - a2 < b - a → a2 < m2 → m2 < b2 → b2 ≤ l2.length → l2.length ≤ 1000000000 → Srt cS l2 a2 m2 → Srt cS l2 m2 b2 → (∀ l3, Stab cS a2 b2 l2 l3 → Srt cS l3 a2 b2 → Q2 (.tup []) [.row 135 (l3.map eS)]) → Does Tryz.prog 218 [.own 0, vi a2, vi m2, vi b2, .fn 87 []] [.row 135 (l2.map eS)] 1 Q2) (h : ∀ l2, Stab cS a b l l2 → Srt cS l2 a b → Q (.tup []) [.row 135 (l2.map eS)]) : Does Tryz.prog 218 [.own 0, vi a, vi m, vi b, .fn 87 []] [.row 135 (l.map eS)] 1 Q := by
  refine does_ofT mixed Tryz.func218 rfl (treesT [(11, (.one 0 (.one 1 (.one 2 (.one 3 (.one 5 (.one 6 (.one 7 (.one 8 (.one 9 (.one 10 (.one 11 (.one 12 (.one 13 (.one 14 (.alt (.one 4 (.one 15 (.one 16 (.one 17 .nil)))) (.one 15 (.one 4 (.one 16 (.one 17 .nil)))))))))))))))))), [0, 10, 13])), (23, (.one 0 (.one 1 (.one 2 (.one 3 (.one 5 (.one 6 (.one 7 (.one 8 (.one 9 (.one 10 (.one 11 (.one 12 (.one 13 (.one 14 (.alt (.one 4 (.one 15 (.one 16 (.one 17 .nil)))) (.one 15 (.one 4 (.one 16 (.one 17 .nil)))))))))))))))))), [0, 14, 17]))]) (by kernel_rfl) lentside (slots [(0, [0, 1, 4, 10, 11]), (2, [0, 10, 13]), (4, [0, 2, 4, 14, 15]), (6, [0, 14, 17]), (8, [0, 1, 2, 3, 4, 18, 19, 20, 21, 22])]) ?_
  simp only [Tryz.f218]
  repeat' (first
    | rw [wadd _ _ (by omega)]
    | rw [wsub _ _ (by omega) (by omega)]
    | rw [whalf _ (by omega)]
    | rw [setside']
    | rw [wpred _ (by omega)]
    | rw [wsub1 _ (by omega) (by omega)]
    | rw [wnat _ (by omega)]
    | simp -implicitDefEqProofs only [go_sem, eS, Int.toNat_natCast, Nat.reduceAdd, Nat.reduceEqDiff, Nat.reduceLT, Nat.reduceBEq, Nat.reduceLeDiff, Nat.reduceSub, Int.reduceLE, Int.reduceNeg, Int.reduceEq, Int.reduceToNat]
    | with_reducible refine know_of fun _ => ?_
    | with_reducible refine ifD1 (by omega) ?_
    | with_reducible refine ifD0 (by omega) ?_
    | with_reducible refine ifE1 (by omega) ?_
    | with_reducible refine ifE0 (by omega) ?_
    | with_reducible refine ifN1 (by omega) ?_
    | with_reducible refine ifN0 (by omega) ?_
    | with_reducible refine ifD_of (fun _ => ?_) (fun _ => ?_)
    | with_reducible refine ifE_of (fun _ => ?_) (fun _ => ?_)
    | with_reducible refine ifN_of (fun _ => ?_) (fun _ => ?_)
    | with_reducible refine Go.V.if1 (by assumption) ?_
    | with_reducible refine Go.V.if0 (by assumption) ?_
    | with_reducible refine if_of (fun _ => ?_) (fun _ => ?_)
    | with_reducible refine s_of (idx_get _ _ _ (by omega) (by omega)) ?_
    | with_reducible refine s_of (idx_get _ _ _ (by omega) (by simp only [List.length_set, List.length_append, List.length_take, List.length_drop, List.length_reverse, List.length_singleton]; omega)) ?_
    | with_reducible refine s_of (map_get _ _ _ (by omega)) ?_
    | with_reducible refine s_of (map_get _ _ _ (by simp only [List.length_set]; omega)) ?_
    | with_reducible refine s_of (if_neg (by omega)) ?_
    | with_reducible refine s_of (if_pos (by omega)) ?_
    | with_reducible refine need_of (by omega) ?_
    | with_reducible refine nil_of (fun _ => ?_) ?_
    | with_reducible refine alt_of ?_ ?_
    | (with_reducible apply join_of; intro _ _)
    | with_reducible assumption)
  · refine loop_then (loop_ind (σ := Nat × Nat) (fun s => [(0, .own 0), (1, vi a), (4, .fn 87 []), (10, vi s.1), (11, vi s.2)]) (fun s => [.row 135 (l.map eS)]) (fun s => s.2 - s.1) (fun s => m ≤ s.1 ∧ s.1 ≤ s.2 ∧ s.2 ≤ b ∧ (s.1 = m ∨ cS (l.getD (s.1 - 1) default) (l.getD a default) < 0) ∧ (s.2 = b ∨ 0 ≤ cS (l.getD s.2 default) (l.getD a default))) ?_ (m, b) ⟨Nat.le_refl _, by dsimp only; omega, Nat.le_refl _, .inl rfl, .inl rfl⟩)
    rintro X ⟨i, j⟩ ⟨hmi, hij, hjb, hi, hj⟩ ih
    try dsimp only at ih ⊢
    dsimp only at hmi hij hjb hi hj
    repeat' (first
      | rw [wadd _ _ (by omega)]
      | rw [wsub _ _ (by omega) (by omega)]
      | rw [whalf _ (by omega)]
      | rw [setside']
      | rw [wpred _ (by omega)]
      | rw [wsub1 _ (by omega) (by omega)]
      | rw [wnat _ (by omega)]
      | simp -implicitDefEqProofs only [go_sem, eS, Int.toNat_natCast, Nat.reduceAdd, Nat.reduceEqDiff, Nat.reduceLT, Nat.reduceBEq, Nat.reduceLeDiff, Nat.reduceSub, Int.reduceLE, Int.reduceNeg, Int.reduceEq, Int.reduceToNat]
      | with_reducible refine know_of fun _ => ?_
      | (with_reducible refine does_then (less_cmp _ _ _ ?_))
      | with_reducible refine ifD1 (by omega) ?_
      | with_reducible refine ifD0 (by omega) ?_
      | with_reducible refine ifE1 (by omega) ?_
      | with_reducible refine ifE0 (by omega) ?_
      | with_reducible refine ifN1 (by omega) ?_
      | with_reducible refine ifN0 (by omega) ?_
      | with_reducible refine ifD_of (fun _ => ?_) (fun _ => ?_)
      | with_reducible refine ifE_of (fun _ => ?_) (fun _ => ?_)
      | with_reducible refine ifN_of (fun _ => ?_) (fun _ => ?_)
      | with_reducible refine Go.V.if1 (by assumption) ?_
      | with_reducible refine Go.V.if0 (by assumption) ?_
      | with_reducible refine if_of (fun _ => ?_) (fun _ => ?_)
      | with_reducible refine s_of (idx_get _ _ _ (by omega) (by omega)) ?_
      | with_reducible refine s_of (idx_get _ _ _ (by omega) (by simp only [List.length_set, List.length_append, List.length_take, List.length_drop, List.length_reverse, List.length_singleton]; omega)) ?_
      | with_reducible refine s_of (map_get _ _ _ (by omega)) ?_
      | with_reducible refine s_of (map_get _ _ _ (by simp only [List.length_set]; omega)) ?_
      | with_reducible refine s_of (if_neg (by omega)) ?_
      | with_reducible refine s_of (if_pos (by omega)) ?_
      | with_reducible refine need_of (by omega) ?_
      | with_reducible refine nil_of (fun _ => ?_) ?_
      | with_reducible refine alt_of ?_ ?_
      | (with_reducible apply join_of; intro _ _)
      | with_reducible assumption)
    · exact ih ((i + j) / 2 + 1, j) (by dsimp only; omega) ⟨by dsimp only; omega, by dsimp only; omega, hjb, .inr (by dsimp only; rw [Nat.add_sub_cancel]; assumption), hj⟩
    · exact ih (i, (i + j) / 2) (by dsimp only; omega) ⟨hmi, by dsimp only; omega, by dsimp only; omega, hi, .inr (by dsimp only; omega)⟩
    have hij2 : i = j := by omega
    subst hij2
    clear ih
    obtain rfl : m = a + 1 := by omega
    obtain ⟨q1, q2⟩ := low_all ord_S' (x := l.getD a default) h2 hmi hjb hi hj
    obtain ⟨p, rfl⟩ : ∃ p, i = p + 1 := ⟨i - 1, by omega⟩
    refine loop_then (loop_ind (σ := Nat × List Side) (fun s => [(0, .own 0), (10, vi (p + 1 : Nat)), (13, vi s.1)]) (fun s => [.row 135 (s.2.map eS)]) (fun s => p - s.1) (fun s => a ≤ s.1 ∧ s.1 ≤ p ∧ ShR l s.2 a s.1 ∧ Stab cS a b l s.2) ?_ (a, l) ⟨Nat.le_refl _, by dsimp only; omega, ShR.start _ _, Stab.refl _ _ _⟩)
    rintro X ⟨k, s⟩ ⟨hk, hkp, hsh, hst⟩ ih
    try dsimp only at ih ⊢
    dsimp only at hk hkp hsh hst
    have hsl := hst.len
    repeat' (first
      | rw [wadd _ _ (by omega)]
      | rw [wsub _ _ (by omega) (by omega)]
      | rw [whalf _ (by omega)]
      | rw [setside']
      | rw [wpred _ (by omega)]
      | rw [wsub1 _ (by omega) (by omega)]
      | rw [wnat _ (by omega)]
      | simp -implicitDefEqProofs only [go_sem, eS, Int.toNat_natCast, Nat.reduceAdd, Nat.reduceEqDiff, Nat.reduceLT, Nat.reduceBEq, Nat.reduceLeDiff, Nat.reduceSub, Int.reduceLE, Int.reduceNeg, Int.reduceEq, Int.reduceToNat]
      | with_reducible refine know_of fun _ => ?_
      | with_reducible refine ifD1 (by omega) ?_
      | with_reducible refine ifD0 (by omega) ?_
      | with_reducible refine ifE1 (by omega) ?_
      | with_reducible refine ifE0 (by omega) ?_
      | with_reducible refine ifN1 (by omega) ?_
      | with_reducible refine ifN0 (by omega) ?_
      | with_reducible refine ifD_of (fun _ => ?_) (fun _ => ?_)
      | with_reducible refine ifE_of (fun _ => ?_) (fun _ => ?_)
      | with_reducible refine ifN_of (fun _ => ?_) (fun _ => ?_)
      | with_reducible refine Go.V.if1 (by assumption) ?_
      | with_reducible refine Go.V.if0 (by assumption) ?_
      | with_reducible refine if_of (fun _ => ?_) (fun _ => ?_)
      | with_reducible refine s_of (idx_get _ _ _ (by omega) (by omega)) ?_
      | with_reducible refine s_of (idx_get _ _ _ (by omega) (by simp only [List.length_set, List.length_append, List.length_take, List.length_drop, List.length_reverse, List.length_singleton]; omega)) ?_
      | with_reducible refine s_of (map_get _ _ _ (by omega)) ?_
      | with_reducible refine s_of (map_get _ _ _ (by simp only [List.length_set]; omega)) ?_
      | with_reducible refine s_of (if_neg (by omega)) ?_
      | with_reducible refine s_of (if_pos (by omega)) ?_
      | with_reducible refine need_of (by omega) ?_
      | with_reducible refine nil_of (fun _ => ?_) ?_
      | with_reducible refine alt_of ?_ ?_
      | (with_reducible apply join_of; intro _ _)
      | with_reducible assumption)
    · rw [List.set_comm _ _ (by omega)]
      exact ih (k + 1, _) (by dsimp only; omega) ⟨by dsimp only; omega, by dsimp only; omega, hsh.step hk (by omega), hst.trans (Stab.swap ord_S' hk (by omega) (by omega) (by rw [hsh.at_, hsh.hi (k + 1) (by omega)]; exact q1 (k + 1) (by omega) (by omega)))⟩
    · obtain rfl : k = p := by omega
      exact h s hst (hsh.done (i := k + 1) h2 hmi hjb q1 q2)
  · refine loop_then (loop_ind (σ := Nat × Nat) (fun s => [(0, .own 0), (2, vi m), (4, .fn 87 []), (14, vi s.1), (15, vi s.2)]) (fun s => [.row 135 (l.map eS)]) (fun s => s.2 - s.1) (fun s => a ≤ s.1 ∧ s.1 ≤ s.2 ∧ s.2 ≤ m ∧ (s.1 = a ∨ 0 ≤ cS (l.getD m default) (l.getD (s.1 - 1) default)) ∧ (s.2 = m ∨ cS (l.getD m default) (l.getD s.2 default) < 0)) ?_ (a, m) ⟨Nat.le_refl _, by dsimp only; omega, Nat.le_refl _, .inl rfl, .inl rfl⟩)
    rintro X ⟨i, j⟩ ⟨hmi, hij, hjb, hi, hj⟩ ih
    try dsimp only at ih ⊢
    dsimp only at hmi hij hjb hi hj
    repeat' (first
      | rw [wadd _ _ (by omega)]
      | rw [wsub _ _ (by omega) (by omega)]
      | rw [whalf _ (by omega)]
      | rw [setside']
      | rw [wpred _ (by omega)]
      | rw [wsub1 _ (by omega) (by omega)]
      | rw [wnat _ (by omega)]
      | simp -implicitDefEqProofs only [go_sem, eS, Int.toNat_natCast, Nat.reduceAdd, Nat.reduceEqDiff, Nat.reduceLT, Nat.reduceBEq, Nat.reduceLeDiff, Nat.reduceSub, Int.reduceLE, Int.reduceNeg, Int.reduceEq, Int.reduceToNat]
      | with_reducible refine know_of fun _ => ?_
      | (with_reducible refine does_then (less_cmp _ _ _ ?_))
      | with_reducible refine ifD1 (by omega) ?_
      | with_reducible refine ifD0 (by omega) ?_
      | with_reducible refine ifE1 (by omega) ?_
      | with_reducible refine ifE0 (by omega) ?_
      | with_reducible refine ifN1 (by omega) ?_
      | with_reducible refine ifN0 (by omega) ?_
      | with_reducible refine ifD_of (fun _ => ?_) (fun _ => ?_)
      | with_reducible refine ifE_of (fun _ => ?_) (fun _ => ?_)
      | with_reducible refine ifN_of (fun _ => ?_) (fun _ => ?_)
      | with_reducible refine Go.V.if1 (by assumption) ?_
      | with_reducible refine Go.V.if0 (by assumption) ?_
      | with_reducible refine if_of (fun _ => ?_) (fun _ => ?_)
      | with_reducible refine s_of (idx_get _ _ _ (by omega) (by omega)) ?_
      | with_reducible refine s_of (idx_get _ _ _ (by omega) (by simp only [List.length_set, List.length_append, List.length_take, List.length_drop, List.length_reverse, List.length_singleton]; omega)) ?_
      | with_reducible refine s_of (map_get _ _ _ (by omega)) ?_
      | with_reducible refine s_of (map_get _ _ _ (by simp only [List.length_set]; omega)) ?_
      | with_reducible refine s_of (if_neg (by omega)) ?_
      | with_reducible refine s_of (if_pos (by omega)) ?_
      | with_reducible refine need_of (by omega) ?_
      | with_reducible refine nil_of (fun _ => ?_) ?_
      | with_reducible refine alt_of ?_ ?_
      | (with_reducible apply join_of; intro _ _)
      | with_reducible assumption)
    · exact ih (i, (i + j) / 2) (by dsimp only; omega) ⟨hmi, by dsimp only; omega, by dsimp only; omega, hi, .inr (by assumption)⟩
    · exact ih ((i + j) / 2 + 1, j) (by dsimp only; omega) ⟨by dsimp only; omega, by dsimp only; omega, hjb, .inr (by dsimp only; rw [Nat.add_sub_cancel]; omega), hj⟩
    have hij2 : i = j := by omega
    subst hij2
    clear ih
    obtain rfl : b = m + 1 := by omega
    obtain ⟨q1, q2⟩ := high_all ord_S' (x := l.getD m default) h1 hmi hjb hi hj
    refine loop_then (loop_ind (σ := Nat × List Side) (fun s => [(0, .own 0), (14, vi i), (17, vi s.1)]) (fun s => [.row 135 (s.2.map eS)]) (fun s => s.1 - i) (fun s => i ≤ s.1 ∧ s.1 ≤ m ∧ ShL l s.2 m s.1 ∧ Stab cS a (m + 1) l s.2) ?_ (m, l) ⟨hjb, Nat.le_refl _, ShL.start _ _, Stab.refl _ _ _⟩)
    rintro X ⟨k, s⟩ ⟨hk, hkp, hsh, hst⟩ ih
    try dsimp only at ih ⊢
    dsimp only at hk hkp hsh hst
    have hsl := hst.len
    rcases k with _ | k
    · repeat' (first
        | rw [wadd _ _ (by omega)]
        | rw [wsub _ _ (by omega) (by omega)]
        | rw [whalf _ (by omega)]
        | rw [setside']
        | rw [wpred _ (by omega)]
        | rw [wsub1 _ (by omega) (by omega)]
        | rw [wnat _ (by omega)]
        | simp -implicitDefEqProofs only [go_sem, eS, Int.toNat_natCast, Nat.reduceAdd, Nat.reduceEqDiff, Nat.reduceLT, Nat.reduceBEq, Nat.reduceLeDiff, Nat.reduceSub, Int.reduceLE, Int.reduceNeg, Int.reduceEq, Int.reduceToNat]
        | with_reducible refine know_of fun _ => ?_
        | with_reducible refine ifD1 (by omega) ?_
        | with_reducible refine ifD0 (by omega) ?_
        | with_reducible refine ifE1 (by omega) ?_
        | with_reducible refine ifE0 (by omega) ?_
        | with_reducible refine ifN1 (by omega) ?_
        | with_reducible refine ifN0 (by omega) ?_
        | with_reducible refine ifD_of (fun _ => ?_) (fun _ => ?_)
        | with_reducible refine ifE_of (fun _ => ?_) (fun _ => ?_)
        | with_reducible refine ifN_of (fun _ => ?_) (fun _ => ?_)
        | with_reducible refine Go.V.if1 (by assumption) ?_
        | with_reducible refine Go.V.if0 (by assumption) ?_
        | with_reducible refine if_of (fun _ => ?_) (fun _ => ?_)
        | with_reducible refine s_of (idx_get _ _ _ (by omega) (by omega)) ?_
        | with_reducible refine s_of (idx_get _ _ _ (by omega) (by simp only [List.length_set, List.length_append, List.length_take, List.length_drop, List.length_reverse, List.length_singleton]; omega)) ?_
        | with_reducible refine s_of (map_get _ _ _ (by omega)) ?_
        | with_reducible refine s_of (map_get _ _ _ (by simp only [List.length_set]; omega)) ?_
        | with_reducible refine s_of (if_neg (by omega)) ?_
        | with_reducible refine s_of (if_pos (by omega)) ?_
        | with_reducible refine need_of (by omega) ?_
        | with_reducible refine nil_of (fun _ => ?_) ?_
        | with_reducible refine alt_of ?_ ?_
        | (with_reducible apply join_of; intro _ _)
        | with_reducible assumption)
      · obtain rfl : i = 0 := by omega
        exact h s hst (hsh.done h1 hmi hjb q1 q2)
    · repeat' (first
        | rw [wadd _ _ (by omega)]
        | rw [wsub _ _ (by omega) (by omega)]
        | rw [whalf _ (by omega)]
        | rw [setside']
        | rw [wpred _ (by omega)]
        | rw [wsub1 _ (by omega) (by omega)]
        | rw [wnat _ (by omega)]
        | simp -implicitDefEqProofs only [go_sem, eS, Int.toNat_natCast, Nat.reduceAdd, Nat.reduceEqDiff, Nat.reduceLT, Nat.reduceBEq, Nat.reduceLeDiff, Nat.reduceSub, Int.reduceLE, Int.reduceNeg, Int.reduceEq, Int.reduceToNat]
        | with_reducible refine know_of fun _ => ?_
        | with_reducible refine ifD1 (by omega) ?_
        | with_reducible refine ifD0 (by omega) ?_
        | with_reducible refine ifE1 (by omega) ?_
        | with_reducible refine ifE0 (by omega) ?_
        | with_reducible refine ifN1 (by omega) ?_
        | with_reducible refine ifN0 (by omega) ?_
        | with_reducible refine ifD_of (fun _ => ?_) (fun _ => ?_)
        | with_reducible refine ifE_of (fun _ => ?_) (fun _ => ?_)
        | with_reducible refine ifN_of (fun _ => ?_) (fun _ => ?_)
        | with_reducible refine Go.V.if1 (by assumption) ?_
        | with_reducible refine Go.V.if0 (by assumption) ?_
        | with_reducible refine if_of (fun _ => ?_) (fun _ => ?_)
        | with_reducible refine s_of (idx_get _ _ _ (by omega) (by omega)) ?_
        | with_reducible refine s_of (idx_get _ _ _ (by omega) (by simp only [List.length_set, List.length_append, List.length_take, List.length_drop, List.length_reverse, List.length_singleton]; omega)) ?_
        | with_reducible refine s_of (map_get _ _ _ (by omega)) ?_
        | with_reducible refine s_of (map_get _ _ _ (by simp only [List.length_set]; omega)) ?_
        | with_reducible refine s_of (if_neg (by omega)) ?_
        | with_reducible refine s_of (if_pos (by omega)) ?_
        | with_reducible refine need_of (by omega) ?_
        | with_reducible refine nil_of (fun _ => ?_) ?_
        | with_reducible refine alt_of ?_ ?_
        | (with_reducible apply join_of; intro _ _)
        | with_reducible assumption)
      · exact ih (k, _) (by dsimp only; omega) ⟨by dsimp only; omega, by dsimp only; omega, hsh.step hkp (by omega), hst.trans (Stab.swap ord_S' (by omega) (by omega) (by omega) (by rw [hsh.at_, hsh.lo k (by omega)]; exact q2 k (by omega) (by omega)))⟩
      · obtain rfl : i = k + 1 := by omega
        exact h s hst (hsh.done h1 hmi hjb q1 q2)
  · generalize hmid : (a + b) / 2 = mid at *
    refine loop_then (loop_ind (σ := Nat × Nat) (fun s => [(0, .own 0), (1, vi a), (2, vi m), (3, vi b), (4, .fn 87 []), (18, vi mid), (19, vi (mid + m : Nat)), (20, vi s.1), (21, vi s.2), (22, vi (mid + m - 1 : Nat))]) (fun s => [.row 135 (l.map eS)]) (fun s => s.2 - s.1) (fun s => (mid + m - b) ≤ s.1 ∧ s.1 ≤ s.2 ∧ s.2 ≤ mid ∧ (s.1 = (mid + m - b) ∨ 0 ≤ cS (l.getD (mid + m - 1 - (s.1 - 1)) default) (l.getD (s.1 - 1) default)) ∧ (s.2 = mid ∨ cS (l.getD (mid + m - 1 - s.2) default) (l.getD s.2 default) < 0)) ?_ ((mid + m - b), mid) ⟨Nat.le_refl _, by dsimp only; omega, Nat.le_refl _, .inl rfl, .inl rfl⟩)
    rintro X ⟨i, j⟩ ⟨hmi, hij, hjb, hi, hj⟩ ih
    try dsimp only at ih ⊢
    dsimp only at hmi hij hjb hi hj
    repeat' (first
      | rw [wadd _ _ (by omega)]
      | rw [wsub _ _ (by omega) (by omega)]
      | rw [whalf _ (by omega)]
      | rw [setside']
      | rw [wpred _ (by omega)]
      | rw [wsub1 _ (by omega) (by omega)]
      | rw [wnat _ (by omega)]
      | simp -implicitDefEqProofs only [go_sem, eS, Int.toNat_natCast, Nat.reduceAdd, Nat.reduceEqDiff, Nat.reduceLT, Nat.reduceBEq, Nat.reduceLeDiff, Nat.reduceSub, Int.reduceLE, Int.reduceNeg, Int.reduceEq, Int.reduceToNat]
      | with_reducible refine know_of fun _ => ?_
      | (with_reducible refine does_then (less_cmp _ _ _ ?_))
      | with_reducible refine ifD1 (by omega) ?_
      | with_reducible refine ifD0 (by omega) ?_
      | with_reducible refine ifE1 (by omega) ?_
      | with_reducible refine ifE0 (by omega) ?_
      | with_reducible refine ifN1 (by omega) ?_
      | with_reducible refine ifN0 (by omega) ?_
      | with_reducible refine ifD_of (fun _ => ?_) (fun _ => ?_)
      | with_reducible refine ifE_of (fun _ => ?_) (fun _ => ?_)
      | with_reducible refine ifN_of (fun _ => ?_) (fun _ => ?_)
      | with_reducible refine Go.V.if1 (by assumption) ?_
      | with_reducible refine Go.V.if0 (by assumption) ?_
      | with_reducible refine if_of (fun _ => ?_) (fun _ => ?_)
      | with_reducible refine s_of (idx_get _ _ _ (by omega) (by omega)) ?_
      | with_reducible refine s_of (idx_get _ _ _ (by omega) (by simp only [List.length_set, List.length_append, List.length_take, List.length_drop, List.length_reverse, List.length_singleton]; omega)) ?_
      | with_reducible refine s_of (map_get _ _ _ (by omega)) ?_
      | with_reducible refine s_of (map_get _ _ _ (by simp only [List.length_set]; omega)) ?_
      | with_reducible refine s_of (if_neg (by omega)) ?_
      | with_reducible refine s_of (if_pos (by omega)) ?_
      | with_reducible refine need_of (by omega) ?_
      | with_reducible refine nil_of (fun _ => ?_) ?_
      | with_reducible refine alt_of ?_ ?_
      | (with_reducible apply join_of; intro _ _)
      | with_reducible assumption)
    · exact ih (i, (i + j) / 2) (by dsimp only; omega) ⟨hmi, by dsimp only; omega, by dsimp only; omega, hi, .inr (by assumption)⟩
    · exact ih ((i + j) / 2 + 1, j) (by dsimp only; omega) ⟨by dsimp only; omega, by dsimp only; omega, hjb, .inr (by dsimp only; rw [Nat.add_sub_cancel]; omega), hj⟩
    all_goals
      have hij2 : i = j := by omega
      subst hij2
      clear ih
      have hF : Fnd cS l a m b mid i (mid + m - i) := by
        refine ⟨ham, hmb, by omega, by omega, by omega, by omega, by omega, by omega, by omega, by omega, by omega, ?_, ?_⟩
        · rcases hi with hi | hi
          · first | exact .inl hi | exact .inr (.inl (by omega))
          · by_cases hia : i = a
            · exact .inl hia
            · refine .inr (.inr ?_)
              rwa [show mid + m - 1 - (i - 1) = mid + m - i by omega] at hi
        · rcases hj with hj | hj
          · first | exact .inl hj | exact .inr (.inl (by omega))
          · refine .inr (.inr ?_)
            rwa [show mid + m - 1 - i = mid + m - i - 1 by omega] at hj
      have hlt : ∀ i2 j2, i ≤ i2 → i2 < m → m ≤ j2 → j2 < mid + m - i → cS (l.getD j2 default) (l.getD i2 default) < 0 := fun i2 j2 g1 g2 g3 g4 => hF.lt ord_S' h1 h2 g1 g2 g3 g4
      have f1 := hF.sa; have f2 := hF.sm; have f3 := hF.smid; have f4 := hF.se; have f5 := hF.eb; have f6 := hF.me; have f7 := hF.mide; have f8 := hF.amid; have f9 := hF.midb
      clear hi hj
    all_goals first
      | (with_reducible refine does_then (rot_side_of l a b i m (mid + m - i) mid _ hl (by omega) (by omega) (by omega) (by omega) (by omega) (by omega) hlt (fun l1 hr hs => ?_)))
      | (obtain ⟨l1, hl1⟩ : ∃ l1, l1 = l := ⟨l, rfl⟩; have hr : Rot l l1 i m (mid + m - i) mid := hF.rot hl1 (by omega); have hs : Stab cS a b l l1 := (by rw [hl1]; exact Stab.refl _ _ _); rw [← hl1])
    all_goals
      obtain ⟨q1, q2, q3, q4, q5⟩ := hr.halves ord_S' hF h1 h2
      have fin : ∀ l2 l3, Stab cS a mid l1 l2 → Srt cS l2 a mid → Stab cS mid b l2 l3 → Srt cS l3 mid b → Q (.tup []) [.row 135 (l3.map eS)] := fun l2 l3 t2 u2 t3 u3 => h l3 (hs.trans ((t2.widen (Nat.le_refl _) (Nat.le_of_lt hF.midb)).trans (t3.widen (Nat.le_of_lt hF.amid) (Nat.le_refl _)))) (halves_done t2 u2 t3 u3 q5)
      have sk1 : a = i ∨ i = mid → Srt cS l1 a mid := fun hh => by
        rcases hh with hh | hh
        · rw [hh]; exact q2
        · rw [← hh]; exact q1
      have sk2 : mid = mid + m - i ∨ mid + m - i = b → Srt cS l1 mid b := fun hh => by
        rcases hh with hh | hh
        · have q4' := q4; rw [← hh] at q4'; exact q4'
        · have q3' := q3; rw [hh] at q3'; exact q3'
      repeat' (first
      | rw [wadd _ _ (by omega)]
      | rw [wsub _ _ (by omega) (by omega)]
      | rw [whalf _ (by omega)]
      | rw [setside']
      | rw [wpred _ (by omega)]
      | rw [wsub1 _ (by omega) (by omega)]
      | rw [wnat _ (by omega)]
      | simp -implicitDefEqProofs only [go_sem, eS, Int.toNat_natCast, Nat.reduceAdd, Nat.reduceEqDiff, Nat.reduceLT, Nat.reduceBEq, Nat.reduceLeDiff, Nat.reduceSub, Int.reduceLE, Int.reduceNeg, Int.reduceEq, Int.reduceToNat]
      | with_reducible refine know_of fun _ => ?_
      | (with_reducible refine does_then (IH _ a i mid _ (by omega) (by omega) (by omega) (by have := hs.len; omega) (by have := hs.len; omega) q1 q2 (fun l2 t2 u2 => ?_)))
      | (with_reducible refine does_then (IH _ mid (mid + m - i) b _ (by omega) (by omega) (by omega) (by have := hs.len; have := t2.len; omega) (by have := hs.len; have := t2.len; omega) (q3.congr fun k g1 _ => t2.out k (.inr g1)) (q4.congr fun k g1 _ => t2.out k (.inr (by omega))) (fun l3 t3 u3 => ?_)))
      | (with_reducible refine does_then (IH _ mid (mid + m - i) b _ (by omega) (by omega) (by omega) (by have := hs.len; omega) (by have := hs.len; omega) q3 q4 (fun l3 t3 u3 => ?_)))
      | with_reducible refine ifD1 (by omega) ?_
      | with_reducible refine ifD0 (by omega) ?_
      | with_reducible refine ifE1 (by omega) ?_
      | with_reducible refine ifE0 (by omega) ?_
      | with_reducible refine ifN1 (by omega) ?_
      | with_reducible refine ifN0 (by omega) ?_
      | with_reducible refine ifD_of (fun _ => ?_) (fun _ => ?_)
      | with_reducible refine ifE_of (fun _ => ?_) (fun _ => ?_)
      | with_reducible refine ifN_of (fun _ => ?_) (fun _ => ?_)
      | with_reducible refine Go.V.if1 (by assumption) ?_
      | with_reducible refine Go.V.if0 (by assumption) ?_
      | with_reducible refine if_of (fun _ => ?_) (fun _ => ?_)
      | with_reducible refine s_of (idx_get _ _ _ (by omega) (by omega)) ?_
      | with_reducible refine s_of (idx_get _ _ _ (by omega) (by simp only [List.length_set, List.length_append, List.length_take, List.length_drop, List.length_reverse, List.length_singleton]; omega)) ?_
      | with_reducible refine s_of (map_get _ _ _ (by omega)) ?_
      | with_reducible refine s_of (map_get _ _ _ (by simp only [List.length_set]; omega)) ?_
      | with_reducible refine s_of (if_neg (by omega)) ?_
      | with_reducible refine s_of (if_pos (by omega)) ?_
      | with_reducible refine need_of (by omega) ?_
      | with_reducible refine nil_of (fun _ => ?_) ?_
      | with_reducible refine alt_of ?_ ?_
      | (with_reducible apply join_of; intro _ _)
      | with_reducible assumption)
      all_goals first
        | exact fin _ _ t2 u2 t3 u3
        | exact fin _ _ t2 u2 (Stab.refl _ _ _) ((sk2 (by omega)).congr fun k g1 _ => t2.out k (.inr g1))
        | exact fin _ _ (Stab.refl _ _ _) (sk1 (by omega)) t3 u3
        | exact fin _ _ (Stab.refl _ _ _) (sk1 (by omega)) (Stab.refl _ _ _) (sk2 (by omega))
  · generalize hmid : (a + b) / 2 = mid at *
    refine loop_then (loop_ind (σ := Nat × Nat) (fun s => [(0, .own 0), (1, vi a), (2, vi m), (3, vi b), (4, .fn 87 []), (18, vi mid), (19, vi (mid + m : Nat)), (20, vi s.1), (21, vi s.2), (22, vi (mid + m - 1 : Nat))]) (fun s => [.row 135 (l.map eS)]) (fun s => s.2 - s.1) (fun s => a ≤ s.1 ∧ s.1 ≤ s.2 ∧ s.2 ≤ m ∧ (s.1 = a ∨ 0 ≤ cS (l.getD (mid + m - 1 - (s.1 - 1)) default) (l.getD (s.1 - 1) default)) ∧ (s.2 = m ∨ cS (l.getD (mid + m - 1 - s.2) default) (l.getD s.2 default) < 0)) ?_ (a, m) ⟨Nat.le_refl _, by dsimp only; omega, Nat.le_refl _, .inl rfl, .inl rfl⟩)
    rintro X ⟨i, j⟩ ⟨hmi, hij, hjb, hi, hj⟩ ih
    try dsimp only at ih ⊢
    dsimp only at hmi hij hjb hi hj
    repeat' (first
      | rw [wadd _ _ (by omega)]
      | rw [wsub _ _ (by omega) (by omega)]
      | rw [whalf _ (by omega)]
      | rw [setside']
      | rw [wpred _ (by omega)]
      | rw [wsub1 _ (by omega) (by omega)]
      | rw [wnat _ (by omega)]
      | simp -implicitDefEqProofs only [go_sem, eS, Int.toNat_natCast, Nat.reduceAdd, Nat.reduceEqDiff, Nat.reduceLT, Nat.reduceBEq, Nat.reduceLeDiff, Nat.reduceSub, Int.reduceLE, Int.reduceNeg, Int.reduceEq, Int.reduceToNat]
      | with_reducible refine know_of fun _ => ?_
      | (with_reducible refine does_then (less_cmp _ _ _ ?_))
      | with_reducible refine ifD1 (by omega) ?_
      | with_reducible refine ifD0 (by omega) ?_
      | with_reducible refine ifE1 (by omega) ?_
      | with_reducible refine ifE0 (by omega) ?_
      | with_reducible refine ifN1 (by omega) ?_
      | with_reducible refine ifN0 (by omega) ?_
      | with_reducible refine ifD_of (fun _ => ?_) (fun _ => ?_)
      | with_reducible refine ifE_of (fun _ => ?_) (fun _ => ?_)
      | with_reducible refine ifN_of (fun _ => ?_) (fun _ => ?_)
      | with_reducible refine Go.V.if1 (by assumption) ?_
      | with_reducible refine Go.V.if0 (by assumption) ?_
      | with_reducible refine if_of (fun _ => ?_) (fun _ => ?_)
      | with_reducible refine s_of (idx_get _ _ _ (by omega) (by omega)) ?_
      | with_reducible refine s_of (idx_get _ _ _ (by omega) (by simp only [List.length_set, List.length_append, List.length_take, List.length_drop, List.length_reverse, List.length_singleton]; omega)) ?_
      | with_reducible refine s_of (map_get _ _ _ (by omega)) ?_
      | with_reducible refine s_of (map_get _ _ _ (by simp only [List.length_set]; omega)) ?_
      | with_reducible refine s_of (if_neg (by omega)) ?_
      | with_reducible refine s_of (if_pos (by omega)) ?_
      | with_reducible refine need_of (by omega) ?_
      | with_reducible refine nil_of (fun _ => ?_) ?_
      | with_reducible refine alt_of ?_ ?_
      | (with_reducible apply join_of; intro _ _)
      | with_reducible assumption)
    · exact ih (i, (i + j) / 2) (by dsimp only; omega) ⟨hmi, by dsimp only; omega, by dsimp only; omega, hi, .inr (by assumption)⟩
    · exact ih ((i + j) / 2 + 1, j) (by dsimp only; omega) ⟨by dsimp only; omega, by dsimp only; omega, hjb, .inr (by dsimp only; rw [Nat.add_sub_cancel]; omega), hj⟩
    all_goals
      have hij2 : i = j := by omega
      subst hij2
      clear ih
      have hF : Fnd cS l a m b mid i (mid + m - i) := by
        refine ⟨ham, hmb, by omega, by omega, by omega, by omega, by omega, by omega, by omega, by omega, by omega, ?_, ?_⟩
        · rcases hi with hi | hi
          · first | exact .inl hi | exact .inr (.inl (by omega))
          · by_cases hia : i = a
            · exact .inl hia
            · refine .inr (.inr ?_)
              rwa [show mid + m - 1 - (i - 1) = mid + m - i by omega] at hi
        · rcases hj with hj | hj
          · first | exact .inl hj | exact .inr (.inl (by omega))
          · refine .inr (.inr ?_)
            rwa [show mid + m - 1 - i = mid + m - i - 1 by omega] at hj
      have hlt : ∀ i2 j2, i ≤ i2 → i2 < m → m ≤ j2 → j2 < mid + m - i → cS (l.getD j2 default) (l.getD i2 default) < 0 := fun i2 j2 g1 g2 g3 g4 => hF.lt ord_S' h1 h2 g1 g2 g3 g4
      have f1 := hF.sa; have f2 := hF.sm; have f3 := hF.smid; have f4 := hF.se; have f5 := hF.eb; have f6 := hF.me; have f7 := hF.mide; have f8 := hF.amid; have f9 := hF.midb
      clear hi hj
    all_goals first
      | (with_reducible refine does_then (rot_side_of l a b i m (mid + m - i) mid _ hl (by omega) (by omega) (by omega) (by omega) (by omega) (by omega) hlt (fun l1 hr hs => ?_)))
      | (obtain ⟨l1, hl1⟩ : ∃ l1, l1 = l := ⟨l, rfl⟩; have hr : Rot l l1 i m (mid + m - i) mid := hF.rot hl1 (by omega); have hs : Stab cS a b l l1 := (by rw [hl1]; exact Stab.refl _ _ _); rw [← hl1])
    all_goals
      obtain ⟨q1, q2, q3, q4, q5⟩ := hr.halves ord_S' hF h1 h2
      have fin : ∀ l2 l3, Stab cS a mid l1 l2 → Srt cS l2 a mid → Stab cS mid b l2 l3 → Srt cS l3 mid b → Q (.tup []) [.row 135 (l3.map eS)] := fun l2 l3 t2 u2 t3 u3 => h l3 (hs.trans ((t2.widen (Nat.le_refl _) (Nat.le_of_lt hF.midb)).trans (t3.widen (Nat.le_of_lt hF.amid) (Nat.le_refl _)))) (halves_done t2 u2 t3 u3 q5)
      have sk1 : a = i ∨ i = mid → Srt cS l1 a mid := fun hh => by
        rcases hh with hh | hh
        · rw [hh]; exact q2
        · rw [← hh]; exact q1
      have sk2 : mid = mid + m - i ∨ mid + m - i = b → Srt cS l1 mid b := fun hh => by
        rcases hh with hh | hh
        · have q4' := q4; rw [← hh] at q4'; exact q4'
        · have q3' := q3; rw [hh] at q3'; exact q3'
      repeat' (first
      | rw [wadd _ _ (by omega)]
      | rw [wsub _ _ (by omega) (by omega)]
      | rw [whalf _ (by omega)]
      | rw [setside']
      | rw [wpred _ (by omega)]
      | rw [wsub1 _ (by omega) (by omega)]
      | rw [wnat _ (by omega)]
      | simp -implicitDefEqProofs only [go_sem, eS, Int.toNat_natCast, Nat.reduceAdd, Nat.reduceEqDiff, Nat.reduceLT, Nat.reduceBEq, Nat.reduceLeDiff, Nat.reduceSub, Int.reduceLE, Int.reduceNeg, Int.reduceEq, Int.reduceToNat]
      | with_reducible refine know_of fun _ => ?_
      | (with_reducible refine does_then (IH _ a i mid _ (by omega) (by omega) (by omega) (by have := hs.len; omega) (by have := hs.len; omega) q1 q2 (fun l2 t2 u2 => ?_)))
      | (with_reducible refine does_then (IH _ mid (mid + m - i) b _ (by omega) (by omega) (by omega) (by have := hs.len; have := t2.len; omega) (by have := hs.len; have := t2.len; omega) (q3.congr fun k g1 _ => t2.out k (.inr g1)) (q4.congr fun k g1 _ => t2.out k (.inr (by omega))) (fun l3 t3 u3 => ?_)))
      | (with_reducible refine does_then (IH _ mid (mid + m - i) b _ (by omega) (by omega) (by omega) (by have := hs.len; omega) (by have := hs.len; omega) q3 q4 (fun l3 t3 u3 => ?_)))
      | with_reducible refine ifD1 (by omega) ?_
      | with_reducible refine ifD0 (by omega) ?_
      | with_reducible refine ifE1 (by omega) ?_
      | with_reducible refine ifE0 (by omega) ?_
      | with_reducible refine ifN1 (by omega) ?_
      | with_reducible refine ifN0 (by omega) ?_
      | with_reducible refine ifD_of (fun _ => ?_) (fun _ => ?_)
      | with_reducible refine ifE_of (fun _ => ?_) (fun _ => ?_)
      | with_reducible refine ifN_of (fun _ => ?_) (fun _ => ?_)
      | with_reducible refine Go.V.if1 (by assumption) ?_
      | with_reducible refine Go.V.if0 (by assumption) ?_
      | with_reducible refine if_of (fun _ => ?_) (fun _ => ?_)
      | with_reducible refine s_of (idx_get _ _ _ (by omega) (by omega)) ?_
      | with_reducible refine s_of (idx_get _ _ _ (by omega) (by simp only [List.length_set, List.length_append, List.length_take, List.length_drop, List.length_reverse, List.length_singleton]; omega)) ?_
      | with_reducible refine s_of (map_get _ _ _ (by omega)) ?_
      | with_reducible refine s_of (map_get _ _ _ (by simp only [List.length_set]; omega)) ?_
      | with_reducible refine s_of (if_neg (by omega)) ?_
      | with_reducible refine s_of (if_pos (by omega)) ?_
      | with_reducible refine need_of (by omega) ?_
      | with_reducible refine nil_of (fun _ => ?_) ?_
      | with_reducible refine alt_of ?_ ?_
      | (with_reducible apply join_of; intro _ _)
      | with_reducible assumption)
      all_goals first
        | exact fin _ _ t2 u2 t3 u3
        | exact fin _ _ t2 u2 (Stab.refl _ _ _) ((sk2 (by omega)).congr fun k g1 _ => t2.out k (.inr g1))
        | exact fin _ _ (Stab.refl _ _ _) (sk1 (by omega)) t3 u3
        | exact fin _ _ (Stab.refl _ _ _) (sk1 (by omega)) (Stab.refl _ _ _) (sk2 (by omega))
end Go.V
