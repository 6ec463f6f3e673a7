import Derived.Test.YtbccejopeclhmaaGreatSB
namespace Go.V
open Go Go.RowKit Go.Proofs
set_option maxRecDepth 100000
set_option maxHeartbeats 4000000
set_option linter.unusedVariables false
set_option linter.unusedSimpArgs false
attribute [go_sem] lentTo atLeast List.drop_succ_cons List.drop_zero List.zip_cons_cons List.zip_nil_left List.zip_nil_right
def lentside : FuncId → Bool := fun f => f == 217 || f == 218 || f == 235 || f == 243 || f == 142 || f == 189
theorem lentside_217 : lentside 217 = true := rfl
theorem lentside_218 : lentside 218 = true := rfl
theorem lentside_235 : lentside 235 = true := rfl
theorem lentside_243 : lentside 243 = true := rfl
theorem lentside_142 : lentside 142 = true := rfl
theorem lentside_189 : lentside 189 = true := rfl
theorem lentside_c : lentside 87 = false := rfl
attribute [go_sem] lentside_217 lentside_218 lentside_235 lentside_243 lentside_142 lentside_189 lentside_c
theorem setside (l : List Side) (i : Nat) (x : Side) : (l.map eS).set i (eS x) = (l.set i x).map eS := by rw [List.map_set]
theorem setside' (l : List Side) (i : Nat) (x : Side) : (l.map eS).set i [.sl (x.row.map eV), vi x.diff, vb x.away] = (l.set i x).map eS := by rw [List.map_set]; rfl
theorem wpred (q : Nat) (h : q < 1000000001) : w64 (((q + 1 : Nat) : Int) - 1) = (q : Int) := by rw [w64_of _ (by omega)]; omega
theorem ins_side (l : List Side) (a b : Nat) (Q : PV → Mem → Prop) (hl : l.length ≤ 1000000000) (hab : a ≤ b) (hb : b ≤ l.length) (h : ∀ l2, Stab cS a b l l2 → Srt cS l2 a b → Q (.tup []) [.row 135 (l2.map eS)]) : Does Tryz.prog 217 [.own 0, vi a, vi b, .fn 87 []] [.row 135 (l.map eS)] 1 Q := by
  refine does_ofT mixed Tryz.func217 rfl (treesT [(6, (.one 0 (.one 1 (.one 2 (.one 3 (.one 5 (.one 6 (.one 7 (.one 8 (.one 9 (.one 10 (.one 11 (.one 12 (.one 13 (.one 14 (.alt (.one 4 (.one 15 (.one 16 (.one 17 .nil)))) (.one 15 (.one 4 (.one 16 (.one 17 .nil)))))))))))))))))), [0, 1, 2, 3, 8, 9]))]) (by kernel_rfl) lentside (slots [(0, [0, 1, 2, 3, 8]), (2, [0, 1, 2, 3, 8, 9])]) ?_
  simp only [Tryz.f217]
  repeat' (first
    | rw [wnat a (by omega)]
    | simp -implicitDefEqProofs only [go_sem, eS, Nat.reduceAdd, Nat.reduceEqDiff, Nat.reduceLT, Nat.reduceBEq, Nat.reduceLeDiff, Nat.reduceSub, Int.reduceLE, Int.reduceNeg, Int.reduceEq, Int.reduceToNat]
    | with_reducible refine know_of fun _ => ?_
    | with_reducible refine ifD1 (by omega) ?_
    | with_reducible refine ifD0 (by omega) ?_
    | with_reducible refine ifE1 (by omega) ?_
    | with_reducible refine ifE0 (by omega) ?_
    | with_reducible refine ifN1 (by omega) ?_
    | with_reducible refine ifN0 (by omega) ?_
    | with_reducible refine ifD_of (fun _ => ?_) (fun _ => ?_)
    | with_reducible refine ifE_of (fun _ => ?_) (fun _ => ?_)
    | with_reducible refine ifN_of (fun _ => ?_) (fun _ => ?_)
    | with_reducible refine Go.V.if1 (by assumption) ?_
    | with_reducible refine Go.V.if0 (by assumption) ?_
    | with_reducible refine if_of (fun _ => ?_) (fun _ => ?_)
    | with_reducible refine s_of (idx_get _ _ _ (by omega) (by omega)) ?_
    | with_reducible refine s_of (idx_get _ _ _ (by omega) (by simp only [List.length_set, List.length_append, List.length_take, List.length_drop, List.length_reverse, List.length_singleton]; omega)) ?_
    | with_reducible refine s_of (map_get _ _ _ (by omega)) ?_
    | with_reducible refine s_of (map_get _ _ _ (by simp only [List.length_set]; omega)) ?_
    | with_reducible refine s_of (if_neg (by omega)) ?_
    | with_reducible refine s_of (if_pos (by omega)) ?_
    | with_reducible refine need_of (by omega) ?_
    | with_reducible refine nil_of (fun _ => ?_) ?_
    | with_reducible refine alt_of ?_ ?_
    | (with_reducible apply join_of; intro _ _)
    | with_reducible assumption)
  refine loop_then (loop_ind (σ := Nat × List Side) (fun s => [(0, .own 0), (1, vi a), (2, vi b), (3, .fn 87 []), (8, vi s.1)]) (fun s => [.row 135 (s.2.map eS)]) (fun s => b + 1 - s.1) (fun s => a + 1 ≤ s.1 ∧ (s.1 ≤ b ∨ s.1 = a + 1) ∧ Stab cS a b l s.2 ∧ Srt cS s.2 a s.1) ?_ (a + 1, l) ⟨Nat.le_refl _, .inr rfl, Stab.refl _ _ _, srt_one _ _ _ (Nat.le_refl _)⟩)
  rintro X ⟨i, s⟩ ⟨ha, hi, hs, ho⟩ ih
  try dsimp only at ih ⊢
  dsimp only at ha hi hs ho
  have hsl := hs.len
  repeat' (first
    | simp -implicitDefEqProofs only [go_sem, eS, Nat.reduceAdd, Nat.reduceEqDiff, Nat.reduceLT, Nat.reduceBEq, Nat.reduceLeDiff, Nat.reduceSub, Int.reduceLE, Int.reduceNeg, Int.reduceEq, Int.reduceToNat]
    | with_reducible refine know_of fun _ => ?_
    | with_reducible refine ifD1 (by omega) ?_
    | with_reducible refine ifD0 (by omega) ?_
    | with_reducible refine ifE1 (by omega) ?_
    | with_reducible refine ifE0 (by omega) ?_
    | with_reducible refine ifN1 (by omega) ?_
    | with_reducible refine ifN0 (by omega) ?_
    | with_reducible refine ifD_of (fun _ => ?_) (fun _ => ?_)
    | with_reducible refine ifE_of (fun _ => ?_) (fun _ => ?_)
    | with_reducible refine ifN_of (fun _ => ?_) (fun _ => ?_)
    | with_reducible refine Go.V.if1 (by assumption) ?_
    | with_reducible refine Go.V.if0 (by assumption) ?_
    | with_reducible refine if_of (fun _ => ?_) (fun _ => ?_)
    | with_reducible refine s_of (idx_get _ _ _ (by omega) (by omega)) ?_
    | with_reducible refine s_of (idx_get _ _ _ (by omega) (by simp only [List.length_set, List.length_append, List.length_take, List.length_drop, List.length_reverse, List.length_singleton]; omega)) ?_
    | with_reducible refine s_of (map_get _ _ _ (by omega)) ?_
    | with_reducible refine s_of (map_get _ _ _ (by simp only [List.length_set]; omega)) ?_
    | with_reducible refine s_of (if_neg (by omega)) ?_
    | with_reducible refine s_of (if_pos (by omega)) ?_
    | with_reducible refine need_of (by omega) ?_
    | with_reducible refine nil_of (fun _ => ?_) ?_
    | with_reducible refine alt_of ?_ ?_
    | (with_reducible apply join_of; intro _ _)
    | with_reducible assumption)
  rotate_left
  · exact h s hs (ho.mono (Nat.le_refl _) (by omega))
  have ih0 := ih
  clear ih
  refine loop_then (loop_ind (σ := Nat × List Side) (fun s => [(0, .own 0), (1, vi a), (2, vi b), (3, .fn 87 []), (8, vi i), (9, vi s.1)]) (fun s => [.row 135 (s.2.map eS)]) (fun s => s.1) (fun s => a ≤ s.1 ∧ s.1 ≤ i ∧ Stab cS a b l s.2 ∧ Ins cS s.2 a s.1 i) ?_ (i, s) ⟨by dsimp only; omega, Nat.le_refl _, hs, Ins.start ho⟩)
  rintro X ⟨j, s⟩ ⟨hj, hji, hs, ho⟩ ih
  try dsimp only at ih ⊢
  dsimp only at hj hji hs ho
  have hsl := hs.len
  rcases j with _ | q
  · repeat' (first
    | simp -implicitDefEqProofs only [go_sem, eS, Nat.reduceAdd, Nat.reduceEqDiff, Nat.reduceLT, Nat.reduceBEq, Nat.reduceLeDiff, Nat.reduceSub, Int.reduceLE, Int.reduceNeg, Int.reduceEq, Int.reduceToNat]
    | with_reducible refine know_of fun _ => ?_
    | with_reducible refine ifD1 (by omega) ?_
    | with_reducible refine ifD0 (by omega) ?_
    | with_reducible refine ifE1 (by omega) ?_
    | with_reducible refine ifE0 (by omega) ?_
    | with_reducible refine ifN1 (by omega) ?_
    | with_reducible refine ifN0 (by omega) ?_
    | with_reducible refine ifD_of (fun _ => ?_) (fun _ => ?_)
    | with_reducible refine ifE_of (fun _ => ?_) (fun _ => ?_)
    | with_reducible refine ifN_of (fun _ => ?_) (fun _ => ?_)
    | with_reducible refine Go.V.if1 (by assumption) ?_
    | with_reducible refine Go.V.if0 (by assumption) ?_
    | with_reducible refine if_of (fun _ => ?_) (fun _ => ?_)
    | with_reducible refine s_of (idx_get _ _ _ (by omega) (by omega)) ?_
    | with_reducible refine s_of (idx_get _ _ _ (by omega) (by simp only [List.length_set, List.length_append, List.length_take, List.length_drop, List.length_reverse, List.length_singleton]; omega)) ?_
    | with_reducible refine s_of (map_get _ _ _ (by omega)) ?_
    | with_reducible refine s_of (map_get _ _ _ (by simp only [List.length_set]; omega)) ?_
    | with_reducible refine s_of (if_neg (by omega)) ?_
    | with_reducible refine s_of (if_pos (by omega)) ?_
    | with_reducible refine need_of (by omega) ?_
    | with_reducible refine nil_of (fun _ => ?_) ?_
    | with_reducible refine alt_of ?_ ?_
    | (with_reducible apply join_of; intro _ _)
    | with_reducible assumption)
    · rw [wnat i (by omega)]
      exact ih0 (i + 1, s) (by dsimp only; omega) ⟨by dsimp only; omega, by dsimp only; omega, hs, ho.done ord_S' (.inl (by omega))⟩
  · repeat' (first
    | rw [wpred q (by omega)]
    | rw [setside']
    | simp -implicitDefEqProofs only [go_sem, eS, Int.toNat_natCast, Nat.reduceAdd, Nat.reduceEqDiff, Nat.reduceLT, Nat.reduceBEq, Nat.reduceLeDiff, Nat.reduceSub, Int.reduceLE, Int.reduceNeg, Int.reduceEq, Int.reduceToNat]
    | with_reducible refine know_of fun _ => ?_
    | (with_reducible refine does_then (less_cmp _ _ _ ?_))
    | with_reducible refine ifD1 (by omega) ?_
    | with_reducible refine ifD0 (by omega) ?_
    | with_reducible refine ifE1 (by omega) ?_
    | with_reducible refine ifE0 (by omega) ?_
    | with_reducible refine ifN1 (by omega) ?_
    | with_reducible refine ifN0 (by omega) ?_
    | with_reducible refine ifD_of (fun _ => ?_) (fun _ => ?_)
    | with_reducible refine ifE_of (fun _ => ?_) (fun _ => ?_)
    | with_reducible refine ifN_of (fun _ => ?_) (fun _ => ?_)
    | with_reducible refine Go.V.if1 (by assumption) ?_
    | with_reducible refine Go.V.if0 (by assumption) ?_
    | with_reducible refine if_of (fun _ => ?_) (fun _ => ?_)
    | with_reducible refine s_of (idx_get _ _ _ (by omega) (by omega)) ?_
    | with_reducible refine s_of (idx_get _ _ _ (by omega) (by simp only [List.length_set, List.length_append, List.length_take, List.length_drop, List.length_reverse, List.length_singleton]; omega)) ?_
    | with_reducible refine s_of (map_get _ _ _ (by omega)) ?_
    | with_reducible refine s_of (map_get _ _ _ (by simp only [List.length_set]; omega)) ?_
    | with_reducible refine s_of (if_neg (by omega)) ?_
    | with_reducible refine s_of (if_pos (by omega)) ?_
    | with_reducible refine need_of (by omega) ?_
    | with_reducible refine nil_of (fun _ => ?_) ?_
    | with_reducible refine alt_of ?_ ?_
    | (with_reducible apply join_of; intro _ _)
    | with_reducible assumption)
    · exact ih (q, _) (by dsimp only; omega) ⟨by dsimp only; omega, by dsimp only; omega, hs.trans (Stab.swap ord_S' (by omega) (by omega) (by omega) (by assumption)), ho.step (by omega) (by omega) (by omega) (by assumption)⟩
    · rw [wnat i (by omega)]
      exact ih0 (i + 1, s) (by dsimp only; omega) ⟨by dsimp only; omega, by dsimp only; omega, hs, ho.done ord_S' (.inr (by rw [show q + 1 - 1 = q by omega]; omega))⟩
    · rw [wnat i (by omega)]
      exact ih0 (i + 1, s) (by dsimp only; omega) ⟨by dsimp only; omega, by dsimp only; omega, hs, ho.done ord_S' (.inl (by omega))⟩
theorem wadd (a b : Nat) (h : a + b < 4000000000) : w64 ((a : Int) + (b : Int)) = ((a + b : Nat) : Int) := by rw [w64_of _ (by omega)]; omega
theorem wsub (a b : Nat) (h : b ≤ a) (h2 : a < 4000000000) : w64 ((a : Int) - (b : Int)) = ((a - b : Nat) : Int) := by rw [w64_of _ (by omega)]; omega
theorem split_at {α : Type} (l : List α) (j : Nat) (h : j ≤ l.length) : ∃ a b, l = a ++ b ∧ a.length = j := ⟨l.take j, l.drop j, (List.take_append_drop j l).symm, by simp; omega⟩
theorem swapr_side (l : List Side) (a b n : Nat) (Q : PV → Mem → Prop) (hl : l.length ≤ 1000000000) (hab : a + n ≤ b) (hb : b + n ≤ l.length) (h : Q (.tup []) [.row 135 ((swF l a b n).map eS)]) : Does Tryz.prog 243 [.own 0, vi a, vi b, vi n, .fn 87 []] [.row 135 (l.map eS)] 1 Q := by
  refine does_ofT mixed Tryz.func243 rfl (treesT [(3, (.one 0 (.one 1 (.one 2 (.one 3 (.one 4 (.one 5 (.one 6 (.one 8 (.one 9 (.one 10 (.one 11 (.one 12 (.one 13 (.one 14 (.one 15 (.one 16 (.one 17 (.one 18 (.one 19 (.one 20 (.alt (.one 7 (.one 21 (.one 22 (.one 23 .nil)))) (.one 21 (.one 7 (.one 22 (.one 23 .nil)))))))))))))))))))))))), [0, 1, 2, 3, 10]))]) (by kernel_rfl) lentside (slots [(0, [0, 1, 2, 3, 10])]) ?_
  simp only [Tryz.f243]
  repeat' (first
    | simp -implicitDefEqProofs only [go_sem, eS, Nat.reduceAdd, Nat.reduceEqDiff, Nat.reduceLT, Nat.reduceBEq, Nat.reduceLeDiff, Nat.reduceSub, Int.reduceLE, Int.reduceNeg, Int.reduceEq, Int.reduceToNat]
    | with_reducible refine know_of fun _ => ?_
    | with_reducible refine ifD1 (by omega) ?_
    | with_reducible refine ifD0 (by omega) ?_
    | with_reducible refine ifE1 (by omega) ?_
    | with_reducible refine ifE0 (by omega) ?_
    | with_reducible refine ifN1 (by omega) ?_
    | with_reducible refine ifN0 (by omega) ?_
    | with_reducible refine ifD_of (fun _ => ?_) (fun _ => ?_)
    | with_reducible refine ifE_of (fun _ => ?_) (fun _ => ?_)
    | with_reducible refine ifN_of (fun _ => ?_) (fun _ => ?_)
    | with_reducible refine Go.V.if1 (by assumption) ?_
    | with_reducible refine Go.V.if0 (by assumption) ?_
    | with_reducible refine if_of (fun _ => ?_) (fun _ => ?_)
    | with_reducible refine s_of (idx_get _ _ _ (by omega) (by omega)) ?_
    | with_reducible refine s_of (idx_get _ _ _ (by omega) (by simp only [List.length_set, List.length_append, List.length_take, List.length_drop, List.length_reverse, List.length_singleton]; omega)) ?_
    | with_reducible refine s_of (map_get _ _ _ (by omega)) ?_
    | with_reducible refine s_of (map_get _ _ _ (by simp only [List.length_set]; omega)) ?_
    | with_reducible refine s_of (if_neg (by omega)) ?_
    | with_reducible refine s_of (if_pos (by omega)) ?_
    | with_reducible refine need_of (by omega) ?_
    | with_reducible refine nil_of (fun _ => ?_) ?_
    | with_reducible refine alt_of ?_ ?_
    | (with_reducible apply join_of; intro _ _)
    | with_reducible assumption)
  refine loop_then (loop_ind (σ := Nat) (fun s => [(0, .own 0), (1, vi a), (2, vi b), (3, vi n), (10, vi s)]) (fun s => [.row 135 ((swF l a b s).map eS)]) (fun s => n - s) (fun s => s ≤ n) ?_ 0 (Nat.zero_le _))
  rintro X i hi ih
  try dsimp only at ih ⊢
  have hsl := swF_len l a b i
  repeat' (first
    | rw [wadd _ _ (by omega)]
    | rw [wsub _ _ (by omega) (by omega)]
    | rw [setside']
    | simp -implicitDefEqProofs only [go_sem, eS, Int.toNat_natCast, Nat.reduceAdd, Nat.reduceEqDiff, Nat.reduceLT, Nat.reduceBEq, Nat.reduceLeDiff, Nat.reduceSub, Int.reduceLE, Int.reduceNeg, Int.reduceEq, Int.reduceToNat]
    | with_reducible refine know_of fun _ => ?_
    | with_reducible refine ifD1 (by omega) ?_
    | with_reducible refine ifD0 (by omega) ?_
    | with_reducible refine ifE1 (by omega) ?_
    | with_reducible refine ifE0 (by omega) ?_
    | with_reducible refine ifN1 (by omega) ?_
    | with_reducible refine ifN0 (by omega) ?_
    | with_reducible refine ifD_of (fun _ => ?_) (fun _ => ?_)
    | with_reducible refine ifE_of (fun _ => ?_) (fun _ => ?_)
    | with_reducible refine ifN_of (fun _ => ?_) (fun _ => ?_)
    | with_reducible refine Go.V.if1 (by assumption) ?_
    | with_reducible refine Go.V.if0 (by assumption) ?_
    | with_reducible refine if_of (fun _ => ?_) (fun _ => ?_)
    | with_reducible refine s_of (idx_get _ _ _ (by omega) (by omega)) ?_
    | with_reducible refine s_of (idx_get _ _ _ (by omega) (by simp only [List.length_set, List.length_append, List.length_take, List.length_drop, List.length_reverse, List.length_singleton]; omega)) ?_
    | with_reducible refine s_of (map_get _ _ _ (by omega)) ?_
    | with_reducible refine s_of (map_get _ _ _ (by simp only [List.length_set]; omega)) ?_
    | with_reducible refine s_of (if_neg (by omega)) ?_
    | with_reducible refine s_of (if_pos (by omega)) ?_
    | with_reducible refine need_of (by omega) ?_
    | with_reducible refine nil_of (fun _ => ?_) ?_
    | with_reducible refine alt_of ?_ ?_
    | (with_reducible apply join_of; intro _ _)
    | with_reducible assumption)
  · rw [wnat i (by omega)]; exact ih (i + 1) (by omega) (by omega)
  · obtain rfl : i = n := by omega
    exact h
theorem rot_side (A X Y B : List Side) (Q : PV → Mem → Prop) (hl : (A ++ X ++ Y ++ B).length ≤ 1000000000) (hX : 0 < X.length) (hY : 0 < Y.length) (h : Q (.tup []) [.row 135 ((A ++ Y ++ X ++ B).map eS)]) : Does Tryz.prog 235 [.own 0, vi A.length, vi (A.length + X.length : Nat), vi (A.length + X.length + Y.length : Nat), .fn 87 []] [.row 135 ((A ++ X ++ Y ++ B).map eS)] 1 Q := by
  refine does_of mixed Tryz.func235 rfl (by kernel_rfl) lentside (slots [(0, [0, 2, 4, 10, 11])]) ?_
  simp only [Tryz.f235]
  simp only [List.length_append] at hl
  repeat' (first
    | rw [wadd _ _ (by omega)]
    | rw [wsub _ _ (by omega) (by omega)]
    | simp -implicitDefEqProofs only [go_sem, eS, Nat.reduceAdd, Nat.reduceEqDiff, Nat.reduceLT, Nat.reduceBEq, Nat.reduceLeDiff, Nat.reduceSub, Int.reduceLE, Int.reduceNeg, Int.reduceEq, Int.reduceToNat]
    | with_reducible refine know_of fun _ => ?_
    | with_reducible refine ifD1 (by omega) ?_
    | with_reducible refine ifD0 (by omega) ?_
    | with_reducible refine ifE1 (by omega) ?_
    | with_reducible refine ifE0 (by omega) ?_
    | with_reducible refine ifN1 (by omega) ?_
    | with_reducible refine ifN0 (by omega) ?_
    | with_reducible refine ifD_of (fun _ => ?_) (fun _ => ?_)
    | with_reducible refine ifE_of (fun _ => ?_) (fun _ => ?_)
    | with_reducible refine ifN_of (fun _ => ?_) (fun _ => ?_)
    | with_reducible refine Go.V.if1 (by assumption) ?_
    | with_reducible refine Go.V.if0 (by assumption) ?_
    | with_reducible refine if_of (fun _ => ?_) (fun _ => ?_)
    | with_reducible refine s_of (idx_get _ _ _ (by omega) (by omega)) ?_
    | with_reducible refine s_of (idx_get _ _ _ (by omega) (by simp only [List.length_set, List.length_append, List.length_take, List.length_drop, List.length_reverse, List.length_singleton]; omega)) ?_
    | with_reducible refine s_of (map_get _ _ _ (by omega)) ?_
    | with_reducible refine s_of (map_get _ _ _ (by simp only [List.length_set]; omega)) ?_
    | with_reducible refine s_of (if_neg (by omega)) ?_
    | with_reducible refine s_of (if_pos (by omega)) ?_
    | with_reducible refine need_of (by omega) ?_
    | with_reducible refine nil_of (fun _ => ?_) ?_
    | with_reducible refine alt_of ?_ ?_
    | (with_reducible apply join_of; intro _ _)
    | with_reducible assumption)
  rw [show A.length + X.length - A.length = X.length by omega, show A.length + X.length + Y.length - (A.length + X.length) = Y.length by omega]
  generalize hT : A ++ Y ++ X ++ B = T at h
  generalize hm : A.length + X.length = m
  have hm2 : m + Y.length + B.length ≤ 1000000000 := by omega
  refine loop_then (loop_ind (σ := List Side × List Side × List Side × List Side) (fun s => [(0, .own 0), (2, vi m), (4, .fn 87 []), (10, vi s.2.1.length), (11, vi s.2.2.1.length)]) (fun s => [.row 135 ((s.1 ++ s.2.1 ++ s.2.2.1 ++ s.2.2.2).map eS)]) (fun s => s.2.1.length + s.2.2.1.length) (fun s => 0 < s.2.1.length ∧ 0 < s.2.2.1.length ∧ s.1.length + s.2.1.length = m ∧ s.2.2.1.length + m + s.2.2.2.length ≤ 1000000000 ∧ s.1 ++ s.2.2.1 ++ s.2.1 ++ s.2.2.2 = T) ?_ (A, X, Y, B) ⟨hX, hY, hm, by dsimp only; omega, hT⟩)
  rintro X ⟨A, X, Y, B⟩ ⟨hX, hY, hm, hm2, hT⟩ ih
  try dsimp only at ih ⊢
  dsimp only at hX hY hm hm2 hT
  repeat' (first
    | rw [wadd _ _ (by omega)]
    | rw [wsub _ _ (by omega) (by omega)]
    | rw [setside']
    | simp -implicitDefEqProofs only [go_sem, eS, Int.toNat_natCast, Nat.reduceAdd, Nat.reduceEqDiff, Nat.reduceLT, Nat.reduceBEq, Nat.reduceLeDiff, Nat.reduceSub, Int.reduceLE, Int.reduceNeg, Int.reduceEq, Int.reduceToNat]
    | with_reducible refine know_of fun _ => ?_
    | (with_reducible refine does_then (swapr_side _ _ _ _ _ (by simp only [List.length_append]; omega) (by omega) (by simp only [List.length_append]; omega) ?_))
    | with_reducible refine ifD1 (by omega) ?_
    | with_reducible refine ifD0 (by omega) ?_
    | with_reducible refine ifE1 (by omega) ?_
    | with_reducible refine ifE0 (by omega) ?_
    | with_reducible refine ifN1 (by omega) ?_
    | with_reducible refine ifN0 (by omega) ?_
    | with_reducible refine ifD_of (fun _ => ?_) (fun _ => ?_)
    | with_reducible refine ifE_of (fun _ => ?_) (fun _ => ?_)
    | with_reducible refine ifN_of (fun _ => ?_) (fun _ => ?_)
    | with_reducible refine Go.V.if1 (by assumption) ?_
    | with_reducible refine Go.V.if0 (by assumption) ?_
    | with_reducible refine if_of (fun _ => ?_) (fun _ => ?_)
    | with_reducible refine s_of (idx_get _ _ _ (by omega) (by omega)) ?_
    | with_reducible refine s_of (idx_get _ _ _ (by omega) (by simp only [List.length_set, List.length_append, List.length_take, List.length_drop, List.length_reverse, List.length_singleton]; omega)) ?_
    | with_reducible refine s_of (map_get _ _ _ (by omega)) ?_
    | with_reducible refine s_of (map_get _ _ _ (by simp only [List.length_set]; omega)) ?_
    | with_reducible refine s_of (if_neg (by omega)) ?_
    | with_reducible refine s_of (if_pos (by omega)) ?_
    | with_reducible refine need_of (by omega) ?_
    | with_reducible refine nil_of (fun _ => ?_) ?_
    | with_reducible refine alt_of ?_ ?_
    | (with_reducible apply join_of; intro _ _)
    | with_reducible assumption)
  · obtain ⟨X1, X2, rfl, hx⟩ := split_at X Y.length (by omega)
    rw [List.length_append] at hm
    have e := swF_all A X1 X2 Y B hx
    have ih1 := ih (A ++ Y, X2, X1, B) (by simp only [List.length_append]; omega) ⟨by dsimp only; simp only [List.length_append] at *; omega, by dsimp only; omega, by simp only [List.length_append]; omega, by simp only [List.length_append] at *; omega, by rw [← hT]; simp only [List.append_assoc]⟩
    dsimp only at ih1
    rw [← e, hx] at ih1
    rw [show (X1 ++ X2).length - Y.length = X2.length by rw [List.length_append]; omega, show A ++ (X1 ++ X2) ++ Y ++ B = A ++ X1 ++ X2 ++ Y ++ B by simp only [List.append_assoc], show m - (X1 ++ X2).length = A.length by rw [List.length_append]; omega, show m = A.length + X1.length + X2.length by omega]
    rw [show m = A.length + X1.length + X2.length by omega] at ih1
    rw [hx] at ih1 ⊢
    exact ih1
  · obtain ⟨Y1, Y2, rfl, hy⟩ := split_at Y (Y.length - X.length) (by omega)
    simp only [List.length_append] at hm2 hY hy
    have hy2 : X.length = Y2.length := by simp only [List.length_append] at *; omega
    have e := swF_all A X Y1 Y2 B hy2
    have ih1 := ih (A, Y2, Y1, X ++ B) (by simp only [List.length_append]; omega) ⟨by dsimp only; omega, by dsimp only; simp only [List.length_append] at *; omega, by dsimp only; omega, by simp only [List.length_append] at *; omega, by rw [← hT]; simp only [List.append_assoc]⟩
    dsimp only at ih1
    rw [← List.append_assoc, ← e, ← hy2, hm] at ih1
    rw [show (Y1 ++ Y2).length - X.length = Y1.length by rw [List.length_append]; omega, show A ++ X ++ (Y1 ++ Y2) ++ B = A ++ X ++ Y1 ++ Y2 ++ B by simp only [List.append_assoc], show m - X.length = A.length by omega, show m + (Y1 ++ Y2).length - X.length = m + Y1.length by rw [List.length_append]; omega]
    exact ih1
  · have e := swF_all A X [] Y B (by omega)
    rw [List.append_nil, List.append_nil, List.length_nil, Nat.add_zero, hm, hT] at e
    rw [show m - X.length = A.length by omega, e]
    exact h
end Go.V
