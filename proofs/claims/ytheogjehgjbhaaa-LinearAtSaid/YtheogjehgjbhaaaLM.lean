import Derived.Test.YtheogjehgjbhaaaLD
import Derived.Test.YtheogjehgjbhaaaLG3
namespace Go.V
open Go Go.RowKit Go.Proofs
set_option maxRecDepth 100000
set_option maxHeartbeats 4000000
set_option linter.unusedVariables false
set_option linter.unusedSimpArgs false
theorem drop_at {α : Type} [Inhabited α] (l : List α) (n i : Nat) : (l.drop n).getD i default = l.getD (n + i) default := by
  rw [List.getD_eq_getElem?_getD, List.getElem?_drop, List.getD_eq_getElem?_getD]
theorem doV_two {t : Term} {l r : List Val} (h : isTwo t.op) : doV t l r = twoV t.op (l.getD 0 default) (l.getD 1 default) := doTwo t.int t.str l r h
section
variable {t : Term} {l r : List Val}
theorem dv0 (h : t.op = 0) : doV t l r = (plainV (r.getD t.int.toNat default), 0) := by unfold doV; rw [if_pos h]
theorem dv1 (h : t.op = 1) : doV t l r = (numV t.int, 0) := by unfold doV; rw [if_neg (by omega), if_pos h]
theorem dv2 (h : t.op = 2) : doV t l r = (⟨1, 0, t.str⟩, 0) := by unfold doV; rw [if_neg (by omega), if_neg (by omega), if_pos h]
theorem dv8 (h : t.op = 8) : doV t l r = (numV (over (0 - (l.getD 0 default).int)).1, (over (0 - (l.getD 0 default).int)).2) := by unfold doV; rw [if_neg (by omega), if_neg (by omega), if_neg (by omega), if_pos h]; rfl
theorem dv11 (h : t.op = 11) : doV t l r = (flagV ((l.getD 0 default).int == 0), 0) := by unfold doV; rw [if_neg (by omega), if_neg (by omega), if_neg (by omega), if_neg (by omega), if_pos h]
theorem dv15 (h : t.op = 15) : doV t l r = (numV (l.getD 0 default).str.size, 0) := by unfold doV; rw [if_neg (by omega), if_neg (by omega), if_neg (by omega), if_neg (by omega), if_neg (by omega), if_pos h]
theorem dv14 (h : t.op = 14) : doV t l r = (if (l.getD 0 default).int ≠ 0 then l.getD 1 default else l.getD 2 default, 0) := by unfold doV; rw [if_neg (by omega), if_neg (by omega), if_neg (by omega), if_neg (by omega), if_neg (by omega), if_neg (by omega), if_pos h]
end
theorem isTwo_of {op : Int} (h : 0 ≤ op) (h1 : op ≤ 18) (a : op ≠ 0) (b : op ≠ 1) (c : op ≠ 2) (d : op ≠ 8) (e : op ≠ 11) (f : op ≠ 14) (g : op ≠ 15) : isTwo op := by unfold isTwo; omega
theorem ref08_Eval (l : List Term) (r : List Val) (Q : PV → Mem → Prop) (hr : r.length ≤ 1000000000) (h : Q (.tup [.agg [vi ((evalE l r).1).kind, vi ((evalE l r).1).int, vs ((evalE l r).1).str], vi (evalE l r).2]) []) : Does Try.prog 95 [.sl (l.map eT), .sl (r.map eV)] [] 0 Q := by
  refine does_ofT mixed Try.func95 rfl (treesT [(24, (.one 2 (.alt (.one 0 (.alt (.one 1 (.one 3 (.one 4 (.one 5 .nil)))) (.one 3 (.one 1 (.one 4 (.one 5 .nil)))))) (.one 3 (.one 0 (.one 1 (.one 4 (.one 5 .nil)))))), [0, 1, 4, 11, 12, 14, 15, 16])), (37, (.one 1 (.one 2 (.one 3 (.alt (.one 0 (.alt (.one 4 (.one 5 (.one 6 (.one 7 (.one 8 .nil))))) (.one 5 (.alt (.one 4 (.one 6 (.one 7 (.one 8 .nil)))) (.one 6 (.one 4 (.one 7 (.one 8 .nil)))))))) (.one 5 (.alt (.one 0 (.alt (.one 4 (.one 6 (.one 7 (.one 8 .nil)))) (.one 6 (.one 4 (.one 7 (.one 8 .nil)))))) (.one 6 (.one 0 (.one 4 (.one 7 (.one 8 .nil)))))))))), [0, 1, 4, 11, 12]))]) (by kernel_rfl) no (slots [(0, [0, 1, 4, 6, 7]), (2, [0, 1, 4, 11, 12])]) ?_
  simp only [Try.f95]
  repeat' (first
    | simp -implicitDefEqProofs only [go_sem, eT, eV, eI, Nat.reduceAdd, Nat.reduceEqDiff, Nat.reduceLT, Nat.reduceBEq, Nat.reduceLeDiff, Nat.reduceSub, Int.reduceLE, Int.reduceNeg, Int.reduceEq, Int.reduceToNat]
    | with_reducible refine know_of fun _ => ?_
    | with_reducible refine ifD1 (by omega) ?_
    | with_reducible refine ifD0 (by omega) ?_
    | with_reducible refine ifE1 (by omega) ?_
    | with_reducible refine ifE0 (by omega) ?_
    | with_reducible refine ifN1 (by omega) ?_
    | with_reducible refine ifN0 (by omega) ?_
    | with_reducible refine ifD_of (fun _ => ?_) (fun _ => ?_)
    | with_reducible refine ifE_of (fun _ => ?_) (fun _ => ?_)
    | with_reducible refine ifN_of (fun _ => ?_) (fun _ => ?_)
    | with_reducible refine Go.V.if1 (by assumption) ?_
    | with_reducible refine Go.V.if0 (by assumption) ?_
    | with_reducible refine if_of (fun _ => ?_) (fun _ => ?_)
    | with_reducible refine s_of (idx_get _ _ _ (by omega) (by omega)) ?_
    | with_reducible refine s_of (idx_get _ _ _ (by omega) (by simp only [List.length_set, List.length_append, List.length_take, List.length_drop, List.length_reverse, List.length_singleton]; omega)) ?_
    | with_reducible refine s_of (map_get _ _ _ (by omega)) ?_
    | with_reducible refine s_of (map_get _ _ _ (by simp only [List.length_set]; omega)) ?_
    | with_reducible refine s_of (if_neg (by omega)) ?_
    | with_reducible refine s_of (if_pos (by omega)) ?_
    | with_reducible refine need_of (by omega) ?_
    | with_reducible refine nil_of (fun _ => ?_) ?_
    | with_reducible refine alt_of ?_ ?_
    | (with_reducible apply join_of; intro _ _)
    | with_reducible assumption)
  refine loop_then (loop_ind (σ := Nat) (fun s => [(0, .sl (l.map eT)), (1, .sl (r.map eV)), (4, .adr 0 0), (6, .own 1), (7, vi s)]) (fun s => [.var [vi 0, vi 0, vs nilS], .row 3 ((r.take s).map fun v => [vi v.kind])]) (fun s => r.length - s) (fun s => s ≤ r.length) ?_ 0 (Nat.zero_le _))
  rintro X i hi ih
  try dsimp only at ih ⊢
  repeat' (first
    | rw [mapKind _ _ (by omega)]
    | simp -implicitDefEqProofs only [go_sem, eT, eV, eI, Int.toNat_natCast, List.length_take, Nat.reduceAdd, Nat.reduceEqDiff, Nat.reduceLT, Nat.reduceBEq, Nat.reduceLeDiff, Nat.reduceSub, Int.reduceLE, Int.reduceNeg, Int.reduceEq, Int.reduceToNat]
    | with_reducible refine know_of fun _ => ?_
    | (with_reducible refine does_then (ref08_Type _ _ _ ?_))
    | with_reducible refine ifD1 (by omega) ?_
    | with_reducible refine ifD0 (by omega) ?_
    | with_reducible refine ifE1 (by omega) ?_
    | with_reducible refine ifE0 (by omega) ?_
    | with_reducible refine ifN1 (by omega) ?_
    | with_reducible refine ifN0 (by omega) ?_
    | with_reducible refine ifD_of (fun _ => ?_) (fun _ => ?_)
    | with_reducible refine ifE_of (fun _ => ?_) (fun _ => ?_)
    | with_reducible refine ifN_of (fun _ => ?_) (fun _ => ?_)
    | with_reducible refine Go.V.if1 (by assumption) ?_
    | with_reducible refine Go.V.if0 (by assumption) ?_
    | with_reducible refine if_of (fun _ => ?_) (fun _ => ?_)
    | with_reducible refine s_of (idx_get _ _ _ (by omega) (by omega)) ?_
    | with_reducible refine s_of (idx_get _ _ _ (by omega) (by simp only [List.length_set, List.length_append, List.length_take, List.length_drop, List.length_reverse, List.length_singleton]; omega)) ?_
    | with_reducible refine s_of (map_get _ _ _ (by omega)) ?_
    | with_reducible refine s_of (map_get _ _ _ (by simp only [List.length_set]; omega)) ?_
    | with_reducible refine s_of (if_neg (by omega)) ?_
    | with_reducible refine s_of (if_pos (by omega)) ?_
    | with_reducible refine need_of (by omega) ?_
    | with_reducible refine nil_of (fun _ => ?_) ?_
    | with_reducible refine alt_of ?_ ?_
    | (with_reducible apply join_of; intro _ _)
    | with_reducible assumption)
  · rw [wnat i (by omega), takeK _ _ (by omega)]; exact ih (i + 1) (by omega) (by omega)
  · unfold evalE at h; rw [if_neg (by assumption)] at h; exact h
  unfold evalE at h
  rw [if_pos (by assumption)] at h
  have hty : (typeK l (r.map Val.kind)).2.1 = 0 := by assumption
  have hlt : (typK (r.map Val.kind) l 0 []).2.1 = 0 := by
    unfold typeK at hty
    (repeat' split at hty) <;> first | exact hty | (exact absurd hty (by decide))
  clear ih hty
  refine loop_then (loop_ind (σ := Nat × List Val) (fun s => [(0, .sl (l.map eT)), (1, .sl (r.map eV)), (4, .adr 0 0), (11, .own 1), (12, vi s.1)]) (fun s => [.var [vi 0, vi 0, vs nilS], .row 75 (s.2.map eV)]) (fun s => l.length - s.1) (fun s => s.1 ≤ l.length ∧ (∃ ks : List Int, ks.length = s.2.length ∧ ks.length ≤ 16 ∧ (typK (r.map Val.kind) (l.drop s.1) s.1 ks).2.1 = 0) ∧ Q (.tup [.agg [vi (evalK r (l.drop s.1) s.2).1.kind, vi (evalK r (l.drop s.1) s.2).1.int, vs (evalK r (l.drop s.1) s.2).1.str], vi (evalK r (l.drop s.1) s.2).2]) []) ?_ (0, []) ⟨Nat.zero_le _, ⟨[], rfl, Nat.zero_le _, hlt⟩, h⟩)
  rintro X ⟨j, st⟩ ⟨hj, ⟨ks, hks, hk16, hty⟩, hQ⟩ ih
  try dsimp only at ih ⊢
  dsimp only at hj hks hty hQ
  by_cases hjl : j < l.length
  · have hok : (stepK (r.map Val.kind) (l.getD j default) ks).2 = 0 ∧ (typK (r.map Val.kind) (l.drop (j + 1)) (j + 1) (stepK (r.map Val.kind) (l.getD j default) ks).1).2.1 = 0 := by
      rw [drop_getD l j hjl, typK] at hty
      split at hty
      · exact ⟨by assumption, hty⟩
      · exact absurd hty (by assumption)
    have h2 := stepK_ok hk16 hok.1
    rw [List.length_map] at h2
    obtain ⟨o1, o2, o3, o4, o5, o6⟩ := h2
    have har := arity_r (l.getD j default).op
    have ha3 : ((l.getD j default).op = 8 ∨ (l.getD j default).op = 11 ∨ (l.getD j default).op = 15 → arity (l.getD j default).op = 1) ∧ ((l.getD j default).op = 14 → arity (l.getD j default).op = 3) ∧ (¬ ((l.getD j default).op = 0 ∨ (l.getD j default).op = 1 ∨ (l.getD j default).op = 2 ∨ (l.getD j default).op = 8 ∨ (l.getD j default).op = 11 ∨ (l.getD j default).op = 15 ∨ (l.getD j default).op = 14) → arity (l.getD j default).op = 2) := by
      unfold arity; (repeat' split) <;> omega
    rw [drop_getD l j hjl, evalK] at hQ
    have keyE : ∀ v e, doV (l.getD j default) (st.drop ((st.length : Int) - arity (l.getD j default).op).toNat) r = (v, e) → e ≠ 0 → Q (.tup [.agg [vi 0, vi 0, vs nilS], vi e]) [] := fun v e he h0 => by
      rw [he, if_neg h0] at hQ; exact hQ
    have keyO : ∀ v, doV (l.getD j default) (st.drop ((st.length : Int) - arity (l.getD j default).op).toNat) r = (v, 0) → X [(0, .sl (l.map eT)), (1, .sl (r.map eV)), (4, .adr 0 0), (11, .own 1), (12, vi ((j + 1 : Nat) : Int))] [.var [vi 0, vi 0, vs nilS], .row 75 ((st.take ((st.length : Int) - arity (l.getD j default).op).toNat ++ [v]).map eV)] := fun v he => by
      rw [he, if_pos rfl] at hQ
      exact ih (j + 1, _) (by dsimp only; omega) ⟨by dsimp only; omega, ⟨_, by rw [List.length_append, List.length_take, List.length_singleton]; omega, o6, hok.2⟩, hQ⟩
    clear ih hQ h hty
    have hd : ∀ i, (st.drop ((st.length : Int) - arity (l.getD j default).op).toNat).getD i default = st.getD (((st.length : Int) - arity (l.getD j default).op).toNat + i) default := drop_at st ((st.length : Int) - arity (l.getD j default).op).toNat
    have hn : 0 ≤ (st.length : Int) - arity (l.getD j default).op ∧ (st.length : Int) - arity (l.getD j default).op ≤ 16 := by omega
    generalize hni : (st.length : Int) - arity (l.getD j default).op = n at *
    repeat' (first
    | rw [hni]
    | rw [w64_of n (by omega)]
    | rw [w64_of (n + 1) (by omega)]
    | rw [w64_of (n + 2) (by omega)]
    | rw [takeV]
    | simp -implicitDefEqProofs only [go_sem, eT, eV, Int.toNat_natCast, List.length_take, Nat.reduceAdd, Nat.reduceEqDiff, Nat.reduceLT, Nat.reduceBEq, Nat.reduceLeDiff, Nat.reduceSub, Int.reduceLE, Int.reduceNeg, Int.reduceEq, Int.reduceToNat]
    | with_reducible refine know_of fun _ => ?_
    | (with_reducible refine does_then (ref08_takes _ _ ?_))
    | (with_reducible refine does_then (ref08_clean _ _ _ _ ?_))
    | (with_reducible refine does_then (ref08_whole _ _ _ ?_))
    | (with_reducible refine does_then (ref08_yes _ _ ?_))
    | (with_reducible refine does_then (ref06_Sub _ _ _ ?_))
    | (with_reducible refine does_then (ref08_two _ _ _ _ _ _ _ _ (isTwo_of (by omega) (by omega) (by assumption) (by assumption) (by assumption) (by assumption) (by assumption) (by assumption) (by assumption)) ?_))
    | with_reducible refine ifD1 (by omega) ?_
    | with_reducible refine ifD0 (by omega) ?_
    | with_reducible refine ifE1 (by omega) ?_
    | with_reducible refine ifE0 (by omega) ?_
    | with_reducible refine ifN1 (by omega) ?_
    | with_reducible refine ifN0 (by omega) ?_
    | with_reducible refine ifD_of (fun _ => ?_) (fun _ => ?_)
    | with_reducible refine ifE_of (fun _ => ?_) (fun _ => ?_)
    | with_reducible refine ifN_of (fun _ => ?_) (fun _ => ?_)
    | with_reducible refine Go.V.if1 (by assumption) ?_
    | with_reducible refine Go.V.if0 (by assumption) ?_
    | with_reducible refine if_of (fun _ => ?_) (fun _ => ?_)
    | with_reducible refine s_of (idx_get _ _ _ (by omega) (by omega)) ?_
    | with_reducible refine s_of (idx_get _ _ _ (by omega) (by simp only [List.length_set, List.length_append, List.length_take, List.length_drop, List.length_reverse, List.length_singleton]; omega)) ?_
    | with_reducible refine s_of (map_get _ _ _ (by omega)) ?_
    | with_reducible refine s_of (map_get _ _ _ (by simp only [List.length_set]; omega)) ?_
    | with_reducible refine s_of (if_neg (by omega)) ?_
    | with_reducible refine s_of (if_pos (by omega)) ?_
    | with_reducible refine need_of (by omega) ?_
    | with_reducible refine nil_of (fun _ => ?_) ?_
    | with_reducible refine alt_of ?_ ?_
    | (with_reducible apply join_of; intro _ _)
    | with_reducible assumption)
    all_goals have hd0 := hd 0
    all_goals have hd1 := hd 1
    all_goals have hd2 := hd 2
    all_goals rw [Nat.add_zero] at hd0
    all_goals rw [show n.toNat + 1 = (n + 1).toNat by omega] at hd1
    all_goals rw [show n.toNat + 2 = (n + 2).toNat by omega] at hd2
    · rw [wnat j (by omega)]; have q := keyO _ (dv0 (by assumption)); rw [List.map_append] at q; exact q
    · rw [wnat j (by omega)]; have q := keyO _ (dv1 (by assumption)); rw [List.map_append] at q; exact q
    · rw [wnat j (by omega)]; have q := keyO _ (dv2 (by assumption)); rw [List.map_append] at q; exact q
    · exact keyE _ _ (by rw [dv8 (by assumption), hd0]) (by assumption)
    · rw [wnat j (by omega)]; have q := keyO _ (by rw [dv8 (by assumption), hd0, show (over (0 - (st.getD n.toNat default).int)).2 = 0 by assumption]); rw [List.map_append] at q; exact q
    · rw [wnat j (by omega)]; have q := keyO _ (by rw [dv11 (by assumption), hd0]); rw [List.map_append] at q; exact q
    · rw [wnat j (by omega)]; have q := keyO _ (by rw [dv14 (by assumption), hd0, if_pos (by assumption), hd1]); rw [List.map_append] at q; exact q
    · rw [wnat j (by omega)]; have q := keyO _ (by rw [dv14 (by assumption), hd0, if_neg (not_not_intro (by assumption)), hd2]); rw [List.map_append] at q; exact q
    · rw [wnat j (by omega)]; have q := keyO _ (by rw [dv15 (by assumption), hd0]); rw [List.map_append] at q; exact q
    · exact keyE _ _ (by rw [doV_two (isTwo_of (by omega) (by omega) (by assumption) (by assumption) (by assumption) (by assumption) (by assumption) (by assumption) (by assumption)), hd0, hd1]) (by assumption)
    · rw [wnat j (by omega)]
      have q := keyO (twoV (l.getD j default).op (st.getD n.toNat default) (st.getD (n + 1).toNat default)).1 (by
        rw [doV_two (isTwo_of (by omega) (by omega) (by assumption) (by assumption) (by assumption) (by assumption) (by assumption) (by assumption) (by assumption)), hd0, hd1]
        exact Prod.ext rfl (by assumption))
      rw [List.map_append] at q; exact q
  · have h1 : ks.length = 1 := by
      rw [List.drop_eq_nil_of_le (by omega), typK] at hty
      split at hty
      · assumption
      · exact absurd (show (6 : Int) = 0 from hty) (by decide)
    rw [List.drop_eq_nil_of_le (by omega), evalK] at hQ
    clear ih h hty hlt
    repeat' (first
    | simp -implicitDefEqProofs only [go_sem, eT, eV, Int.toNat_natCast, List.length_take, Nat.reduceAdd, Nat.reduceEqDiff, Nat.reduceLT, Nat.reduceBEq, Nat.reduceLeDiff, Nat.reduceSub, Int.reduceLE, Int.reduceNeg, Int.reduceEq, Int.reduceToNat]
    | with_reducible refine know_of fun _ => ?_
    | with_reducible refine ifD1 (by omega) ?_
    | with_reducible refine ifD0 (by omega) ?_
    | with_reducible refine ifE1 (by omega) ?_
    | with_reducible refine ifE0 (by omega) ?_
    | with_reducible refine ifN1 (by omega) ?_
    | with_reducible refine ifN0 (by omega) ?_
    | with_reducible refine ifD_of (fun _ => ?_) (fun _ => ?_)
    | with_reducible refine ifE_of (fun _ => ?_) (fun _ => ?_)
    | with_reducible refine ifN_of (fun _ => ?_) (fun _ => ?_)
    | with_reducible refine Go.V.if1 (by assumption) ?_
    | with_reducible refine Go.V.if0 (by assumption) ?_
    | with_reducible refine if_of (fun _ => ?_) (fun _ => ?_)
    | with_reducible refine s_of (idx_get _ _ _ (by omega) (by omega)) ?_
    | with_reducible refine s_of (idx_get _ _ _ (by omega) (by simp only [List.length_set, List.length_append, List.length_take, List.length_drop, List.length_reverse, List.length_singleton]; omega)) ?_
    | with_reducible refine s_of (map_get _ _ _ (by omega)) ?_
    | with_reducible refine s_of (map_get _ _ _ (by simp only [List.length_set]; omega)) ?_
    | with_reducible refine s_of (if_neg (by omega)) ?_
    | with_reducible refine s_of (if_pos (by omega)) ?_
    | with_reducible refine need_of (by omega) ?_
    | with_reducible refine nil_of (fun _ => ?_) ?_
    | with_reducible refine alt_of ?_ ?_
    | (with_reducible apply join_of; intro _ _)
    | with_reducible assumption)
    all_goals first | exact hQ | (exfalso; omega)
end Go.V
