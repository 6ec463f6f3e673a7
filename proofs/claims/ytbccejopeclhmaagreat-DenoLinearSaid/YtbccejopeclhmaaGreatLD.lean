import Derived.Test.YtbccejopeclhmaaGreatL9
import Derived.Test.YtbccejopeclhmaaGreatLA
import Derived.Test.YtbccejopeclhmaaGreatL5
import Derived.Test.YtbccejopeclhmaaGreatLG
namespace Go.V
open Go Go.RowKit Go.Proofs
set_option maxRecDepth 100000
set_option maxHeartbeats 4000000
set_option linter.unusedVariables false
set_option linter.unusedSimpArgs false
def evalK (r : List Val) : List Term → List Val → Val × Int
  | [], st => (st.getD 0 default, 0)
  | t :: ts, st => if (doV t (st.drop ((st.length : Int) - arity t.op).toNat) r).2 = 0 then evalK r ts (st.take ((st.length : Int) - arity t.op).toNat ++ [(doV t (st.drop ((st.length : Int) - arity t.op).toNat) r).1]) else (numV 0, (doV t (st.drop ((st.length : Int) - arity t.op).toNat) r).2)
def evalE (l : List Term) (r : List Val) : Val × Int := if (typeK l (r.map Val.kind)).2.1 = 0 then evalK r l [] else (numV 0, (typeK l (r.map Val.kind)).2.1)
theorem mapKind (r : List Val) (i : Nat) (h : r.length ≤ i) : (r.take i).map (fun v => [vi v.kind]) = (r.map Val.kind).map eI := by rw [List.take_of_length_le h, List.map_map]; rfl
theorem takeK (r : List Val) (i : Nat) (h : i < r.length) : (r.take i).map (fun v => [vi v.kind]) ++ [[vi (r.getD i default).kind]] = (r.take (i + 1)).map (fun v => [vi v.kind]) := by
  rw [List.take_add_one, List.getElem?_eq_getElem h, List.map_append, List.getD_eq_getElem?_getD, List.getElem?_eq_getElem h]; rfl
/-- What kinds being right says of the first step. -/
theorem stepK_ok {cols : List Int} {t : Term} {s : List Int} (hs : s.length ≤ 16) (h : (stepK cols t s).2 = 0) : 0 ≤ t.op ∧ t.op ≤ 18 ∧ (t.op = 0 → 0 ≤ t.int ∧ t.int < (cols.length : Int)) ∧ arity t.op ≤ (s.length : Int) ∧ ((stepK cols t s).1.length : Int) = (s.length : Int) - arity t.op + 1 ∧ (stepK cols t s).1.length ≤ 16 := by
  have h2 := stepK_len hs h
  have ha := arity_r t.op
  have h3 : 0 ≤ t.op ∧ t.op ≤ 18 ∧ (t.op = 0 → 0 ≤ t.int ∧ t.int < (cols.length : Int)) ∧ arity t.op ≤ (s.length : Int) ∧ ((stepK cols t s).1.length : Int) = (s.length : Int) - arity t.op + 1 := by
    clear h2
    generalize hq : stepK cols t s = q at h ⊢
    unfold stepK pushK at hq
    (repeat' split at hq) <;> subst hq <;> first | (exact absurd h (by decide)) | skip
    all_goals refine ⟨by omega, by omega, by omega, by omega, ?_⟩
    all_goals simp only [List.length_append, List.length_singleton, List.length_take]
    all_goals omega
  exact ⟨h3.1, h3.2.1, h3.2.2.1, h3.2.2.2.1, h3.2.2.2.2, h2⟩
theorem expr_Eval (l : List Term) (r : List Val) (Q : PV → Mem → Prop) (hr : r.length ≤ 1000000000) (h : Q (.tup [.agg [vi ((evalE l r).1).kind, vi ((evalE l r).1).int, vs ((evalE l r).1).str], vi (evalE l r).2]) []) : Does Tryz.prog 108 [.sl (l.map eT), .sl (r.map eV)] [] 0 Q := by
  refine does_ofT mixed Tryz.func108 rfl (treesT [(15, (.one 0 (.one 1 (.one 2 (.one 3 (.one 4 (.alt (.one 5 (.one 6 (.one 7 (.one 8 (.one 9 (.one 10 (.one 11 .nil))))))) (.one 9 (.one 5 (.one 6 (.one 7 (.one 8 (.one 10 (.one 11 .nil)))))))))))), [1, 4, 12, 15, 16, 17, 41, 42, 43]))]) (by kernel_rfl) no (slots [(0, [0, 1, 4, 6, 18, 19, 20]), (2, [1, 4, 12, 41, 42, 43])]) ?_
  simp only [Tryz.f108]
  repeat' (first
    | simp -implicitDefEqProofs only [go_sem, eT, eV, eI, Nat.reduceAdd, Nat.reduceEqDiff, Nat.reduceLT, Nat.reduceBEq, Nat.reduceLeDiff, Nat.reduceSub, Int.reduceLE, Int.reduceNeg, Int.reduceEq, Int.reduceToNat]
    | with_reducible refine know_of fun _ => ?_
    | with_reducible refine ifD1 (by omega) ?_
    | with_reducible refine ifD0 (by omega) ?_
    | with_reducible refine ifE1 (by omega) ?_
    | with_reducible refine ifE0 (by omega) ?_
    | with_reducible refine ifN1 (by omega) ?_
    | with_reducible refine ifN0 (by omega) ?_
    | with_reducible refine ifD_of (fun _ => ?_) (fun _ => ?_)
    | with_reducible refine ifE_of (fun _ => ?_) (fun _ => ?_)
    | with_reducible refine ifN_of (fun _ => ?_) (fun _ => ?_)
    | with_reducible refine Go.V.if1 (by assumption) ?_
    | with_reducible refine Go.V.if0 (by assumption) ?_
    | with_reducible refine if_of (fun _ => ?_) (fun _ => ?_)
    | with_reducible refine s_of (idx_get _ _ _ (by omega) (by omega)) ?_
    | with_reducible refine s_of (idx_get _ _ _ (by omega) (by simp only [List.length_set, List.length_append, List.length_take, List.length_drop, List.length_reverse, List.length_singleton]; omega)) ?_
    | with_reducible refine s_of (map_get _ _ _ (by omega)) ?_
    | with_reducible refine s_of (map_get _ _ _ (by simp only [List.length_set]; omega)) ?_
    | with_reducible refine s_of (if_neg (by omega)) ?_
    | with_reducible refine s_of (if_pos (by omega)) ?_
    | with_reducible refine need_of (by omega) ?_
    | with_reducible refine nil_of (fun _ => ?_) ?_
    | with_reducible refine alt_of ?_ ?_
    | (with_reducible apply join_of; intro _ _)
    | with_reducible assumption)
  refine loop_then (loop_ind (σ := Nat) (fun s => [(0, .sl (l.map eT)), (1, .sl (r.map eV)), (4, .adr 0 0), (6, .own 1), (18, .sl (r.map eV)), (19, vi r.length), (20, vi s)]) (fun s => [.var [vi 0, vi 0, vs nilS], .row 3 ((r.take s).map fun v => [vi v.kind])]) (fun s => r.length - s) (fun s => s ≤ r.length) ?_ 0 (Nat.zero_le _))
  rintro X i hi ih
  try dsimp only at ih ⊢
  repeat' (first
    | rw [mapKind _ _ (by omega)]
    | simp -implicitDefEqProofs only [go_sem, eT, eV, eI, Int.toNat_natCast, List.length_take, Nat.reduceAdd, Nat.reduceEqDiff, Nat.reduceLT, Nat.reduceBEq, Nat.reduceLeDiff, Nat.reduceSub, Int.reduceLE, Int.reduceNeg, Int.reduceEq, Int.reduceToNat]
    | with_reducible refine know_of fun _ => ?_
    | (with_reducible refine does_then (expr_Type _ _ _ ?_))
    | with_reducible refine ifD1 (by omega) ?_
    | with_reducible refine ifD0 (by omega) ?_
    | with_reducible refine ifE1 (by omega) ?_
    | with_reducible refine ifE0 (by omega) ?_
    | with_reducible refine ifN1 (by omega) ?_
    | with_reducible refine ifN0 (by omega) ?_
    | with_reducible refine ifD_of (fun _ => ?_) (fun _ => ?_)
    | with_reducible refine ifE_of (fun _ => ?_) (fun _ => ?_)
    | with_reducible refine ifN_of (fun _ => ?_) (fun _ => ?_)
    | with_reducible refine Go.V.if1 (by assumption) ?_
    | with_reducible refine Go.V.if0 (by assumption) ?_
    | with_reducible refine if_of (fun _ => ?_) (fun _ => ?_)
    | with_reducible refine s_of (idx_get _ _ _ (by omega) (by omega)) ?_
    | with_reducible refine s_of (idx_get _ _ _ (by omega) (by simp only [List.length_set, List.length_append, List.length_take, List.length_drop, List.length_reverse, List.length_singleton]; omega)) ?_
    | with_reducible refine s_of (map_get _ _ _ (by omega)) ?_
    | with_reducible refine s_of (map_get _ _ _ (by simp only [List.length_set]; omega)) ?_
    | with_reducible refine s_of (if_neg (by omega)) ?_
    | with_reducible refine s_of (if_pos (by omega)) ?_
    | with_reducible refine need_of (by omega) ?_
    | with_reducible refine nil_of (fun _ => ?_) ?_
    | with_reducible refine alt_of ?_ ?_
    | (with_reducible apply join_of; intro _ _)
    | with_reducible assumption)
  · rw [wnat i (by omega), takeK _ _ (by omega)]; exact ih (i + 1) (by omega) (by omega)
  · unfold evalE at h; rw [if_neg (by assumption)] at h; exact h
  unfold evalE at h
  rw [if_pos (by assumption)] at h
  have hty : (typeK l (r.map Val.kind)).2.1 = 0 := by assumption
  have hlt : (typK (r.map Val.kind) l 0 []).2.1 = 0 := by
    unfold typeK at hty
    (repeat' split at hty) <;> first | exact hty | (exact absurd hty (by decide))
  clear ih hty
  refine loop_then (loop_ind (σ := Nat × List Val) (fun s => [(1, .sl (r.map eV)), (4, .adr 0 0), (12, .own 1), (41, .sl (l.map eT)), (42, vi l.length), (43, vi s.1)]) (fun s => [.var [vi 0, vi 0, vs nilS], .row 83 (s.2.map eV)]) (fun s => l.length - s.1) (fun s => s.1 ≤ l.length ∧ (∃ ks : List Int, ks.length = s.2.length ∧ ks.length ≤ 16 ∧ (typK (r.map Val.kind) (l.drop s.1) s.1 ks).2.1 = 0) ∧ Q (.tup [.agg [vi (evalK r (l.drop s.1) s.2).1.kind, vi (evalK r (l.drop s.1) s.2).1.int, vs (evalK r (l.drop s.1) s.2).1.str], vi (evalK r (l.drop s.1) s.2).2]) []) ?_ (0, []) ⟨Nat.zero_le _, ⟨[], rfl, Nat.zero_le _, hlt⟩, h⟩)
  rintro X ⟨j, st⟩ ⟨hj, ⟨ks, hks, hk16, hty⟩, hQ⟩ ih
  try dsimp only at ih ⊢
  dsimp only at hj hks hty hQ
  have hok : j < l.length → (stepK (r.map Val.kind) (l.getD j default) ks).2 = 0 ∧ (typK (r.map Val.kind) (l.drop (j + 1)) (j + 1) (stepK (r.map Val.kind) (l.getD j default) ks).1).2.1 = 0 := fun hlt => by
    rw [drop_getD l j hlt, typK] at hty
    split at hty
    · exact ⟨by assumption, hty⟩
    · exact absurd hty (by assumption)
  have hok2 : j < l.length → 0 ≤ (l.getD j default).op ∧ (l.getD j default).op ≤ 18 ∧ ((l.getD j default).op = 0 → 0 ≤ (l.getD j default).int ∧ (l.getD j default).int < (r.length : Int)) ∧ 0 ≤ arity (l.getD j default).op ∧ arity (l.getD j default).op ≤ (st.length : Int) := fun hlt => by
    have := stepK_ok hk16 (hok hlt).1
    rw [List.length_map] at this
    exact ⟨this.1, this.2.1, this.2.2.1, (arity_r _).1, by omega⟩
  have hfin : ¬ j < l.length → ks.length = 1 := fun hge => by
    rw [List.drop_eq_nil_of_le (by omega), typK] at hty
    split at hty
    · assumption
    · exact absurd (show (6 : Int) = 0 from hty) (by decide)
  repeat' (first
    | rw [w64_of _ (by have := hok2 (by omega); omega)]
    | rw [dropV2]
    | rw [takeV]
    | rw [appV]
    | with_reducible refine need_of (by have := hok2 (by omega); omega) ?_
    | simp -implicitDefEqProofs only [go_sem, eT, eV, Int.toNat_natCast, List.length_take, Nat.reduceAdd, Nat.reduceEqDiff, Nat.reduceLT, Nat.reduceBEq, Nat.reduceLeDiff, Nat.reduceSub, Int.reduceLE, Int.reduceNeg, Int.reduceEq, Int.reduceToNat]
    | with_reducible refine know_of fun _ => ?_
    | (with_reducible refine does_then (expr_arity _ _ ?_))
    | (with_reducible refine does_then (expr_do _ _ _ _ _ _ ⟨(hok2 (by omega)).1, (hok2 (by omega)).2.1⟩ (hok2 (by omega)).2.2.1 (by rw [List.length_drop]; have := hok2 (by omega); omega) ?_))
    | with_reducible refine ifD1 (by omega) ?_
    | with_reducible refine ifD0 (by omega) ?_
    | with_reducible refine ifE1 (by omega) ?_
    | with_reducible refine ifE0 (by omega) ?_
    | with_reducible refine ifN1 (by omega) ?_
    | with_reducible refine ifN0 (by omega) ?_
    | with_reducible refine ifD_of (fun _ => ?_) (fun _ => ?_)
    | with_reducible refine ifE_of (fun _ => ?_) (fun _ => ?_)
    | with_reducible refine ifN_of (fun _ => ?_) (fun _ => ?_)
    | with_reducible refine Go.V.if1 (by assumption) ?_
    | with_reducible refine Go.V.if0 (by assumption) ?_
    | with_reducible refine if_of (fun _ => ?_) (fun _ => ?_)
    | with_reducible refine s_of (idx_get _ _ _ (by omega) (by omega)) ?_
    | with_reducible refine s_of (idx_get _ _ _ (by omega) (by simp only [List.length_set, List.length_append, List.length_take, List.length_drop, List.length_reverse, List.length_singleton]; omega)) ?_
    | with_reducible refine s_of (map_get _ _ _ (by omega)) ?_
    | with_reducible refine s_of (map_get _ _ _ (by simp only [List.length_set]; omega)) ?_
    | with_reducible refine s_of (if_neg (by omega)) ?_
    | with_reducible refine s_of (if_pos (by omega)) ?_
    | with_reducible refine need_of (by omega) ?_
    | with_reducible refine nil_of (fun _ => ?_) ?_
    | with_reducible refine alt_of ?_ ?_
    | (with_reducible apply join_of; intro _ _)
    | with_reducible assumption)
  · rw [drop_getD l j (by omega), evalK, if_neg (by assumption)] at hQ; exact hQ
  · have h1 := hok (by omega)
    have h2 := stepK_ok hk16 h1.1
    rw [drop_getD l j (by omega), evalK, if_pos (by assumption)] at hQ
    rw [show (j : Int) + 1 = ((j + 1 : Nat) : Int) by omega]
    refine ih (j + 1, _) (by dsimp only; omega) ⟨by dsimp only; omega, ⟨_, ?_, h2.2.2.2.2.2, h1.2⟩, hQ⟩
    have := hok2 (by omega)
    rw [List.length_append, List.length_take, List.length_singleton]; omega
  · have := hfin (by omega)
    rw [List.drop_eq_nil_of_le (by omega), evalK] at hQ; exact hQ
end Go.V
