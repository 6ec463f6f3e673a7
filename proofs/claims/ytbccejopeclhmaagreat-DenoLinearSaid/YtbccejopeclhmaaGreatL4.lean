import Derived.Test.YtbccejopeclhmaaGreatL3
namespace Go.V
open Go Go.RowKit Go.Proofs
set_option maxRecDepth 100000
set_option maxHeartbeats 4000000
set_option linter.unusedVariables false
set_option linter.unusedSimpArgs false
/-- A step, of the values that it takes. -/
def doV (t : Term) (l r : List Val) : Val × Int :=
  if t.op = 0 then (plainV (r.getD t.int.toNat default), 0) else if t.op = 1 then (numV t.int, 0) else if t.op = 2 then (⟨1, 0, t.str⟩, 0)
  else if t.op = 8 then pairV (over (0 - (l.getD 0 default).int)) else if t.op = 11 then (flagV ((l.getD 0 default).int == 0), 0)
  else if t.op = 15 then (numV (l.getD 0 default).str.size, 0)
  else if t.op = 14 then (if (l.getD 0 default).int ≠ 0 then l.getD 1 default else l.getD 2 default, 0)
  else twoV t.op (l.getD 0 default) (l.getD 1 default)
theorem do0 (n : Int) (s : ByteArray) (l r : List Val) : doV ⟨0, n, s⟩ l r = (plainV (r.getD n.toNat default), 0) := rfl
theorem do1 (n : Int) (s : ByteArray) (l r : List Val) : doV ⟨1, n, s⟩ l r = (numV n, 0) := rfl
theorem do2 (n : Int) (s : ByteArray) (l r : List Val) : doV ⟨2, n, s⟩ l r = (⟨1, 0, s⟩, 0) := rfl
theorem do8 (n : Int) (s : ByteArray) (l r : List Val) : doV ⟨8, n, s⟩ l r = pairV (over (0 - (l.getD 0 default).int)) := rfl
theorem do11 (n : Int) (s : ByteArray) (l r : List Val) : doV ⟨11, n, s⟩ l r = (flagV ((l.getD 0 default).int == 0), 0) := rfl
theorem do15 (n : Int) (s : ByteArray) (l r : List Val) : doV ⟨15, n, s⟩ l r = (numV (l.getD 0 default).str.size, 0) := rfl
theorem do14 (n : Int) (s : ByteArray) (l r : List Val) : doV ⟨14, n, s⟩ l r = (if (l.getD 0 default).int ≠ 0 then l.getD 1 default else l.getD 2 default, 0) := rfl
theorem doTwo {op : Int} (n : Int) (s : ByteArray) (l r : List Val) (h : isTwo op) : doV ⟨op, n, s⟩ l r = twoV op (l.getD 0 default) (l.getD 1 default) := by
  unfold isTwo at h
  unfold doV
  dsimp only
  rw [if_neg (by omega), if_neg (by omega), if_neg (by omega), if_neg (by omega), if_neg (by omega), if_neg (by omega), if_neg (by omega)]
theorem expr_do (op n : Int) (s : ByteArray) (l r : List Val) (Q : PV → Mem → Prop) (ho : 0 ≤ op ∧ op ≤ 18) (h0 : op = 0 → 0 ≤ n ∧ n < (r.length : Int)) (hl : arity op ≤ (l.length : Int)) (h : Q (.tup [.agg [vi ((doV ⟨op, n, s⟩ l r).1).kind, vi ((doV ⟨op, n, s⟩ l r).1).int, vs ((doV ⟨op, n, s⟩ l r).1).str], vi (doV ⟨op, n, s⟩ l r).2]) []) : Does Tryz.prog 154 [.agg [vi op, vi n, vs s], .sl (l.map eV), .sl (r.map eV)] [] 0 Q := by
  refine does_of mixed Tryz.func154 rfl (by kernel_rfl) no (slots []) ?_
  simp only [Tryz.f154]
  have ha : (op = 8 ∨ op = 11 ∨ op = 15 → 1 ≤ l.length) ∧ (op = 14 → 3 ≤ l.length) ∧ (¬ (op = 0 ∨ op = 1 ∨ op = 2 ∨ op = 8 ∨ op = 11 ∨ op = 15 ∨ op = 14) → 2 ≤ l.length ∧ isTwo op) := by
    unfold arity at hl; unfold isTwo; (repeat' split at hl) <;> omega
  repeat' (first
    | simp -implicitDefEqProofs only [go_sem, eV, Nat.reduceAdd, Nat.reduceEqDiff, Nat.reduceLT, Nat.reduceBEq, Nat.reduceLeDiff, Nat.reduceSub, Int.reduceLE, Int.reduceNeg, Int.reduceEq, Int.reduceToNat]
    | with_reducible refine know_of fun _ => ?_
    | (with_reducible refine does_then (expr_plain _ _ _ _ ?_))
    | (with_reducible refine does_then (expr_number _ _ _ ?_))
    | (with_reducible refine does_then (expr_flag _ _ ?_))
    | (with_reducible refine does_then (weigh_Neg _ _ ?_))
    | (with_reducible refine does_then (expr_pair _ _ _ _ _ _ _ _ (ha.2.2 (by omega)).2 ?_))
    | with_reducible refine ifD1 (by omega) ?_
    | with_reducible refine ifD0 (by omega) ?_
    | with_reducible refine ifE1 (by omega) ?_
    | with_reducible refine ifE0 (by omega) ?_
    | with_reducible refine ifN1 (by omega) ?_
    | with_reducible refine ifN0 (by omega) ?_
    | with_reducible refine ifD_of (fun _ => ?_) (fun _ => ?_)
    | with_reducible refine ifE_of (fun _ => ?_) (fun _ => ?_)
    | with_reducible refine ifN_of (fun _ => ?_) (fun _ => ?_)
    | with_reducible refine Go.V.if1 (by assumption) ?_
    | with_reducible refine Go.V.if0 (by assumption) ?_
    | with_reducible refine if_of (fun _ => ?_) (fun _ => ?_)
    | with_reducible refine s_of (idx_get _ _ _ (by omega) (by omega)) ?_
    | with_reducible refine s_of (idx_get _ _ _ (by omega) (by simp only [List.length_set, List.length_append, List.length_take, List.length_drop, List.length_reverse, List.length_singleton]; omega)) ?_
    | with_reducible refine s_of (map_get _ _ _ (by omega)) ?_
    | with_reducible refine s_of (map_get _ _ _ (by simp only [List.length_set]; omega)) ?_
    | with_reducible refine s_of (if_neg (by omega)) ?_
    | with_reducible refine s_of (if_pos (by omega)) ?_
    | with_reducible refine need_of (by omega) ?_
    | with_reducible refine nil_of (fun _ => ?_) ?_
    | with_reducible refine alt_of ?_ ?_
    | (with_reducible apply join_of; intro _ _)
    | with_reducible assumption)
  all_goals first
    | exact h
    | (have hop : op = 0 := by omega
       subst hop
       rw [do0] at h
       exact h)
    | (have hop : op = 1 := by omega
       subst hop
       rw [do1] at h
       exact h)
    | (have hop : op = 2 := by omega
       subst hop
       rw [do2] at h
       exact h)
    | (have hop : op = 8 := by omega
       subst hop
       rw [do8] at h
       exact h)
    | (have hop : op = 11 := by omega
       subst hop
       rw [do11] at h
       exact h)
    | (have hop : op = 15 := by omega
       subst hop
       rw [do15] at h
       exact h)
    | (have hop : op = 14 := by omega
       subst hop
       rw [do14] at h
       dsimp only at h
       first | (rw [if_pos (by assumption)] at h; exact h) | (rw [if_neg (by simp only [Decidable.not_not]; assumption)] at h; exact h))
    | (rw [doTwo _ _ _ _ (ha.2.2 (by omega)).2] at h; exact h)
end Go.V
