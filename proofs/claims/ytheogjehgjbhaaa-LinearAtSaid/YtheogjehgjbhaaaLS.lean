import Derived.Test.YtheogjehgjbhaaaLR
import Derived.Test.YtheogjehgjbhaaaLP
namespace Go.V
open Go Go.RowKit Go.Proofs
set_option maxRecDepth 100000
set_option maxHeartbeats 4000000
set_option linter.unusedVariables false
set_option linter.unusedSimpArgs false
theorem longR_f {r : List Val} (h : longR r = false) : r.length ≤ 30 := by
  unfold longR at h; rw [Bool.or_eq_false_iff] at h; have := of_decide_eq_false h.1; omega
theorem muchU_f {l : List Up} (h : muchU l = false) : l.length ≤ 60 ∧ ∀ u ∈ l, u.row.length ≤ 1000000 := by
  unfold muchU at h
  rw [Bool.or_eq_false_iff, List.any_eq_false] at h
  exact ⟨by have := of_decide_eq_false h.1; omega, fun u hu => by have := longR_f (Bool.eq_false_iff.2 (h.2 u hu)); omega⟩
theorem wideN_f {n : Node} (h : wideN n = false) : n.exprs.length ≤ 1000000 ∧ n.cols.length ≤ 1000000 := by
  unfold wideN at h
  rw [Bool.or_eq_false_iff, Bool.or_eq_false_iff] at h
  have h1 := of_decide_eq_false h.1.1
  have h2 := of_decide_eq_false h.1.2
  omega
theorem atU_rows_len {t : Time} {l : List Up} (h : ∀ u ∈ l, u.row.length ≤ 1000000) : ∀ c ∈ atU t l, c.row.length ≤ 1000000 := fun c hc => by
  unfold atU at hc
  obtain ⟨u, hu, rfl⟩ := List.mem_map.1 hc
  exact h u (List.mem_filter.1 hu).1
theorem linA_len (n : Node) : ∀ (l a : List Up), (linA n l a).1.length ≤ a.length + 64 * l.length
  | [], a => by rw [linA]; exact Nat.le_add_right _ _
  | u :: l, a => by
    rw [linA]
    have h1 := linV_len n u
    split
    · refine Nat.le_trans (linA_len n l _) ?_
      rw [List.length_append, List.length_cons]; omega
    · exact Nat.zero_le _
theorem law20_LinearAt (n : Node) (l : List Up) (a b : Int) (Q : PV → Mem → Prop)  (h : Q (vb true) []) : Does Try.prog 6 [.agg [vi n.kind, .sl (n.ins.map eI), .sl (n.kinds.map eI), .sl (n.exprs.map eE), .sl (n.cols.map eI), vi n.key, vi n.n, vi n.size, vi n.slide], .sl (l.map eU), .agg [vi a, vi b]] [] 0 Q := by
  refine does_of mixed Try.func6 rfl (by kernel_rfl) no (slots []) ?_
  simp only [Try.f6]
  repeat' (first
    | simp -implicitDefEqProofs only [go_sem, Nat.reduceAdd, Nat.reduceEqDiff, Nat.reduceLT, Nat.reduceBEq, Nat.reduceLeDiff, Nat.reduceSub, Int.reduceLE, Int.reduceNeg, Int.reduceEq, Int.reduceToNat]
    | with_reducible refine know_of fun _ => ?_
    | (with_reducible refine does_then (law20_wide _ _ ?_))
    | (with_reducible refine does_then (ref07_Much _ _ ?_))
    | (with_reducible refine does_then (ref20_Is _ _ ?_))
    | (with_reducible refine does_then (law20_live _ ?_))
    | (with_reducible refine does_then (linear_All n _ _ (wideN_f (by assumption)) ⟨by have := (muchU_f (l := l) (by assumption)).1; omega, (muchU_f (l := l) (by assumption)).2⟩ ?_))
    | (with_reducible refine does_then (ref07_At l a b _ (by omega) ?_))
    | (with_reducible refine does_then (ref07_At (linA n l []).1 a b _ (by have := linA_len n l []; simp only [List.length_nil] at this; omega) ?_))
    | (with_reducible refine does_then (law20_code _ _ ?_))
    | (with_reducible refine does_then (ref18_Node n (lessC (atU ⟨a, b⟩ l)).1 _ (by assumption) (wideN_f (by assumption)) (by have := lessC_len (atU ⟨a, b⟩ l); have := atU_len ⟨a, b⟩ l; omega) (lessC_rows (by assumption) (atU_rows_len (muchU_f (l := l) (by assumption)).2)) ?_))
    | (with_reducible refine does_then (ref07_SameCounts _ _ _ ?_))
    | with_reducible refine ifD1 (by omega) ?_
    | with_reducible refine ifD0 (by omega) ?_
    | with_reducible refine ifE1 (by omega) ?_
    | with_reducible refine ifE0 (by omega) ?_
    | with_reducible refine ifN1 (by omega) ?_
    | with_reducible refine ifN0 (by omega) ?_
    | with_reducible refine ifD_of (fun _ => ?_) (fun _ => ?_)
    | with_reducible refine ifE_of (fun _ => ?_) (fun _ => ?_)
    | with_reducible refine ifN_of (fun _ => ?_) (fun _ => ?_)
    | with_reducible refine Go.V.if1 (by assumption) ?_
    | with_reducible refine Go.V.if0 (by assumption) ?_
    | with_reducible refine if_of (fun _ => ?_) (fun _ => ?_)
    | with_reducible refine s_of (idx_get _ _ _ (by omega) (by omega)) ?_
    | with_reducible refine s_of (idx_get _ _ _ (by omega) (by simp only [List.length_set, List.length_append, List.length_take, List.length_drop, List.length_reverse, List.length_singleton]; omega)) ?_
    | with_reducible refine s_of (map_get _ _ _ (by omega)) ?_
    | with_reducible refine s_of (map_get _ _ _ (by simp only [List.length_set]; omega)) ?_
    | with_reducible refine s_of (if_neg (by omega)) ?_
    | with_reducible refine s_of (if_pos (by omega)) ?_
    | with_reducible refine need_of (by omega) ?_
    | with_reducible refine nil_of (fun _ => ?_) ?_
    | with_reducible refine alt_of ?_ ?_
    | (with_reducible apply join_of; intro _ _)
    | with_reducible assumption)
  all_goals
    have q := linearAt_law (n := n) (l := l) (t := ⟨a, b⟩) (by assumption) (by assumption) (by assumption) (by assumption) (by assumption)
    rw [show sameC (lessC (atU ⟨a, b⟩ (linA n l []).1)).1 (nodeN n (lessC (atU ⟨a, b⟩ l)).1).1 = false by assumption] at q
    cases q
end Go.V
