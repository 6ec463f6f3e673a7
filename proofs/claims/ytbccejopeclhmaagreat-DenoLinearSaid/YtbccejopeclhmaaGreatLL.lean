import Derived.Test.YtbccejopeclhmaaGreatLJ
namespace Go.V
open Go Go.RowKit Go.Proofs
set_option maxRecDepth 100000
set_option maxHeartbeats 4000000
set_option linter.unusedVariables false
set_option linter.unusedSimpArgs false
section
variable (l : List Count)
/-- The first of the least of those that are not done, among the first k. -/
def bestF (ds : List Bool) : Nat → Int
  | 0 => -1
  | k + 1 => if ds.getD k default = false ∧ (bestF ds k < 0 ∨ orderR (l.getD k default).row (l.getD (bestF ds k).toNat default).row < 0) then (k : Int) else bestF ds k
/-- The sum of those that are as b is, and which are done then. -/
def sumF (b : Nat) (ds : List Bool) : Nat → Int × Int × List Bool
  | 0 => (0, 0, ds)
  | k + 1 => if (sumF b ds k).2.1 ≠ 0 then sumF b ds k else if orderR (l.getD k default).row (l.getD b default).row ≠ 0 then sumF b ds k
    else if (over ((sumF b ds k).1 + (l.getD k default).diff)).2 ≠ 0 then (0, 60, ds) else ((over ((sumF b ds k).1 + (l.getD k default).diff)).1, 0, (sumF b ds k).2.2.set k true)
def lessG : Nat → List Bool → List Count → List Count × Int
  | 0, _, acc => (acc, 0)
  | f + 1, ds, acc => if bestF l ds l.length < 0 then (acc, 0)
    else if (sumF l (bestF l ds l.length).toNat ds l.length).2.1 ≠ 0 then ([], 60)
    else lessG f (sumF l (bestF l ds l.length).toNat ds l.length).2.2 (if (sumF l (bestF l ds l.length).toNat ds l.length).1 ≠ 0 then acc ++ [⟨(l.getD (bestF l ds l.length).toNat default).row, (sumF l (bestF l ds l.length).toNat ds l.length).1⟩] else acc)
def lessC : List Count × Int := lessG l (l.length + 1) (List.replicate l.length false) []
end
theorem bytesLess_irrefl : ∀ l : List UInt8, Op.bytesLess l l = false
  | [] => by simp [Op.bytesLess]
  | a :: l => by simp [Op.bytesLess, bytesLess_irrefl l]
theorem cmpV_self (a : Val) : cmpV a a = 0 := by
  unfold cmpV cmpI cmpS
  rw [bytesLess_irrefl]
  simp
theorem orderR_self : ∀ a : List Val, orderR a a = 0
  | [] => rfl
  | v :: a => by rw [orderR, if_neg (by rw [cmpV_self]; simp)]; exact orderR_self a
theorem bestF_lt (l : List Count) (ds : List Bool) : ∀ k, bestF l ds k < k
  | 0 => by rw [bestF]; decide
  | k + 1 => by
    have := bestF_lt l ds k
    rw [bestF]; split <;> omega
theorem bestF_free (l : List Count) (ds : List Bool) : ∀ k, 0 ≤ bestF l ds k → ds.getD (bestF l ds k).toNat default = false
  | 0, h => by rw [bestF] at h; exact absurd h (by decide)
  | k + 1, h => by
    rw [bestF] at h ⊢
    split
    · rename_i hc; simpa using hc.1
    · rename_i hc; rw [if_neg hc] at h; exact bestF_free l ds k h
def freeN (ds : List Bool) : Nat := (ds.filter fun d => !d).length
theorem bestF_none (l : List Count) (ds : List Bool) (hd : freeN ds = 0) : ∀ k, k ≤ ds.length → bestF l ds k = -1
  | 0, _ => rfl
  | k + 1, hk => by
    rw [bestF, if_neg]
    · exact bestF_none l ds hd k (by omega)
    · rintro ⟨h1, _⟩
      have hz : ds.filter (fun d => !d) = [] := List.eq_nil_of_length_eq_zero hd
      rw [List.filter_eq_nil_iff] at hz
      rw [List.getD_eq_getElem?_getD, List.getElem?_eq_getElem (by omega)] at h1
      have := hz ds[k] (List.getElem_mem (by omega))
      simp at h1 this
      rw [h1] at this; cases this
theorem set_true_le : ∀ (ds : List Bool) (k : Nat), freeN (ds.set k true) ≤ freeN ds
  | [], _ => Nat.le_refl _
  | d :: ds, 0 => by cases d <;> simp [freeN]
  | d :: ds, k + 1 => by
    have := set_true_le ds k
    cases d <;> simp [freeN] at this ⊢ <;> omega
theorem set_true_lt : ∀ (ds : List Bool) (k : Nat), k < ds.length → ds.getD k default = false → freeN (ds.set k true) < freeN ds
  | d :: ds, 0, _, h => by simp at h; subst h; simp [freeN]
  | d :: ds, k + 1, hk, h => by
    have := set_true_lt ds k (by simpa using hk) (by simpa using h)
    cases d <;> simp [freeN] at this ⊢ <;> omega
theorem sumF_len (l : List Count) (b : Nat) (ds : List Bool) : ∀ k, (sumF l b ds k).2.2.length = ds.length
  | 0 => rfl
  | k + 1 => by
    have := sumF_len l b ds k
    rw [sumF]; (repeat' split) <;> first | assumption | rfl | (rw [List.length_set]; assumption)
theorem sumF_err (l : List Count) (b : Nat) (ds : List Bool) : ∀ k, (sumF l b ds k).2.1 = 0 ∨ (sumF l b ds k).2.1 = 60
  | 0 => .inl rfl
  | k + 1 => by
    have := sumF_err l b ds k
    rw [sumF]; (repeat' split) <;> first | assumption | exact .inl rfl | exact .inr rfl
/-- An error stays. -/
theorem sumF_stop (l : List Count) (b : Nat) (ds : List Bool) {k : Nat} (h : (sumF l b ds k).2.1 ≠ 0) : ∀ j, k ≤ j → sumF l b ds j = sumF l b ds k
  | 0, hj => by obtain rfl : k = 0 := by omega
                rfl
  | j + 1, hj => by
    by_cases e : k = j + 1
    · subst e; rfl
    · have := sumF_stop l b ds h j (by omega)
      rw [sumF, this, if_pos h]
theorem sumF_get (l : List Count) (b : Nat) (ds : List Bool) : ∀ k, (sumF l b ds k).2.1 = 0 → ∀ j, j < k → j < ds.length → orderR (l.getD j default).row (l.getD b default).row = 0 → (sumF l b ds k).2.2.getD j default = true
  | 0, _, j, hj, _, _ => absurd hj (Nat.not_lt_zero _)
  | k + 1, h, j, hj, hl, ho => by
    rw [sumF] at h ⊢
    split at h
    · rename_i h1; exact absurd h h1
    · rename_i h1
      rw [if_neg h1] 
      split at h
      · rename_i h2
        rw [if_pos h2]
        have : j ≠ k := fun e => h2 (e ▸ ho)
        exact sumF_get l b ds k h j (by omega) hl ho
      · rename_i h2
        rw [if_neg h2]
        split at h
        · exact absurd (show (60 : Int) = 0 from h) (by decide)
        · rename_i h3
          rw [if_neg h3]
          have hlen := sumF_len l b ds k
          by_cases e : k = j
          · subst e; simp [List.getD_eq_getElem?_getD, hlen, hl]
          · have := sumF_get l b ds k (by simpa using h1) j (by omega) hl ho
            rw [List.getD_eq_getElem?_getD] at this ⊢
            rw [List.getElem?_set_ne e]; exact this
theorem sumF_free (l : List Count) (b : Nat) (ds : List Bool) : ∀ k, freeN (sumF l b ds k).2.2 ≤ freeN ds
  | 0 => Nat.le_refl _
  | k + 1 => by
    have := sumF_free l b ds k
    rw [sumF]; (repeat' split) <;> first | assumption | exact Nat.le_refl _ | exact Nat.le_trans (set_true_le _ _) this
theorem sumF_keep (l : List Count) (b : Nat) (ds : List Bool) : ∀ k j, k ≤ j → (sumF l b ds k).2.1 = 0 → (sumF l b ds k).2.2.getD j default = ds.getD j default
  | 0, _, _, _ => rfl
  | k + 1, j, hj, h => by
    rw [sumF] at h ⊢
    split at h
    · rename_i h1; exact absurd h h1
    · rename_i h1
      rw [if_neg h1]
      have ih := sumF_keep l b ds k j (by omega) (by simpa using h1)
      split at h
      · rename_i h2; rw [if_pos h2]; exact ih
      · rename_i h2
        rw [if_neg h2]
        split at h
        · exact absurd (show (60 : Int) = 0 from h) (by decide)
        · rename_i h3
          rw [if_neg h3]
          rw [List.getD_eq_getElem?_getD] at ih ⊢
          rw [List.getElem?_set_ne (by omega)]; exact ih
theorem sumF_less (l : List Count) (b : Nat) (ds : List Bool) (hb : b < ds.length) (hf : ds.getD b default = false) : ∀ k, b < k → (sumF l b ds k).2.1 = 0 → freeN (sumF l b ds k).2.2 < freeN ds
  | 0, h, _ => absurd h (Nat.not_lt_zero _)
  | k + 1, hk, h => by
    have hlen := sumF_len l b ds k
    have hfr := sumF_free l b ds k
    have hkeep := sumF_keep l b ds k k (Nat.le_refl _)
    rw [sumF] at h ⊢
    split at h
    · rename_i h1; exact absurd h h1
    · rename_i h1
      rw [if_neg h1]
      split at h
      · rename_i h2
        rw [if_pos h2]
        have : b ≠ k := fun e => h2 (by rw [e]; exact orderR_self _)
        exact sumF_less l b ds hb hf k (by omega) h
      · rename_i h2
        rw [if_neg h2]
        split at h
        · exact absurd (show (60 : Int) = 0 from h) (by decide)
        · rename_i h3
          rw [if_neg h3]
          by_cases e : b = k
          · subst e
            exact Nat.lt_of_lt_of_le (set_true_lt _ _ (by omega) (by rw [hkeep (by simpa using h1)]; exact hf)) hfr
          · exact Nat.lt_of_le_of_lt (set_true_le _ _) (sumF_less l b ds hb hf k (by omega) (by simpa using h1))
theorem setB (ds : List Bool) (k : Nat) : (ds.map eB).set k [vb true] = (ds.set k true).map eB := by rw [List.map_set]; rfl
theorem appC (A : List Count) (r : List Val) (n : Int) : A.map eC ++ [[.sl (r.map eV), vi n]] = (A ++ [(⟨r, n⟩ : Count)]).map eC := by rw [List.map_append]; rfl
theorem repB (n : Nat) : List.replicate n [vb false] = (List.replicate n false).map eB := by rw [List.map_replicate]; rfl
theorem freeN_rep (n : Nat) : freeN (List.replicate n false) = n := by unfold freeN; simp
theorem ref07_Less (l : List Count) (Q : PV → Mem → Prop) (hl : l.length ≤ 1000000) (h : Q (.tup [.own 0, vi (lessC l).2]) [.row 61 ((lessC l).1.map eC)]) : Does Tryz.prog 20 [.sl (l.map eC), .val (.slice none 0 0)] [] 0 Q := by
  refine does_of mixed Tryz.func20 rfl (by kernel_rfl) no (slots [(0, [0, 6, 7, 8]), (2, [0, 6, 7, 8, 9, 10]), (4, [0, 6, 7, 8, 9, 11, 12])]) ?_
  simp only [Tryz.f20]
  repeat' (first
    | rw [repB]
    | simp -implicitDefEqProofs only [go_sem, Nat.reduceAdd, Nat.reduceEqDiff, Nat.reduceLT, Nat.reduceBEq, Nat.reduceLeDiff, Nat.reduceSub, Int.reduceLE, Int.reduceNeg, Int.reduceEq, Int.reduceToNat]
    | with_reducible refine know_of fun _ => ?_
    | with_reducible refine ifD1 (by omega) ?_
    | with_reducible refine ifD0 (by omega) ?_
    | with_reducible refine ifE1 (by omega) ?_
    | with_reducible refine ifE0 (by omega) ?_
    | with_reducible refine ifN1 (by omega) ?_
    | with_reducible refine ifN0 (by omega) ?_
    | with_reducible refine ifD_of (fun _ => ?_) (fun _ => ?_)
    | with_reducible refine ifE_of (fun _ => ?_) (fun _ => ?_)
    | with_reducible refine ifN_of (fun _ => ?_) (fun _ => ?_)
    | with_reducible refine Go.V.if1 (by assumption) ?_
    | with_reducible refine Go.V.if0 (by assumption) ?_
    | with_reducible refine if_of (fun _ => ?_) (fun _ => ?_)
    | with_reducible refine s_of (idx_get _ _ _ (by omega) (by omega)) ?_
    | with_reducible refine s_of (idx_get _ _ _ (by omega) (by simp only [List.length_set, List.length_append, List.length_take, List.length_drop, List.length_reverse, List.length_singleton]; omega)) ?_
    | with_reducible refine s_of (map_get _ _ _ (by omega)) ?_
    | with_reducible refine s_of (map_get _ _ _ (by simp only [List.length_set]; omega)) ?_
    | with_reducible refine s_of (if_neg (by omega)) ?_
    | with_reducible refine s_of (if_pos (by omega)) ?_
    | with_reducible refine need_of (by omega) ?_
    | with_reducible refine nil_of (fun _ => ?_) ?_
    | with_reducible refine alt_of ?_ ?_
    | (with_reducible apply join_of; intro _ _)
    | with_reducible assumption)
  refine loop_then (loop_ind (σ := Nat × List Bool × List Count) (fun s => [(0, .sl (l.map eC)), (6, .own 0), (7, .own 1), (8, .own 2)]) (fun s => [.row 61 (l.map eC), .row 4 (s.2.1.map eB), .row 61 (s.2.2.map eC)]) (fun s => s.1) (fun s => s.2.1.length = l.length ∧ freeN s.2.1 < s.1 ∧ s.2.2.length + freeN s.2.1 ≤ l.length ∧ lessC l = lessG l s.1 s.2.1 s.2.2) ?_ (l.length + 1, List.replicate l.length false, []) ⟨by simp, by dsimp only; rw [freeN_rep]; omega, by dsimp only; rw [freeN_rep]; simp, rfl⟩)
  rintro X ⟨f, ds, acc⟩ ⟨hd, hf, ha, hG⟩ ih
  try dsimp only at ih ⊢
  dsimp only at hd hf ha hG
  cases f with
  | zero => exact absurd hf (Nat.not_lt_zero _)
  | succ f =>
  have ih0 := ih
  clear ih
  have hlt := bestF_lt l ds
  have hfree := bestF_free l ds l.length
  rw [lessG] at hG
  repeat' (first
    | simp -implicitDefEqProofs only [go_sem, Nat.reduceAdd, Nat.reduceEqDiff, Nat.reduceLT, Nat.reduceBEq, Nat.reduceLeDiff, Nat.reduceSub, Int.reduceLE, Int.reduceNeg, Int.reduceEq, Int.reduceToNat]
    | with_reducible refine know_of fun _ => ?_
    | with_reducible refine ifD1 (by omega) ?_
    | with_reducible refine ifD0 (by omega) ?_
    | with_reducible refine ifE1 (by omega) ?_
    | with_reducible refine ifE0 (by omega) ?_
    | with_reducible refine ifN1 (by omega) ?_
    | with_reducible refine ifN0 (by omega) ?_
    | with_reducible refine ifD_of (fun _ => ?_) (fun _ => ?_)
    | with_reducible refine ifE_of (fun _ => ?_) (fun _ => ?_)
    | with_reducible refine ifN_of (fun _ => ?_) (fun _ => ?_)
    | with_reducible refine Go.V.if1 (by assumption) ?_
    | with_reducible refine Go.V.if0 (by assumption) ?_
    | with_reducible refine if_of (fun _ => ?_) (fun _ => ?_)
    | with_reducible refine s_of (idx_get _ _ _ (by omega) (by omega)) ?_
    | with_reducible refine s_of (idx_get _ _ _ (by omega) (by simp only [List.length_set, List.length_append, List.length_take, List.length_drop, List.length_reverse, List.length_singleton]; omega)) ?_
    | with_reducible refine s_of (map_get _ _ _ (by omega)) ?_
    | with_reducible refine s_of (map_get _ _ _ (by simp only [List.length_set]; omega)) ?_
    | with_reducible refine s_of (if_neg (by omega)) ?_
    | with_reducible refine s_of (if_pos (by omega)) ?_
    | with_reducible refine need_of (by omega) ?_
    | with_reducible refine nil_of (fun _ => ?_) ?_
    | with_reducible refine alt_of ?_ ?_
    | (with_reducible apply join_of; intro _ _)
    | with_reducible assumption)
  refine loop_then (loop_ind (σ := Nat) (fun s => [(0, .sl (l.map eC)), (6, .own 0), (7, .own 1), (8, .own 2), (9, vi (bestF l ds s)), (10, vi s)]) (fun s => [.row 61 (l.map eC), .row 4 (ds.map eB), .row 61 (acc.map eC)]) (fun s => l.length - s) (fun s => s ≤ l.length) ?_ 0 (Nat.zero_le _))
  rintro X i hi ih
  try dsimp only at ih ⊢
  have hbi := hlt i
  repeat' (first
    | simp -implicitDefEqProofs only [go_sem, eC, eB, Int.toNat_natCast, Nat.reduceAdd, Nat.reduceEqDiff, Nat.reduceLT, Nat.reduceBEq, Nat.reduceLeDiff, Nat.reduceSub, Int.reduceLE, Int.reduceNeg, Int.reduceEq, Int.reduceToNat]
    | with_reducible refine know_of fun _ => ?_
    | (with_reducible refine does_then (ref03_Order _ _ _ ?_))
    | with_reducible refine ifD1 (by omega) ?_
    | with_reducible refine ifD0 (by omega) ?_
    | with_reducible refine ifE1 (by omega) ?_
    | with_reducible refine ifE0 (by omega) ?_
    | with_reducible refine ifN1 (by omega) ?_
    | with_reducible refine ifN0 (by omega) ?_
    | with_reducible refine ifD_of (fun _ => ?_) (fun _ => ?_)
    | with_reducible refine ifE_of (fun _ => ?_) (fun _ => ?_)
    | with_reducible refine ifN_of (fun _ => ?_) (fun _ => ?_)
    | with_reducible refine Go.V.if1 (by assumption) ?_
    | with_reducible refine Go.V.if0 (by assumption) ?_
    | with_reducible refine if_of (fun _ => ?_) (fun _ => ?_)
    | with_reducible refine s_of (idx_get _ _ _ (by omega) (by omega)) ?_
    | with_reducible refine s_of (idx_get _ _ _ (by omega) (by simp only [List.length_set, List.length_append, List.length_take, List.length_drop, List.length_reverse, List.length_singleton]; omega)) ?_
    | with_reducible refine s_of (map_get _ _ _ (by omega)) ?_
    | with_reducible refine s_of (map_get _ _ _ (by simp only [List.length_set]; omega)) ?_
    | with_reducible refine s_of (if_neg (by omega)) ?_
    | with_reducible refine s_of (if_pos (by omega)) ?_
    | with_reducible refine need_of (by omega) ?_
    | with_reducible refine nil_of (fun _ => ?_) ?_
    | with_reducible refine alt_of ?_ ?_
    | (with_reducible apply join_of; intro _ _)
    | with_reducible assumption)
  · have ih1 := ih (i + 1) (by omega) (by omega)
    rw [show bestF l ds (i + 1) = bestF l ds i by rw [bestF, if_neg (fun hc => by have hc1 := hc.1; simp_all)]] at ih1
    rw [wnat i (by omega)]; exact ih1
  · have ih1 := ih (i + 1) (by omega) (by omega)
    rw [show bestF l ds (i + 1) = (i : Int) by rw [bestF, if_pos ⟨by assumption, .inl (by assumption)⟩]] at ih1
    rw [wnat i (by omega)]; exact ih1
  · have ih1 := ih (i + 1) (by omega) (by omega)
    rw [show bestF l ds (i + 1) = (i : Int) by rw [bestF, if_pos ⟨by assumption, .inr (by assumption)⟩]] at ih1
    rw [wnat i (by omega)]; exact ih1
  · have ih1 := ih (i + 1) (by omega) (by omega)
    rw [show bestF l ds (i + 1) = bestF l ds i by rw [bestF, if_neg (fun hc => hc.2.elim (by assumption) (by assumption))]] at ih1
    rw [wnat i (by omega)]; exact ih1
  · obtain rfl : i = l.length := by omega
    rw [hG, if_pos (by assumption)] at h; exact h
  obtain rfl : i = l.length := by omega
  have hb0 : ¬ bestF l ds l.length < 0 := by assumption
  have hbf := hfree (by omega)
  clear ih
  refine loop_then (loop_ind (σ := Nat) (fun s => [(0, .sl (l.map eC)), (6, .own 0), (7, .own 1), (8, .own 2), (9, vi (bestF l ds l.length)), (11, vi (sumF l (bestF l ds l.length).toNat ds s).1), (12, vi s)]) (fun s => [.row 61 (l.map eC), .row 4 ((sumF l (bestF l ds l.length).toNat ds s).2.2.map eB), .row 61 (acc.map eC)]) (fun s => l.length - s) (fun s => s ≤ l.length ∧ (sumF l (bestF l ds l.length).toNat ds s).2.1 = 0) ?_ 0 ⟨Nat.zero_le _, rfl⟩)
  rintro X k ⟨hk, hz⟩ ih
  try dsimp only at ih ⊢
  have hsl := sumF_len l (bestF l ds l.length).toNat ds k
  repeat' (first
    | rw [setB]
    | rw [appC]
    | simp -implicitDefEqProofs only [go_sem, eC, eB, Int.toNat_natCast, Nat.reduceAdd, Nat.reduceEqDiff, Nat.reduceLT, Nat.reduceBEq, Nat.reduceLeDiff, Nat.reduceSub, Int.reduceLE, Int.reduceNeg, Int.reduceEq, Int.reduceToNat]
    | with_reducible refine know_of fun _ => ?_
    | (with_reducible refine does_then (ref03_Order _ _ _ ?_))
    | (with_reducible refine does_then (ref06_Add _ _ _ ?_))
    | with_reducible refine ifD1 (by omega) ?_
    | with_reducible refine ifD0 (by omega) ?_
    | with_reducible refine ifE1 (by omega) ?_
    | with_reducible refine ifE0 (by omega) ?_
    | with_reducible refine ifN1 (by omega) ?_
    | with_reducible refine ifN0 (by omega) ?_
    | with_reducible refine ifD_of (fun _ => ?_) (fun _ => ?_)
    | with_reducible refine ifE_of (fun _ => ?_) (fun _ => ?_)
    | with_reducible refine ifN_of (fun _ => ?_) (fun _ => ?_)
    | with_reducible refine Go.V.if1 (by assumption) ?_
    | with_reducible refine Go.V.if0 (by assumption) ?_
    | with_reducible refine if_of (fun _ => ?_) (fun _ => ?_)
    | with_reducible refine s_of (idx_get _ _ _ (by omega) (by omega)) ?_
    | with_reducible refine s_of (idx_get _ _ _ (by omega) (by simp only [List.length_set, List.length_append, List.length_take, List.length_drop, List.length_reverse, List.length_singleton]; omega)) ?_
    | with_reducible refine s_of (map_get _ _ _ (by omega)) ?_
    | with_reducible refine s_of (map_get _ _ _ (by simp only [List.length_set]; omega)) ?_
    | with_reducible refine s_of (if_neg (by omega)) ?_
    | with_reducible refine s_of (if_pos (by omega)) ?_
    | with_reducible refine need_of (by omega) ?_
    | with_reducible refine nil_of (fun _ => ?_) ?_
    | with_reducible refine alt_of ?_ ?_
    | (with_reducible apply join_of; intro _ _)
    | with_reducible assumption)
  · have ih1 := ih (k + 1) (by omega)
    rw [show sumF l (bestF l ds l.length).toNat ds (k + 1) = sumF l (bestF l ds l.length).toNat ds k by rw [sumF, if_neg (not_not_intro hz), if_pos (by assumption)]] at ih1
    rw [wnat k (by omega)]; exact ih1 ⟨by omega, hz⟩
  · have hs : sumF l (bestF l ds l.length).toNat ds (k + 1) = (0, 60, ds) := by rw [sumF, if_neg (not_not_intro hz), if_neg (not_not_intro (by assumption)), if_pos (by assumption)]
    have hs2 := sumF_stop l (bestF l ds l.length).toNat ds (k := k + 1) (by rw [hs]; exact (by decide : (60 : Int) ≠ 0)) l.length (by omega)
    rw [hG, if_neg hb0, if_pos (by rw [hs2, hs]; exact (by decide : (60 : Int) ≠ 0))] at h; exact h
  · have hs : sumF l (bestF l ds l.length).toNat ds (k + 1) = ((over ((sumF l (bestF l ds l.length).toNat ds k).1 + (l.getD k default).diff)).1, 0, (sumF l (bestF l ds l.length).toNat ds k).2.2.set k true) := by rw [sumF, if_neg (not_not_intro hz), if_neg (not_not_intro (by assumption)), if_neg (not_not_intro (by assumption))]
    have ih1 := ih (k + 1) (by omega)
    rw [hs] at ih1
    rw [wnat k (by omega)]; exact ih1 ⟨by omega, rfl⟩
  all_goals obtain rfl : k = l.length := by omega
  all_goals rw [if_neg hb0, if_neg (not_not_intro hz)] at hG
  all_goals have hfl := sumF_less l (bestF l ds l.length).toNat ds (by rw [hd]; have := hlt l.length; omega) hbf l.length (by have := hlt l.length; omega) hz
  all_goals have h3 : acc.length + 1 + freeN (sumF l (bestF l ds l.length).toNat ds l.length).2.2 ≤ l.length := by omega
  all_goals have h4 : acc.length + freeN (sumF l (bestF l ds l.length).toNat ds l.length).2.2 ≤ l.length := by omega
  · rw [if_pos (by assumption)] at hG
    exact ih0 (f, _, _) (by dsimp only; omega) ⟨by rw [sumF_len]; exact hd, Nat.lt_of_lt_of_le hfl (Nat.le_of_lt_succ hf), by rw [List.length_append]; exact h3, hG⟩
  · rw [if_neg (not_not_intro (by assumption))] at hG
    exact ih0 (f, _, _) (by dsimp only; omega) ⟨by rw [sumF_len]; exact hd, Nat.lt_of_lt_of_le hfl (Nat.le_of_lt_succ hf), h4, hG⟩
end Go.V
