import Derived.Test.YtbccejopeclhmaaGreatLO0
namespace Go.V
open Go Go.RowKit Go.Proofs
set_option maxRecDepth 100000
set_option maxHeartbeats 4000000
set_option linter.unusedVariables false
set_option linter.unusedSimpArgs false
/-! weighted sums -/
def wsum (g : List Val → Int) : List Count → Int
  | [] => 0
  | c :: l => c.diff * g c.row + wsum g l
theorem wsum_app (g : List Val → Int) : ∀ a b : List Count, wsum g (a ++ b) = wsum g a + wsum g b
  | [], b => by simp [wsum]
  | c :: a, b => by rw [List.cons_append, wsum, wsum, wsum_app g a b]; omega
def negC (l : List Count) : List Count := l.map fun c => ⟨c.row, -c.diff⟩
theorem wsum_neg (g : List Val → Int) : ∀ a : List Count, wsum g (negC a) = - wsum g a
  | [] => by simp [wsum, negC]
  | c :: a => by
    have := wsum_neg g a
    unfold negC at this ⊢
    rw [List.map_cons, wsum, wsum, this]
    show -c.diff * g c.row + - wsum g a = -(c.diff * g c.row + wsum g a)
    rw [Int.neg_mul]; omega
theorem sumC_neg (k : List Val) : ∀ a : List Count, sumC k (negC a) = - sumC k a
  | [] => by simp [sumC, negC]
  | c :: a => by
    have := sumC_neg k a
    unfold negC at this ⊢
    rw [List.map_cons, sumC, sumC, this]
    dsimp only
    split <;> omega
def others (k : List Val) (l : List Count) : List Count := l.filter fun c => decide (orderR c.row k ≠ 0)
theorem wsum_split {g : List Val → Int} (hg : ∀ r r', orderR r r' = 0 → g r = g r') (k : List Val) : ∀ l : List Count, wsum g l = sumC k l * g k + wsum g (others k l)
  | [] => by simp [wsum, sumC, others]
  | c :: l => by
    have ih := wsum_split hg k l
    unfold others at ih ⊢
    rw [wsum, sumC, ih]
    by_cases e : orderR c.row k = 0
    · rw [if_pos e, List.filter_cons_of_neg (by simp [e]), hg _ _ e, Int.add_mul]; omega
    · rw [if_neg e, List.filter_cons_of_pos (by simp [e]), wsum, Int.zero_add]; omega
theorem sumC_others (k k' : List Val) : ∀ l : List Count, sumC k' (others k l) = if orderR k k' = 0 then 0 else sumC k' l
  | [] => by simp [sumC, others]
  | c :: l => by
    have ih := sumC_others k k' l
    unfold others at ih ⊢
    by_cases e : orderR c.row k = 0
    · rw [List.filter_cons_of_neg (by simp [e]), ih, sumC]
      by_cases h : orderR k k' = 0
      · rw [if_pos h, if_pos h]
      · rw [if_neg h, if_neg h, if_neg fun x => h (ord_R.eq_tr (ord_R.sym e) x)]; omega
    · rw [List.filter_cons_of_pos (by simp [e]), sumC, ih, sumC]
      by_cases h : orderR k k' = 0
      · rw [if_pos h, if_pos h, if_neg fun x => e (ord_R.eq_tr x (ord_R.sym h))]; rfl
      · rw [if_neg h, if_neg h]
theorem wsum_zero {g : List Val → Int} (hg : ∀ r r', orderR r r' = 0 → g r = g r') : ∀ (n : Nat) (l : List Count), l.length ≤ n → (∀ k, sumC k l = 0) → wsum g l = 0
  | _, [], _, _ => rfl
  | n + 1, c :: l, hn, h => by
    rw [wsum_split hg c.row, h c.row, Int.zero_mul, Int.zero_add]
    refine wsum_zero hg n _ ?_ fun k => ?_
    · have : (others c.row (c :: l)).length ≤ l.length := by
        unfold others; rw [List.filter_cons_of_neg (by simp [ord_R.self])]; exact List.length_filter_le _ _
      simp at hn; omega
    · rw [sumC_others]; split
      · rfl
      · exact h k
  | 0, c :: l, hn, _ => by simp at hn
/-- What hangs on rows alone, but not on how often they are told, is the same of lists that have the same. -/
theorem wsum_same {g : List Val → Int} (hg : ∀ r r', orderR r r' = 0 → g r = g r') {a b : List Count} (h : ∀ k, sumC k a = sumC k b) : wsum g a = wsum g b := by
  have := wsum_zero hg (a ++ negC b).length (a ++ negC b) (Nat.le_refl _) fun k => by rw [sumC_app, sumC_neg, h]; omega
  rw [wsum_app, wsum_neg] at this; omega
theorem sumC_wsum (k : List Val) : ∀ l : List Count, sumC k l = wsum (fun r => if orderR r k = 0 then 1 else 0) l
  | [] => rfl
  | c :: l => by rw [sumC, wsum, sumC_wsum k l]; split <;> omega
/-! rows that are the same but for fields that play no part -/
theorem str_of {a b : ByteArray} (h : a.toList = b.toList) : a = b := by
  rw [ByteArray.toList_eq, ByteArray.toList_eq] at h
  obtain ⟨⟨x⟩⟩ := a
  obtain ⟨⟨y⟩⟩ := b
  have : x = y := h
  rw [this]
theorem cmpV_plain {a b : Val} (h : cmpV a b = 0) : a.kind = b.kind ∧ plainV a = plainV b := by
  unfold cmpV at h
  by_cases e : a.kind = b.kind
  · refine ⟨e, ?_⟩
    rw [if_neg (not_not_intro e)] at h
    unfold plainV
    rw [← e]
    by_cases h0 : a.kind = 0
    · rw [if_pos h0] at h
      have : a.int = b.int := by unfold cmpI at h; (repeat' split at h) <;> omega
      rw [if_pos h0, if_pos h0, this]
    · rw [if_neg h0] at h
      rw [if_neg h0, if_neg h0]
      by_cases h1 : a.kind = 1
      · rw [if_pos h1] at h
        have : a.str = b.str := by
          rcases cmpS_cases a.str b.str with ⟨g, _⟩ | ⟨_, g⟩ | ⟨g, _⟩
          · omega
          · exact str_of g
          · omega
        rw [if_pos h1, if_pos h1, this]
      · rw [if_neg h1, if_neg h1]
  · exfalso
    rw [if_pos e] at h
    unfold cmpI at h
    (repeat' split at h) <;> omega
theorem orderR_len : ∀ {r r' : List Val}, orderR r r' = 0 → r.length = r'.length
  | [], [], _ => rfl
  | [], _ :: _, h => by rw [orderR] at h; omega
  | _ :: _, [], h => by rw [orderR] at h; omega
  | a :: r, b :: r', h => by
    rw [orderR] at h
    split at h
    · omega
    · rw [List.length_cons, List.length_cons, orderR_len h]
theorem orderR_at : ∀ {r r' : List Val}, orderR r r' = 0 → ∀ i, cmpV (r.getD i default) (r'.getD i default) = 0
  | [], [], _, i => by rw [cmpV_self]
  | [], _ :: _, h, _ => by rw [orderR] at h; omega
  | _ :: _, [], h, _ => by rw [orderR] at h; omega
  | a :: r, b :: r', h, i => by
    rw [orderR] at h
    split at h
    · omega
    · rename_i e
      cases i with
      | zero => simpa using e
      | succ i => simpa using orderR_at h i
theorem orderR_kinds : ∀ {r r' : List Val}, orderR r r' = 0 → r.map Val.kind = r'.map Val.kind
  | [], [], _ => rfl
  | [], _ :: _, h => by rw [orderR] at h; omega
  | _ :: _, [], h => by rw [orderR] at h; omega
  | a :: r, b :: r', h => by
    rw [orderR] at h
    split at h
    · omega
    · rename_i e
      rw [List.map_cons, List.map_cons, orderR_kinds h, (cmpV_plain (by simpa using e)).1]
theorem orderR_app : ∀ {a a' b b' : List Val}, orderR a a' = 0 → orderR b b' = 0 → orderR (a ++ b) (a' ++ b') = 0
  | [], [], _, _, _, h => h
  | [], _ :: _, _, _, h, _ => by rw [orderR] at h; omega
  | _ :: _, [], _, _, h, _ => by rw [orderR] at h; omega
  | x :: a, y :: a', b, b', h, h2 => by
    rw [orderR] at h
    split at h
    · omega
    · rename_i e
      rw [List.cons_append, List.cons_append, orderR, if_neg e]
      exact orderR_app h h2
theorem orderR_one {x y : Val} (h : cmpV x y = 0) : orderR [x] [y] = 0 := by rw [orderR, if_neg (not_not_intro h)]; rfl
theorem doV_same {r r' : List Val} (h : orderR r r' = 0) (t : Term) (s : List Val) : doV t s r = doV t s r' := by
  unfold doV
  rw [(cmpV_plain (orderR_at h _)).2]
theorem evalK_same {r r' : List Val} (h : orderR r r' = 0) : ∀ (l : List Term) (s : List Val), evalK r l s = evalK r' l s
  | [], s => rfl
  | t :: l, s => by rw [evalK, evalK, doV_same h, evalK_same h l]
theorem evalE_same {r r' : List Val} (h : orderR r r' = 0) (l : List Term) : evalE l r = evalE l r' := by
  unfold evalE; rw [orderR_kinds h, evalK_same h]
theorem mapA_same {r r' : List Val} (h : orderR r r' = 0) : ∀ (l : List (List Term)) (a : List Val), mapA r l a = mapA r' l a
  | [], a => rfl
  | x :: l, a => by rw [mapA, mapA, evalE_same h, mapA_same h l]
theorem partA_same {r r' : List Val} (h : orderR r r' = 0) : ∀ (l : List Int) (a a' : List Val), orderR a a' = 0 → orderR (partA r l a).1 (partA r' l a').1 = 0 ∧ (partA r l a).2 = (partA r' l a').2
  | [], a, a', ha => ⟨ha, rfl⟩
  | c :: l, a, a', ha => by
    rw [partA, partA, orderR_len h]
    split
    · exact ⟨rfl, rfl⟩
    · exact partA_same h l _ _ (orderR_app ha (orderR_one (orderR_at h _)))
def ind (k r : List Val) : Int := if orderR r k = 0 then 1 else 0
theorem ind_same {k r r' : List Val} (h : orderR r r' = 0) : ind k r = ind k r' := by
  unfold ind
  by_cases e : orderR r k = 0
  · rw [if_pos e, if_pos ((ord_R.eq_l h).1 e)]
  · rw [if_neg e, if_neg fun x => e ((ord_R.eq_l h).2 x)]
def cnt (k : List Val) : List (List Val) → Int
  | [] => 0
  | r :: l => ind k r + cnt k l
theorem cnt_same {k r r' : List Val} (h : orderR r r' = 0) : ∀ B : List Int, cnt k (B.map fun x => r ++ [numV x]) = cnt k (B.map fun x => r' ++ [numV x])
  | [] => rfl
  | x :: B => by
    rw [List.map_cons, List.map_cons, cnt, cnt, cnt_same h B, ind_same (orderR_app h (ord_R.self [numV x]))]
theorem assign_same {k r r' : List Val} (h : orderR r r' = 0) (c s t : Int) : cnt k (assignW r c s t).1 = cnt k (assignW r' c s t).1 := by
  have hp := cmpV_plain (orderR_at h c.toNat)
  have hl := orderR_len h
  unfold assignW
  by_cases h1 : c < 0 ∨ (r'.length : Int) ≤ c
  · rw [if_pos (by rw [hl]; exact h1), if_pos h1]
  rw [if_neg (by rw [hl]; exact h1), if_neg h1]
  by_cases h2 : 16 ≤ r'.length
  · rw [if_pos (by rw [hl]; exact h2), if_pos h2]
  rw [if_neg (by rw [hl]; exact h2), if_neg h2]
  by_cases h3 : (r'.getD c.toNat default).kind ≠ 0
  · rw [if_pos (by rw [hp.1]; exact h3), if_pos h3]
  rw [if_neg (by rw [hp.1]; exact h3), if_neg h3]
  have hi : (r.getD c.toNat default).int = (r'.getD c.toNat default).int := by
    have h4 := hp.2
    have hz := Decidable.of_not_not h3
    have e1 : plainV (r.getD c.toNat default) = ⟨0, (r.getD c.toNat default).int, nilS⟩ := by unfold plainV; rw [if_pos (hp.1.trans hz)]
    have e2 : plainV (r'.getD c.toNat default) = ⟨0, (r'.getD c.toNat default).int, nilS⟩ := by unfold plainV; rw [if_pos hz]
    rw [e1, e2] at h4
    exact (Val.mk.inj h4).2.1
  rw [hi]
  split
  · rfl
  · exact cnt_same h _
def tot (n : Node) (k r : List Val) : Int :=
  if n.kind = 1 then ind k (mapA r n.exprs []).1
  else if n.kind = 2 then (if truthV (evalE (n.exprs.getD 0 default) r).1 = true then ind k r else 0)
  else if n.kind = 3 then ind k (partA r n.cols []).1
  else if n.kind = 5 then - ind k r
  else if n.kind = 7 then cnt k (assignW r n.n n.size n.slide).1
  else ind k r
theorem tot_same (n : Node) (k : List Val) (r r' : List Val) (h : orderR r r' = 0) : tot n k r = tot n k r' := by
  unfold tot
  rw [mapA_same h, evalE_same h, ind_same h, ind_same (partA_same h n.cols [] [] rfl).1, assign_same h]
theorem sumC_one (k r : List Val) (d : Int) : sumC k [⟨r, d⟩] = d * ind k r := by
  unfold ind; rw [sumC, sumC]; show (if orderR r k = 0 then d else 0) + 0 = _; split <;> omega
theorem sumC_rows (k : List Val) (d : Int) : ∀ R : List (List Val), sumC k (R.map fun r => (⟨r, d⟩ : Count)) = d * cnt k R
  | [] => by simp [sumC, cnt]
  | r :: R => by
    rw [List.map_cons, sumC, sumC_rows k d R, cnt, Int.mul_add]
    unfold ind; show (if orderR r k = 0 then d else 0) + _ = _; split <;> omega
theorem rowN_tot {n : Node} {c : Count} (k : List Val) (h : (rowN n c).2 = 0) : sumC k (rowN n c).1 = c.diff * tot n k c.row := by
  unfold rowN at h ⊢
  unfold tot
  by_cases h1 : n.kind = 1
  · rw [if_pos h1, if_pos h1]; exact sumC_one _ _ _
  rw [if_neg h1, if_neg h1] at *
  by_cases h2 : n.kind = 2
  · rw [if_pos h2] at h ⊢
    rw [if_pos h2]
    split at h
    · rename_i e; exact absurd h e
    · rename_i e
      rw [if_neg e]
      split
      · exact sumC_one _ _ _
      · simp [sumC]
  rw [if_neg h2] at h ⊢
  rw [if_neg h2]
  by_cases h3 : n.kind = 3
  · rw [if_pos h3, if_pos h3]; exact sumC_one _ _ _
  rw [if_neg h3] at h ⊢
  rw [if_neg h3]
  by_cases h5 : n.kind = 5
  · rw [if_pos h5] at h ⊢
    rw [if_pos h5]
    have := over_ok (n := 0 - c.diff) h
    rw [sumC_one, this, Int.zero_sub, Int.neg_mul, Int.mul_neg]
  rw [if_neg h5] at h ⊢
  rw [if_neg h5]
  by_cases h7 : n.kind = 7
  · rw [if_pos h7, if_pos h7]; exact sumC_rows _ _ _
  · rw [if_neg h7, if_neg h7]; exact sumC_one _ _ _
theorem atU_app (t : Time) (a b : List Up) : atU t (a ++ b) = atU t a ++ atU t b := by unfold atU; rw [List.filter_append, List.map_append]
theorem atU_one (t : Time) (u : Up) : atU t [u] = if leT u.time t = true then [⟨u.row, u.diff⟩] else [] := by
  unfold atU
  by_cases h : leT u.time t = true
  · rw [if_pos h]; simp [h]
  · rw [if_neg h]; simp [h]
theorem atU_rows (t t0 : Time) (d : Int) : ∀ R : List (List Val), atU t (R.map fun r => (⟨r, t0, d⟩ : Up)) = if leT t0 t = true then R.map fun r => (⟨r, d⟩ : Count) else []
  | [] => by unfold atU; simp
  | r :: R => by
    have := atU_rows t t0 d R
    rw [List.map_cons, show (⟨r, t0, d⟩ : Up) :: R.map (fun r => ⟨r, t0, d⟩) = [⟨r, t0, d⟩] ++ R.map (fun r => ⟨r, t0, d⟩) from rfl, atU_app, this, atU_one]
    dsimp only
    split <;> rfl
theorem linV_tot {n : Node} {u : Up} (t : Time) (k : List Val) (hk : isF n.kind = true) (h : (linV n u).2 = 0) : sumC k (atU t (linV n u).1) = if leT u.time t = true then u.diff * tot n k u.row else 0 := by
  have one : ∀ (r : List Val) (d x : Int), d * ind k r = x → sumC k (atU t [⟨r, u.time, d⟩]) = if leT u.time t = true then x else 0 := fun r d x hx => by
    rw [atU_one]; dsimp only; split
    · rw [sumC_one]; exact hx
    · rfl
  unfold linV at h ⊢
  unfold tot
  by_cases h1 : n.kind = 1
  · rw [if_pos h1] at h ⊢
    rw [if_pos h1]
    split at h
    · rename_i e; rw [if_pos e]; exact one _ _ _ rfl
    · rename_i e; exact absurd h e
  rw [if_neg h1] at h ⊢
  rw [if_neg h1]
  by_cases h2 : n.kind = 2
  · rw [if_pos h2] at h ⊢
    rw [if_pos h2]
    split at h
    · exact absurd (show (1 : Int) = 0 from h) (by decide)
    · rename_i e0
      rw [if_neg e0]
      split at h
      · rename_i e; exact absurd h e
      · rename_i e
        rw [if_neg e]
        by_cases g : truthV (evalE (n.exprs.getD 0 default) u.row).1 = true
        · rw [if_pos g, if_pos g]; exact one _ _ _ rfl
        · rw [if_neg g, if_neg g]
          show sumC k [] = _
          rw [Int.mul_zero, ite_self]; rfl
  rw [if_neg h2] at h ⊢
  rw [if_neg h2]
  by_cases h3 : n.kind = 3
  · rw [if_pos h3] at h ⊢
    rw [if_pos h3]
    split at h
    · rename_i e; rw [if_pos e]; exact one _ _ _ rfl
    · rename_i e; exact absurd h e
  rw [if_neg h3] at h ⊢
  rw [if_neg h3]
  by_cases h4 : n.kind = 4
  · rw [if_pos h4, if_neg (show ¬ n.kind = 5 by omega), if_neg (show ¬ n.kind = 7 by omega)]; exact one _ _ _ rfl
  rw [if_neg h4] at h ⊢
  by_cases h5 : n.kind = 5
  · rw [if_pos h5] at h ⊢
    rw [if_pos h5]
    split at h
    · rename_i e
      rw [if_pos e]
      refine one _ _ _ ?_
      rw [over_ok e, Int.zero_sub, Int.neg_mul, Int.mul_neg]
    · rename_i e; exact absurd h e
  rw [if_neg h5] at h ⊢
  rw [if_neg h5]
  by_cases h7 : n.kind = 7
  · rw [if_pos h7] at h ⊢
    rw [if_pos h7]
    split at h
    · rename_i e
      rw [if_pos e, atU_rows]
      split
      · exact sumC_rows _ _ _
      · rfl
    · rename_i e; exact absurd h e
  · exfalso
    unfold isF at hk
    split at hk
    · omega
    · cases hk
theorem rowsA_sum (n : Node) (k : List Val) : ∀ (L a : List Count), (rowsA n L a).2 = 0 → sumC k (rowsA n L a).1 = sumC k a + wsum (tot n k) L
  | [], a, _ => by rw [rowsA, wsum]; dsimp only; omega
  | c :: L, a, h => by
    rw [rowsA] at h ⊢
    split at h
    · rename_i e
      rw [if_pos e, rowsA_sum n k L _ h, sumC_app, rowN_tot k e, wsum]; omega
    · rename_i e; exact absurd h e
theorem linA_sum (n : Node) (t : Time) (k : List Val) (hk : isF n.kind = true) : ∀ (l a : List Up), (linA n l a).2 = 0 → sumC k (atU t (linA n l a).1) = sumC k (atU t a) + wsum (tot n k) (atU t l)
  | [], a, _ => by rw [linA]; show _ = _ + wsum _ []; rw [wsum]; dsimp only; omega
  | u :: l, a, h => by
    rw [linA] at h ⊢
    split at h
    · rename_i e
      rw [if_pos e, linA_sum n t k hk l _ h, atU_app, sumC_app, linV_tot t k hk e, show u :: l = [u] ++ l from rfl, atU_app, wsum_app, atU_one]
      split
      · rw [wsum, wsum]; dsimp only; omega
      · rw [wsum]; omega
    · rename_i e; exact absurd h e
/-- What there is at a time of what comes is what the node makes of what there is at that time. -/
theorem linearAt_law {n : Node} {l : List Up} {t : Time} (hk : isF n.kind = true) (e : (linA n l []).2 = 0) (f : (lessC (atU t l)).2 = 0) (g : (nodeN n (lessC (atU t l)).1).2 = 0) (h : (lessC (atU t (linA n l []).1)).2 = 0) :
    sameC (lessC (atU t (linA n l []).1)).1 (nodeN n (lessC (atU t l)).1).1 = true := by
  unfold nodeN at g ⊢
  split at g
  · exact absurd (show (1 : Int) = 0 from g) (by decide)
  rename_i g0
  rw [if_neg g0]
  split at g
  · rename_i e1; exact absurd g e1
  rename_i g1
  rw [if_neg g1]
  split at g
  · rename_i e1; exact absurd g e1
  rename_i g2
  rw [if_neg g2]
  refine lessC_same h g fun k => ?_
  rw [linA_sum n t k hk l [] e, rowsA_sum n k _ [] (Decidable.of_not_not g2)]
  have h1 := lessC_ok f
  have h2 := lessC_ok (Decidable.of_not_not g1)
  have : wsum (tot n k) (atU t l) = wsum (tot n k) (lessC (lessC (atU t l)).1).1 := wsum_same (tot_same n k) fun k' => by rw [h2.2.1, h1.2.1]
  rw [this]; rfl
end Go.V
