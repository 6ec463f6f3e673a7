import Derived.Test.YtbccejopeclhmaaGreatGE
import Derived.Test.YtbccejopeclhmaaGreatSH
namespace Go.V
open Go Go.RowKit Go.Proofs
set_option maxRecDepth 100000
set_option maxHeartbeats 4000000
set_option linter.unusedVariables false
set_option linter.unusedSimpArgs false
def keyG (kind key : Int) (r : List Val) : List Val × Int := if kind = 0 then (r, 0) else if key < 0 ∨ (r.length : Int) < key then ([], 9) else (r.take key.toNat, 0)
def ofAll (kind n : Int) (k : Nat) : List (List Count) → List Count → List Count × Int
  | [], acc => (acc, 0)
  | p :: ps, acc => if (ofG kind n ((p.getD 0 default).row.take k) p).2 ≠ 0 then ([], (ofG kind n ((p.getD 0 default).row.take k) p).2) else ofAll kind n k ps (acc ++ (ofG kind n ((p.getD 0 default).row.take k) p).1)
def sameK (k : Nat) (a b : Count) : Bool := orderR (a.row.take k) (b.row.take k) == 0
def keyK (kind key : Int) : Int := if kind = 0 then 0 else key
def shortG (k : Int) (c : Count) : Bool := decide ((c.row.length : Int) < k)
def makeG (kind key n : Int) (l : List Count) : List Count × Int :=
  if kind < 0 ∨ 6 ≤ kind then ([], 8)
  else if keyK kind key < 0 ∨ l.any (shortG (keyK kind key)) = true then ([], 9)
  else if knownG kind n ≠ 0 then ([], knownG kind n)
  else if (lessC l).2 ≠ 0 then ([], (lessC l).2)
  else ofAll kind n (keyK kind key).toNat (cutG (sameK (keyK kind key).toNat) (lessC l).1) []
theorem cutG_flat {α : Type} (p : α → α → Bool) : ∀ (n : Nat) (l : List α), l.length ≤ n → (cutG p l).flatten = l
  | n, [], _ => by rw [cutG]; rfl
  | 0, x :: l, h => by simp at h
  | n + 1, x :: l, h => by
    rw [cutG, List.flatten_cons, cutG_flat p n _ (by have := dropWhile_len (p x) l; simp at h; omega), List.cons_append, List.takeWhile_append_dropWhile]
theorem cutG_ne {α : Type} (p : α → α → Bool) : ∀ (n : Nat) (l : List α), l.length ≤ n → ∀ y ∈ cutG p l, y ≠ []
  | n, [], _ => by rw [cutG]; intro y hy; cases hy
  | 0, x :: l, h => by simp at h
  | n + 1, x :: l, h => by
    rw [cutG]
    intro y hy
    rcases List.mem_cons.1 hy with rfl | hy
    · simp
    · exact cutG_ne p n _ (by have := dropWhile_len (p x) l; simp at h; omega) y hy
theorem topG_len : ∀ (n : Int) (l : List Count), (topG n l).length ≤ l.length
  | _, [] => by simp [topG]
  | n, c :: l => by
    rw [topG]
    split
    · simp
    · simp only [List.length_cons]
      have := topG_len (n - minI c.diff n) l
      omega
theorem ofG_len (kind n : Int) (key : List Val) (l : List Count) (h : l ≠ []) : (ofG kind n key l).1.length ≤ l.length := by
  have h1 : 1 ≤ l.length := by cases l <;> simp_all
  have h2 := some_len l
  have h3 : ∀ (m : Int) (k : List Count), k.length ≤ l.length → (topG m k).length ≤ l.length := fun m k hk => Nat.le_trans (topG_len m k) hk
  unfold ofG
  split
  · unfold countG; split <;> simp [onceG] <;> omega
  split
  · unfold sumG
    split
    · simp
    split <;> simp [onceG] <;> omega
  split
  · exact h3 _ _ (by simp; omega)
  split
  · exact h3 _ _ (by simp; omega)
  split
  · exact h3 _ _ h2
  · simpa using h2
theorem make_short (r : List Val) (d k : Int) (Q : PV → Mem → Prop)  (h : Q (vb (shortG k ⟨r, d⟩)) []) : Does Tryz.prog 93 [.agg [.sl (r.map eV), vi d], .cad [vi k]] [] 0 Q := by
  refine does_of mixed Tryz.func93 rfl (by kernel_rfl) no (slots []) ?_
  simp only [Tryz.f93]
  repeat' (first
    | simp -implicitDefEqProofs only [go_sem, Nat.reduceAdd, Nat.reduceEqDiff, Nat.reduceLT, Nat.reduceBEq, Nat.reduceLeDiff, Nat.reduceSub, Int.reduceLE, Int.reduceNeg, Int.reduceEq, Int.reduceToNat]
    | with_reducible refine know_of fun _ => ?_
    | with_reducible refine ifD1 (by omega) ?_
    | with_reducible refine ifD0 (by omega) ?_
    | with_reducible refine ifE1 (by omega) ?_
    | with_reducible refine ifE0 (by omega) ?_
    | with_reducible refine ifN1 (by omega) ?_
    | with_reducible refine ifN0 (by omega) ?_
    | with_reducible refine ifD_of (fun _ => ?_) (fun _ => ?_)
    | with_reducible refine ifE_of (fun _ => ?_) (fun _ => ?_)
    | with_reducible refine ifN_of (fun _ => ?_) (fun _ => ?_)
    | with_reducible refine Go.V.if1 (by assumption) ?_
    | with_reducible refine Go.V.if0 (by assumption) ?_
    | with_reducible refine if_of (fun _ => ?_) (fun _ => ?_)
    | with_reducible refine s_of (idx_get _ _ _ (by omega) (by omega)) ?_
    | with_reducible refine s_of (idx_get _ _ _ (by omega) (by simp only [List.length_set, List.length_append, List.length_take, List.length_drop, List.length_reverse, List.length_singleton]; omega)) ?_
    | with_reducible refine s_of (map_get _ _ _ (by omega)) ?_
    | with_reducible refine s_of (map_get _ _ _ (by simp only [List.length_set]; omega)) ?_
    | with_reducible refine s_of (if_neg (by omega)) ?_
    | with_reducible refine s_of (if_pos (by omega)) ?_
    | with_reducible refine need_of (by omega) ?_
    | with_reducible refine nil_of (fun _ => ?_) ?_
    | with_reducible refine alt_of ?_ ?_
    | (with_reducible apply join_of; intro _ _)
    | with_reducible assumption)
  all_goals first | exact h | simpa using h
theorem make_same (a b : List Val) (d e k : Int) (Q : PV → Mem → Prop) (h0 : 0 ≤ k) (ha : k ≤ a.length) (hb : k ≤ b.length) (h : Q (vb (sameK k.toNat ⟨a, d⟩ ⟨b, e⟩)) []) : Does Tryz.prog 97 [.agg [.sl (a.map eV), vi d], .agg [.sl (b.map eV), vi e], .cad [vi k]] [] 0 Q := by
  refine does_of mixed Tryz.func97 rfl (by kernel_rfl) no (slots []) ?_
  simp only [Tryz.f97]
  repeat' (first
    | with_reducible refine need_of ⟨by omega, by omega, by omega, lenV _⟩ ?_
    | with_reducible refine need_of ⟨by omega, by omega, lenV _⟩ ?_
    | simp -implicitDefEqProofs only [go_sem, takeM, List.drop_zero, Nat.reduceAdd, Nat.reduceEqDiff, Nat.reduceLT, Nat.reduceBEq, Nat.reduceLeDiff, Nat.reduceSub, Int.reduceLE, Int.reduceNeg, Int.reduceEq, Int.reduceToNat]
    | with_reducible refine know_of fun _ => ?_
    | (with_reducible refine does_then (row_Same _ _ _ ?_))
    | with_reducible refine ifD1 (by omega) ?_
    | with_reducible refine ifD0 (by omega) ?_
    | with_reducible refine ifE1 (by omega) ?_
    | with_reducible refine ifE0 (by omega) ?_
    | with_reducible refine ifN1 (by omega) ?_
    | with_reducible refine ifN0 (by omega) ?_
    | with_reducible refine ifD_of (fun _ => ?_) (fun _ => ?_)
    | with_reducible refine ifE_of (fun _ => ?_) (fun _ => ?_)
    | with_reducible refine ifN_of (fun _ => ?_) (fun _ => ?_)
    | with_reducible refine Go.V.if1 (by assumption) ?_
    | with_reducible refine Go.V.if0 (by assumption) ?_
    | with_reducible refine if_of (fun _ => ?_) (fun _ => ?_)
    | with_reducible refine s_of (idx_get _ _ _ (by omega) (by omega)) ?_
    | with_reducible refine s_of (idx_get _ _ _ (by omega) (by simp only [List.length_set, List.length_append, List.length_take, List.length_drop, List.length_reverse, List.length_singleton]; omega)) ?_
    | with_reducible refine s_of (map_get _ _ _ (by omega)) ?_
    | with_reducible refine s_of (map_get _ _ _ (by simp only [List.length_set]; omega)) ?_
    | with_reducible refine s_of (if_neg (by omega)) ?_
    | with_reducible refine s_of (if_pos (by omega)) ?_
    | with_reducible refine need_of (by omega) ?_
    | with_reducible refine nil_of (fun _ => ?_) ?_
    | with_reducible refine alt_of ?_ ?_
    | (with_reducible apply join_of; intro _ _)
    | with_reducible assumption)
  all_goals exact h
theorem short_le {l : List Count} {k : Int} (h : l.any (shortG k) = false) : ∀ c ∈ l, k ≤ c.row.length := fun c hc => by
  have := List.any_eq_false.1 h c hc
  simp only [shortG, decide_eq_true_eq] at this
  omega
theorem less_rows {l : List Count} {k : Int} (h0 : (lessC l).2 = 0) (h : l.any (shortG k) = false) (hr : ∀ c ∈ l, c.row.length ≤ 1000000) : ∀ c ∈ (lessC l).1, k ≤ c.row.length ∧ c.row.length ≤ 1000000 := fun c hc => by
  obtain ⟨d, hd, e⟩ := (lessC_ok h0).2.2 c hc
  rw [← e]
  exact ⟨short_le h d hd, hr d hd⟩
theorem appGG (A B : List Count) : A.map eC ++ B.map eC = (A ++ B).map eC := by rw [List.map_append]
theorem notbad {l : List Count} {k : Int} (h0 : ¬ k < 0) (h : l.any (shortG k) = false) : ¬ (k < 0 ∨ l.any (shortG k) = true) := by
  rintro (hh | hh)
  · exact h0 hh
  · rw [h] at hh; cases hh
theorem known5 {kind n : Int} (h : knownG kind n = 0) (h5 : kind = 5) : 0 ≤ n ∧ n ≤ 9223372036854775807 := by
  unfold knownG at h
  split at h
  · omega
  · split at h <;> omega
def lenL (ps : List (List Count)) : Nat := (ps.map List.length).sum
theorem lenL_flat (ps : List (List Count)) : lenL ps = ps.flatten.length := by rw [List.length_flatten]; rfl
theorem piece_mem {p : Count → Count → Bool} {l : List Count} {x : List Count} (hx : x ∈ cutG p l) : ∀ c ∈ x, c ∈ l := fun c hc => by
  rw [← cutG_flat p l.length l (Nat.le_refl _)]
  exact List.mem_flatten.2 ⟨x, hx, hc⟩
theorem lenL_drop (ps : List (List Count)) (i : Nat) (h : i < ps.length) : lenL (ps.drop i) = (ps.getD i default).length + lenL (ps.drop (i + 1)) := by
  rw [drop_getD ps i h]; simp [lenL]
theorem lenL_cut (p : Count → Count → Bool) (l : List Count) : lenL (cutG p l) = l.length := by rw [lenL_flat, cutG_flat p l.length l (Nat.le_refl _)]
theorem group_of_nil (kind n : Int) (l : List Count) (Q : PV → Mem → Prop) (hl : l.length ≤ 1000000) (hr : ∀ c ∈ l, c.row.length ≤ 1000000) (hn : kind = 5 → 0 ≤ n ∧ n ≤ 9223372036854775807) (h : Q (.tup [.own 0, vi (ofG kind n [] l).2]) [.row 61 ((ofG kind n [] l).1.map eC)]) : Does Tryz.prog 98 [vi kind, vi n, .sl [], .sl (l.map eC)] [] 0 Q := group_of kind n [] l Q (by simp) hl hr hn h
theorem group_Make (kind key n : Int) (l : List Count) (Q : PV → Mem → Prop) (hl : l.length ≤ 1000000) (hr : ∀ c ∈ l, c.row.length ≤ 1000000) (h : Q (.tup [.own 0, vi (makeG kind key n l).2]) [.row 61 ((makeG kind key n l).1.map eC)]) : Does Tryz.prog 56 [vi kind, vi key, vi n, .sl (l.map eC)] [] 0 Q := by
  refine does_of mixed Tryz.func56 rfl (by kernel_rfl) no (slots [(0, [0, 2, 5, 14, 51, 52, 53])]) ?_
  simp only [Tryz.f56]
  repeat' (first
    | simp -implicitDefEqProofs only [go_sem, eC, Nat.reduceAdd, Nat.reduceEqDiff, Nat.reduceLT, Nat.reduceBEq, Nat.reduceLeDiff, Nat.reduceSub, Int.reduceLE, Int.reduceNeg, Int.reduceEq, Int.reduceToNat]
    | with_reducible refine know_of fun _ => ?_
    | (with_reducible refine does_then (contains_cnt _ _ _ (shortG _) _ (fun c _ Q hQ => make_short _ _ _ _ hQ) ?_))
    | (with_reducible refine does_then (group_known _ _ _ ?_))
    | (with_reducible refine does_then (zset_LessC _ _ (by omega) hr ?_))
    | with_reducible refine ifD1 (by omega) ?_
    | with_reducible refine ifD0 (by omega) ?_
    | with_reducible refine ifE1 (by omega) ?_
    | with_reducible refine ifE0 (by omega) ?_
    | with_reducible refine ifN1 (by omega) ?_
    | with_reducible refine ifN0 (by omega) ?_
    | with_reducible refine ifD_of (fun _ => ?_) (fun _ => ?_)
    | with_reducible refine ifE_of (fun _ => ?_) (fun _ => ?_)
    | with_reducible refine ifN_of (fun _ => ?_) (fun _ => ?_)
    | with_reducible refine Go.V.if1 (by assumption) ?_
    | with_reducible refine Go.V.if0 (by assumption) ?_
    | with_reducible refine if_of (fun _ => ?_) (fun _ => ?_)
    | with_reducible refine s_of (idx_get _ _ _ (by omega) (by omega)) ?_
    | with_reducible refine s_of (idx_get _ _ _ (by omega) (by simp only [List.length_set, List.length_append, List.length_take, List.length_drop, List.length_reverse, List.length_singleton]; omega)) ?_
    | with_reducible refine s_of (map_get _ _ _ (by omega)) ?_
    | with_reducible refine s_of (map_get _ _ _ (by simp only [List.length_set]; omega)) ?_
    | with_reducible refine s_of (if_neg (by omega)) ?_
    | with_reducible refine s_of (if_pos (by omega)) ?_
    | with_reducible refine need_of (by omega) ?_
    | with_reducible refine nil_of (fun _ => ?_) ?_
    | with_reducible refine alt_of ?_ ?_
    | (with_reducible apply join_of; intro _ _)
    | with_reducible assumption)
  · rw [makeG, if_pos (by omega)] at h; exact h
  · rw [makeG, if_pos (by omega)] at h; exact h
  · rw [makeG, if_neg (by omega), show keyK kind key = 0 from if_pos (by assumption), if_pos (.inr (by assumption))] at h; exact h
  · rw [makeG, if_neg (by omega), show keyK kind key = 0 from if_pos (by assumption), if_neg (notbad (by omega) (by assumption)), if_pos (by assumption)] at h; exact h
  · rw [makeG, if_neg (by omega), show keyK kind key = 0 from if_pos (by assumption), if_neg (notbad (by omega) (by assumption)), if_neg (by omega), if_pos (by assumption)] at h; exact h
  · have hlr := less_rows (k := 0) (by assumption) (by assumption) hr
    have hll := lessC_len l
    refine does_then (group_cut (lessC l).1 _ [vi 0] (sameK (0 : Int).toNat) _ (by omega) (fun x hx y hy Q hQ => make_same _ _ _ _ _ _ (by omega) (hlr x hx).1 (hlr y hy).1 hQ) ?_)
    have hps : ∀ x ∈ cutG (sameK (0 : Int).toNat) (lessC l).1, x ≠ [] ∧ ∀ c ∈ x, 0 ≤ (c.row.length : Int) ∧ c.row.length ≤ 1000000 := fun x hx => ⟨cutG_ne _ _ _ (Nat.le_refl _) x hx, fun c hc => hlr c (piece_mem hx c hc)⟩
    have hpl := lenL_cut (sameK (0 : Int).toNat) (lessC l).1
    have hm : makeG kind key n l = ofAll kind n (0 : Int).toNat (cutG (sameK (0 : Int).toNat) (lessC l).1) [] := by
      unfold makeG
      rw [if_neg (by omega), show keyK kind key = 0 from if_pos (by assumption), if_neg (notbad (by omega) (by assumption)), if_neg (by omega), if_neg (by omega)]
    rw [hm] at h
    clear hm
    generalize cutG (sameK (0 : Int).toNat) (lessC l).1 = ps at *
    repeat' (first
    | simp -implicitDefEqProofs only [go_sem, eC, Nat.reduceAdd, Nat.reduceEqDiff, Nat.reduceLT, Nat.reduceBEq, Nat.reduceLeDiff, Nat.reduceSub, Int.reduceLE, Int.reduceNeg, Int.reduceEq, Int.reduceToNat]
    | with_reducible refine know_of fun _ => ?_
    | with_reducible refine ifD1 (by omega) ?_
    | with_reducible refine ifD0 (by omega) ?_
    | with_reducible refine ifE1 (by omega) ?_
    | with_reducible refine ifE0 (by omega) ?_
    | with_reducible refine ifN1 (by omega) ?_
    | with_reducible refine ifN0 (by omega) ?_
    | with_reducible refine ifD_of (fun _ => ?_) (fun _ => ?_)
    | with_reducible refine ifE_of (fun _ => ?_) (fun _ => ?_)
    | with_reducible refine ifN_of (fun _ => ?_) (fun _ => ?_)
    | with_reducible refine Go.V.if1 (by assumption) ?_
    | with_reducible refine Go.V.if0 (by assumption) ?_
    | with_reducible refine if_of (fun _ => ?_) (fun _ => ?_)
    | with_reducible refine s_of (idx_get _ _ _ (by omega) (by omega)) ?_
    | with_reducible refine s_of (idx_get _ _ _ (by omega) (by simp only [List.length_set, List.length_append, List.length_take, List.length_drop, List.length_reverse, List.length_singleton]; omega)) ?_
    | with_reducible refine s_of (map_get _ _ _ (by omega)) ?_
    | with_reducible refine s_of (map_get _ _ _ (by simp only [List.length_set]; omega)) ?_
    | with_reducible refine s_of (if_neg (by omega)) ?_
    | with_reducible refine s_of (if_pos (by omega)) ?_
    | with_reducible refine need_of (by omega) ?_
    | with_reducible refine nil_of (fun _ => ?_) ?_
    | with_reducible refine alt_of ?_ ?_
    | (with_reducible apply join_of; intro _ _)
    | with_reducible assumption)
    generalize hres : ofAll kind n (0 : Int).toNat ps [] = res at h
    refine loop_then (loop_ind (σ := Nat × List Count) (fun s => [(0, vi kind), (2, vi n), (5, .adr 0 0), (14, .own 1), (51, .own 2), (52, vi ps.length), (53, vi s.1)]) (fun s => [.var [vi 0], .row 61 (s.2.map eC), .row 26 (ps.map eL)]) (fun s => ps.length - s.1) (fun s => s.1 ≤ ps.length ∧ s.2.length + lenL (ps.drop s.1) ≤ 1000000 ∧ ofAll kind n (0 : Int).toNat (ps.drop s.1) s.2 = res) ?_ (0, []) ⟨Nat.zero_le _, by simp only [List.length_nil, List.drop_zero]; omega, hres⟩)
    rintro X ⟨i, A⟩ ⟨hi, hA, hs⟩ ih
    try dsimp only at ih ⊢
    dsimp only at hi hA hs
    by_cases hil : i < ps.length
    · obtain ⟨hne, hrow⟩ := hps _ (getD_mem' ps i hil)
      have hdl := lenL_drop ps i hil
      have hpl0 : 0 < (ps.getD i default).length := List.length_pos_iff.2 hne
      have hr0 := hrow _ (getD_mem' (ps.getD i default) 0 hpl0)
      have hlo := ofG_len kind n [] (ps.getD i default) hne
      repeat' (first
      | with_reducible refine need_of ⟨by omega, by omega, by omega, lenV _⟩ ?_
      | with_reducible refine need_of ⟨by omega, by omega, lenV _⟩ ?_
      | with_reducible refine need_of ⟨by omega, lenV _⟩ ?_
      | with_reducible refine s_of (idx_get _ _ 0 (by omega) (by omega)) ?_
      | rw [appGG]
      | simp -implicitDefEqProofs only [go_sem, eC, eL, takeM, List.drop_zero, Int.toNat_natCast, Nat.reduceAdd, Nat.reduceEqDiff, Nat.reduceLT, Nat.reduceBEq, Nat.reduceLeDiff, Nat.reduceSub, Int.reduceLE, Int.reduceNeg, Int.reduceEq, Int.reduceToNat]
      | with_reducible refine know_of fun _ => ?_
      | (with_reducible refine does_then (group_of_nil _ _ _ _ (by omega) (fun c hc => (hrow c hc).2) (known5 (by assumption)) ?_))
      | with_reducible refine ifD1 (by omega) ?_
      | with_reducible refine ifD0 (by omega) ?_
      | with_reducible refine ifE1 (by omega) ?_
      | with_reducible refine ifE0 (by omega) ?_
      | with_reducible refine ifN1 (by omega) ?_
      | with_reducible refine ifN0 (by omega) ?_
      | with_reducible refine ifD_of (fun _ => ?_) (fun _ => ?_)
      | with_reducible refine ifE_of (fun _ => ?_) (fun _ => ?_)
      | with_reducible refine ifN_of (fun _ => ?_) (fun _ => ?_)
      | with_reducible refine Go.V.if1 (by assumption) ?_
      | with_reducible refine Go.V.if0 (by assumption) ?_
      | with_reducible refine if_of (fun _ => ?_) (fun _ => ?_)
      | with_reducible refine s_of (idx_get _ _ _ (by omega) (by omega)) ?_
      | with_reducible refine s_of (idx_get _ _ _ (by omega) (by simp only [List.length_set, List.length_append, List.length_take, List.length_drop, List.length_reverse, List.length_singleton]; omega)) ?_
      | with_reducible refine s_of (map_get _ _ _ (by omega)) ?_
      | with_reducible refine s_of (map_get _ _ _ (by simp only [List.length_set]; omega)) ?_
      | with_reducible refine s_of (if_neg (by omega)) ?_
      | with_reducible refine s_of (if_pos (by omega)) ?_
      | with_reducible refine need_of (by omega) ?_
      | with_reducible refine nil_of (fun _ => ?_) ?_
      | with_reducible refine alt_of ?_ ?_
      | (with_reducible apply join_of; intro _ _)
      | with_reducible assumption)
      all_goals rw [drop_getD ps i hil, ofAll] at hs
      all_goals simp only [show ((0 : Int)).toNat = 0 from rfl, List.take_zero] at hs
      · rw [if_pos (by assumption)] at hs
        rw [← hs] at h; exact h
      · rw [if_neg (by omega)] at hs
        rw [wnat i (by omega)]
        exact ih (i + 1, _) (by dsimp only; omega) ⟨by dsimp only; omega, by dsimp only; rw [List.length_append]; omega, hs⟩
    · repeat' (first
      | simp -implicitDefEqProofs only [go_sem, eC, eL, Nat.reduceAdd, Nat.reduceEqDiff, Nat.reduceLT, Nat.reduceBEq, Nat.reduceLeDiff, Nat.reduceSub, Int.reduceLE, Int.reduceNeg, Int.reduceEq, Int.reduceToNat]
      | with_reducible refine know_of fun _ => ?_
      | with_reducible refine ifD1 (by omega) ?_
      | with_reducible refine ifD0 (by omega) ?_
      | with_reducible refine ifE1 (by omega) ?_
      | with_reducible refine ifE0 (by omega) ?_
      | with_reducible refine ifN1 (by omega) ?_
      | with_reducible refine ifN0 (by omega) ?_
      | with_reducible refine ifD_of (fun _ => ?_) (fun _ => ?_)
      | with_reducible refine ifE_of (fun _ => ?_) (fun _ => ?_)
      | with_reducible refine ifN_of (fun _ => ?_) (fun _ => ?_)
      | with_reducible refine Go.V.if1 (by assumption) ?_
      | with_reducible refine Go.V.if0 (by assumption) ?_
      | with_reducible refine if_of (fun _ => ?_) (fun _ => ?_)
      | with_reducible refine s_of (idx_get _ _ _ (by omega) (by omega)) ?_
      | with_reducible refine s_of (idx_get _ _ _ (by omega) (by simp only [List.length_set, List.length_append, List.length_take, List.length_drop, List.length_reverse, List.length_singleton]; omega)) ?_
      | with_reducible refine s_of (map_get _ _ _ (by omega)) ?_
      | with_reducible refine s_of (map_get _ _ _ (by simp only [List.length_set]; omega)) ?_
      | with_reducible refine s_of (if_neg (by omega)) ?_
      | with_reducible refine s_of (if_pos (by omega)) ?_
      | with_reducible refine need_of (by omega) ?_
      | with_reducible refine nil_of (fun _ => ?_) ?_
      | with_reducible refine alt_of ?_ ?_
      | (with_reducible apply join_of; intro _ _)
      | with_reducible assumption)
      rw [List.drop_eq_nil_of_le (by omega), ofAll] at hs
      rw [← hs] at h; exact h

  · rw [makeG, if_neg (by omega), show keyK kind key = key from if_neg (by assumption), if_pos (.inl (by assumption))] at h; exact h
  · rw [makeG, if_neg (by omega), show keyK kind key = key from if_neg (by assumption), if_pos (.inr (by assumption))] at h; exact h
  · rw [makeG, if_neg (by omega), show keyK kind key = key from if_neg (by assumption), if_neg (notbad (by omega) (by assumption)), if_pos (by assumption)] at h; exact h
  · rw [makeG, if_neg (by omega), show keyK kind key = key from if_neg (by assumption), if_neg (notbad (by omega) (by assumption)), if_neg (by omega), if_pos (by assumption)] at h; exact h
  · have hlr := less_rows (k := key) (by assumption) (by assumption) hr
    have hll := lessC_len l
    refine does_then (group_cut (lessC l).1 _ [vi key] (sameK (key : Int).toNat) _ (by omega) (fun x hx y hy Q hQ => make_same _ _ _ _ _ _ (by omega) (hlr x hx).1 (hlr y hy).1 hQ) ?_)
    have hps : ∀ x ∈ cutG (sameK (key : Int).toNat) (lessC l).1, x ≠ [] ∧ ∀ c ∈ x, key ≤ (c.row.length : Int) ∧ c.row.length ≤ 1000000 := fun x hx => ⟨cutG_ne _ _ _ (Nat.le_refl _) x hx, fun c hc => hlr c (piece_mem hx c hc)⟩
    have hpl := lenL_cut (sameK (key : Int).toNat) (lessC l).1
    have hm : makeG kind key n l = ofAll kind n (key : Int).toNat (cutG (sameK (key : Int).toNat) (lessC l).1) [] := by
      unfold makeG
      rw [if_neg (by omega), show keyK kind key = key from if_neg (by assumption), if_neg (notbad (by omega) (by assumption)), if_neg (by omega), if_neg (by omega)]
    rw [hm] at h
    clear hm
    generalize cutG (sameK (key : Int).toNat) (lessC l).1 = ps at *
    repeat' (first
    | simp -implicitDefEqProofs only [go_sem, eC, Nat.reduceAdd, Nat.reduceEqDiff, Nat.reduceLT, Nat.reduceBEq, Nat.reduceLeDiff, Nat.reduceSub, Int.reduceLE, Int.reduceNeg, Int.reduceEq, Int.reduceToNat]
    | with_reducible refine know_of fun _ => ?_
    | with_reducible refine ifD1 (by omega) ?_
    | with_reducible refine ifD0 (by omega) ?_
    | with_reducible refine ifE1 (by omega) ?_
    | with_reducible refine ifE0 (by omega) ?_
    | with_reducible refine ifN1 (by omega) ?_
    | with_reducible refine ifN0 (by omega) ?_
    | with_reducible refine ifD_of (fun _ => ?_) (fun _ => ?_)
    | with_reducible refine ifE_of (fun _ => ?_) (fun _ => ?_)
    | with_reducible refine ifN_of (fun _ => ?_) (fun _ => ?_)
    | with_reducible refine Go.V.if1 (by assumption) ?_
    | with_reducible refine Go.V.if0 (by assumption) ?_
    | with_reducible refine if_of (fun _ => ?_) (fun _ => ?_)
    | with_reducible refine s_of (idx_get _ _ _ (by omega) (by omega)) ?_
    | with_reducible refine s_of (idx_get _ _ _ (by omega) (by simp only [List.length_set, List.length_append, List.length_take, List.length_drop, List.length_reverse, List.length_singleton]; omega)) ?_
    | with_reducible refine s_of (map_get _ _ _ (by omega)) ?_
    | with_reducible refine s_of (map_get _ _ _ (by simp only [List.length_set]; omega)) ?_
    | with_reducible refine s_of (if_neg (by omega)) ?_
    | with_reducible refine s_of (if_pos (by omega)) ?_
    | with_reducible refine need_of (by omega) ?_
    | with_reducible refine nil_of (fun _ => ?_) ?_
    | with_reducible refine alt_of ?_ ?_
    | (with_reducible apply join_of; intro _ _)
    | with_reducible assumption)
    generalize hres : ofAll kind n (key : Int).toNat ps [] = res at h
    refine loop_then (loop_ind (σ := Nat × List Count) (fun s => [(0, vi kind), (2, vi n), (5, .adr 0 0), (14, .own 1), (51, .own 2), (52, vi ps.length), (53, vi s.1)]) (fun s => [.var [vi key], .row 61 (s.2.map eC), .row 26 (ps.map eL)]) (fun s => ps.length - s.1) (fun s => s.1 ≤ ps.length ∧ s.2.length + lenL (ps.drop s.1) ≤ 1000000 ∧ ofAll kind n (key : Int).toNat (ps.drop s.1) s.2 = res) ?_ (0, []) ⟨Nat.zero_le _, by simp only [List.length_nil, List.drop_zero]; omega, hres⟩)
    rintro X ⟨i, A⟩ ⟨hi, hA, hs⟩ ih
    try dsimp only at ih ⊢
    dsimp only at hi hA hs
    by_cases hil : i < ps.length
    · obtain ⟨hne, hrow⟩ := hps _ (getD_mem' ps i hil)
      have hdl := lenL_drop ps i hil
      have hpl0 : 0 < (ps.getD i default).length := List.length_pos_iff.2 hne
      have hr0 := hrow _ (getD_mem' (ps.getD i default) 0 hpl0)
      have hlo := ofG_len kind n (((ps.getD i default).getD 0 default).row.take (key : Int).toNat) (ps.getD i default) hne
      repeat' (first
      | with_reducible refine need_of ⟨by omega, by omega, by omega, lenV _⟩ ?_
      | with_reducible refine need_of ⟨by omega, by omega, lenV _⟩ ?_
      | with_reducible refine need_of ⟨by omega, lenV _⟩ ?_
      | with_reducible refine s_of (idx_get _ _ 0 (by omega) (by omega)) ?_
      | rw [appGG]
      | simp -implicitDefEqProofs only [go_sem, eC, eL, takeM, List.drop_zero, Int.toNat_natCast, Nat.reduceAdd, Nat.reduceEqDiff, Nat.reduceLT, Nat.reduceBEq, Nat.reduceLeDiff, Nat.reduceSub, Int.reduceLE, Int.reduceNeg, Int.reduceEq, Int.reduceToNat]
      | with_reducible refine know_of fun _ => ?_
      | (with_reducible refine does_then (group_of _ _ _ _ _ (by rw [List.length_take]; omega) (by omega) (fun c hc => (hrow c hc).2) (known5 (by assumption)) ?_))
      | with_reducible refine ifD1 (by omega) ?_
      | with_reducible refine ifD0 (by omega) ?_
      | with_reducible refine ifE1 (by omega) ?_
      | with_reducible refine ifE0 (by omega) ?_
      | with_reducible refine ifN1 (by omega) ?_
      | with_reducible refine ifN0 (by omega) ?_
      | with_reducible refine ifD_of (fun _ => ?_) (fun _ => ?_)
      | with_reducible refine ifE_of (fun _ => ?_) (fun _ => ?_)
      | with_reducible refine ifN_of (fun _ => ?_) (fun _ => ?_)
      | with_reducible refine Go.V.if1 (by assumption) ?_
      | with_reducible refine Go.V.if0 (by assumption) ?_
      | with_reducible refine if_of (fun _ => ?_) (fun _ => ?_)
      | with_reducible refine s_of (idx_get _ _ _ (by omega) (by omega)) ?_
      | with_reducible refine s_of (idx_get _ _ _ (by omega) (by simp only [List.length_set, List.length_append, List.length_take, List.length_drop, List.length_reverse, List.length_singleton]; omega)) ?_
      | with_reducible refine s_of (map_get _ _ _ (by omega)) ?_
      | with_reducible refine s_of (map_get _ _ _ (by simp only [List.length_set]; omega)) ?_
      | with_reducible refine s_of (if_neg (by omega)) ?_
      | with_reducible refine s_of (if_pos (by omega)) ?_
      | with_reducible refine need_of (by omega) ?_
      | with_reducible refine nil_of (fun _ => ?_) ?_
      | with_reducible refine alt_of ?_ ?_
      | (with_reducible apply join_of; intro _ _)
      | with_reducible assumption)
      all_goals rw [drop_getD ps i hil, ofAll] at hs
      · rw [if_pos (by assumption)] at hs
        rw [← hs] at h; exact h
      · rw [if_neg (by omega)] at hs
        rw [wnat i (by omega)]
        exact ih (i + 1, _) (by dsimp only; omega) ⟨by dsimp only; omega, by dsimp only; rw [List.length_append]; omega, hs⟩
    · repeat' (first
      | simp -implicitDefEqProofs only [go_sem, eC, eL, Nat.reduceAdd, Nat.reduceEqDiff, Nat.reduceLT, Nat.reduceBEq, Nat.reduceLeDiff, Nat.reduceSub, Int.reduceLE, Int.reduceNeg, Int.reduceEq, Int.reduceToNat]
      | with_reducible refine know_of fun _ => ?_
      | with_reducible refine ifD1 (by omega) ?_
      | with_reducible refine ifD0 (by omega) ?_
      | with_reducible refine ifE1 (by omega) ?_
      | with_reducible refine ifE0 (by omega) ?_
      | with_reducible refine ifN1 (by omega) ?_
      | with_reducible refine ifN0 (by omega) ?_
      | with_reducible refine ifD_of (fun _ => ?_) (fun _ => ?_)
      | with_reducible refine ifE_of (fun _ => ?_) (fun _ => ?_)
      | with_reducible refine ifN_of (fun _ => ?_) (fun _ => ?_)
      | with_reducible refine Go.V.if1 (by assumption) ?_
      | with_reducible refine Go.V.if0 (by assumption) ?_
      | with_reducible refine if_of (fun _ => ?_) (fun _ => ?_)
      | with_reducible refine s_of (idx_get _ _ _ (by omega) (by omega)) ?_
      | with_reducible refine s_of (idx_get _ _ _ (by omega) (by simp only [List.length_set, List.length_append, List.length_take, List.length_drop, List.length_reverse, List.length_singleton]; omega)) ?_
      | with_reducible refine s_of (map_get _ _ _ (by omega)) ?_
      | with_reducible refine s_of (map_get _ _ _ (by simp only [List.length_set]; omega)) ?_
      | with_reducible refine s_of (if_neg (by omega)) ?_
      | with_reducible refine s_of (if_pos (by omega)) ?_
      | with_reducible refine need_of (by omega) ?_
      | with_reducible refine nil_of (fun _ => ?_) ?_
      | with_reducible refine alt_of ?_ ?_
      | (with_reducible apply join_of; intro _ _)
      | with_reducible assumption)
      rw [List.drop_eq_nil_of_le (by omega), ofAll] at hs
      rw [← hs] at h; exact h

end Go.V
