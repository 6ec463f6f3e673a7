/- Of any two numbers: the lesser and the greater, the quotient and the rest, the order are as the law says. No condition beyond the statement's own. -/
import Derived.Test.YtmamkmolgbmmaaaQExprLawsx7
namespace Go.Proofs.Ytmamkmolgbmmaaa.Pure
open Go.RowKit Go.Proofs.Ytmamkmolgbmmaaa.QExprLaws Go.Proofs.YtmamkmolgbmmaaaW.PrintWords Go.Proofs.YtmamkmolgbmmaaaW.PrintLast

theorem w64 {x : Int} (h : -9223372036854775808 ≤ x ∧ x ≤ 9223372036854775807) : wrap64 x = x := by unfold wrap64; omega
theorem wf64 {x : Int} (h : (Lit.int .i64 x).wf = true) : -9223372036854775808 ≤ x ∧ x ≤ 9223372036854775807 := by
  simp only [Lit.wf, IntKind.min, IntKind.max, IntKind.signed, IntKind.bits, Bool.and_eq_true, decide_eq_true_eq, if_true] at h
  omega
theorem ev_step (k : Nat) (row st : List S35) (ts : List S41) (i m : Int) (h0 : 0 ≤ i) (h1 : i < (ts.length : Int)) (hts : (ts.length : Int) ≤ 1000) (ha : expr_arity.f k (rd_T41 ts i).f0 = some m) (hm : 0 ≤ m) (h2 : m ≤ (st.length : Int)) (hst : (st.length : Int) ≤ 1000) :
    expr_Eval.l1 (k + 1) row st ts (ts.length : Int) i = (expr_do.f k (rd_T41 ts i).f0 (rd_T41 ts i).f1 (rd_T41 ts i).f2 (st.drop ((st.length : Int) - m).toNat) row).bind fun b => if b.2.2.2 = 0 then expr_Eval.l1 k row (st.take ((st.length : Int) - m).toNat ++ [(⟨b.1, b.2.1, b.2.2.1⟩ : S35)]) ts (ts.length : Int) (i + 1) else some (0, 0, (⟨#[]⟩ : ByteArray), b.2.2.2) := by
  have e1 : wrap64 ((st.length : Int) - m) = (st.length : Int) - m := w64 (by omega)
  have e2 : wrap64 (i + 1) = i + 1 := w64 (by omega)
  have g1 : 0 ≤ (st.length : Int) - m := by omega
  have g2 : (st.length : Int) - m ≤ (st.length : Int) := by omega
  have g3 : (st.take ((st.length : Int) - m).toNat).length < 4398046511104 := by rw [List.length_take]; omega
  rw [expr_Eval.l1, if_pos h1, if_pos h0, if_pos h1, ha, Option.bind_some, e1, if_pos g1, if_pos g2, e2]
  generalize List.take ((st.length : Int) - m).toNat st = tk at g3 ⊢
  congr 1
  funext b
  rw [Option.bind_some, if_pos g3]
theorem ev_end (k : Nat) (row st : List S35) (ts : List S41) (hs : 0 < (st.length : Int)) :
    expr_Eval.l1 (k + 1) row st ts (ts.length : Int) (ts.length : Int) = some ((rd_T35 st 0).f0, (rd_T35 st 0).f1, (rd_T35 st 0).f2, 0) := by
  rw [expr_Eval.l1, if_neg (by omega), if_pos hs]
/-- The kinds of a row's values. -/
def kindsP (row : List S35) : List Int := row.map (·.f0)
theorem ev_kinds (ts : List S41) (row : List S35) (hr : (row.length : Int) ≤ 1000) (d : Nat) : ∀ (k : Nat) (cs : List Int) (i : Nat), i ≤ row.length → row.length - i = d → cs = kindsP (row.take i) →
    expr_Eval.l0 (k + d + 1) ts row cs row (row.length : Int) (i : Int) = (expr_Type.f k ts (kindsP row)).bind fun b => if b.2.1 = 0 then expr_Eval.l1 k row ([] : List S35) ts (ts.length : Int) 0 else some (0, 0, (⟨#[]⟩ : ByteArray), b.2.1) := by
  induction d with
  | zero =>
    intro k cs i hi hd hc
    have hir : i = row.length := by omega
    subst hir
    rw [List.take_length] at hc
    subst hc
    rw [expr_Eval.l0, if_neg (by omega)]
  | succ d ih =>
    intro k cs i hi hd hc
    have hlt : i < row.length := by omega
    have hl : cs.length < 17592186044416 := by rw [hc]; unfold kindsP; rw [List.length_map, List.length_take]; omega
    have e2 : wrap64 ((i : Int) + 1) = ((i + 1 : Nat) : Int) := by rw [w64 (by omega)]; rfl
    rw [show k + (d + 1) + 1 = k + d + 1 + 1 from rfl, expr_Eval.l0, if_pos (by omega), if_pos (by omega), if_pos (by omega), if_pos hl, e2]
    refine ih k _ (i + 1) (by omega) (by omega) ?_
    rw [hc, List.take_add_one, List.getElem?_eq_getElem hlt]
    unfold kindsP
    rw [List.map_append]
    congr 1
    have : rd_T35 row (i : Int) = row[i] := by unfold rd_T35; rw [Int.toNat_natCast, List.getD_eq_getElem?_getD, List.getElem?_eq_getElem hlt]; rfl
    rw [this]; rfl
theorem eval_is (k : Nat) (ts : List S41) (row : List S35) (hr : (row.length : Int) ≤ 1000) :
    expr_Eval.f (k + row.length + 1) ts row = (expr_Type.f k ts (kindsP row)).bind fun b => if b.2.1 = 0 then expr_Eval.l1 k row ([] : List S35) ts (ts.length : Int) 0 else some (0, 0, (⟨#[]⟩ : ByteArray), b.2.1) := by
  unfold expr_Eval.f
  exact ev_kinds ts row hr row.length k [] 0 (by omega) (by omega) (by rw [List.take_zero]; rfl)
theorem live_is {k : Nat} (hk : 40 ≤ k) : runnellaw08_live.f k = some true := by
  have h : runnellaw08_live.f 40 = some true := by decide +kernel
  exact at_rounds (fun k => runnellaw08_live.mono k) hk h
theorem type_two (op : Int) (h : op = 17 ∨ op = 18 ∨ op = 6 ∨ op = 7 ∨ op = 10 ∨ op = 9) {k : Nat} (hk : 40 ≤ k) : expr_Type.f k [(⟨0, 0, (⟨#[]⟩ : ByteArray)⟩ : S41), (⟨0, 1, (⟨#[]⟩ : ByteArray)⟩ : S41), (⟨op, 0, (⟨#[]⟩ : ByteArray)⟩ : S41)] [0, 0] = some (0, 0, 3) := by
  refine at_rounds (fun k => expr_Type.mono _ _ k) hk ?_
  rcases h with rfl | rfl | rfl | rfl | rfl | rfl <;> decide +kernel
theorem arity0 (k : Nat) : expr_arity.f (k + 2) 0 = some 0 := by simp [expr_arity.f, expr_arity.j0]
theorem arity2 (op : Int) (h : op = 17 ∨ op = 18 ∨ op = 6 ∨ op = 7 ∨ op = 10 ∨ op = 9) (k : Nat) : expr_arity.f (k + 2) op = some 2 := by
  rcases h with rfl | rfl | rfl | rfl | rfl | rfl <;> simp [expr_arity.f, expr_arity.j0, expr_arity.j1]
theorem do_col (k : Nat) (a b n : Int) (s : ByteArray) (st : List S35) (h : n = 0 ∨ n = 1) : expr_do.f k 0 n s st [(⟨0, a, (⟨#[]⟩ : ByteArray)⟩ : S35), (⟨0, b, (⟨#[]⟩ : ByteArray)⟩ : S35)] = some (0, (if n = 0 then a else b), (⟨#[]⟩ : ByteArray), 0) := by
  rcases h with rfl | rfl <;> simp [expr_do.f, expr_plain.f, rd_T35]
theorem do_two (k : Nat) (op a b : Int) (row : List S35) (h : op = 17 ∨ op = 18 ∨ op = 6 ∨ op = 7 ∨ op = 10 ∨ op = 9) : expr_do.f k op 0 (⟨#[]⟩ : ByteArray) [(⟨0, a, (⟨#[]⟩ : ByteArray)⟩ : S35), (⟨0, b, (⟨#[]⟩ : ByteArray)⟩ : S35)] row = expr_pair.f k op 0 a (⟨#[]⟩ : ByteArray) 0 b (⟨#[]⟩ : ByteArray) := by
  rcases h with rfl | rfl | rfl | rfl | rfl | rfl <;> (simp [expr_do.f, rd_T35]; try (cases expr_pair.f k _ 0 a (⟨#[]⟩ : ByteArray) 0 b (⟨#[]⟩ : ByteArray) <;> rfl))
theorem eval_two (op a b : Int) (h : op = 17 ∨ op = 18 ∨ op = 6 ∨ op = 7 ∨ op = 10 ∨ op = 9) (K : Nat) {r : Int × Int × ByteArray × Int} (hp : ∀ m, 20 ≤ m → expr_pair.f m op 0 a (⟨#[]⟩ : ByteArray) 0 b (⟨#[]⟩ : ByteArray) = some r) :
    lawsTwo (K + 63) a b op = some (if r.2.2.2 = 0 then r.2.1 else 0, r.2.2.2 == 0) := by
  have ht := type_two op h (k := K + 60) (by omega)
  have hE := eval_is (K + 60) [(⟨0, 0, (⟨#[]⟩ : ByteArray)⟩ : S41), (⟨0, 1, (⟨#[]⟩ : ByteArray)⟩ : S41), (⟨op, 0, (⟨#[]⟩ : ByteArray)⟩ : S41)] [(⟨0, a, (⟨#[]⟩ : ByteArray)⟩ : S35), (⟨0, b, (⟨#[]⟩ : ByteArray)⟩ : S35)] (by simp)
  have hk : kindsP [(⟨0, a, (⟨#[]⟩ : ByteArray)⟩ : S35), (⟨0, b, (⟨#[]⟩ : ByteArray)⟩ : S35)] = [0, 0] := rfl
  rw [hk, ht, Option.bind_some, if_pos rfl] at hE
  have s1 := ev_step (K + 59) [(⟨0, a, (⟨#[]⟩ : ByteArray)⟩ : S35), (⟨0, b, (⟨#[]⟩ : ByteArray)⟩ : S35)] [] [(⟨0, 0, (⟨#[]⟩ : ByteArray)⟩ : S41), (⟨0, 1, (⟨#[]⟩ : ByteArray)⟩ : S41), (⟨op, 0, (⟨#[]⟩ : ByteArray)⟩ : S41)] 0 0 (by omega) (by simp) (by simp) (arity0 _) (by omega) (by simp) (by simp)
  have s2 := ev_step (K + 58) [(⟨0, a, (⟨#[]⟩ : ByteArray)⟩ : S35), (⟨0, b, (⟨#[]⟩ : ByteArray)⟩ : S35)] [(⟨0, a, (⟨#[]⟩ : ByteArray)⟩ : S35)] [(⟨0, 0, (⟨#[]⟩ : ByteArray)⟩ : S41), (⟨0, 1, (⟨#[]⟩ : ByteArray)⟩ : S41), (⟨op, 0, (⟨#[]⟩ : ByteArray)⟩ : S41)] 1 0 (by omega) (by simp) (by simp) (arity0 _) (by omega) (by simp) (by simp)
  have s3 := ev_step (K + 57) [(⟨0, a, (⟨#[]⟩ : ByteArray)⟩ : S35), (⟨0, b, (⟨#[]⟩ : ByteArray)⟩ : S35)] [(⟨0, a, (⟨#[]⟩ : ByteArray)⟩ : S35), (⟨0, b, (⟨#[]⟩ : ByteArray)⟩ : S35)] [(⟨0, 0, (⟨#[]⟩ : ByteArray)⟩ : S41), (⟨0, 1, (⟨#[]⟩ : ByteArray)⟩ : S41), (⟨op, 0, (⟨#[]⟩ : ByteArray)⟩ : S41)] 2 2 (by omega) (by simp) (by simp) (arity2 op h _) (by omega) (by simp) (by simp)
  have s4 := fun v => ev_end (K + 56) [(⟨0, a, (⟨#[]⟩ : ByteArray)⟩ : S35), (⟨0, b, (⟨#[]⟩ : ByteArray)⟩ : S35)] [v] [(⟨0, 0, (⟨#[]⟩ : ByteArray)⟩ : S41), (⟨0, 1, (⟨#[]⟩ : ByteArray)⟩ : S41), (⟨op, 0, (⟨#[]⟩ : ByteArray)⟩ : S41)] (by simp)
  have d1 := do_col (K + 59) a b 0 (⟨#[]⟩ : ByteArray) [] (.inl rfl)
  have d2 := do_col (K + 58) a b 1 (⟨#[]⟩ : ByteArray) [] (.inr rfl)
  have d3 := do_two (K + 57) op a b [(⟨0, a, (⟨#[]⟩ : ByteArray)⟩ : S35), (⟨0, b, (⟨#[]⟩ : ByteArray)⟩ : S35)] h
  rw [hp (K + 57) (by omega)] at d3
  unfold lawsTwo
  rw [show K + 63 = K + 60 + ([(⟨0, a, (⟨#[]⟩ : ByteArray)⟩ : S35), (⟨0, b, (⟨#[]⟩ : ByteArray)⟩ : S35)] : List S35).length + 1 from rfl, hE, s1]
  erw [d1]
  rw [Option.bind_some, if_pos rfl]
  erw [s2, d2]
  rw [Option.bind_some, if_pos rfl]
  erw [s3, d3]
  rw [Option.bind_some]
  by_cases h4 : r.2.2.2 = 0
  · rw [if_pos h4, if_pos h4]
    erw [s4]
    rw [Option.bind_some, h4]
    rfl
  · rw [if_neg h4, if_neg h4]
    rfl
theorem cmp_int (a b : Int) : cmp_Compare_int.f a b = some (if a < b then -1 else if a > b then 1 else 0) := by
  simp only [cmp_Compare_int.f, cmp_isNaN_int.f, Option.bind_some, bne_self_eq_false, Bool.false_eq_true, if_false]
  split
  · rfl
  · split <;> rfl
theorem row_cmp_int (a b : Int) (s t : ByteArray) : row_Cmp.f 0 a s 0 b t = some (if a < b then -1 else if a > b then 1 else 0) := by
  simp only [row_Cmp.f, if_true, cmp_int, Option.bind_some]
theorem neg_is {a : Int} (ha : -9223372036854775808 ≤ a ∧ a ≤ 9223372036854775807) : weigh_Neg.f a = some (if a = -9223372036854775808 then (0, 60) else (-a, 0)) := by
  unfold weigh_Neg.f weigh_Sub.f
  by_cases h1 : a < 0
  · rw [if_pos h1, w64 (x := 9223372036854775807 + a) (by omega)]
    by_cases h2 : a = -9223372036854775808
    · rw [if_pos (by omega), if_pos h2]; rfl
    · rw [if_neg (by omega), if_neg (by omega), if_neg h2, w64 (x := 0 - a) (by omega)]
      simp only [Option.bind_some, Int.zero_sub]
  · rw [if_neg h1, if_neg (show ¬ a = -9223372036854775808 by omega)]
    by_cases h2 : a > 0
    · rw [if_pos h2, w64 (x := -9223372036854775808 + a) (by omega), if_neg (by omega), w64 (x := 0 - a) (by omega)]
      simp only [Option.bind_some, Int.zero_sub]
    · rw [if_neg h2, w64 (x := 0 - a) (by omega)]
      simp only [Option.bind_some, Int.zero_sub]
theorem wrap_back {a x : Int} (ha : -9223372036854775808 ≤ a ∧ a ≤ 9223372036854775807) : wrap64 (x + wrap64 (a - x)) = a := by
  unfold wrap64; omega
/-- What the division of any two numbers tells. -/
def divP (a b : Int) : Int × Int := if b = 0 then (0, 0) else if b = -1 then (if a = -9223372036854775808 then (0, 60) else (-a, 0)) else (wrap64 (Int.tdiv a b), 0)
theorem div_is {a : Int} (b : Int) (ha : -9223372036854775808 ≤ a ∧ a ≤ 9223372036854775807) : expr_div.f a b = some (divP a b) := by
  unfold expr_div.f divP
  by_cases h1 : b = 0
  · rw [if_pos h1, if_pos h1]
  rw [if_neg h1, if_neg h1]
  by_cases h2 : b = -1
  · rw [if_pos h2, if_pos h2, neg_is ha, Option.bind_some]
  · rw [if_neg h2, if_neg h2]
def modP (a b : Int) : Int × Int := if (divP a b).2 = 0 then (if b = 0 then (0, 0) else (wrap64 (a - wrap64 ((divP a b).1 * b)), 0)) else (0, (divP a b).2)
theorem mod_is {a : Int} (b : Int) (ha : -9223372036854775808 ≤ a ∧ a ≤ 9223372036854775807) : expr_mod.f a b = some (modP a b) := by
  unfold expr_mod.f modP
  rw [div_is b ha, Option.bind_some]
  split
  · rename_i h
    rw [h]
    split <;> rfl
  · rfl
theorem pair_17 (a b : Int) (hw : wrap64 1 = 1 ∧ wrap64 (-1) = -1 ∧ wrap64 0 = 0) : ∀ m, 20 ≤ m → expr_pair.f m 17 0 a (⟨#[]⟩ : ByteArray) 0 b (⟨#[]⟩ : ByteArray) = some (if a > b then (0, b, (⟨#[]⟩ : ByteArray), 0) else (0, a, (⟨#[]⟩ : ByteArray), 0)) := by
  intro m hm
  obtain ⟨m, rfl⟩ : ∃ n, m = n + 1 := ⟨m - 1, by omega⟩
  unfold expr_pair.f
  rw [row_cmp_int, Option.bind_some, if_neg (by omega), if_neg (by omega), if_pos rfl]
  by_cases h1 : a < b
  · rw [if_pos h1, if_neg (show ¬ a > b by omega), Int.neg_neg, hw.1, expr_pair.j0, if_neg (by omega)]
  · rw [if_neg h1]
    by_cases h2 : a > b
    · rw [if_pos h2, if_pos h2, hw.2.1, expr_pair.j0, if_pos (by omega)]
    · rw [if_neg h2, if_neg h2, Int.neg_zero, hw.2.2, expr_pair.j0, if_neg (by omega)]
theorem pair_18 (a b : Int) : ∀ m, 20 ≤ m → expr_pair.f m 18 0 a (⟨#[]⟩ : ByteArray) 0 b (⟨#[]⟩ : ByteArray) = some (if a < b then (0, b, (⟨#[]⟩ : ByteArray), 0) else (0, a, (⟨#[]⟩ : ByteArray), 0)) := by
  intro m hm
  obtain ⟨m, rfl⟩ : ∃ n, m = n + 1 := ⟨m - 1, by omega⟩
  unfold expr_pair.f
  rw [row_cmp_int, Option.bind_some, if_neg (by omega), if_neg (by omega), if_neg (by omega), if_pos rfl]
  by_cases h1 : a < b
  · rw [if_pos h1, if_pos h1, expr_pair.j0, if_pos (by omega)]
  · rw [if_neg h1, if_neg h1]
    by_cases h2 : a > b
    · rw [if_pos h2, expr_pair.j0, if_neg (by omega)]
    · rw [if_neg h2, expr_pair.j0, if_neg (by omega)]
theorem flag_is (c : Bool) : expr_flag.f c = some (0, if c = true then 1 else 0, (⟨#[]⟩ : ByteArray), 0) := by
  unfold expr_flag.f; cases c <;> rfl
theorem pair_9 (a b : Int) : ∀ m, 20 ≤ m → expr_pair.f m 9 0 a (⟨#[]⟩ : ByteArray) 0 b (⟨#[]⟩ : ByteArray) = some (0, if a = b then 1 else 0, (⟨#[]⟩ : ByteArray), 0) := by
  intro m _
  unfold expr_pair.f
  rw [row_cmp_int, Option.bind_some, if_pos rfl, flag_is, Option.bind_some]
  by_cases h1 : a < b
  · rw [if_pos h1, if_neg (show ¬ a = b by omega)]; rfl
  · rw [if_neg h1]
    by_cases h2 : a > b
    · rw [if_pos h2, if_neg (show ¬ a = b by omega)]; rfl
    · rw [if_neg h2, if_pos (show a = b by omega)]; rfl
theorem pair_10 (a b : Int) : ∀ m, 20 ≤ m → expr_pair.f m 10 0 a (⟨#[]⟩ : ByteArray) 0 b (⟨#[]⟩ : ByteArray) = some (0, if a < b then 1 else 0, (⟨#[]⟩ : ByteArray), 0) := by
  intro m _
  unfold expr_pair.f
  rw [row_cmp_int, Option.bind_some, if_neg (by omega), if_pos rfl, flag_is, Option.bind_some]
  by_cases h1 : a < b
  · rw [if_pos h1, if_pos h1]; rfl
  · rw [if_neg h1, if_neg h1]
    by_cases h2 : a > b
    · rw [if_pos h2]; rfl
    · rw [if_neg h2]; rfl
theorem pair_6 {a : Int} (b : Int) (ha : -9223372036854775808 ≤ a ∧ a ≤ 9223372036854775807) : ∀ m, 20 ≤ m → expr_pair.f m 6 0 a (⟨#[]⟩ : ByteArray) 0 b (⟨#[]⟩ : ByteArray) = some (0, (divP a b).1, (⟨#[]⟩ : ByteArray), (divP a b).2) := by
  intro m _
  unfold expr_pair.f expr_reckon.f
  rw [row_cmp_int, Option.bind_some, if_neg (by omega), if_neg (by omega), if_neg (by omega), if_neg (by omega), if_neg (by omega), if_neg (by omega), if_neg (by omega), if_neg (by omega), if_pos rfl, div_is b ha]
  rfl
theorem pair_7 {a : Int} (b : Int) (ha : -9223372036854775808 ≤ a ∧ a ≤ 9223372036854775807) : ∀ m, 20 ≤ m → expr_pair.f m 7 0 a (⟨#[]⟩ : ByteArray) 0 b (⟨#[]⟩ : ByteArray) = some (0, (modP a b).1, (⟨#[]⟩ : ByteArray), (modP a b).2) := by
  intro m _
  unfold expr_pair.f expr_reckon.f
  rw [row_cmp_int, Option.bind_some, if_neg (by omega), if_neg (by omega), if_neg (by omega), if_neg (by omega), if_neg (by omega), if_neg (by omega), if_neg (by omega), if_neg (by omega), if_neg (by omega), if_pos rfl, mod_is b ha]
  rfl
theorem laws_good (a b : Int) (ha : -9223372036854775808 ≤ a ∧ a ≤ 9223372036854775807) (p q : Int × Int) (hp : p = divP a b) (hq : q = modP a b) :
    lawsGood a b (if a > b then b else a, true) (if a < b then b else a, true) (if p.2 = 0 then p.1 else 0, p.2 == 0) (if q.2 = 0 then q.1 else 0, q.2 == 0) (if a < b then 1 else 0, true) (if a = b then 1 else 0, true) := by
  have h10 : ((1 : Int) == 1) = true := rfl
  have h00 : ((0 : Int) == 1) = false := rfl
  refine ⟨⟨rfl, rfl, ?_⟩, ?_, ?_, ?_, ?_, ?_, ?_⟩
  · by_cases h1 : a < b
    · refine .inr ⟨by omega, ?_⟩
      rw [if_neg (show ¬ a > b by omega), if_pos h1]
      exact ⟨by omega, .inl ⟨rfl, rfl⟩⟩
    · by_cases h2 : a > b
      · refine .inr ⟨by omega, ?_⟩
        rw [if_pos h2, if_neg h1]
        exact ⟨by omega, .inr ⟨rfl, rfl⟩⟩
      · refine .inl ⟨by omega, ?_⟩
        rw [if_neg h2, if_neg h1]
        exact ⟨rfl, rfl⟩
  · show (p.2 == 0) = (q.2 == 0)
    rw [hq, hp]
    unfold modP
    split
    · rename_i h
      rw [h]
      split <;> rfl
    · rfl
  · intro h
    have h : (p.2 == 0) = false := h
    rw [hp] at h
    unfold divP at h
    split at h
    · cases h
    · split at h
      · split at h
        · exact ⟨by assumption, by assumption⟩
        · cases h
      · cases h
  · intro h
    show (if p.2 = 0 then p.1 else 0) = 0 ∧ (if q.2 = 0 then q.1 else 0) = 0
    have h : (p.2 == 0) = false ∨ b = 0 := h
    rcases h with h | h
    · have h1 : ¬ p.2 = 0 := by simpa using h
      rw [if_neg h1]
      have h2 : q.2 = p.2 := by
        rw [hq]; unfold modP; rw [← hp, if_neg h1]
      rw [if_neg (by rw [h2]; exact h1)]
      exact ⟨rfl, rfl⟩
    · subst h
      rw [hp, hq]
      exact ⟨rfl, rfl⟩
  · intro h hb
    have h1 : p.2 = 0 := by simpa using (show (p.2 == 0) = true from h)
    have h2 : q = (wrap64 (a - wrap64 (p.1 * b)), 0) := by rw [hq]; unfold modP; rw [← hp, if_pos h1, if_neg hb]
    show wrap64 (wrap64 ((if p.2 = 0 then p.1 else 0) * b) + (if q.2 = 0 then q.1 else 0)) = a
    rw [if_pos h1, h2]
    exact wrap_back ha
  · show ((if a < b then (1 : Int) else 0) == 1) = decide (a < b)
    by_cases h : a < b
    · rw [if_pos h, decide_eq_true h]; rfl
    · rw [if_neg h, decide_eq_false h]; rfl
  · show ((if a = b then (1 : Int) else 0) == 1) = (a == b)
    by_cases h : a = b
    · rw [if_pos h, beq_iff_eq.2 h]; rfl
    · rw [if_neg h, beq_eq_false_iff_ne.2 h]; rfl
theorem ExprLaws : runnellaw08_ExprLaws.Pure := by
  intro a b ha hb
  have ha := wf64 ha
  have hw : wrap64 1 = 1 ∧ wrap64 (-1) = -1 ∧ wrap64 0 = 0 := ⟨w64 (by omega), w64 (by omega), w64 (by omega)⟩
  refine ⟨100 + 63, ?_⟩
  have h1 := eval_two 17 a b (by omega) 100 (pair_17 a b hw)
  have h2 := eval_two 18 a b (by omega) 100 (pair_18 a b)
  have h3 := eval_two 6 a b (by omega) 100 (pair_6 b ha)
  have h4 := eval_two 7 a b (by omega) 100 (pair_7 b ha)
  have h5 := eval_two 10 a b (by omega) 100 (pair_10 a b)
  have h6 := eval_two 9 a b (by omega) 100 (pair_9 a b)
  have h7 := live_is (k := 100 + 63) (by omega)
  have hg := laws_good a b ha (divP a b) (modP a b) rfl rfl
  have e1 : (if (if a > b then ((0 : Int), b, (⟨#[]⟩ : ByteArray), (0 : Int)) else (0, a, (⟨#[]⟩ : ByteArray), 0)).2.2.2 = 0 then (if a > b then ((0 : Int), b, (⟨#[]⟩ : ByteArray), (0 : Int)) else (0, a, (⟨#[]⟩ : ByteArray), 0)).2.1 else 0, (if a > b then ((0 : Int), b, (⟨#[]⟩ : ByteArray), (0 : Int)) else (0, a, (⟨#[]⟩ : ByteArray), 0)).2.2.2 == 0) = (if a > b then b else a, true) := by
    split <;> rfl
  have e2 : (if (if a < b then ((0 : Int), b, (⟨#[]⟩ : ByteArray), (0 : Int)) else (0, a, (⟨#[]⟩ : ByteArray), 0)).2.2.2 = 0 then (if a < b then ((0 : Int), b, (⟨#[]⟩ : ByteArray), (0 : Int)) else (0, a, (⟨#[]⟩ : ByteArray), 0)).2.1 else 0, (if a < b then ((0 : Int), b, (⟨#[]⟩ : ByteArray), (0 : Int)) else (0, a, (⟨#[]⟩ : ByteArray), 0)).2.2.2 == 0) = (if a < b then b else a, true) := by
    split <;> rfl
  rw [e1] at h1
  rw [e2] at h2
  unfold runnellaw08_ExprLaws.f
  rw [h1, Option.bind_some, h2, Option.bind_some, h3, Option.bind_some, h4, Option.bind_some, h5, Option.bind_some, h6, Option.bind_some, h7, Option.bind_some]
  exact if_pos ⟨rfl, hg⟩

end Go.Proofs.Ytmamkmolgbmmaaa.Pure
