import Derived.Test.YtbccejopeclhmaaGreatLL
namespace Go.V
open Go Go.RowKit Go.Proofs
set_option maxRecDepth 100000
set_option maxHeartbeats 4000000
set_option linter.unusedVariables false
set_option linter.unusedSimpArgs false
/-! orders -/
/-- A total preorder, told by a number. -/
structure Ordr {α : Type} (c : α → α → Int) : Prop where
  anti : ∀ a b, c a b = - c b a
  trans : ∀ a b d, c a b ≤ 0 → c b d ≤ 0 → c a d ≤ 0
section
variable {α : Type} {c : α → α → Int} (o : Ordr c)
include o
theorem Ordr.self (a : α) : c a a = 0 := by have := o.anti a a; omega
theorem Ordr.sym {a b : α} (h : c a b = 0) : c b a = 0 := by have := o.anti a b; omega
theorem Ordr.lt_le {a b d : α} (h : c a b < 0) (h2 : c b d ≤ 0) : c a d < 0 := by
  have h3 := o.trans a b d (by omega) h2
  have h4 := o.anti a d
  have h5 := o.trans b d a h2
  have h6 := o.anti a b
  omega
theorem Ordr.le_lt {a b d : α} (h : c a b ≤ 0) (h2 : c b d < 0) : c a d < 0 := by
  have h3 := o.trans a b d h (by omega)
  have h4 := o.anti a d
  have h5 := o.trans d a b
  have h6 := o.anti b d
  omega
theorem Ordr.eq_tr {a b d : α} (h : c a b = 0) (h2 : c b d = 0) : c a d = 0 := by
  have h3 := o.trans a b d (by omega) (by omega)
  have h4 := o.anti a d
  have h5 := o.trans d b a (by have := o.anti b d; omega) (by have := o.anti a b; omega)
  omega
theorem Ordr.eq_l {a b d : α} (h : c a b = 0) : c a d = 0 ↔ c b d = 0 := ⟨fun h2 => o.eq_tr (o.sym h) h2, fun h2 => o.eq_tr h h2⟩
theorem Ordr.eq_lt {a b d : α} (h : c a b = 0) : c a d < 0 ↔ c b d < 0 := ⟨fun h2 => o.le_lt (by have := o.anti a b; omega) h2, fun h2 => o.le_lt (by omega) h2⟩
end
theorem ord_I : Ordr cmpI := by
  constructor
  · intro a b; unfold cmpI; (repeat' split) <;> omega
  · intro a b d; unfold cmpI; (repeat' split) <;> omega
theorem less_asym : ∀ a b : List UInt8, Op.bytesLess a b = true → Op.bytesLess b a = false
  | [], [], h => by simp [Op.bytesLess] at h
  | [], _ :: _, _ => by simp [Op.bytesLess]
  | _ :: _, [], h => by simp [Op.bytesLess] at h
  | x :: a, y :: b, h => by
    simp only [Op.bytesLess, Bool.or_eq_true, decide_eq_true_eq, Bool.and_eq_true, beq_iff_eq] at h
    simp only [Op.bytesLess, Bool.or_eq_false_iff, decide_eq_false_iff_not, Bool.and_eq_false_iff]
    rcases h with h | ⟨rfl, h⟩
    · exact ⟨UInt8.not_lt.2 (UInt8.le_of_lt h), .inl (by simp; exact fun e => absurd (e ▸ h) (UInt8.lt_irrefl _))⟩
    · exact ⟨UInt8.lt_irrefl _, .inr (less_asym a b h)⟩
theorem less_tri : ∀ a b : List UInt8, Op.bytesLess a b = false → Op.bytesLess b a = false → a = b
  | [], [], _, _ => rfl
  | [], _ :: _, h, _ => by simp [Op.bytesLess] at h
  | _ :: _, [], _, h => by simp [Op.bytesLess] at h
  | x :: a, y :: b, h, h' => by
    simp only [Op.bytesLess, Bool.or_eq_false_iff, decide_eq_false_iff_not, Bool.and_eq_false_iff, beq_eq_false_iff_ne] at h h'
    have e : x = y := UInt8.le_antisymm (UInt8.not_lt.1 h'.1) (UInt8.not_lt.1 h.1)
    subst e
    rw [less_tri a b (h.2.resolve_left (by simp)) (h'.2.resolve_left (by simp))]
theorem less_trans : ∀ a b d : List UInt8, Op.bytesLess a b = true → Op.bytesLess b d = true → Op.bytesLess a d = true
  | _, [], _, h, _ => by cases ‹List UInt8› <;> simp [Op.bytesLess] at h
  | _, _ :: _, [], _, h => by simp [Op.bytesLess] at h
  | [], _ :: _, _ :: _, _, _ => by simp [Op.bytesLess]
  | x :: a, y :: b, z :: d, h, h' => by
    simp only [Op.bytesLess, Bool.or_eq_true, decide_eq_true_eq, Bool.and_eq_true, beq_iff_eq] at h h' ⊢
    rcases h with h | ⟨rfl, h⟩
    · rcases h' with h' | ⟨rfl, h'⟩
      · exact .inl (UInt8.lt_trans h h')
      · exact .inl h
    · rcases h' with h' | ⟨rfl, h'⟩
      · exact .inl h'
      · exact .inr ⟨rfl, less_trans a b d h h'⟩
theorem cmpS_cases (a b : ByteArray) : (cmpS a b = -1 ∧ Op.bytesLess a.toList b.toList = true) ∨ (cmpS a b = 0 ∧ a.toList = b.toList) ∨ (cmpS a b = 1 ∧ Op.bytesLess b.toList a.toList = true) := by
  unfold cmpS
  by_cases h : Op.bytesLess a.toList b.toList = true
  · rw [if_pos h]; exact .inl ⟨rfl, h⟩
  · rw [if_neg h]
    have hf : Op.bytesLess a.toList b.toList = false := by simpa using h
    rw [hf, Bool.false_or]
    by_cases e : a.toList = b.toList
    · rw [e]; simp
    · refine .inr (.inr ⟨?_, ?_⟩)
      · rw [if_pos]; simpa using e
      · cases hb : Op.bytesLess b.toList a.toList with
        | true => rfl
        | false => exact absurd (less_tri _ _ hf hb) e
theorem ord_S : Ordr cmpS := by
  constructor
  · intro a b
    rcases cmpS_cases a b with ⟨h, h1⟩ | ⟨h, h1⟩ | ⟨h, h1⟩ <;> rcases cmpS_cases b a with ⟨g, g1⟩ | ⟨g, g1⟩ | ⟨g, g1⟩ <;> rw [h, g] <;> first | rfl | skip
    all_goals exfalso
    · rw [less_asym _ _ h1] at g1; cases g1
    · rw [g1, bytesLess_irrefl] at h1; cases h1
    · rw [h1, bytesLess_irrefl] at g1; cases g1
    · rw [h1, bytesLess_irrefl] at g1; cases g1
    · rw [g1, bytesLess_irrefl] at h1; cases h1
    · rw [less_asym _ _ h1] at g1; cases g1
  · intro a b d h1 h2
    rcases cmpS_cases a b with ⟨h, e1⟩ | ⟨h, e1⟩ | ⟨h, _⟩
    · rcases cmpS_cases b d with ⟨g, e2⟩ | ⟨g, e2⟩ | ⟨g, _⟩
      · unfold cmpS; rw [less_trans _ _ _ e1 e2, if_pos rfl]; decide
      · unfold cmpS; rw [← e2, e1, if_pos rfl]; decide
      · omega
    · unfold cmpS at h2 ⊢; rw [e1]; exact h2
    · omega
theorem ord_V : Ordr cmpV := by
  constructor
  · intro a b
    unfold cmpV
    by_cases h : a.kind = b.kind
    · rw [if_neg (not_not_intro h), if_neg (not_not_intro h.symm), ← h]
      (repeat' split) <;> first | exact ord_I.anti _ _ | exact ord_S.anti _ _ | rfl
    · rw [if_pos h, if_pos (Ne.symm h)]; exact ord_I.anti _ _
  · intro a b d
    unfold cmpV
    by_cases h : a.kind = b.kind
    · rw [if_neg (not_not_intro h), ← h]
      by_cases g : a.kind = d.kind
      · rw [if_neg (not_not_intro g), if_neg (not_not_intro g)]
        by_cases h0 : a.kind = 0
        · rw [if_pos h0, if_pos h0, if_pos h0]; exact ord_I.trans _ _ _
        · rw [if_neg h0, if_neg h0, if_neg h0]
          by_cases h1 : a.kind = 1
          · rw [if_pos h1, if_pos h1, if_pos h1]; exact ord_S.trans _ _ _
          · rw [if_neg h1, if_neg h1, if_neg h1]; exact fun _ h => h
      · rw [if_pos g, if_pos g]; exact fun _ h => h
    · rw [if_pos h]
      by_cases g : b.kind = d.kind
      · rw [if_neg (not_not_intro g), ← g, if_pos h]; exact fun h _ => h
      · rw [if_pos g]
        intro h1 h2
        have h3 := ord_I.trans _ _ _ h1 h2
        by_cases e : a.kind = d.kind
        · exfalso; unfold cmpI at h1 h2; rw [e] at h h1; (repeat' split at h1) <;> (repeat' split at h2) <;> omega
        · rw [if_pos e]; exact h3
theorem ord_R : Ordr orderR := by
  constructor
  · intro a
    induction a with
    | nil => intro b; cases b <;> rfl
    | cons x a ih =>
      intro b
      cases b with
      | nil => rfl
      | cons y b =>
        rw [orderR, orderR]
        have h := ord_V.anti x y
        by_cases e : cmpV x y = 0
        · rw [if_neg (not_not_intro e), if_neg (by omega)]; exact ih b
        · rw [if_pos e, if_pos (by omega)]; exact h
  · intro a
    induction a with
    | nil => intro b d _ h2; cases b <;> cases d <;> first | exact Int.le_refl _ | (rw [orderR] at h2; omega) | (rw [orderR]; decide)
    | cons x a ih =>
      intro b d h1 h2
      cases b with
      | nil => rw [orderR] at h1; omega
      | cons y b =>
        cases d with
        | nil => rw [orderR] at h2; omega
        | cons z d =>
          rw [orderR] at h1 h2 ⊢
          have t := ord_V.trans x y z
          by_cases e : cmpV x y = 0
          · rw [if_neg (not_not_intro e)] at h1
            by_cases g : cmpV y z = 0
            · rw [if_neg (not_not_intro g)] at h2
              rw [if_neg (not_not_intro (ord_V.eq_tr e g))]
              exact ih b d h1 h2
            · rw [if_pos g] at h2
              have := ord_V.le_lt (show cmpV x y ≤ 0 by omega) (show cmpV y z < 0 by omega)
              rw [if_pos (by omega)]; omega
          · rw [if_pos e] at h1
            have h2' : cmpV y z ≤ 0 := by
              split at h2
              · exact h2
              · rename_i g; omega
            have := ord_V.lt_le (show cmpV x y < 0 by omega) h2'
            rw [if_pos (by omega)]; omega
/-! what a list of counts has of a row -/
def sumC (k : List Val) : List Count → Int
  | [] => 0
  | c :: l => (if orderR c.row k = 0 then c.diff else 0) + sumC k l
theorem sumC_app (k : List Val) : ∀ a b : List Count, sumC k (a ++ b) = sumC k a + sumC k b
  | [], b => by simp [sumC]
  | c :: a, b => by rw [List.cons_append, sumC, sumC, sumC_app k a b]; omega
/-- In order, each row once, none of them zero times. -/
def Neat : List Count → Prop
  | [] => True
  | c :: l => c.diff ≠ 0 ∧ (∀ d ∈ l, orderR c.row d.row < 0) ∧ Neat l
theorem sumC_zero {k : List Val} : ∀ {l : List Count}, (∀ d ∈ l, orderR d.row k ≠ 0) → sumC k l = 0
  | [], _ => rfl
  | c :: l, h => by rw [sumC, if_neg (h c List.mem_cons_self), sumC_zero fun d hd => h d (List.mem_cons_of_mem _ hd)]; rfl
theorem sumC_key {k k' : List Val} (h : orderR k k' = 0) : ∀ l : List Count, sumC k l = sumC k' l
  | [] => rfl
  | c :: l => by
    rw [sumC, sumC, sumC_key h l]
    have : orderR c.row k = 0 ↔ orderR c.row k' = 0 := ⟨fun g => ord_R.eq_tr g h, fun g => ord_R.eq_tr g (ord_R.sym h)⟩
    by_cases e : orderR c.row k = 0
    · rw [if_pos e, if_pos (this.1 e)]
    · rw [if_neg e, if_neg fun g => e (this.2 g)]
/-- Two neat lists that have the same of each row are the same. -/
theorem neat_same : ∀ (a b : List Count), Neat a → Neat b → (∀ k, sumC k a = sumC k b) → sameC a b = true
  | [], [], _, _, _ => rfl
  | [], d :: r, _, hb, hs => by
    exfalso
    have h := hs d.row
    rw [sumC, sumC, if_pos (ord_R.self _), sumC_zero fun x hx e => by have := hb.2.1 x hx; have := ord_R.anti x.row d.row; omega] at h
    exact hb.1 (by omega)
  | c :: l, [], ha, _, hs => by
    exfalso
    have h := hs c.row
    rw [sumC, sumC, if_pos (ord_R.self _), sumC_zero fun x hx e => by have := ha.2.1 x hx; have := ord_R.anti x.row c.row; omega] at h
    exact ha.1 (by omega)
  | c :: l, d :: r, ha, hb, hs => by
    have zl : ∀ x ∈ l, orderR x.row c.row ≠ 0 := fun x hx e => by have := ha.2.1 x hx; have := ord_R.anti x.row c.row; omega
    have zr : ∀ x ∈ r, orderR x.row d.row ≠ 0 := fun x hx e => by have := hb.2.1 x hx; have := ord_R.anti x.row d.row; omega
    have hcd : orderR c.row d.row = 0 := by
      rcases Int.lt_trichotomy (orderR c.row d.row) 0 with h | h | h
      · exfalso
        have h1 := hs c.row
        have h2 : ∀ x ∈ d :: r, orderR x.row c.row ≠ 0 := fun x hx e => by
          have h3 : orderR c.row x.row < 0 := by
            rcases List.mem_cons.1 hx with rfl | hx
            · exact h
            · exact ord_R.lt_le h (by have := hb.2.1 x hx; omega)
          have := ord_R.anti x.row c.row; omega
        rw [sumC_zero h2, sumC, if_pos (ord_R.self _), sumC_zero zl] at h1
        exact ha.1 (by omega)
      · exact h
      · exfalso
        have h' : orderR d.row c.row < 0 := by have := ord_R.anti d.row c.row; omega
        have h1 := hs d.row
        have h2 : ∀ x ∈ c :: l, orderR x.row d.row ≠ 0 := fun x hx e => by
          have h3 : orderR d.row x.row < 0 := by
            rcases List.mem_cons.1 hx with rfl | hx
            · exact h'
            · exact ord_R.lt_le h' (by have := ha.2.1 x hx; omega)
          have := ord_R.anti x.row d.row; omega
        rw [sumC_zero h2, sumC, if_pos (ord_R.self _), sumC_zero zr] at h1
        exact hb.1 (by omega)
    have hd : c.diff = d.diff := by
      have h1 := hs c.row
      rw [sumC, sumC, if_pos (ord_R.self _), if_pos (ord_R.sym hcd), sumC_zero zl, sumC_key hcd, sumC_zero zr] at h1
      omega
    rw [sameC, if_neg (by simp [hcd, hd])]
    refine neat_same l r ha.2.2 hb.2.2 fun k => ?_
    have h1 := hs k
    rw [sumC, sumC] at h1
    have : orderR c.row k = 0 ↔ orderR d.row k = 0 := ord_R.eq_l hcd
    by_cases e : orderR c.row k = 0
    · rw [if_pos e, if_pos (this.1 e)] at h1; omega
    · rw [if_neg e, if_neg fun g => e (this.2 g)] at h1; omega
theorem over_ok {n : Int} (h : (over n).2 = 0) : (over n).1 = n := by
  unfold over at h ⊢
  split
  · rfl
  · rename_i hc; rw [if_neg hc] at h; exact absurd (show (60 : Int) = 0 from h) (by decide)
/-- Those that are not done. -/
def rest : List Count → List Bool → List Count
  | c :: l, d :: ds => if d = true then rest l ds else c :: rest l ds
  | _, _ => []
def mark (b : List Val) : List Count → List Bool → List Bool
  | c :: l, d :: ds => (d || decide (orderR c.row b = 0)) :: mark b l ds
  | _, _ => []
theorem mark_len (b : List Val) : ∀ (l : List Count) (ds : List Bool), ds.length = l.length → (mark b l ds).length = l.length
  | [], [], _ => rfl
  | c :: l, d :: ds, h => by rw [mark, List.length_cons, List.length_cons, mark_len b l ds (by simpa using h)]
theorem mark_get (b : List Val) : ∀ (l : List Count) (ds : List Bool) (j : Nat), ds.length = l.length → j < l.length → (mark b l ds).getD j default = (ds.getD j default || decide (orderR (l.getD j default).row b = 0))
  | c :: l, d :: ds, 0, h, _ => rfl
  | c :: l, d :: ds, j + 1, h, hj => by
    have := mark_get b l ds j (by simpa using h) (by simpa using hj)
    simpa [mark] using this
theorem rest_mark (b k : List Val) : ∀ (l : List Count) (ds : List Bool), ds.length = l.length → sumC k (rest l ds) = sumC k (rest l (mark b l ds)) + (if orderR b k = 0 then sumC b (rest l ds) else 0)
  | [], [], _ => by simp [rest, mark, sumC]
  | c :: l, d :: ds, h => by
    have ih := rest_mark b k l ds (by simpa using h)
    cases d with
    | true => simpa [rest, mark] using ih
    | false =>
      by_cases e : orderR c.row b = 0
      · have hk : orderR c.row k = 0 ↔ orderR b k = 0 := ord_R.eq_l e
        simp only [rest, mark, Bool.false_eq_true, if_false, e, decide_true, Bool.or_true, if_true, sumC, hk]
        by_cases g : orderR b k = 0
        · simp only [g, if_true] at ih ⊢; omega
        · simp only [g, if_false] at ih ⊢; omega
      · simp only [rest, mark, Bool.false_eq_true, if_false, e, decide_false, Bool.or_false, sumC]
        by_cases g : orderR b k = 0
        · have hk : ¬ orderR c.row k = 0 := fun x => e (ord_R.eq_tr x (ord_R.sym g))
          simp only [g, hk, if_true, if_false] at ih ⊢; omega
        · simp only [g, if_false] at ih ⊢; omega
theorem rest_none : ∀ (l : List Count) (ds : List Bool), (∀ j, j < l.length → ds.getD j default = true) → rest l ds = []
  | [], [], _ => rfl
  | [], _ :: _, _ => rfl
  | c :: l, [], _ => rfl
  | c :: l, d :: ds, h => by
    have h0 := h 0 (by simp)
    simp at h0; subst h0
    rw [rest, if_pos rfl]
    exact rest_none l ds fun j hj => by simpa using h (j + 1) (by simpa using hj)
theorem rest_all : ∀ (l : List Count), rest l (List.replicate l.length false) = l
  | [] => rfl
  | c :: l => by rw [List.length_cons, List.replicate_succ, rest, if_neg (by simp), rest_all l]
theorem take_sum (k : List Val) (l : List Count) (i : Nat) (h : i < l.length) : sumC k (l.take (i + 1)) = sumC k (l.take i) + (if orderR (l.getD i default).row k = 0 then (l.getD i default).diff else 0) := by
  rw [List.take_add_one, List.getElem?_eq_getElem h, sumC_app, List.getD_eq_getElem?_getD, List.getElem?_eq_getElem h]
  simp [sumC]
theorem sumF_spec (l : List Count) (b : Nat) (ds : List Bool) (hd : ds.length = l.length) : ∀ k, k ≤ l.length → (sumF l b ds k).2.1 = 0 → (sumF l b ds k).1 = sumC (l.getD b default).row (l.take k) ∧
    ∀ j, j < l.length → (sumF l b ds k).2.2.getD j default = (ds.getD j default || (decide (j < k) && decide (orderR (l.getD j default).row (l.getD b default).row = 0)))
  | 0, _, _ => ⟨rfl, fun j hj => by simp [sumF]⟩
  | k + 1, hk, h => by
    have hlen := sumF_len l b ds k
    rw [take_sum _ _ _ (by omega)]
    rw [sumF] at h ⊢
    split at h
    · rename_i h1; exact absurd h h1
    · rename_i h1
      obtain ⟨i1, i2⟩ := sumF_spec l b ds hd k (by omega) (by simpa using h1)
      rw [if_neg h1]
      split at h
      · rename_i h2
        rw [if_pos h2, if_neg h2, Int.add_zero]
        refine ⟨i1, fun j hj => ?_⟩
        rw [i2 j hj]
        by_cases e : j = k
        · subst e; rw [decide_eq_false h2]; simp
        · rw [show decide (j < k + 1) = decide (j < k) from decide_eq_decide.2 (by omega)]
      · rename_i h2
        rw [if_neg h2]
        split at h
        · exact absurd (show (60 : Int) = 0 from h) (by decide)
        · rename_i h3
          rw [if_neg h3, if_pos (by simpa using h2)]
          refine ⟨by rw [over_ok (by simpa using h3), i1], fun j hj => ?_⟩
          have hj' : j < ds.length := by omega
          by_cases e : j = k
          · subst e
            have h2' : orderR (l.getD j default).row (l.getD b default).row = 0 := by simpa using h2
            rw [List.getD_eq_getElem?_getD, List.getElem?_set_self (by omega), h2']; simp
          · have := i2 j hj
            rw [List.getD_eq_getElem?_getD] at this ⊢
            rw [List.getElem?_set_ne (Ne.symm e), this, show decide (j < k + 1) = decide (j < k) from decide_eq_decide.2 (by omega)]
theorem list_getD_ext {a b : List Bool} (hl : a.length = b.length) (h : ∀ j, j < a.length → a.getD j default = b.getD j default) : a = b := by
  apply List.ext_getElem hl
  intro j h1 h2
  have := h j h1
  rw [List.getD_eq_getElem?_getD, List.getD_eq_getElem?_getD, List.getElem?_eq_getElem h1, List.getElem?_eq_getElem h2] at this
  simpa using this
theorem sumF_mark (l : List Count) (b : Nat) (ds : List Bool) (hd : ds.length = l.length) (h : (sumF l b ds l.length).2.1 = 0) : (sumF l b ds l.length).1 = sumC (l.getD b default).row l ∧ (sumF l b ds l.length).2.2 = mark (l.getD b default).row l ds := by
  obtain ⟨h1, h2⟩ := sumF_spec l b ds hd l.length (Nat.le_refl _) h
  rw [List.take_length] at h1
  refine ⟨h1, list_getD_ext (by rw [sumF_len, mark_len _ _ _ hd, hd]) fun j hj => ?_⟩
  rw [sumF_len, hd] at hj
  rw [h2 j hj, mark_get _ _ _ _ hd hj]
  simp [hj]
theorem bestF_spec (l : List Count) (ds : List Bool) : ∀ k, k ≤ l.length → (bestF l ds k < 0 → ∀ j, j < k → ds.getD j default = true) ∧
    (0 ≤ bestF l ds k → (bestF l ds k).toNat < k ∧ ∀ j, j < k → ds.getD j default = false → orderR (l.getD (bestF l ds k).toNat default).row (l.getD j default).row ≤ 0)
  | 0, _ => ⟨fun _ j hj => absurd hj (Nat.not_lt_zero _), fun h => absurd h (by rw [bestF]; decide)⟩
  | k + 1, hk => by
    obtain ⟨h1, h2⟩ := bestF_spec l ds k (by omega)
    rw [bestF]
    split
    · rename_i hc
      refine ⟨fun h => absurd h (by omega), fun _ => ⟨by omega, fun j hj hf => ?_⟩⟩
      rw [Int.toNat_natCast]
      by_cases e : j = k
      · subst e; rw [ord_R.self]; decide
      · rcases hc.2 with hn | hn
        · have := h1 hn j (by omega); rw [this] at hf; cases hf
        · by_cases hb : bestF l ds k < 0
          · have := h1 hb j (by omega); rw [this] at hf; cases hf
          · exact ord_R.trans _ _ _ (by omega) ((h2 (by omega)).2 j (by omega) hf)
    · rename_i hc
      refine ⟨fun h j hj => ?_, fun h => ⟨by have := (h2 h).1; omega, fun j hj hf => ?_⟩⟩
      · by_cases e : j = k
        · subst e
          cases hd : ds.getD j default with
          | true => rfl
          | false => exact absurd ⟨hd, .inl h⟩ hc
        · exact h1 h j (by omega)
      · by_cases e : j = k
        · subst e
          have : ¬ orderR (l.getD j default).row (l.getD (bestF l ds j).toNat default).row < 0 := fun g => hc ⟨hf, .inr g⟩
          have ha := ord_R.anti (l.getD j default).row (l.getD (bestF l ds j).toNat default).row
          omega
        · exact (h2 h).2 j (by omega) hf
theorem neat_app : ∀ {a : List Count} {d : Count}, Neat a → (∀ c ∈ a, orderR c.row d.row < 0) → d.diff ≠ 0 → Neat (a ++ [d])
  | [], d, _, _, h => ⟨h, fun x hx => by simp at hx, trivial⟩
  | c :: a, d, h, hc, hd => by
    refine ⟨h.1, fun x hx => ?_, neat_app h.2.2 (fun x hx => hc x (List.mem_cons_of_mem _ hx)) hd⟩
    rcases List.mem_append.1 hx with hx | hx
    · exact h.2.1 x hx
    · simp at hx; subst hx; exact hc c List.mem_cons_self
theorem lessG_ok (l : List Count) : ∀ (f : Nat) (ds : List Bool) (acc : List Count), ds.length = l.length → freeN ds < f →
    (∀ i j, i < l.length → j < l.length → orderR (l.getD i default).row (l.getD j default).row = 0 → ds.getD i default = ds.getD j default) →
    Neat acc → (∀ c ∈ acc, ∀ j, j < l.length → ds.getD j default = false → orderR c.row (l.getD j default).row < 0) → (∀ k, sumC k acc + sumC k (rest l ds) = sumC k l) → (∀ c ∈ acc, ∃ d ∈ l, d.row = c.row) →
    (lessG l f ds acc).2 = 0 → Neat (lessG l f ds acc).1 ∧ (∀ k, sumC k (lessG l f ds acc).1 = sumC k l) ∧ ∀ c ∈ (lessG l f ds acc).1, ∃ d ∈ l, d.row = c.row
  | 0, ds, acc, _, hf, _, _, _, _, _, _ => absurd hf (Nat.not_lt_zero _)
  | f + 1, ds, acc, hd, hf, hcl, hn, hlt, hs, hm, he => by
    obtain ⟨b1, b2⟩ := bestF_spec l ds l.length (Nat.le_refl _)
    have b3 := bestF_free l ds l.length
    rw [lessG] at he ⊢
    by_cases hb : bestF l ds l.length < 0
    · rw [if_pos hb]
      refine ⟨hn, fun k => ?_, hm⟩
      have := hs k
      rw [rest_none l ds fun j hj => b1 hb j hj] at this
      simp only [sumC] at this ⊢; omega
    · rw [if_neg hb] at he ⊢
      have b2 := b2 (by omega)
      have b3 := b3 (by omega)
      generalize (bestF l ds l.length).toNat = b at *
      by_cases hs0 : (sumF l b ds l.length).2.1 = 0
      · rw [if_neg (not_not_intro hs0)] at he ⊢
        obtain ⟨s1, s2⟩ := sumF_mark l b ds hd hs0
        have hless := sumF_less l b ds (by omega) b3 l.length b2.1 hs0
        have hacc : sumC (l.getD b default).row acc = 0 := sumC_zero fun c hc e => by have := hlt c hc b b2.1 b3; omega
        have hsb := hs (l.getD b default).row
        have hdone : ∀ j, j < l.length → (mark (l.getD b default).row l ds).getD j default = false → ds.getD j default = false ∧ orderR (l.getD b default).row (l.getD j default).row < 0 := fun j hj h => by
          rw [mark_get _ _ _ _ hd hj, Bool.or_eq_false_iff] at h
          refine ⟨h.1, ?_⟩
          have h1 := b2.2 j hj h.1
          have h2 : ¬ orderR (l.getD j default).row (l.getD b default).row = 0 := by simpa using h.2
          have h3 := ord_R.anti (l.getD j default).row (l.getD b default).row
          omega
        rw [s2] at he ⊢
        refine lessG_ok l f _ _ (mark_len _ _ _ hd) (by rw [← s2]; omega) (fun i j hi hj hij => ?_) ?_ (fun c hc j hj hjf => ?_) (fun k => ?_) (fun c hc => ?_) he
        · rw [mark_get _ _ _ _ hd hi, mark_get _ _ _ _ hd hj, hcl i j hi hj hij]
          congr 1
          exact decide_eq_decide.2 (ord_R.eq_l hij)
        · split
          · rename_i hz
            exact neat_app hn (fun c hc => hlt c hc b b2.1 b3) hz
          · exact hn
        · obtain ⟨d1, d2⟩ := hdone j hj hjf
          split at hc
          · rcases List.mem_append.1 hc with hc | hc
            · exact hlt c hc j hj d1
            · simp at hc; subst hc; exact d2
          · exact hlt c hc j hj d1
        · have hk := hs k
          rw [rest_mark (l.getD b default).row k l ds hd] at hk
          have hn1 : sumC (l.getD b default).row (rest l ds) = (sumF l b ds l.length).1 := by omega
          rw [hn1] at hk
          split
          · rw [sumC_app]; simp only [sumC, Int.add_zero]; omega
          · rename_i hz
            have hz' : (sumF l b ds l.length).1 = 0 := by simpa using hz
            rw [hz'] at hk
            split at hk <;> omega
        · split at hc
          · rcases List.mem_append.1 hc with hc | hc
            · exact hm c hc
            · simp at hc; subst hc
              refine ⟨l.getD b default, ?_, rfl⟩
              rw [List.getD_eq_getElem?_getD, List.getElem?_eq_getElem b2.1]; exact List.getElem_mem _
          · exact hm c hc
      · rw [if_pos hs0] at he; exact absurd (show (60 : Int) = 0 from he) (by decide)
/-- What is left of a list, where no sum is too great. -/
theorem lessC_ok {l : List Count} (h : (lessC l).2 = 0) : Neat (lessC l).1 ∧ (∀ k, sumC k (lessC l).1 = sumC k l) ∧ ∀ c ∈ (lessC l).1, ∃ d ∈ l, d.row = c.row := by
  unfold lessC at h ⊢
  refine lessG_ok l _ _ [] (by simp) (by unfold freeN; simp) (fun i j hi hj _ => by simp [List.getD_eq_getElem?_getD, hi, hj]) trivial (fun c hc => by simp at hc) (fun k => by rw [rest_all]; simp [sumC]) (fun c hc => by simp at hc) h
/-- Two lists that have the same of each row leave the same. -/
theorem lessC_same {a b : List Count} (ha : (lessC a).2 = 0) (hb : (lessC b).2 = 0) (h : ∀ k, sumC k a = sumC k b) : sameC (lessC a).1 (lessC b).1 = true := by
  obtain ⟨a1, a2, _⟩ := lessC_ok ha
  obtain ⟨b1, b2, _⟩ := lessC_ok hb
  exact neat_same _ _ a1 b1 fun k => by rw [a2, b2, h]
theorem lessG_len (l : List Count) : ∀ (f : Nat) (ds : List Bool) (acc : List Count), ds.length = l.length → freeN ds < f → (lessG l f ds acc).1.length ≤ acc.length + freeN ds
  | 0, _, _, _, hf => absurd hf (Nat.not_lt_zero _)
  | f + 1, ds, acc, hd, hf => by
    have b1 := bestF_lt l ds l.length
    have b3 := bestF_free l ds l.length
    rw [lessG]
    by_cases hb : bestF l ds l.length < 0
    · rw [if_pos hb]; exact Nat.le_add_right _ _
    · rw [if_neg hb]
      by_cases hs0 : (sumF l (bestF l ds l.length).toNat ds l.length).2.1 = 0
      · rw [if_neg (not_not_intro hs0)]
        have hless := sumF_less l (bestF l ds l.length).toNat ds (by omega) (b3 (by omega)) l.length (by omega) hs0
        refine Nat.le_trans (lessG_len l f _ _ (by rw [sumF_len]; exact hd) (Nat.lt_of_lt_of_le hless (Nat.le_of_lt_succ hf))) ?_
        split
        · rw [List.length_append, List.length_singleton]; omega
        · omega
      · rw [if_pos hs0]; exact Nat.zero_le _
theorem lessC_len (l : List Count) : (lessC l).1.length ≤ l.length := by
  have := lessG_len l (l.length + 1) (List.replicate l.length false) [] (by simp) (by unfold freeN; simp)
  unfold lessC
  have h2 : freeN (List.replicate l.length false) = l.length := by unfold freeN; simp
  rw [h2] at this; simpa using this
end Go.V
