import Derived.Test.YtbccejopeclhmaaGreatDC
import Derived.Test.YtbccejopeclhmaaGreatPJ0
namespace Go.V
open Go Go.RowKit Go.Proofs
set_option maxRecDepth 100000
set_option maxHeartbeats 4000000
set_option linter.unusedVariables false
set_option linter.unusedSimpArgs false
theorem mk1 (n : Node) (l : List Count) (hr : ∀ c ∈ l, c.row.length ≤ 1000000) (hk : n.kind = 1) (hx : n.exprs.length ≤ 1000000) : Maker 151 [.cad [.sl (n.exprs.map eE)]] (rowN n) l := fun c hc Q h h0 => by
  have e : rowN n c = mapR n.exprs c := by unfold rowN mapR; rw [if_pos hk]
  rw [e] at h h0
  exact deno_mapped1 c n.exprs Q (hr c hc) hx h h0
theorem mk2 (n : Node) (l : List Count) (hr : ∀ c ∈ l, c.row.length ≤ 1000000) (hk : n.kind = 2) (hx : n.exprs.length = 1) : Maker 107 [.cad [vi n.kind, .sl (n.ins.map eI), .sl (n.kinds.map eI), .sl (n.exprs.map eE), .sl (n.cols.map eI), vi n.key, vi n.n, vi n.size, vi n.slide]] (rowN n) l := fun c hc Q h h0 => deno_lin1 c n Q (hr c hc) hk hx h h0
theorem mk3 (n : Node) (l : List Count) (hr : ∀ c ∈ l, c.row.length ≤ 1000000) (hk : n.kind = 3) (hx : n.cols.length ≤ 1000000) : Maker 110 [.cad [vi n.kind, .sl (n.ins.map eI), .sl (n.kinds.map eI), .sl (n.exprs.map eE), .sl (n.cols.map eI), vi n.key, vi n.n, vi n.size, vi n.slide]] (rowN n) l := fun c hc Q h h0 => deno_lin2 c n Q (hr c hc) hk hx h h0
theorem mk5 (n : Node) (l : List Count) (hr : ∀ c ∈ l, c.row.length ≤ 1000000) (hk : n.kind = 5) : Maker 112 [] (rowN n) l := fun c hc Q h h0 => deno_lin3 c n Q (hr c hc) hk h h0
theorem mk7 (n : Node) (l : List Count) (hr : ∀ c ∈ l, c.row.length ≤ 1000000) (hk : n.kind = 7) : Maker 114 [.cad [vi n.kind, .sl (n.ins.map eI), .sl (n.kinds.map eI), .sl (n.exprs.map eE), .sl (n.cols.map eI), vi n.key, vi n.n, vi n.size, vi n.slide]] (rowN n) l := fun c hc Q h h0 => deno_lin4 c n Q (hr c hc) hk h h0
theorem mk0 (n : Node) (l : List Count) (hr : ∀ c ∈ l, c.row.length ≤ 1000000) (h1 : n.kind ≠ 1) (h2 : n.kind ≠ 2) (h3 : n.kind ≠ 3) (h5 : n.kind ≠ 5) (h7 : n.kind ≠ 7) : Maker 116 [] (rowN n) l := fun c hc Q h h0 => by
  have e : rowN n c = ([c], 0) := by unfold rowN; rw [if_neg h1, if_neg h2, if_neg h3, if_neg h5, if_neg h7]
  rw [e] at h h0
  exact deno_lin5 c Q (hr c hc) (h rfl)
theorem mapA_len (r : List Val) : ∀ (l : List (List Term)) (a : List Val), (mapA r l a).1.length ≤ a.length + l.length
  | [], a => by simp [mapA]
  | x :: l, a => by
    rw [mapA]
    split
    · have := mapA_len r l (a ++ [(evalE x r).1])
      rw [List.length_append, List.length_singleton] at this
      rw [List.length_cons]; omega
    · simp
theorem partA_len (r : List Val) : ∀ (l : List Int) (a : List Val), (partA r l a).1.length ≤ a.length + l.length
  | [], a => by simp [partA]
  | c :: l, a => by
    rw [partA]
    split
    · simp
    · have := partA_len r l (a ++ [r.getD c.toNat default])
      rw [List.length_append, List.length_singleton] at this
      rw [List.length_cons]; omega
theorem rowN_row {n : Node} {c d : Count} {B : Nat} (hx : n.exprs.length ≤ B) (hc : n.cols.length ≤ B) (hr : c.row.length ≤ B) (h : d ∈ (rowN n c).1) : d.row.length ≤ B + 1 := by
  unfold rowN at h
  split at h
  · have := mapA_len c.row n.exprs []
    rw [List.mem_singleton] at h; subst h
    simp at this ⊢; omega
  split at h
  · split at h
    · cases h
    split at h
    · rw [List.mem_singleton] at h; subst h; omega
    · cases h
  split at h
  · have := partA_len c.row n.cols []
    rw [List.mem_singleton] at h; subst h
    simp at this ⊢; omega
  split at h
  · rw [List.mem_singleton] at h; subst h; simp; omega
  split at h
  · obtain ⟨r, hr2, rfl⟩ := List.mem_map.1 h
    unfold assignW at hr2
    (repeat' split at hr2) <;> try cases hr2
    obtain ⟨x, _, rfl⟩ := List.mem_map.1 hr2
    rw [List.length_append]; simp; omega
  · rw [List.mem_singleton] at h; subst h; omega
theorem eachF_mem {f : Count → List Count × Int} {d : Count} : ∀ (l a : List Count), d ∈ (eachF f l a).1 → d ∈ a ∨ ∃ c ∈ l, d ∈ (f c).1
  | [], a, h => .inl h
  | c :: l, a, h => by
    rw [eachF] at h
    split at h
    · rcases eachF_mem l _ h with h | ⟨c', hc', h⟩
      · rcases List.mem_append.1 h with h | h
        · exact .inl h
        · exact .inr ⟨c, List.mem_cons_self, h⟩
      · exact .inr ⟨c', List.mem_cons_of_mem _ hc', h⟩
    · cases h
theorem joinQ_row {key : Int} {x y d : Count} {B : Nat} (hx : x.row.length ≤ B) (hy : y.row.length ≤ B) (h : d ∈ (joinQ key x y).1) : d.row.length ≤ B + B := by
  unfold joinQ at h
  split at h
  · rw [List.mem_singleton] at h; subst h
    rw [List.length_append, List.length_drop]; omega
  · cases h
theorem joinD_ok {key : Int} {a b : List Count} {B : Nat} (ha : ∀ c ∈ a, c.row.length ≤ B) (hb : ∀ c ∈ b, c.row.length ≤ B) : (joinD key a b).1.length ≤ a.length * b.length ∧ ∀ c ∈ (joinD key a b).1, c.row.length ≤ B + B := by
  unfold joinD
  split
  · exact ⟨Nat.zero_le _, fun c hc => by cases hc⟩
  · refine ⟨by have := eachF_len (f := fun x => eachF (joinQ key x) b []) (B := b.length) (fun x => by have := eachF_len (joinQ_len key x) b []; simpa using this) a []; simpa using this, fun c hc => ?_⟩
    rcases eachF_mem a [] hc with h | ⟨x, hx, h⟩
    · cases h
    rcases eachF_mem b [] h with h | ⟨y, hy, h⟩
    · cases h
    · exact joinQ_row (ha x hx) (hb y hy) h
abbrev Slim (B R : Nat) (l : List Count) : Prop := l.length ≤ B ∧ ∀ c ∈ l, c.row.length ≤ R
theorem flat_fine {B R : Nat} : ∀ ls : List (List Count), (∀ l ∈ ls, Slim B R l) → ls.flatten.length ≤ ls.length * B ∧ ∀ c ∈ ls.flatten, c.row.length ≤ R
  | [], _ => by simp
  | l :: ls, h => by
    obtain ⟨h1, h2⟩ := flat_fine ls fun x hx => h x (List.mem_cons_of_mem _ hx)
    obtain ⟨h3, h4⟩ := h l List.mem_cons_self
    rw [List.flatten_cons, List.length_append, List.length_cons, Nat.add_mul, Nat.one_mul]
    exact ⟨by omega, fun c hc => (List.mem_append.1 hc).elim (h4 c) (h2 c)⟩
theorem lessC_fine {B R : Nat} {l : List Count} (h : Slim B R l) (h0 : (lessC l).2 = 0) : Slim B R (lessC l).1 := ⟨Nat.le_trans (lessC_len l) h.1, fun c hc => by
  obtain ⟨d, hd, e⟩ := (lessC_ok h0).2.2 c hc
  rw [← e]; exact h.2 d hd⟩
theorem nodeD_1 {n : Node} {ins : List (List Count)} (h1 : ¬ (n.kind ≤ 0 ∨ 16 ≤ n.kind)) (h2 : askedD n.kind ins.length = true) (h3 : n.kind ≠ 2 ∨ n.exprs.length = 1) : nodeD n ins = if (lessAll ins []).2 = 0 then makeD n (lessAll ins []).1 else ([], (lessAll ins []).2) := by
  rw [nodeD, if_neg h1, if_neg (by rw [h2]; intro hh; rcases hh with hh | hh; cases hh; omega)]
theorem asked_len {k : Int} {m : Nat} (h : askedD k m = true) : 1 ≤ m ∧ m ≤ 8 ∧ (k = 15 → m = 2) := by
  unfold askedD at h
  split at h
  · have := of_decide_eq_true h; omega
  split at h
  · have := of_decide_eq_true h; omega
  · have := of_decide_eq_true h; omega
theorem deno_Node (n : Node) (ins : List (List Count)) (Q : PV → Mem → Prop) (hx0 : n.exprs.length ≤ 1000) (hc0 : n.cols.length ≤ 1000) (hil : ins.length ≤ 100000) (hl : ∀ l ∈ ins, l.length ≤ 1000) (hr : ∀ l ∈ ins, ∀ c ∈ l, c.row.length ≤ 1000) (h : Q (.tup [.own 0, vi (nodeD n ins).2]) [.row 61 ((nodeD n ins).1.map eC)]) : Does Tryz.prog 17 [.agg [vi n.kind, .sl (n.ins.map eI), .sl (n.kinds.map eI), .sl (n.exprs.map eE), .sl (n.cols.map eI), vi n.key, vi n.n, vi n.size, vi n.slide], .sl (ins.map eL)] [] 0 Q := by
  refine does_ofT mixed Tryz.func17 rfl (treesT [(22, (.one 0 (.alt (.one 1 (.one 2 (.one 3 (.one 4 (.one 5 (.one 6 (.one 7 (.one 8 (.one 9 .nil))))))))) (.one 2 (.one 1 (.one 3 (.one 4 (.one 5 (.one 6 (.one 7 (.one 8 (.one 9 .nil)))))))))), [13, 14]))]) (by kernel_rfl) no (slots [(1, [2, 6, 39, 40, 41])]) ?_
  simp only [Tryz.f17]
  repeat' (first
    | simp -implicitDefEqProofs only [go_sem, eN, eE, eL, Nat.reduceAdd, Nat.reduceEqDiff, Nat.reduceLT, Nat.reduceBEq, Nat.reduceLeDiff, Nat.reduceSub, Int.reduceLE, Int.reduceNeg, Int.reduceEq, Int.reduceToNat]
    | with_reducible refine know_of fun _ => ?_
    | (with_reducible refine does_then (deno_asked n _ _ ?_))
    | with_reducible refine ifD1 (by omega) ?_
    | with_reducible refine ifD0 (by omega) ?_
    | with_reducible refine ifE1 (by omega) ?_
    | with_reducible refine ifE0 (by omega) ?_
    | with_reducible refine ifN1 (by omega) ?_
    | with_reducible refine ifN0 (by omega) ?_
    | with_reducible refine ifD_of (fun _ => ?_) (fun _ => ?_)
    | with_reducible refine ifE_of (fun _ => ?_) (fun _ => ?_)
    | with_reducible refine ifN_of (fun _ => ?_) (fun _ => ?_)
    | with_reducible refine Go.V.if1 (by assumption) ?_
    | with_reducible refine Go.V.if0 (by assumption) ?_
    | with_reducible refine if_of (fun _ => ?_) (fun _ => ?_)
    | with_reducible refine s_of (idx_get _ _ _ (by omega) (by omega)) ?_
    | with_reducible refine s_of (idx_get _ _ _ (by omega) (by simp only [List.length_set, List.length_append, List.length_take, List.length_drop, List.length_reverse, List.length_singleton]; omega)) ?_
    | with_reducible refine s_of (map_get _ _ _ (by omega)) ?_
    | with_reducible refine s_of (map_get _ _ _ (by simp only [List.length_set]; omega)) ?_
    | with_reducible refine s_of (if_neg (by omega)) ?_
    | with_reducible refine s_of (if_pos (by omega)) ?_
    | with_reducible refine need_of (by omega) ?_
    | with_reducible refine nil_of (fun _ => ?_) ?_
    | with_reducible refine alt_of ?_ ?_
    | (with_reducible apply join_of; intro _ _)
    | with_reducible assumption)
  · rw [nodeD, if_pos (by omega)] at h; exact h
  · rw [nodeD, if_pos (by omega)] at h; exact h
  · rw [nodeD, if_neg (by omega), if_pos (.inr ⟨by assumption, by omega⟩)] at h; exact h
  rotate_right
  · rw [nodeD, if_neg (by omega), if_pos (.inl (by assumption))] at h; exact h
  all_goals have hx1 : n.kind ≠ 2 ∨ n.exprs.length = 1 := by omega
  all_goals have hask : askedD n.kind ins.length = true := by assumption
  all_goals rw [nodeD_1 (by omega) hask hx1] at h
  all_goals (
    obtain ⟨a1, a8, a15⟩ := asked_len hask
    refine loop_then (loop_ind (σ := List (List Count) × Nat) (fun s => [(2, .adr 0 0), (6, .own 1), (39, .sl (ins.map eL)), (40, vi ins.length), (41, vi s.2)]) (fun s => [.var [vi n.kind, .sl (n.ins.map eI), .sl (n.kinds.map eI), .sl (n.exprs.map eE), .sl (n.cols.map eI), vi n.key, vi n.n, vi n.size, vi n.slide], .row 26 (s.1.map eL)]) (fun s => ins.length - s.2) (fun s => s.2 ≤ ins.length ∧ s.1.length = s.2 ∧ (∀ l ∈ s.1, Slim 1000 1000 l) ∧ lessAll (ins.drop s.2) s.1 = lessAll ins []) ?_ ([], 0) ⟨Nat.zero_le _, rfl, (fun l hl => absurd hl (by simp)), rfl⟩)
    rintro X ⟨acc, i⟩ ⟨hi, hal, hfa, he⟩ ih
    try dsimp only at ih ⊢
    dsimp only at hi hal hfa he
    have hli : i < ins.length → Slim 1000 1000 (ins.getD i default) := fun hh => ⟨hl _ (getD_mem' ins i hh), hr _ (getD_mem' ins i hh)⟩
    repeat' (first
      | simp -implicitDefEqProofs only [go_sem, eL, eN, eE, Int.toNat_natCast, Nat.reduceAdd, Nat.reduceEqDiff, Nat.reduceLT, Nat.reduceBEq, Nat.reduceLeDiff, Nat.reduceSub, Int.reduceLE, Int.reduceNeg, Int.reduceEq, Int.reduceToNat]
      | with_reducible refine know_of fun _ => ?_
      | (with_reducible refine does_then (zset_LessC _ _ (by have := (hli (by omega)).1; omega) (fun c hc => by have := (hli (by omega)).2 c hc; omega) ?_))
      | with_reducible refine ifD1 (by omega) ?_
      | with_reducible refine ifD0 (by omega) ?_
      | with_reducible refine ifE1 (by omega) ?_
      | with_reducible refine ifE0 (by omega) ?_
      | with_reducible refine ifN1 (by omega) ?_
      | with_reducible refine ifN0 (by omega) ?_
      | with_reducible refine ifD_of (fun _ => ?_) (fun _ => ?_)
      | with_reducible refine ifE_of (fun _ => ?_) (fun _ => ?_)
      | with_reducible refine ifN_of (fun _ => ?_) (fun _ => ?_)
      | with_reducible refine Go.V.if1 (by assumption) ?_
      | with_reducible refine Go.V.if0 (by assumption) ?_
      | with_reducible refine if_of (fun _ => ?_) (fun _ => ?_)
      | with_reducible refine s_of (idx_get _ _ _ (by omega) (by omega)) ?_
      | with_reducible refine s_of (idx_get _ _ _ (by omega) (by simp only [List.length_set, List.length_append, List.length_take, List.length_drop, List.length_reverse, List.length_singleton]; omega)) ?_
      | with_reducible refine s_of (map_get _ _ _ (by omega)) ?_
      | with_reducible refine s_of (map_get _ _ _ (by simp only [List.length_set]; omega)) ?_
      | with_reducible refine s_of (if_neg (by omega)) ?_
      | with_reducible refine s_of (if_pos (by omega)) ?_
      | with_reducible refine need_of (by omega) ?_
      | with_reducible refine nil_of (fun _ => ?_) ?_
      | with_reducible refine alt_of ?_ ?_
      | (with_reducible apply join_of; intro _ _)
      | with_reducible assumption)
    · rename_i hz
      rw [drop_getD ins i (by omega), lessAll, if_neg hz] at he
      rw [← he, if_neg hz] at h; exact h
    · rename_i hz _
      rw [drop_getD ins i (by omega), lessAll, if_pos hz] at he
      rw [wnat i (by omega)]
      have hi1 := ih (acc ++ [(lessC (ins.getD i default)).1], i + 1) (by dsimp only; omega) ⟨by dsimp only; omega, by dsimp only; rw [List.length_append, List.length_singleton]; omega, fun l hl => (List.mem_append.1 hl).elim (hfa l) fun hl => by rw [List.mem_singleton.1 hl]; exact lessC_fine (hli (by omega)) hz, he⟩
      dsimp only at hi1
      rw [List.map_append] at hi1
      exact hi1
    rw [List.drop_eq_nil_of_le (by omega), lessAll] at he
    rw [← he, if_pos rfl] at h
    obtain ⟨f1, f2⟩ := flat_fine acc hfa
    have hsum : sumL acc acc.length = acc.flatten.length := by rw [← catL_len]; unfold catL; rw [List.take_length]
    have hget : ∀ k, Slim 1000 1000 (acc.getD k default) := fun k => by
      by_cases hk : k < acc.length
      · exact hfa _ (getD_mem' acc k hk)
      · rw [List.getD_eq_getElem?_getD, List.getElem?_eq_none (by omega)]; exact ⟨Nat.zero_le _, fun c hc => absurd hc (by simp [default])⟩
    obtain ⟨g00, g01⟩ := hget 0
    obtain ⟨g10, g11⟩ := hget 1
    have hmul : (acc.getD 0 default).length * (acc.getD 1 default).length ≤ 1000000 := Nat.mul_le_mul g00 g10
    obtain ⟨j0, j1⟩ := joinD_ok (key := n.key) g01 g11
    have hfr : ∀ c ∈ acc.flatten, c.row.length ≤ 1000000 := fun c hc => by have := f2 c hc; omega
    have el := eachF_len (rowN_len n) acc.flatten []
    have er : ∀ c ∈ (eachF (rowN n) acc.flatten []).1, c.row.length ≤ 1000000 := fun c hc => by
      rcases eachF_mem _ _ hc with hc | ⟨x, hx, hc⟩
      · cases hc
      · have := rowN_row hx0 hc0 (f2 x hx) hc; omega
    rw [List.length_nil, Nat.zero_add] at el
    repeat' (first
      | simp -implicitDefEqProofs only [go_sem, eL, eN, eE, Int.toNat_natCast, Int.toNat_zero, Nat.reduceAdd, Nat.reduceEqDiff, Nat.reduceLT, Nat.reduceBEq, Nat.reduceLeDiff, Nat.reduceSub, Int.reduceLE, Int.reduceNeg, Int.reduceEq, Int.reduceToNat]
      | with_reducible refine know_of fun _ => ?_
      | (with_reducible refine does_then (plan_Group n _ ?_))
      | (with_reducible refine does_then (group_Make _ _ _ _ _ (by omega) (fun c hc => by have := g01 c hc; omega) ?_))
      | (with_reducible refine does_then (deno_joined n.key _ _ _ (fun c hc => by have := g01 c hc; omega) (fun c hc => by have := g11 c hc; omega) (by omega) (by omega) (by omega) ?_))
      | (with_reducible refine does_then (concat_cnts acc _ (by omega) ?_))
      | (with_reducible refine does_then (deno_linear n _ (fun _ => ?_) (fun _ => ?_) (fun _ => ?_) (fun _ => ?_) (fun _ => ?_) (fun _ _ _ _ _ => ?_)))
      | (with_reducible refine does_then (deno_each1 acc.flatten _ _ (rowN n) 64 _ (mk1 n _ hfr (by assumption) (by omega)) (rowN_len n) (by omega) (by omega) ?_))
      | (with_reducible refine does_then (deno_each1 acc.flatten _ _ (rowN n) 64 _ (mk2 n _ hfr (by assumption) (by omega)) (rowN_len n) (by omega) (by omega) ?_))
      | (with_reducible refine does_then (deno_each1 acc.flatten _ _ (rowN n) 64 _ (mk3 n _ hfr (by assumption) (by omega)) (rowN_len n) (by omega) (by omega) ?_))
      | (with_reducible refine does_then (deno_each1 acc.flatten _ _ (rowN n) 64 _ (mk7 n _ hfr (by assumption)) (rowN_len n) (by omega) (by omega) ?_))
      | (with_reducible refine does_then (deno_each0 acc.flatten _ (rowN n) 64 _ (mk5 n _ hfr (by assumption)) (rowN_len n) (by omega) (by omega) ?_))
      | (with_reducible refine does_then (deno_each0 acc.flatten _ (rowN n) 64 _ (mk0 n _ hfr (by assumption) (by assumption) (by assumption) (by assumption) (by assumption)) (rowN_len n) (by omega) (by omega) ?_))
      | (with_reducible refine does_then (zset_LessC _ _ (by omega) (fun c hc => by have := j1 c hc; omega) ?_))
      | (with_reducible refine does_then (zset_LessC _ _ (by omega) er ?_))
      | with_reducible refine ifD1 (by omega) ?_
      | with_reducible refine ifD0 (by omega) ?_
      | with_reducible refine ifE1 (by omega) ?_
      | with_reducible refine ifE0 (by omega) ?_
      | with_reducible refine ifN1 (by omega) ?_
      | with_reducible refine ifN0 (by omega) ?_
      | with_reducible refine ifD_of (fun _ => ?_) (fun _ => ?_)
      | with_reducible refine ifE_of (fun _ => ?_) (fun _ => ?_)
      | with_reducible refine ifN_of (fun _ => ?_) (fun _ => ?_)
      | with_reducible refine Go.V.if1 (by assumption) ?_
      | with_reducible refine Go.V.if0 (by assumption) ?_
      | with_reducible refine if_of (fun _ => ?_) (fun _ => ?_)
      | with_reducible refine s_of (idx_get _ _ _ (by omega) (by omega)) ?_
      | with_reducible refine s_of (idx_get _ _ _ (by omega) (by simp only [List.length_set, List.length_append, List.length_take, List.length_drop, List.length_reverse, List.length_singleton]; omega)) ?_
      | with_reducible refine s_of (map_get _ _ _ (by omega)) ?_
      | with_reducible refine s_of (map_get _ _ _ (by simp only [List.length_set]; omega)) ?_
      | with_reducible refine s_of (if_neg (by omega)) ?_
      | with_reducible refine s_of (if_pos (by omega)) ?_
      | with_reducible refine need_of (by omega) ?_
      | with_reducible refine nil_of (fun _ => ?_) ?_
      | with_reducible refine alt_of ?_ ?_
      | (with_reducible apply join_of; intro _ _)
      | with_reducible assumption)
    all_goals unfold makeD at h
    all_goals first
      | (have hg := groupK_t (by assumption)
         rw [groupK_1 hg]; rw [if_pos hg] at h; exact h)
      | (have hg := groupK_f (by assumption)
         rw [if_neg hg, if_neg (by omega), if_pos (by assumption)] at h; exact h)
      | (have hg := groupK_f (by assumption)
         rw [if_neg hg, if_neg (by omega), if_neg (by assumption)] at h; exact h)
      | (have hg := groupK_f (by assumption)
         rw [if_neg hg, if_pos (by omega), if_pos (by assumption)] at h; exact h)
      | (have hg := groupK_f (by assumption)
         rw [if_neg hg, if_pos (by omega), if_neg (by assumption)] at h; exact h)
)
end Go.V
