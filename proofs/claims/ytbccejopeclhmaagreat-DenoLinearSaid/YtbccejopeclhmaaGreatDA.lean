import Derived.Test.YtbccejopeclhmaaGreatLR
import Derived.Test.YtbccejopeclhmaaGreatGF
namespace Go.V
open Go Go.RowKit Go.Proofs
set_option maxRecDepth 100000
set_option maxHeartbeats 4000000
set_option linter.unusedVariables false
set_option linter.unusedSimpArgs false
/-- Row by row, till one goes wrong. -/
def eachF (f : Count → List Count × Int) : List Count → List Count → List Count × Int
  | [], acc => (acc, 0)
  | c :: l, acc => if (f c).2 = 0 then eachF f l (acc ++ (f c).1) else ([], (f c).2)
theorem rowsA_each (n : Node) : ∀ l a : List Count, rowsA n l a = eachF (rowN n) l a
  | [], a => rfl
  | c :: l, a => by
    rw [rowsA, eachF]
    split
    · exact rowsA_each n l _
    · rfl
def joinQ (key : Int) (x y : Count) : List Count × Int :=
  if orderR (x.row.take key.toNat) (y.row.take key.toNat) = 0 then ([⟨x.row ++ y.row.drop key.toNat, (over (x.diff * y.diff)).1⟩], (over (x.diff * y.diff)).2) else ([], 0)
def badK (key : Int) (c : Count) : Bool := decide (key < 0) || decide ((c.row.length : Int) < key)
def joinD (key : Int) (a b : List Count) : List Count × Int :=
  if (a ++ b).any (badK key) = true then ([], 9) else eachF (fun x => eachF (joinQ key x) b []) a []
def askedD (kind : Int) (m : Nat) : Bool := if kind = 4 then decide (1 ≤ m ∧ m ≤ 8) else if kind = 15 then decide (m = 2) else decide (m = 1)
def lessAll : List (List Count) → List (List Count) → List (List Count) × Int
  | [], acc => (acc, 0)
  | l :: ls, acc => if (lessC l).2 = 0 then lessAll ls (acc ++ [(lessC l).1]) else ([], (lessC l).2)
/-- What a node makes. -/
def makeD (n : Node) (all : List (List Count)) : List Count × Int :=
  if 9 ≤ n.kind ∧ n.kind ≤ 14 then makeG (n.kind - 9) n.key n.n (all.getD 0 default)
  else if n.kind = 15 then (if (joinD n.key (all.getD 0 default) (all.getD 1 default)).2 = 0 then lessC (joinD n.key (all.getD 0 default) (all.getD 1 default)).1 else ([], (joinD n.key (all.getD 0 default) (all.getD 1 default)).2))
  else if (eachF (rowN n) all.flatten []).2 = 0 then lessC (eachF (rowN n) all.flatten []).1 else ([], (eachF (rowN n) all.flatten []).2)
def nodeD (n : Node) (ins : List (List Count)) : List Count × Int :=
  if n.kind ≤ 0 ∨ 16 ≤ n.kind then ([], 8)
  else if askedD n.kind ins.length = false ∨ n.kind = 2 ∧ n.exprs.length ≠ 1 then ([], 1)
  else if (lessAll ins []).2 = 0 then makeD n (lessAll ins []).1 else ([], (lessAll ins []).2)
theorem eachF_len {f : Count → List Count × Int} {B : Nat} (hf : ∀ c, (f c).1.length ≤ B) : ∀ (l a : List Count), (eachF f l a).1.length ≤ a.length + l.length * B
  | [], a => by simp [eachF]
  | c :: l, a => by
    rw [eachF]
    split
    · have := eachF_len hf l (a ++ (f c).1)
      have := hf c
      rw [List.length_append] at *
      rw [List.length_cons, Nat.add_mul, Nat.one_mul]
      omega
    · simp
theorem eachF_sum {f : Count → List Count × Int} {g : List Val → Int} {k : List Val} (hf : ∀ c, (f c).2 = 0 → sumC k (f c).1 = c.diff * g c.row) : ∀ (L a : List Count), (eachF f L a).2 = 0 → sumC k (eachF f L a).1 = sumC k a + wsum g L
  | [], a, _ => by simp [eachF, wsum]
  | c :: L, a, h => by
    rw [eachF] at h ⊢
    split at h
    · rename_i h0
      rw [if_pos h0, eachF_sum hf L _ h, sumC_app, hf c h0, wsum, Int.add_assoc]
    · rename_i h0; exact absurd h h0
theorem orderR_take : ∀ {r r' : List Val} (n : Nat), orderR r r' = 0 → orderR (r.take n) (r'.take n) = 0
  | [], [], n, _ => by simp [orderR]
  | [], b :: r', n, h => by have := orderR_len h; simp at this
  | a :: r, [], n, h => by have := orderR_len h; simp at this
  | a :: r, b :: r', 0, h => by simp [orderR]
  | a :: r, b :: r', n + 1, h => by
    rw [orderR] at h
    rw [List.take_succ_cons, List.take_succ_cons, orderR]
    split at h
    · rename_i h0; exact absurd h h0
    · rename_i h0
      rw [if_neg h0]
      exact orderR_take n h
/-- What one row makes in a join with b, of a key k. -/
def gJ (key : Int) (b : List Count) (k r : List Val) : Int := wsum (fun r' => if orderR (r.take key.toNat) (r'.take key.toNat) = 0 then ind k (r ++ r'.drop key.toNat) else 0) b
theorem wsum_ext {g g' : List Val → Int} (h : ∀ r, g r = g' r) : ∀ l : List Count, wsum g l = wsum g' l := fun l => by rw [funext h]
theorem gJ_same (key : Int) (b : List Count) (k : List Val) {r r' : List Val} (h : orderR r r' = 0) : gJ key b k r = gJ key b k r' := by
  refine wsum_ext (fun y => ?_) b
  have h1 := orderR_take key.toNat h
  by_cases h2 : orderR (r.take key.toNat) (y.take key.toNat) = 0
  · rw [if_pos h2, if_pos (ord_R.eq_tr (ord_R.sym h1) h2)]
    exact ind_same (orderR_app h (ord_R.self _))
  · rw [if_neg h2, if_neg (fun h3 => h2 (ord_R.eq_tr h1 h3))]
theorem wsum_mul (d : Int) (g : List Val → Int) : ∀ l : List Count, wsum (fun r => d * g r) l = d * wsum g l
  | [] => by simp [wsum]
  | c :: l => by rw [wsum, wsum, wsum_mul d g l, Int.mul_add, Int.mul_left_comm]
theorem join_in (key : Int) (x : Count) (b : List Count) (k : List Val) (h : (eachF (joinQ key x) b []).2 = 0) : sumC k (eachF (joinQ key x) b []).1 = x.diff * gJ key b k x.row := by
  have hs := eachF_sum (f := joinQ key x) (k := k) (g := fun r' => x.diff * if orderR (x.row.take key.toNat) (r'.take key.toNat) = 0 then ind k (x.row ++ r'.drop key.toNat) else 0) (fun c hc => by
    unfold joinQ at hc ⊢
    split
    · rename_i h0
      rw [if_pos h0] at hc
      rw [sumC_one, over_ok hc, Int.mul_comm x.diff c.diff, Int.mul_assoc]
    · simp [sumC]) b [] h
  rw [hs, wsum_mul]
  simp [sumC, gJ]
def linF (n : Node) (c : List Count) (k r : List Val) : Int := if n.kind = 15 then gJ n.key (lessC c).1 k r else tot n k r
theorem linF_same (n : Node) (c : List Count) (k r r' : List Val) (h : orderR r r' = 0) : linF n c k r = linF n c k r' := by
  unfold linF
  split
  · exact gJ_same _ _ _ h
  · exact tot_same n k r r' h
def insD (n : Node) (l c : List Count) : List (List Count) := if n.kind = 15 then [l, c] else [l]
theorem node_sum {n : Node} {l c : List Count} (hg : ¬ (9 ≤ n.kind ∧ n.kind ≤ 14)) (h : (nodeD n (insD n l c)).2 = 0) : Neat (nodeD n (insD n l c)).1 ∧ ∀ k, sumC k (nodeD n (insD n l c)).1 = wsum (linF n c k) l := by
  unfold nodeD at h ⊢
  split at h
  · simp at h
  rename_i h1
  rw [if_neg h1]
  split at h
  · simp at h
  rename_i h2
  rw [if_neg h2]
  split at h
  · rename_i h3
    rw [if_pos h3]
    unfold makeD at h ⊢
    rw [if_neg hg] at h ⊢
    by_cases hj : n.kind = 15
    · have e0 : insD n l c = [l, c] := if_pos hj
      rw [e0] at h h3 ⊢
      simp only [lessAll] at h3
      by_cases ha : (lessC l).2 = 0
      · by_cases hc : (lessC c).2 = 0
        · have e : (lessAll [l, c] []).1 = [(lessC l).1, (lessC c).1] := by simp [lessAll, ha, hc]
          rw [e] at h ⊢
          rw [if_pos hj] at h ⊢
          simp only [List.getD_cons_zero, List.getD_cons_succ] at h ⊢
          split at h
          · rename_i h4
            rw [if_pos h4]
            obtain ⟨q1, q2, _⟩ := lessC_ok h
            refine ⟨q1, fun k => ?_⟩
            rw [q2 k]
            unfold joinD at h4 ⊢
            split at h4
            · simp at h4
            rename_i h5
            rw [if_neg h5]
            have hs := eachF_sum (g := gJ n.key (lessC c).1 k) (k := k) (fun x hx => join_in n.key x (lessC c).1 k hx) (lessC l).1 [] h4
            rw [hs]
            obtain ⟨_, p2, _⟩ := lessC_ok ha
            rw [wsum_same (fun r r' hr => gJ_same n.key (lessC c).1 k hr) p2]
            have e2 : linF n c k = gJ n.key (lessC c).1 k := funext fun r => by unfold linF; rw [if_pos hj]
            rw [e2]; simp [sumC]
          · rename_i h4; exact absurd h h4
        · simp [ha, hc] at h3
      · simp [ha] at h3
    · have e0 : insD n l c = [l] := if_neg hj
      rw [e0] at h h3 ⊢
      simp only [lessAll] at h3
      by_cases ha : (lessC l).2 = 0
      · have e : (lessAll [l] []).1 = [(lessC l).1] := by simp [lessAll, ha]
        rw [e] at h ⊢
        rw [if_neg hj] at h ⊢
        simp only [List.flatten_cons, List.flatten_nil, List.append_nil] at h ⊢
        split at h
        · rename_i h4
          rw [if_pos h4]
          obtain ⟨q1, q2, _⟩ := lessC_ok h
          refine ⟨q1, fun k => ?_⟩
          rw [q2 k]
          have hs := eachF_sum (g := tot n k) (k := k) (fun x hx => rowN_tot k hx) (lessC l).1 [] h4
          rw [hs]
          obtain ⟨_, p2, _⟩ := lessC_ok ha
          rw [wsum_same (tot_same n k) p2]
          have e2 : linF n c k = tot n k := funext fun r => by unfold linF; rw [if_neg hj]
          rw [e2]; simp [sumC]
        · rename_i h4; exact absurd h h4
      · simp [ha] at h3
  · rename_i h3; exact absurd h h3
theorem denoLinear_law {n : Node} {a b c : List Count} (hg : ¬ (9 ≤ n.kind ∧ n.kind ≤ 14)) (hx : (nodeD n (insD n a c)).2 = 0) (hy : (nodeD n (insD n b c)).2 = 0) (hz : (nodeD n (insD n (a ++ b) c)).2 = 0)
    (hs : (lessC ((nodeD n (insD n a c)).1 ++ (nodeD n (insD n b c)).1)).2 = 0) : sameC (lessC ((nodeD n (insD n a c)).1 ++ (nodeD n (insD n b c)).1)).1 (nodeD n (insD n (a ++ b) c)).1 = true := by
  obtain ⟨_, x2⟩ := node_sum hg hx
  obtain ⟨_, y2⟩ := node_sum hg hy
  obtain ⟨z1, z2⟩ := node_sum hg hz
  obtain ⟨s1, s2, _⟩ := lessC_ok hs
  refine neat_same _ _ s1 z1 fun k => ?_
  rw [s2 k, sumC_app, x2 k, y2 k, z2 k, wsum_app]
end Go.V
