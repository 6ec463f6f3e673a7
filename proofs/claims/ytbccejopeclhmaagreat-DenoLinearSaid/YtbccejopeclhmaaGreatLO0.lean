import Derived.Test.YtbccejopeclhmaaGreatLN
import Derived.Test.YtbccejopeclhmaaGreatLQ
namespace Go.V
open Go Go.RowKit Go.Proofs
set_option maxRecDepth 100000
set_option maxHeartbeats 4000000
set_option linter.unusedVariables false
set_option linter.unusedSimpArgs false
/-- What a node that is no join and no group makes of a row. -/
def rowN (n : Node) (c : Count) : List Count × Int :=
  if n.kind = 1 then ([⟨(mapA c.row n.exprs []).1, c.diff⟩], (mapA c.row n.exprs []).2)
  else if n.kind = 2 then (if (evalE (n.exprs.getD 0 default) c.row).2 ≠ 0 then ([], (evalE (n.exprs.getD 0 default) c.row).2) else if truthV (evalE (n.exprs.getD 0 default) c.row).1 = true then ([c], 0) else ([], 0))
  else if n.kind = 3 then ([⟨(partA c.row n.cols []).1, c.diff⟩], (partA c.row n.cols []).2)
  else if n.kind = 5 then ([⟨c.row, (over (0 - c.diff)).1⟩], (over (0 - c.diff)).2)
  else if n.kind = 7 then ((assignW c.row n.n n.size n.slide).1.map fun r => ⟨r, c.diff⟩, (assignW c.row n.n n.size n.slide).2)
  else ([c], 0)
def rowsA (n : Node) : List Count → List Count → List Count × Int
  | [], a => (a, 0)
  | c :: l, a => if (rowN n c).2 = 0 then rowsA n l (a ++ (rowN n c).1) else ([], (rowN n c).2)
def nodeN (n : Node) (l : List Count) : List Count × Int :=
  if n.kind = 2 ∧ n.exprs.length ≠ 1 then ([], 1) else if (lessC l).2 ≠ 0 then ([], (lessC l).2)
  else if (rowsA n (lessC l).1 []).2 ≠ 0 then ([], (rowsA n (lessC l).1 []).2) else lessC (rowsA n (lessC l).1 []).1
theorem idx_o1 (x : List PV) : idx [x] ((0 : Nat) : Int) = some x := rfl
theorem idx_o2 (x : List PV) : idx [x] 0 = some x := rfl
theorem truth_f1 {v : Val} (h : v.kind ≠ 0) : ¬ truthV v = true := by unfold truthV; simp [h]
theorem truth_f2 {v : Val} (h : v.int = 0) : ¬ truthV v = true := by unfold truthV; simp [h]
theorem truth_t {v : Val} (h : v.kind = 0) (h1 : v.int ≠ 0) : truthV v = true := by unfold truthV; simp [h, h1]
theorem rowN_len (n : Node) (c : Count) : (rowN n c).1.length ≤ 64 := by
  unfold rowN
  (repeat' split) <;> first | exact Nat.zero_le _ | exact (by decide : (1 : Nat) ≤ 64) | (rw [List.length_map]; exact assign_len)
theorem rowsA_len (n : Node) : ∀ (l a : List Count), (rowsA n l a).1.length ≤ a.length + 64 * l.length
  | [], a => by rw [rowsA]; exact Nat.le_add_right _ _
  | c :: l, a => by
    rw [rowsA]
    have h1 := rowN_len n c
    split
    · refine Nat.le_trans (rowsA_len n l _) ?_
      rw [List.length_append, List.length_cons]; omega
    · exact Nat.zero_le _
theorem takeCR (R : List (List Val)) (d : Int) (i : Nat) (h : i < R.length) : ((R.take i).map fun r => eC ⟨r, d⟩) ++ [[.sl ((R.getD i default).map eV), vi d]] = (R.take (i + 1)).map fun r => eC ⟨r, d⟩ := takeS (fun r => eC ⟨r, d⟩) R i h
theorem lessC_rows {l : List Count} (h : (lessC l).2 = 0) (hr : ∀ c ∈ l, c.row.length ≤ 1000000) : ∀ c ∈ (lessC l).1, c.row.length ≤ 1000000 := fun c hc => by
  obtain ⟨d, hd, e⟩ := (lessC_ok h).2.2 c hc
  rw [← e]; exact hr d hd
end Go.V
