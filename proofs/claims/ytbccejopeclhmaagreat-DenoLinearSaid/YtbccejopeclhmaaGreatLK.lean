import Derived.Test.YtbccejopeclhmaaGreatLI
import Derived.Test.YtbccejopeclhmaaGreatLJ
import Derived.Test.YtbccejopeclhmaaGreatLD
namespace Go.V
open Go Go.RowKit Go.Proofs
set_option maxRecDepth 100000
set_option maxHeartbeats 4000000
set_option linter.unusedVariables false
set_option linter.unusedSimpArgs false
def mapA (r : List Val) : List (List Term) → List Val → List Val × Int
  | [], a => (a, 0)
  | x :: l, a => if (evalE x r).2 = 0 then mapA r l (a ++ [(evalE x r).1]) else ([], (evalE x r).2)
/-- What a linear node makes of a change. -/
def linV (n : Node) (u : Up) : List Up × Int :=
  if n.kind = 1 then (if (mapA u.row n.exprs []).2 = 0 then ([⟨(mapA u.row n.exprs []).1, u.time, u.diff⟩], 0) else ([], (mapA u.row n.exprs []).2))
  else if n.kind = 2 then (if n.exprs.length ≠ 1 then ([], 1) else if (evalE (n.exprs.getD 0 default) u.row).2 ≠ 0 then ([], (evalE (n.exprs.getD 0 default) u.row).2) else if truthV (evalE (n.exprs.getD 0 default) u.row).1 = true then ([u], 0) else ([], 0))
  else if n.kind = 3 then (if (partA u.row n.cols []).2 = 0 then ([⟨(partA u.row n.cols []).1, u.time, u.diff⟩], 0) else ([], (partA u.row n.cols []).2))
  else if n.kind = 4 then ([u], 0)
  else if n.kind = 5 then (if (over (0 - u.diff)).2 = 0 then ([⟨u.row, u.time, (over (0 - u.diff)).1⟩], 0) else ([], (over (0 - u.diff)).2))
  else if n.kind = 7 then (if (assignW u.row n.n n.size n.slide).2 = 0 then ((assignW u.row n.n n.size n.slide).1.map fun r => ⟨r, u.time, u.diff⟩, 0) else ([], (assignW u.row n.n n.size n.slide).2))
  else ([], 8)
def linA (n : Node) : List Up → List Up → List Up × Int
  | [], a => (a, 0)
  | u :: l, a => if (linV n u).2 = 0 then linA n l (a ++ (linV n u).1) else ([], (linV n u).2)
theorem takeU (R : List (List Val)) (u : Up) (i : Nat) (h : i < R.length) : ((R.take i).map fun r => eU ⟨r, u.time, u.diff⟩) ++ [[.sl ((R.getD i default).map eV), vi u.time.epoch, vi u.time.round, vi u.diff]] = (R.take (i + 1)).map fun r => eU ⟨r, u.time, u.diff⟩ := takeS (fun r => eU ⟨r, u.time, u.diff⟩) R i h
theorem assign_len {r : List Val} {c s t : Int} : (assignW r c s t).1.length ≤ 64 := by
  unfold assignW
  (repeat' split) <;> first | exact Nat.zero_le _ | (rw [List.length_map]; exact bucks_len)
end Go.V
