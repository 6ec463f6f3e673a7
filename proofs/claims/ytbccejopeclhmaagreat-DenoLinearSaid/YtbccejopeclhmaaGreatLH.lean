import Derived.Test.YtbccejopeclhmaaGreatLD
import Derived.Test.YtbccejopeclhmaaGreatLG3
namespace Go.V
open Go Go.RowKit Go.Proofs
set_option maxRecDepth 100000
set_option maxHeartbeats 4000000
set_option linter.unusedVariables false
set_option linter.unusedSimpArgs false
/-- The windows of a number, from the last multiple down: so many. -/
def buckN (v size slide top : Int) : Nat := ((size - (v - top) - 1) / slide + 1).toNat
def bucks (top slide : Int) (k : Nat) : List Int := (List.range k).reverse.map fun (i : Nat) => top - (i : Int) * slide
def bucketsW (v size slide : Int) : List Int × Int :=
  if checkW size slide ≠ 0 then ([], checkW size slide) else if (floorW v slide).2 ≠ 0 then ([], (floorW v slide).2)
  else (bucks (floorW v slide).1 slide (buckN v size slide (floorW v slide).1), 0)
def assignW (r : List Val) (col size slide : Int) : List (List Val) × Int :=
  if col < 0 ∨ (r.length : Int) ≤ col then ([], 9) else if 16 ≤ r.length then ([], 3) else if (r.getD col.toNat default).kind ≠ 0 then ([], 80)
  else if (bucketsW (r.getD col.toNat default).int size slide).2 ≠ 0 then ([], (bucketsW (r.getD col.toNat default).int size slide).2)
  else ((bucketsW (r.getD col.toNat default).int size slide).1.map fun x => r ++ [numV x], 0)
theorem floor_ok {v slide : Int} (h : (floorW v slide).2 = 0) : 1 ≤ slide ∧ slide ≤ 1099511627776 ∧ -1152921504606846976 ≤ v ∧ v ≤ 1152921504606846976 ∧ (floorW v slide).1 ≤ v ∧ v < (floorW v slide).1 + slide := by
  unfold floorW at h ⊢
  split at h
  · exact absurd h (by decide)
  · rename_i h1
    split at h
    · exact absurd h (by decide)
    · rename_i h2
      rw [if_neg h1, if_neg h2]
      have h3 := Int.emod_nonneg v (show slide ≠ 0 by omega)
      have h4 := Int.emod_lt_of_pos v (show 0 < slide by omega)
      dsimp only
      omega
theorem check_ok {size slide : Int} (h : checkW size slide = 0) : 1 ≤ size ∧ size ≤ 1099511627776 ∧ 1 ≤ slide ∧ slide ≤ 1099511627776 ∧ size ≤ 64 * slide := by
  unfold checkW at h
  split at h
  · exact absurd h (by decide)
  · split at h
    · exact absurd h (by decide)
    · omega
theorem buck_in {v size slide top : Int} (hs : 1 ≤ slide) (ht : top ≤ v) (hv : v < top + slide) (h1 : 1 ≤ size) (k : Nat) : k < buckN v size slide top ↔ top - (k : Int) * slide > v - size := by
  unfold buckN
  have hd := Int.mul_ediv_add_emod (size - (v - top) - 1) slide
  have hm0 := Int.emod_nonneg (size - (v - top) - 1) (show slide ≠ 0 by omega)
  have hm1 := Int.emod_lt_of_pos (size - (v - top) - 1) (show 0 < slide by omega)
  generalize (size - (v - top) - 1) / slide = q at *
  generalize (size - (v - top) - 1) % slide = m at *
  constructor
  · intro h
    have hk : (k : Int) ≤ q := by omega
    have := Int.mul_le_mul_of_nonneg_left hk (show 0 ≤ slide by omega)
    rw [Int.mul_comm slide (k : Int)] at this
    omega
  · intro h
    have hk : (k : Int) ≤ q := by
      refine Int.not_lt.1 fun hlt => ?_
      have h2 : q + 1 ≤ (k : Int) := hlt
      have := Int.mul_le_mul_of_nonneg_left h2 (show 0 ≤ slide by omega)
      rw [Int.mul_comm slide (k : Int), Int.mul_add, Int.mul_one] at this
      omega
    omega
theorem buck_most {v size slide top : Int} (hs : 1 ≤ slide) (ht : top ≤ v) (hz : size ≤ 64 * slide) : buckN v size slide top ≤ 64 := by
  unfold buckN
  have : (size - (v - top) - 1) / slide < 64 := Int.ediv_lt_of_lt_mul (by omega) (by omega)
  omega
def downs (top slide : Int) (k : Nat) : List Int := (List.range k).map fun (i : Nat) => top - (i : Int) * slide
theorem downs_succ (top slide : Int) (k : Nat) : (downs top slide k).map eI ++ [[vi (top - (k : Int) * slide)]] = (downs top slide (k + 1)).map eI := by
  unfold downs; rw [List.range_succ, List.map_append, List.map_append]; rfl
theorem downs_rev (top slide : Int) (k : Nat) : (downs top slide k).reverse = bucks top slide k := by unfold downs bucks; rw [List.map_reverse]
theorem downs_len (top slide : Int) (k : Nat) : (downs top slide k).length = k := by unfold downs; simp
theorem mul_in {a : Int} {k : Nat} (h0 : 0 ≤ a) (h1 : a ≤ 1099511627776) (hk : k ≤ 100) : 0 ≤ (k : Int) * a ∧ (k : Int) * a ≤ 109951162777600 := by
  have h2 := Int.mul_nonneg (show (0 : Int) ≤ k by omega) h0
  have h3 := Int.mul_le_mul (show (k : Int) ≤ 100 by omega) h1 h0 (by decide)
  omega
theorem takeS {α β : Type} [Inhabited α] (F : α → β) (l : List α) (i : Nat) (h : i < l.length) : (l.take i).map F ++ [F (l.getD i default)] = (l.take (i + 1)).map F := by
  rw [List.take_add_one, List.getElem?_eq_getElem h, List.map_append, List.getD_eq_getElem?_getD, List.getElem?_eq_getElem h]; rfl
theorem row_Join1 (a : List Val) (x : Int) (Q : PV → Mem → Prop) (ha : a.length ≤ 1000000) (h : Q (.own 0) [.row 83 (a.map eV ++ [[vi 0, vi x, vs nilS]])]) : Does Tryz.prog 104 [.sl [[.sl (a.map eV)], [.sl [[vi 0, vi x, vs nilS]]]]] [] 0 Q := row_Join a [numV x] Q ha (by simp) (by rw [List.map_append]; exact h)
def rowA (r : List Val) (x : Int) : List PV := [.sl (r.map eV ++ [[vi 0, vi x, vs nilS]])]
theorem rowA_eq (r : List Val) (bs : List Int) : (bs.map fun x => r ++ [numV x]).map eR = bs.map (rowA r) := by
  rw [List.map_map]; refine List.map_congr_left fun x _ => ?_
  show eR (r ++ [numV x]) = rowA r x
  unfold eR rowA; rw [List.map_append]; rfl
theorem bucks_len {v size slide : Int} : (bucketsW v size slide).1.length ≤ 64 := by
  unfold bucketsW
  split
  · exact Nat.zero_le _
  · split
    · exact Nat.zero_le _
    · have hc := check_ok (size := size) (slide := slide) (by rename_i h _; exact Decidable.of_not_not h)
      have hf := floor_ok (v := v) (slide := slide) (by rename_i h; exact Decidable.of_not_not h)
      have := buck_most (v := v) (size := size) (slide := slide) (top := (floorW v slide).1) hc.2.2.1 hf.2.2.2.2.1 hc.2.2.2.2
      unfold bucks; simpa using this
theorem window_Buckets (v size slide : Int) (Q : PV → Mem → Prop)  (h : Q (.tup [.own 0, vi (bucketsW v size slide).2]) [.row 3 ((bucketsW v size slide).1.map eI)]) : Does Tryz.prog 155 [vi v, vi size, vi slide] [] 0 Q := by
  refine does_of mixed Tryz.func155 rfl (by kernel_rfl) (fun f => f == 202) (slots [(0, [0, 1, 2, 11, 12])]) ?_
  simp only [Tryz.f155]
  repeat' (first
    | simp -implicitDefEqProofs only [go_sem, eI, Nat.reduceAdd, Nat.reduceEqDiff, Nat.reduceLT, Nat.reduceBEq, Nat.reduceLeDiff, Nat.reduceSub, Int.reduceLE, Int.reduceNeg, Int.reduceEq, Int.reduceToNat]
    | with_reducible refine know_of fun _ => ?_
    | (with_reducible refine does_then (window_Check _ _ _ ?_))
    | (with_reducible refine does_then (window_Floor _ _ _ ?_))
    | with_reducible refine ifD1 (by omega) ?_
    | with_reducible refine ifD0 (by omega) ?_
    | with_reducible refine ifE1 (by omega) ?_
    | with_reducible refine ifE0 (by omega) ?_
    | with_reducible refine ifN1 (by omega) ?_
    | with_reducible refine ifN0 (by omega) ?_
    | with_reducible refine ifD_of (fun _ => ?_) (fun _ => ?_)
    | with_reducible refine ifE_of (fun _ => ?_) (fun _ => ?_)
    | with_reducible refine ifN_of (fun _ => ?_) (fun _ => ?_)
    | with_reducible refine Go.V.if1 (by assumption) ?_
    | with_reducible refine Go.V.if0 (by assumption) ?_
    | with_reducible refine if_of (fun _ => ?_) (fun _ => ?_)
    | with_reducible refine s_of (idx_get _ _ _ (by omega) (by omega)) ?_
    | with_reducible refine s_of (idx_get _ _ _ (by omega) (by simp only [List.length_set, List.length_append, List.length_take, List.length_drop, List.length_reverse, List.length_singleton]; omega)) ?_
    | with_reducible refine s_of (map_get _ _ _ (by omega)) ?_
    | with_reducible refine s_of (map_get _ _ _ (by simp only [List.length_set]; omega)) ?_
    | with_reducible refine s_of (if_neg (by omega)) ?_
    | with_reducible refine s_of (if_pos (by omega)) ?_
    | with_reducible refine need_of (by omega) ?_
    | with_reducible refine nil_of (fun _ => ?_) ?_
    | with_reducible refine alt_of ?_ ?_
    | (with_reducible apply join_of; intro _ _)
    | with_reducible assumption)
  · unfold bucketsW at h; rw [if_pos (by assumption)] at h; exact h
  · unfold bucketsW at h; rw [if_neg (not_not_intro (by assumption)), if_pos (by assumption)] at h; exact h
  have hc := check_ok (size := size) (slide := slide) (by assumption)
  have hf := floor_ok (v := v) (slide := slide) (by assumption)
  unfold bucketsW at h
  rw [if_neg (not_not_intro (by assumption)), if_neg (not_not_intro (by assumption))] at h
  generalize (floorW v slide).1 = top at *
  have hN := buck_most (v := v) (size := size) (slide := slide) (top := top) hc.2.2.1 hf.2.2.2.2.1 hc.2.2.2.2
  have hin := fun k => buck_in (v := v) (size := size) (slide := slide) (top := top) hc.2.2.1 hf.2.2.2.2.1 hf.2.2.2.2.2 hc.1 k
  generalize buckN v size slide top = N at *
  refine loop_then (loop_ind (σ := Nat × Int) (fun s => [(0, vi v), (1, vi size), (2, vi slide), (11, .own 0), (12, vi s.2)]) (fun s => [.row 3 ((downs top slide s.1).map eI)]) (fun s => N - s.1) (fun s => s.1 ≤ N ∧ s.2 = top - (s.1 : Int) * slide) ?_ (0, top) ⟨Nat.zero_le _, by simp⟩)
  rintro X ⟨k, b⟩ ⟨hk, hb⟩ ih
  try dsimp only at ih ⊢
  dsimp only at hk hb
  have hm := mul_in (a := slide) (k := k) (by omega) (by omega) (by omega)
  have hi := hin k
  have hdl := downs_len top slide k
  repeat' (first
    | rw [w64_of (v - size) (by omega)]
    | rw [w64_of (b - slide) (by omega)]
    | simp -implicitDefEqProofs only [go_sem, eI, Nat.reduceAdd, Nat.reduceEqDiff, Nat.reduceLT, Nat.reduceBEq, Nat.reduceLeDiff, Nat.reduceSub, Int.reduceLE, Int.reduceNeg, Int.reduceEq, Int.reduceToNat]
    | with_reducible refine know_of fun _ => ?_
    | (with_reducible refine does_then (reverse_int _ _ ?_))
    | with_reducible refine ifD1 (by omega) ?_
    | with_reducible refine ifD0 (by omega) ?_
    | with_reducible refine ifE1 (by omega) ?_
    | with_reducible refine ifE0 (by omega) ?_
    | with_reducible refine ifN1 (by omega) ?_
    | with_reducible refine ifN0 (by omega) ?_
    | with_reducible refine ifD_of (fun _ => ?_) (fun _ => ?_)
    | with_reducible refine ifE_of (fun _ => ?_) (fun _ => ?_)
    | with_reducible refine ifN_of (fun _ => ?_) (fun _ => ?_)
    | with_reducible refine Go.V.if1 (by assumption) ?_
    | with_reducible refine Go.V.if0 (by assumption) ?_
    | with_reducible refine if_of (fun _ => ?_) (fun _ => ?_)
    | with_reducible refine s_of (idx_get _ _ _ (by omega) (by omega)) ?_
    | with_reducible refine s_of (idx_get _ _ _ (by omega) (by simp only [List.length_set, List.length_append, List.length_take, List.length_drop, List.length_reverse, List.length_singleton]; omega)) ?_
    | with_reducible refine s_of (map_get _ _ _ (by omega)) ?_
    | with_reducible refine s_of (map_get _ _ _ (by simp only [List.length_set]; omega)) ?_
    | with_reducible refine s_of (if_neg (by omega)) ?_
    | with_reducible refine s_of (if_pos (by omega)) ?_
    | with_reducible refine need_of (by omega) ?_
    | with_reducible refine nil_of (fun _ => ?_) ?_
    | with_reducible refine alt_of ?_ ?_
    | (with_reducible apply join_of; intro _ _)
    | with_reducible assumption)
  · subst hb
    rw [downs_succ]
    exact ih (k + 1, top - (k : Int) * slide - slide) (by dsimp only; omega) ⟨by dsimp only; omega, by dsimp only; rw [show ((k + 1 : Nat) : Int) = (k : Int) + 1 by omega, Int.add_mul]; omega⟩
  · have hkN : k = N := by omega
    subst hkN
    rw [downs_rev]; exact h
def upsB (top slide : Int) (N j : Nat) : List Int := ((List.range N).reverse.take (N - j)).map fun (i : Nat) => top - (i : Int) * slide
theorem ups_all (top slide : Int) (N : Nat) : upsB top slide N 0 = bucks top slide N := by unfold upsB bucks; rw [List.take_of_length_le (by simp)]
theorem ups_in (top slide : Int) (N j : Nat) (h : j < N) : (upsB top slide N (j + 1)).map eI ++ [[vi (top - (j : Int) * slide)]] = (upsB top slide N j).map eI := by
  unfold upsB
  have hg : (List.range N).reverse[N - (j + 1)]? = some j := by
    rw [List.getElem?_reverse (by simp; omega), List.length_range, List.getElem?_range (by omega)]; congr 1; omega
  rw [show N - j = N - (j + 1) + 1 by omega, List.take_add_one, hg, List.map_append, List.map_append]; rfl
theorem ups_out (top slide : Int) (N j : Nat) (h : N ≤ j) : upsB top slide N (j + 1) = upsB top slide N j := by
  unfold upsB; rw [show N - (j + 1) = N - j by omega]
theorem ups_len (top slide : Int) (N j : Nat) : (upsB top slide N j).length ≤ N := by unfold upsB; simp
theorem ref14_Buckets (v size slide : Int) (Q : PV → Mem → Prop)  (h : Q (.tup [.own 0, vi (bucketsW v size slide).2]) [.row 3 ((bucketsW v size slide).1.map eI)]) : Does Tryz.prog 232 [vi v, vi size, vi slide] [] 0 Q := by
  refine does_of mixed Tryz.func232 rfl (by kernel_rfl) no (slots [(0, [0, 1, 2, 9, 10, 11])]) ?_
  simp only [Tryz.f232]
  repeat' (first
    | simp -implicitDefEqProofs only [go_sem, eI, Nat.reduceAdd, Nat.reduceEqDiff, Nat.reduceLT, Nat.reduceBEq, Nat.reduceLeDiff, Nat.reduceSub, Int.reduceLE, Int.reduceNeg, Int.reduceEq, Int.reduceToNat]
    | with_reducible refine know_of fun _ => ?_
    | (with_reducible refine does_then (ref14_Check _ _ _ ?_))
    | (with_reducible refine does_then (ref14_Floor _ _ _ ?_))
    | with_reducible refine ifD1 (by omega) ?_
    | with_reducible refine ifD0 (by omega) ?_
    | with_reducible refine ifE1 (by omega) ?_
    | with_reducible refine ifE0 (by omega) ?_
    | with_reducible refine ifN1 (by omega) ?_
    | with_reducible refine ifN0 (by omega) ?_
    | with_reducible refine ifD_of (fun _ => ?_) (fun _ => ?_)
    | with_reducible refine ifE_of (fun _ => ?_) (fun _ => ?_)
    | with_reducible refine ifN_of (fun _ => ?_) (fun _ => ?_)
    | with_reducible refine Go.V.if1 (by assumption) ?_
    | with_reducible refine Go.V.if0 (by assumption) ?_
    | with_reducible refine if_of (fun _ => ?_) (fun _ => ?_)
    | with_reducible refine s_of (idx_get _ _ _ (by omega) (by omega)) ?_
    | with_reducible refine s_of (idx_get _ _ _ (by omega) (by simp only [List.length_set, List.length_append, List.length_take, List.length_drop, List.length_reverse, List.length_singleton]; omega)) ?_
    | with_reducible refine s_of (map_get _ _ _ (by omega)) ?_
    | with_reducible refine s_of (map_get _ _ _ (by simp only [List.length_set]; omega)) ?_
    | with_reducible refine s_of (if_neg (by omega)) ?_
    | with_reducible refine s_of (if_pos (by omega)) ?_
    | with_reducible refine need_of (by omega) ?_
    | with_reducible refine nil_of (fun _ => ?_) ?_
    | with_reducible refine alt_of ?_ ?_
    | (with_reducible apply join_of; intro _ _)
    | with_reducible assumption)
  · unfold bucketsW at h; rw [if_pos (by assumption)] at h; exact h
  · unfold bucketsW at h; rw [if_neg (not_not_intro (by assumption)), if_pos (by assumption)] at h; exact h
  have hc := check_ok (size := size) (slide := slide) (by assumption)
  have hf := floor_ok (v := v) (slide := slide) (by assumption)
  unfold bucketsW at h
  rw [if_neg (not_not_intro (by assumption)), if_neg (not_not_intro (by assumption))] at h
  generalize (floorW v slide).1 = top at *
  have hN := buck_most (v := v) (size := size) (slide := slide) (top := top) hc.2.2.1 hf.2.2.2.2.1 hc.2.2.2.2
  have hin := fun k => buck_in (v := v) (size := size) (slide := slide) (top := top) hc.2.2.1 hf.2.2.2.2.1 hf.2.2.2.2.2 hc.1 k
  generalize buckN v size slide top = N at *
  refine loop_then (loop_ind (σ := Nat × Int × List Int) (fun s => [(0, vi v), (1, vi size), (2, vi slide), (9, vi top), (10, .own 0), (11, vi s.2.1)]) (fun s => [.row 3 (s.2.2.map eI)]) (fun s => s.1) (fun s => s.1 ≤ 66 ∧ s.2.1 = (s.1 : Int) - 1 ∧ s.2.2 = upsB top slide N s.1) ?_ (66, 65, []) ⟨by decide, by decide, by unfold upsB; rw [show N - (66, (65 : Int), ([] : List Int)).1 = 0 by dsimp only; omega]; rfl⟩)
  rintro X ⟨j, b, out⟩ ⟨hj, hb, ho⟩ ih
  try dsimp only at ih ⊢
  dsimp only at hj hb ho
  subst ho
  have hul := ups_len top slide N j
  cases j with
  | zero =>
    repeat' (first
    | simp -implicitDefEqProofs only [go_sem, eI, Nat.reduceAdd, Nat.reduceEqDiff, Nat.reduceLT, Nat.reduceBEq, Nat.reduceLeDiff, Nat.reduceSub, Int.reduceLE, Int.reduceNeg, Int.reduceEq, Int.reduceToNat]
    | with_reducible refine know_of fun _ => ?_
    | with_reducible refine ifD1 (by omega) ?_
    | with_reducible refine ifD0 (by omega) ?_
    | with_reducible refine ifE1 (by omega) ?_
    | with_reducible refine ifE0 (by omega) ?_
    | with_reducible refine ifN1 (by omega) ?_
    | with_reducible refine ifN0 (by omega) ?_
    | with_reducible refine ifD_of (fun _ => ?_) (fun _ => ?_)
    | with_reducible refine ifE_of (fun _ => ?_) (fun _ => ?_)
    | with_reducible refine ifN_of (fun _ => ?_) (fun _ => ?_)
    | with_reducible refine Go.V.if1 (by assumption) ?_
    | with_reducible refine Go.V.if0 (by assumption) ?_
    | with_reducible refine if_of (fun _ => ?_) (fun _ => ?_)
    | with_reducible refine s_of (idx_get _ _ _ (by omega) (by omega)) ?_
    | with_reducible refine s_of (idx_get _ _ _ (by omega) (by simp only [List.length_set, List.length_append, List.length_take, List.length_drop, List.length_reverse, List.length_singleton]; omega)) ?_
    | with_reducible refine s_of (map_get _ _ _ (by omega)) ?_
    | with_reducible refine s_of (map_get _ _ _ (by simp only [List.length_set]; omega)) ?_
    | with_reducible refine s_of (if_neg (by omega)) ?_
    | with_reducible refine s_of (if_pos (by omega)) ?_
    | with_reducible refine need_of (by omega) ?_
    | with_reducible refine nil_of (fun _ => ?_) ?_
    | with_reducible refine alt_of ?_ ?_
    | (with_reducible apply join_of; intro _ _)
    | with_reducible assumption)
    all_goals first | (rw [ups_all]; exact h) | (exfalso; omega)
  | succ j =>
    rw [show ((j + 1 : Nat) : Int) - 1 = (j : Int) by omega] at hb
    subst hb
    have hm := mul_in (a := slide) (k := j) (by omega) (by omega) (by omega)
    have hi := hin j
    repeat' (first
    | rw [w64_of ((j : Int) * slide) (by omega)]
    | rw [w64_of (top - (j : Int) * slide) (by omega)]
    | rw [w64_of (top - (j : Int) * slide + size) (by omega)]
    | simp -implicitDefEqProofs only [go_sem, eI, Nat.reduceAdd, Nat.reduceEqDiff, Nat.reduceLT, Nat.reduceBEq, Nat.reduceLeDiff, Nat.reduceSub, Int.reduceLE, Int.reduceNeg, Int.reduceEq, Int.reduceToNat]
    | with_reducible refine know_of fun _ => ?_
    | with_reducible refine ifD1 (by omega) ?_
    | with_reducible refine ifD0 (by omega) ?_
    | with_reducible refine ifE1 (by omega) ?_
    | with_reducible refine ifE0 (by omega) ?_
    | with_reducible refine ifN1 (by omega) ?_
    | with_reducible refine ifN0 (by omega) ?_
    | with_reducible refine ifD_of (fun _ => ?_) (fun _ => ?_)
    | with_reducible refine ifE_of (fun _ => ?_) (fun _ => ?_)
    | with_reducible refine ifN_of (fun _ => ?_) (fun _ => ?_)
    | with_reducible refine Go.V.if1 (by assumption) ?_
    | with_reducible refine Go.V.if0 (by assumption) ?_
    | with_reducible refine if_of (fun _ => ?_) (fun _ => ?_)
    | with_reducible refine s_of (idx_get _ _ _ (by omega) (by omega)) ?_
    | with_reducible refine s_of (idx_get _ _ _ (by omega) (by simp only [List.length_set, List.length_append, List.length_take, List.length_drop, List.length_reverse, List.length_singleton]; omega)) ?_
    | with_reducible refine s_of (map_get _ _ _ (by omega)) ?_
    | with_reducible refine s_of (map_get _ _ _ (by simp only [List.length_set]; omega)) ?_
    | with_reducible refine s_of (if_neg (by omega)) ?_
    | with_reducible refine s_of (if_pos (by omega)) ?_
    | with_reducible refine need_of (by omega) ?_
    | with_reducible refine nil_of (fun _ => ?_) ?_
    | with_reducible refine alt_of ?_ ?_
    | (with_reducible apply join_of; intro _ _)
    | with_reducible assumption)
    all_goals first
      | (rw [ups_in _ _ _ _ (by omega), w64_of _ (by omega)]; exact ih (j, (j : Int) - 1, _) (by dsimp only; omega) ⟨by dsimp only; omega, rfl, rfl⟩)
      | (rw [ups_out _ _ _ _ (by omega), w64_of _ (by omega)]; exact ih (j, (j : Int) - 1, _) (by dsimp only; omega) ⟨by dsimp only; omega, rfl, rfl⟩)
      | (exfalso; omega)
end Go.V
