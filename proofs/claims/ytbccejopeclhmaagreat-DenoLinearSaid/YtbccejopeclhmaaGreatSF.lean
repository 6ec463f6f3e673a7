import Derived.Test.YtbccejopeclhmaaGreatSE
import Derived.Test.YtbccejopeclhmaaGreatM4
namespace Go.V
open Go Go.RowKit Go.Proofs
set_option maxRecDepth 100000
set_option maxHeartbeats 4000000
set_option linter.unusedVariables false
set_option linter.unusedSimpArgs false
theorem tw_at {α : Type} [Inhabited α] (p : α → Bool) : ∀ (r : List α) (k : Nat), k ≤ (r.takeWhile p).length → k < r.length → (p (r.getD k default) = true ↔ k < (r.takeWhile p).length)
  | [], k, _, h => absurd h (Nat.not_lt_zero _)
  | y :: r, k, h1, h2 => by
    rw [List.takeWhile_cons] at h1 ⊢
    cases hp : p y with
    | false =>
      rw [hp] at h1
      simp at h1
      subst h1
      simp [hp]
    | true =>
      rw [hp] at h1
      cases k with
      | zero => simp [hp]
      | succ k => 
        have := tw_at p r k (by simpa using h1) (by simpa using h2)
        simpa using this
theorem hd_le {α : Type} (c : α → α → Int) (x : α) (r : List α) : (hd c x r).length ≤ (x :: r).length := by
  have := congrArg List.length (List.takeWhile_append_dropWhile (p := fun y => c x y == 0) (l := r))
  rw [List.length_append] at this
  simp only [hd, List.length_cons]; omega
theorem hd_step {α : Type} [Inhabited α] (c : α → α → Int) (x : α) (r : List α) (n : Nat) (h1 : 1 ≤ n) (h : n ≤ (hd c x r).length) (hl : n < (x :: r).length) : c x ((x :: r).getD n default) = 0 ↔ n < (hd c x r).length := by
  obtain ⟨n, rfl⟩ : ∃ k, n = k + 1 := ⟨n - 1, by omega⟩
  have := tw_at (fun y => c x y == 0) r n (by simpa [hd] using h) (by simpa using hl)
  simpa [hd] using this
theorem hd_take {α : Type} (c : α → α → Int) (x : α) (r : List α) : (x :: r).take (hd c x r).length = hd c x r := by
  have := List.take_left' (l₁ := r.takeWhile fun y => c x y == 0) (l₂ := r.dropWhile fun y => c x y == 0) rfl
  rw [List.takeWhile_append_dropWhile] at this
  unfold hd
  rw [List.length_cons, List.take_succ_cons, this]
theorem hd_drop {α : Type} (c : α → α → Int) (x : α) (r : List α) : (x :: r).drop (hd c x r).length = tl c x r := by
  have := List.drop_left' (l₁ := r.takeWhile fun y => c x y == 0) (l₂ := r.dropWhile fun y => c x y == 0) rfl
  rw [List.takeWhile_append_dropWhile] at this
  unfold hd tl
  rw [List.length_cons, List.drop_succ_cons, this]
theorem onlyN_n {k : Tm → Mem → Prop} {tm : Tm} {m : Mem} : onlyN k .normal tm m = k tm m := rfl
theorem runs_side (l : List Side) (Q : PV → Mem → Prop)  (h : Q (.fn 140 [.adr 0 0, .adr 1 0]) [.var [.sl (l.map eS)], .var [.fn 87 []]]) : Does Tryz.prog 89 [.sl (l.map eS), .fn 87 []] [] 0 Q := by
  refine does_of mixed Tryz.func89 rfl (by kernel_rfl) no (slots []) ?_
  simp only [Tryz.f89]
  repeat' (first
    | simp -implicitDefEqProofs only [go_sem, Nat.reduceAdd, Nat.reduceEqDiff, Nat.reduceLT, Nat.reduceBEq, Nat.reduceLeDiff, Nat.reduceSub, Int.reduceLE, Int.reduceNeg, Int.reduceEq, Int.reduceToNat]
    | with_reducible refine know_of fun _ => ?_
    | with_reducible refine ifD1 (by omega) ?_
    | with_reducible refine ifD0 (by omega) ?_
    | with_reducible refine ifE1 (by omega) ?_
    | with_reducible refine ifE0 (by omega) ?_
    | with_reducible refine ifN1 (by omega) ?_
    | with_reducible refine ifN0 (by omega) ?_
    | with_reducible refine ifD_of (fun _ => ?_) (fun _ => ?_)
    | with_reducible refine ifE_of (fun _ => ?_) (fun _ => ?_)
    | with_reducible refine ifN_of (fun _ => ?_) (fun _ => ?_)
    | with_reducible refine Go.V.if1 (by assumption) ?_
    | with_reducible refine Go.V.if0 (by assumption) ?_
    | with_reducible refine if_of (fun _ => ?_) (fun _ => ?_)
    | with_reducible refine s_of (idx_get _ _ _ (by omega) (by omega)) ?_
    | with_reducible refine s_of (idx_get _ _ _ (by omega) (by simp only [List.length_set, List.length_append, List.length_take, List.length_drop, List.length_reverse, List.length_singleton]; omega)) ?_
    | with_reducible refine s_of (map_get _ _ _ (by omega)) ?_
    | with_reducible refine s_of (map_get _ _ _ (by simp only [List.length_set]; omega)) ?_
    | with_reducible refine s_of (if_neg (by omega)) ?_
    | with_reducible refine s_of (if_pos (by omega)) ?_
    | with_reducible refine need_of (by omega) ?_
    | with_reducible refine nil_of (fun _ => ?_) ?_
    | with_reducible refine alt_of ?_ ?_
    | (with_reducible apply join_of; intro _ _)
    | with_reducible assumption)
  all_goals first | exact h | simpa using h
theorem iter_side : ∃ i : Itc, Tryz.f140.body = some (.block i.ix (.loop i.body)) ∧ i.N = 3 + (Tryz.f140.ntmps - 3) ∧ i.Ok Tryz.prog no (slots [(0, [0, 1, 2]), (2, [0, 1, 2, 4])]) noT eS cS 87 := by
  refine ⟨⟨_, 7, 0, 1, _, _, _, [_, _, _, _], _, _, 31, _, 35, 26, 29, 30, 4, _⟩, rfl, rfl, ⟨by kernel_rfl, by kernel_rfl, by kernel_rfl, by kernel_rfl, by kernel_rfl, by kernel_rfl, rfl, rfl, rfl, by decide, by decide, by decide, ?_, ?_, ?_⟩⟩
  · rintro yv tm r ⟨h0, h1, h2⟩
    dsimp only [mI]
    repeat' (first
    | simp -implicitDefEqProofs only [go_sem, eS, h0, h1, h2, onlyN_n, Nat.reduceAdd, Nat.reduceEqDiff, Nat.reduceLT, Nat.reduceBEq, Nat.reduceLeDiff, Nat.reduceSub, Int.reduceLE, Int.reduceNeg, Int.reduceEq, Int.reduceToNat]
    | with_reducible refine know_of fun _ => ?_
    | with_reducible refine ifD1 (by omega) ?_
    | with_reducible refine ifD0 (by omega) ?_
    | with_reducible refine ifE1 (by omega) ?_
    | with_reducible refine ifE0 (by omega) ?_
    | with_reducible refine ifN1 (by omega) ?_
    | with_reducible refine ifN0 (by omega) ?_
    | with_reducible refine ifD_of (fun _ => ?_) (fun _ => ?_)
    | with_reducible refine ifE_of (fun _ => ?_) (fun _ => ?_)
    | with_reducible refine ifN_of (fun _ => ?_) (fun _ => ?_)
    | with_reducible refine Go.V.if1 (by assumption) ?_
    | with_reducible refine Go.V.if0 (by assumption) ?_
    | with_reducible refine if_of (fun _ => ?_) (fun _ => ?_)
    | with_reducible refine s_of (idx_get _ _ _ (by omega) (by omega)) ?_
    | with_reducible refine s_of (idx_get _ _ _ (by omega) (by simp only [List.length_set, List.length_append, List.length_take, List.length_drop, List.length_reverse, List.length_singleton]; omega)) ?_
    | with_reducible refine s_of (map_get _ _ _ (by omega)) ?_
    | with_reducible refine s_of (map_get _ _ _ (by simp only [List.length_set]; omega)) ?_
    | with_reducible refine s_of (if_neg (by omega)) ?_
    | with_reducible refine s_of (if_pos (by omega)) ?_
    | with_reducible refine need_of (by omega) ?_
    | with_reducible refine nil_of (fun _ => ?_) ?_
    | with_reducible refine alt_of ?_ ?_
    | (with_reducible apply join_of; intro _ _)
    | with_reducible assumption)
    refine ⟨⟨h0, h1, h2⟩, ?_⟩
    cases r <;> simp
  · rintro yv tm x r ⟨h0, h1, h2⟩ hlen
    dsimp only [mI]
    have hle := hd_le cS x r
    have hg0 : (x :: r).getD 0 default = x := rfl
    have hst := hd_step cS x r
    have htk := hd_take cS x r
    generalize hl : x :: r = l at *
    repeat' (first
    | simp -implicitDefEqProofs only [go_sem, eS, h0, h1, h2, onlyN_n, Nat.reduceAdd, Nat.reduceEqDiff, Nat.reduceLT, Nat.reduceBEq, Nat.reduceLeDiff, Nat.reduceSub, Int.reduceLE, Int.reduceNeg, Int.reduceEq, Int.reduceToNat]
    | with_reducible refine know_of fun _ => ?_
    | with_reducible refine ifD1 (by omega) ?_
    | with_reducible refine ifD0 (by omega) ?_
    | with_reducible refine ifE1 (by omega) ?_
    | with_reducible refine ifE0 (by omega) ?_
    | with_reducible refine ifN1 (by omega) ?_
    | with_reducible refine ifN0 (by omega) ?_
    | with_reducible refine ifD_of (fun _ => ?_) (fun _ => ?_)
    | with_reducible refine ifE_of (fun _ => ?_) (fun _ => ?_)
    | with_reducible refine ifN_of (fun _ => ?_) (fun _ => ?_)
    | with_reducible refine Go.V.if1 (by assumption) ?_
    | with_reducible refine Go.V.if0 (by assumption) ?_
    | with_reducible refine if_of (fun _ => ?_) (fun _ => ?_)
    | with_reducible refine s_of (idx_get _ _ _ (by omega) (by omega)) ?_
    | with_reducible refine s_of (idx_get _ _ _ (by omega) (by simp only [List.length_set, List.length_append, List.length_take, List.length_drop, List.length_reverse, List.length_singleton]; omega)) ?_
    | with_reducible refine s_of (map_get _ _ _ (by omega)) ?_
    | with_reducible refine s_of (map_get _ _ _ (by simp only [List.length_set]; omega)) ?_
    | with_reducible refine s_of (if_neg (by omega)) ?_
    | with_reducible refine s_of (if_pos (by omega)) ?_
    | with_reducible refine need_of (by omega) ?_
    | with_reducible refine nil_of (fun _ => ?_) ?_
    | with_reducible refine alt_of ?_ ?_
    | (with_reducible apply join_of; intro _ _)
    | with_reducible assumption)
    refine loop_then (loop_ind (σ := Nat) (fun s => [(0, .val yv), (1, .adr 0 0), (2, .adr 1 0), (4, vi s)]) (fun s => [.var [.sl (l.map eS)], .var [.fn 87 []]]) (fun s => l.length - s) (fun s => 1 ≤ s ∧ s ≤ (hd cS x r).length) ?_ 1 ⟨Nat.le_refl _, by simp [hd]⟩)
    rintro X n ⟨hn1, hn⟩ ih
    try dsimp only at ih ⊢
    repeat' (first
      | rw [wnat _ (by omega)]
      | simp -implicitDefEqProofs only [go_sem, eS, Int.toNat_natCast, onlyN_n, Nat.reduceAdd, Nat.reduceEqDiff, Nat.reduceLT, Nat.reduceBEq, Nat.reduceLeDiff, Nat.reduceSub, Int.reduceLE, Int.reduceNeg, Int.reduceEq, Int.reduceToNat]
      | with_reducible refine know_of fun _ => ?_
      | (with_reducible refine does_then (less_cmp _ _ _ ?_))
      | with_reducible refine ifD1 (by omega) ?_
      | with_reducible refine ifD0 (by omega) ?_
      | with_reducible refine ifE1 (by omega) ?_
      | with_reducible refine ifE0 (by omega) ?_
      | with_reducible refine ifN1 (by omega) ?_
      | with_reducible refine ifN0 (by omega) ?_
      | with_reducible refine ifD_of (fun _ => ?_) (fun _ => ?_)
      | with_reducible refine ifE_of (fun _ => ?_) (fun _ => ?_)
      | with_reducible refine ifN_of (fun _ => ?_) (fun _ => ?_)
      | with_reducible refine Go.V.if1 (by assumption) ?_
      | with_reducible refine Go.V.if0 (by assumption) ?_
      | with_reducible refine if_of (fun _ => ?_) (fun _ => ?_)
      | with_reducible refine s_of (idx_get _ _ _ (by omega) (by omega)) ?_
      | with_reducible refine s_of (idx_get _ _ _ (by omega) (by simp only [List.length_set, List.length_append, List.length_take, List.length_drop, List.length_reverse, List.length_singleton]; omega)) ?_
      | with_reducible refine s_of (map_get _ _ _ (by omega)) ?_
      | with_reducible refine s_of (map_get _ _ _ (by simp only [List.length_set]; omega)) ?_
      | with_reducible refine s_of (if_neg (by omega)) ?_
      | with_reducible refine s_of (if_pos (by omega)) ?_
      | with_reducible refine need_of (by omega) ?_
      | with_reducible refine nil_of (fun _ => ?_) ?_
      | with_reducible refine alt_of ?_ ?_
      | (with_reducible apply join_of; intro _ _)
      | with_reducible assumption)
    · exact ih (n + 1) (by omega) ⟨by omega, (hst n hn1 hn (by omega)).1 (by rw [← hg0]; assumption)⟩
    all_goals
      have hn2 : n = (hd cS x r).length := by
        rcases Nat.lt_or_ge n (hd cS x r).length with hh | hh
        · exfalso
          have hz := (hst n hn1 hn (by omega)).2 hh
          rw [← hg0] at hz
          first | omega | exact absurd hz (by assumption)
        · omega
      refine need_of ⟨by omega, by omega, lenS _⟩ ?_
      repeat' (first
    | simp -implicitDefEqProofs only [go_sem, eS, Int.toNat_natCast, onlyN_n, Nat.reduceAdd, Nat.reduceEqDiff, Nat.reduceLT, Nat.reduceBEq, Nat.reduceLeDiff, Nat.reduceSub, Int.reduceLE, Int.reduceNeg, Int.reduceEq, Int.reduceToNat]
    | with_reducible refine know_of fun _ => ?_
    | with_reducible refine ifD1 (by omega) ?_
    | with_reducible refine ifD0 (by omega) ?_
    | with_reducible refine ifE1 (by omega) ?_
    | with_reducible refine ifE0 (by omega) ?_
    | with_reducible refine ifN1 (by omega) ?_
    | with_reducible refine ifN0 (by omega) ?_
    | with_reducible refine ifD_of (fun _ => ?_) (fun _ => ?_)
    | with_reducible refine ifE_of (fun _ => ?_) (fun _ => ?_)
    | with_reducible refine ifN_of (fun _ => ?_) (fun _ => ?_)
    | with_reducible refine Go.V.if1 (by assumption) ?_
    | with_reducible refine Go.V.if0 (by assumption) ?_
    | with_reducible refine if_of (fun _ => ?_) (fun _ => ?_)
    | with_reducible refine s_of (idx_get _ _ _ (by omega) (by omega)) ?_
    | with_reducible refine s_of (idx_get _ _ _ (by omega) (by simp only [List.length_set, List.length_append, List.length_take, List.length_drop, List.length_reverse, List.length_singleton]; omega)) ?_
    | with_reducible refine s_of (map_get _ _ _ (by omega)) ?_
    | with_reducible refine s_of (map_get _ _ _ (by simp only [List.length_set]; omega)) ?_
    | with_reducible refine s_of (if_neg (by omega)) ?_
    | with_reducible refine s_of (if_pos (by omega)) ?_
    | with_reducible refine need_of (by omega) ?_
    | with_reducible refine nil_of (fun _ => ?_) ?_
    | with_reducible refine alt_of ?_ ?_
    | (with_reducible apply join_of; intro _ _)
    | with_reducible assumption)
      refine ⟨⟨rfl, rfl, rfl⟩, by rw [hn2], ?_⟩
      rw [hn2]
      first | rw [htk] | rw [← List.map_take, htk]
  · rintro yv tm x r b ⟨h0, h1, h2⟩ hlen h4 h30
    dsimp only [mI]
    have hle := hd_le cS x r
    have hdr := hd_drop cS x r
    generalize hl : x :: r = l at *
    repeat' (first
    | simp -implicitDefEqProofs only [go_sem, eS, Int.toNat_natCast, h0, h1, h2, h4, h30, onlyN_n, Nat.reduceAdd, Nat.reduceEqDiff, Nat.reduceLT, Nat.reduceBEq, Nat.reduceLeDiff, Nat.reduceSub, Int.reduceLE, Int.reduceNeg, Int.reduceEq, Int.reduceToNat]
    | with_reducible refine know_of fun _ => ?_
    | (with_reducible refine does_then (less_cmp _ _ _ ?_))
    | with_reducible refine ifD1 (by omega) ?_
    | with_reducible refine ifD0 (by omega) ?_
    | with_reducible refine ifE1 (by omega) ?_
    | with_reducible refine ifE0 (by omega) ?_
    | with_reducible refine ifN1 (by omega) ?_
    | with_reducible refine ifN0 (by omega) ?_
    | with_reducible refine ifD_of (fun _ => ?_) (fun _ => ?_)
    | with_reducible refine ifE_of (fun _ => ?_) (fun _ => ?_)
    | with_reducible refine ifN_of (fun _ => ?_) (fun _ => ?_)
    | with_reducible refine Go.V.if1 (by assumption) ?_
    | with_reducible refine Go.V.if0 (by assumption) ?_
    | with_reducible refine if_of (fun _ => ?_) (fun _ => ?_)
    | with_reducible refine s_of (idx_get _ _ _ (by omega) (by omega)) ?_
    | with_reducible refine s_of (idx_get _ _ _ (by omega) (by simp only [List.length_set, List.length_append, List.length_take, List.length_drop, List.length_reverse, List.length_singleton]; omega)) ?_
    | with_reducible refine s_of (map_get _ _ _ (by omega)) ?_
    | with_reducible refine s_of (map_get _ _ _ (by simp only [List.length_set]; omega)) ?_
    | with_reducible refine s_of (if_neg (by omega)) ?_
    | with_reducible refine s_of (if_pos (by omega)) ?_
    | with_reducible refine need_of (by omega) ?_
    | with_reducible refine nil_of (fun _ => ?_) ?_
    | with_reducible refine alt_of ?_ ?_
    | (with_reducible apply join_of; intro _ _)
    | with_reducible assumption)
    refine ⟨⟨h0, h1, h2⟩, fun hb => need_of ⟨by omega, by omega, by omega, lenS _⟩ ?_⟩
    repeat' (first
    | simp -implicitDefEqProofs only [go_sem, eS, Int.toNat_natCast, h0, h1, h2, h4, h30, onlyN_n, Nat.reduceAdd, Nat.reduceEqDiff, Nat.reduceLT, Nat.reduceBEq, Nat.reduceLeDiff, Nat.reduceSub, Int.reduceLE, Int.reduceNeg, Int.reduceEq, Int.reduceToNat]
    | with_reducible refine know_of fun _ => ?_
    | (with_reducible refine does_then (less_cmp _ _ _ ?_))
    | with_reducible refine ifD1 (by omega) ?_
    | with_reducible refine ifD0 (by omega) ?_
    | with_reducible refine ifE1 (by omega) ?_
    | with_reducible refine ifE0 (by omega) ?_
    | with_reducible refine ifN1 (by omega) ?_
    | with_reducible refine ifN0 (by omega) ?_
    | with_reducible refine ifD_of (fun _ => ?_) (fun _ => ?_)
    | with_reducible refine ifE_of (fun _ => ?_) (fun _ => ?_)
    | with_reducible refine ifN_of (fun _ => ?_) (fun _ => ?_)
    | with_reducible refine Go.V.if1 (by assumption) ?_
    | with_reducible refine Go.V.if0 (by assumption) ?_
    | with_reducible refine if_of (fun _ => ?_) (fun _ => ?_)
    | with_reducible refine s_of (idx_get _ _ _ (by omega) (by omega)) ?_
    | with_reducible refine s_of (idx_get _ _ _ (by omega) (by simp only [List.length_set, List.length_append, List.length_take, List.length_drop, List.length_reverse, List.length_singleton]; omega)) ?_
    | with_reducible refine s_of (map_get _ _ _ (by omega)) ?_
    | with_reducible refine s_of (map_get _ _ _ (by simp only [List.length_set]; omega)) ?_
    | with_reducible refine s_of (if_neg (by omega)) ?_
    | with_reducible refine s_of (if_pos (by omega)) ?_
    | with_reducible refine need_of (by omega) ?_
    | with_reducible refine nil_of (fun _ => ?_) ?_
    | with_reducible refine alt_of ?_ ?_
    | (with_reducible apply join_of; intro _ _)
    | with_reducible assumption)
    refine ⟨⟨h0, h1, h2⟩, ?_⟩
    rw [takeAll, dropM, hdr]
end Go.V
