import Derived.Test.YtbccejopeclhmaaGreatSD
namespace Go.V
open Go Go.RowKit Go.Proofs
set_option maxRecDepth 100000
set_option maxHeartbeats 4000000
set_option linter.unusedVariables false
set_option linter.unusedSimpArgs false
theorem sym_side : ∀ (k : Nat) (l : List Side) (a m b : Nat) (Q : PV → Mem → Prop), b - a ≤ k → a < m → m < b → b ≤ l.length → l.length ≤ 1000000000 → Srt cS l a m → Srt cS l m b → (∀ l3, Stab cS a b l l3 → Srt cS l3 a b → Q (.tup []) [.row 135 (l3.map eS)]) → Does Tryz.prog 218 [.own 0, vi a, vi m, vi b, .fn 87 []] [.row 135 (l.map eS)] 1 Q
  | 0, l, a, m, b, Q, hk, h1, h2, _, _, _, _, _ => absurd hk (by omega)
  | k + 1, l, a, m, b, Q, hk, h1, h2, h3, h4, h5, h6, h => sym_step l a m b Q h4 h1 h2 h3 h5 h6 (fun l2 a2 m2 b2 Q2 g1 g2 g3 g4 g5 g6 g7 g8 => sym_side k l2 a2 m2 b2 Q2 (by omega) g2 g3 g4 g5 g6 g7 g8) h
theorem wmul2 (n : Nat) (h : n < 4000000000) : w64 (2 * (n : Int)) = ((2 * n : Nat) : Int) := by rw [w64_of _ (by omega)]; omega
theorem wmul2' (n : Nat) (h : n < 4000000000) : w64 ((n : Int) * 2) = ((2 * n : Nat) : Int) := by rw [w64_of _ (by omega)]; omega
theorem dvd_le {d s a : Nat} (h1 : d ∣ s) (h2 : d ∣ a) (h : s < a + d) : s ≤ a := by
  obtain ⟨x, rfl⟩ := h1
  obtain ⟨y, rfl⟩ := h2
  have : d * x < d * (y + 1) := by rw [Nat.mul_add, Nat.mul_one]; exact h
  exact Nat.mul_le_mul_left d (Nat.lt_succ_iff.1 (Nat.lt_of_mul_lt_mul_left this))
theorem dvd_up {d s a : Nat} (h1 : d ∣ s) (h2 : d ∣ a) (h : s < a) : s + d ≤ a := by
  rcases Nat.lt_or_ge a (s + d) with h3 | h3
  · have := dvd_le h2 h1 h3; omega
  · exact h3
/-- In order by pieces. -/
def Pcs {α : Type} [Inhabited α] (c : α → α → Int) (l : List α) (bs n : Nat) : Prop := ∀ s, bs ∣ s → s < n → Srt c l s (min (s + bs) n)
/-- The pieces up to a are merged by two. -/
structure Pass {α : Type} [Inhabited α] (c : α → α → Int) (l : List α) (bs a n : Nat) : Prop where
  at_ : 2 * bs ∣ a
  le : a ≤ n
  done : ∀ s, 2 * bs ∣ s → s < a → Srt c l s (s + 2 * bs)
  rest : ∀ s, bs ∣ s → a ≤ s → s < n → Srt c l s (min (s + bs) n)
theorem Pass.start {α : Type} [Inhabited α] {c : α → α → Int} {l : List α} {bs n : Nat} (h : Pcs c l bs n) : Pass c l bs 0 n := ⟨⟨0, rfl⟩, Nat.zero_le _, fun s _ h => absurd h (Nat.not_lt_zero _), fun s h1 _ h2 => h s h1 h2⟩
theorem Pass.step {α : Type} [Inhabited α] {c : α → α → Int} {l l2 : List α} {bs a n : Nat} (h : Pass c l bs a n) (hb : a + 2 * bs ≤ n) (hs : Stab c a (a + 2 * bs) l l2) (ho : Srt c l2 a (a + 2 * bs)) : Pass c l2 bs (a + 2 * bs) n := by
  refine ⟨(Nat.dvd_add_right h.at_).2 (Nat.dvd_refl _), hb, fun s h1 h2 => ?_, fun s h1 h2 h3 => ?_⟩
  · have h3 := dvd_le h1 h.at_ h2
    by_cases e : s = a
    · subst e; exact ho
    · have h4 := dvd_up h1 h.at_ (by omega)
      exact (h.done s h1 (by omega)).congr fun k g1 g2 => hs.out k (.inl (by omega))
  · exact (h.rest s h1 (by omega) h3).congr fun k g1 g2 => hs.out k (.inr (by omega))
theorem Pass.end_ {α : Type} [Inhabited α] {c : α → α → Int} {l l2 : List α} {bs a n : Nat} (h : Pass c l bs a n) (hb : n < a + 2 * bs) (hs : Stab c a n l l2) (ho : Srt c l2 a n) : Pcs c l2 (2 * bs) n := fun s h1 h2 => by
  have h3 := dvd_le h1 h.at_ (by omega)
  by_cases e : s = a
  · subst e; exact ho.mono (Nat.le_refl _) (Nat.min_le_right _ _)
  · have h4 := dvd_up h1 h.at_ (by omega)
    have h5 := h.le
    exact ((h.done s h1 (by omega)).congr fun k g1 g2 => hs.out k (.inl (by omega))).mono (Nat.le_refl _) (Nat.min_le_left _ _)
theorem Pass.mid {α : Type} [Inhabited α] {c : α → α → Int} {l : List α} {bs a n : Nat} (h : Pass c l bs a n) (hn : a + bs < n) : Srt c l a (a + bs) ∧ Srt c l (a + bs) (min (a + 2 * bs) n) := by
  have hd : bs ∣ a := Nat.dvd_trans ⟨2, by omega⟩ h.at_
  refine ⟨(h.rest a hd (Nat.le_refl _) (by omega)).mono (Nat.le_refl _) (by omega), (h.rest (a + bs) ((Nat.dvd_add_right hd).2 (Nat.dvd_refl _)) (by omega) hn).mono (Nat.le_refl _) (by omega)⟩
theorem Pass.tail {α : Type} [Inhabited α] {c : α → α → Int} {l : List α} {bs a n : Nat} (h : Pass c l bs a n) (hn : n ≤ a + bs) : Srt c l a n := by
  have hd : bs ∣ a := Nat.dvd_trans ⟨2, by omega⟩ h.at_
  by_cases e : a < n
  · exact (h.rest a hd (Nat.le_refl _) e).mono (Nat.le_refl _) (by omega)
  · exact srt_one _ _ _ (by omega)
theorem Pcs.first {α : Type} [Inhabited α] {c : α → α → Int} {l l2 : List α} {a n : Nat} (ha : 20 ∣ a) (h : ∀ s, 20 ∣ s → s < a → Srt c l s (s + 20)) (hn : n < a + 20) (hl : a ≤ n) (hs : Stab c a n l l2) (ho : Srt c l2 a n) : Pcs c l2 20 n := fun s h1 h2 => by
  by_cases e : s = a
  · subst e; exact ho.mono (Nat.le_refl _) (Nat.min_le_right _ _)
  · exact ((h s h1 (by omega)).congr fun k g1 g2 => hs.out k (.inl (by omega))).mono (Nat.le_refl _) (Nat.min_le_left _ _)
theorem Pcs.all {α : Type} [Inhabited α] {c : α → α → Int} {l : List α} {bs n : Nat} (h : Pcs c l bs n) (hn : n ≤ bs) : Srt c l 0 n := by
  by_cases e : 0 < n
  · exact (h 0 ⟨0, rfl⟩ e).mono (Nat.le_refl _) (by omega)
  · exact srt_one _ _ _ (by omega)
theorem wadd20 (n : Nat) (h : n < 4000000000) : w64 ((n : Int) + 20) = ((n + 20 : Nat) : Int) := by rw [w64_of _ (by omega)]; omega
theorem stable_side (l : List Side) (Q : PV → Mem → Prop) (hl : l.length ≤ 1000000000) (h : ∀ l2, Stab cS 0 l.length l l2 → Srt cS l2 0 l.length → Q (.tup []) [.row 135 (l2.map eS)]) : Does Tryz.prog 189 [.own 0, vi l.length, .fn 87 []] [.row 135 (l.map eS)] 1 Q := by
  refine does_of mixed Tryz.func189 rfl (by kernel_rfl) lentside (slots [(0, [0, 1, 2, 6, 7, 8]), (2, [0, 1, 2, 6]), (4, [0, 1, 2, 6, 7, 8])]) ?_
  simp only [Tryz.f189]
  generalize hn : l.length = n at *
  repeat' (first
    | rw [wadd _ _ (by omega)]
    | rw [wsub _ _ (by omega) (by omega)]
    | rw [wmul2 _ (by omega)]
    | rw [wmul2' _ (by omega)]
    | rw [wadd20 _ (by omega)]
    | simp -implicitDefEqProofs only [go_sem, eS, Int.toNat_natCast, Nat.reduceAdd, Nat.reduceEqDiff, Nat.reduceLT, Nat.reduceBEq, Nat.reduceLeDiff, Nat.reduceSub, Int.reduceLE, Int.reduceNeg, Int.reduceEq, Int.reduceToNat]
    | with_reducible refine know_of fun _ => ?_
    | with_reducible refine ifD1 (by omega) ?_
    | with_reducible refine ifD0 (by omega) ?_
    | with_reducible refine ifE1 (by omega) ?_
    | with_reducible refine ifE0 (by omega) ?_
    | with_reducible refine ifN1 (by omega) ?_
    | with_reducible refine ifN0 (by omega) ?_
    | with_reducible refine ifD_of (fun _ => ?_) (fun _ => ?_)
    | with_reducible refine ifE_of (fun _ => ?_) (fun _ => ?_)
    | with_reducible refine ifN_of (fun _ => ?_) (fun _ => ?_)
    | with_reducible refine Go.V.if1 (by assumption) ?_
    | with_reducible refine Go.V.if0 (by assumption) ?_
    | with_reducible refine if_of (fun _ => ?_) (fun _ => ?_)
    | with_reducible refine s_of (idx_get _ _ _ (by omega) (by omega)) ?_
    | with_reducible refine s_of (idx_get _ _ _ (by omega) (by simp only [List.length_set, List.length_append, List.length_take, List.length_drop, List.length_reverse, List.length_singleton]; omega)) ?_
    | with_reducible refine s_of (map_get _ _ _ (by omega)) ?_
    | with_reducible refine s_of (map_get _ _ _ (by simp only [List.length_set]; omega)) ?_
    | with_reducible refine s_of (if_neg (by omega)) ?_
    | with_reducible refine s_of (if_pos (by omega)) ?_
    | with_reducible refine need_of (by omega) ?_
    | with_reducible refine nil_of (fun _ => ?_) ?_
    | with_reducible refine alt_of ?_ ?_
    | (with_reducible apply join_of; intro _ _)
    | with_reducible assumption)
  refine loop_then (loop_ind (σ := Nat × List Side) (fun s => [(0, .own 0), (1, vi n), (2, .fn 87 []), (6, vi 20), (7, vi s.1), (8, vi (s.1 + 20 : Nat))]) (fun s => [.row 135 (s.2.map eS)]) (fun s => n - s.1) (fun s => s.1 ≤ n ∧ 20 ∣ s.1 ∧ Stab cS 0 n l s.2 ∧ ∀ q, 20 ∣ q → q < s.1 → Srt cS s.2 q (q + 20)) ?_ (0, l) ⟨Nat.zero_le _, ⟨0, rfl⟩, Stab.refl _ _ _, fun q _ hq => absurd hq (Nat.not_lt_zero _)⟩)
  rintro X ⟨a, s⟩ ⟨han, ha, hs, ho⟩ ih
  try dsimp only at ih ⊢
  dsimp only at han ha hs ho
  have hsl := hs.len
  repeat' (first
    | rw [wadd _ _ (by omega)]
    | rw [wsub _ _ (by omega) (by omega)]
    | rw [wmul2 _ (by omega)]
    | rw [wmul2' _ (by omega)]
    | rw [wadd20 _ (by omega)]
    | simp -implicitDefEqProofs only [go_sem, eS, Int.toNat_natCast, Nat.reduceAdd, Nat.reduceEqDiff, Nat.reduceLT, Nat.reduceBEq, Nat.reduceLeDiff, Nat.reduceSub, Int.reduceLE, Int.reduceNeg, Int.reduceEq, Int.reduceToNat]
    | with_reducible refine know_of fun _ => ?_
    | (with_reducible refine does_then (ins_side _ _ _ _ (by omega) (by omega) (by omega) (fun l2 t2 u2 => ?_)))
    | with_reducible refine ifD1 (by omega) ?_
    | with_reducible refine ifD0 (by omega) ?_
    | with_reducible refine ifE1 (by omega) ?_
    | with_reducible refine ifE0 (by omega) ?_
    | with_reducible refine ifN1 (by omega) ?_
    | with_reducible refine ifN0 (by omega) ?_
    | with_reducible refine ifD_of (fun _ => ?_) (fun _ => ?_)
    | with_reducible refine ifE_of (fun _ => ?_) (fun _ => ?_)
    | with_reducible refine ifN_of (fun _ => ?_) (fun _ => ?_)
    | with_reducible refine Go.V.if1 (by assumption) ?_
    | with_reducible refine Go.V.if0 (by assumption) ?_
    | with_reducible refine if_of (fun _ => ?_) (fun _ => ?_)
    | with_reducible refine s_of (idx_get _ _ _ (by omega) (by omega)) ?_
    | with_reducible refine s_of (idx_get _ _ _ (by omega) (by simp only [List.length_set, List.length_append, List.length_take, List.length_drop, List.length_reverse, List.length_singleton]; omega)) ?_
    | with_reducible refine s_of (map_get _ _ _ (by omega)) ?_
    | with_reducible refine s_of (map_get _ _ _ (by simp only [List.length_set]; omega)) ?_
    | with_reducible refine s_of (if_neg (by omega)) ?_
    | with_reducible refine s_of (if_pos (by omega)) ?_
    | with_reducible refine need_of (by omega) ?_
    | with_reducible refine nil_of (fun _ => ?_) ?_
    | with_reducible refine alt_of ?_ ?_
    | (with_reducible apply join_of; intro _ _)
    | with_reducible assumption)
  · refine ih (a + 20, l2) (by dsimp only; omega) ⟨by dsimp only; omega, by dsimp only; omega, hs.trans (t2.widen (Nat.zero_le _) (by omega)), fun q g1 g2 => ?_⟩
    by_cases e : q = a
    · subst e; exact u2
    · exact (ho q g1 (by dsimp only at g2; omega)).congr fun k g3 g4 => t2.out k (.inl (by dsimp only at g2; omega))
  have hp : Pcs cS l2 20 n := Pcs.first ha ho (by omega) han t2 u2
  have hst : Stab cS 0 n l l2 := hs.trans (t2.widen (Nat.zero_le _) (Nat.le_refl _))
  clear ih hs ho hsl t2 u2
  refine loop_then (loop_ind (σ := Nat × List Side) (fun s => [(0, .own 0), (1, vi n), (2, .fn 87 []), (6, vi s.1)]) (fun s => [.row 135 (s.2.map eS)]) (fun s => n - s.1) (fun s => Stab cS 0 n l s.2 ∧ Pcs cS s.2 s.1 n ∧ 0 < s.1 ∧ s.1 ≤ 2 * n + 20) ?_ (20, l2) ⟨hst, hp, by dsimp only; omega, by dsimp only; omega⟩)
  rintro X ⟨bs, s⟩ ⟨hs, ho, hb0, hb1⟩ ih
  try dsimp only at ih ⊢
  dsimp only at hs ho hb0 hb1
  have hsl := hs.len
  repeat' (first
    | rw [wadd _ _ (by omega)]
    | rw [wsub _ _ (by omega) (by omega)]
    | rw [wmul2 _ (by omega)]
    | rw [wmul2' _ (by omega)]
    | rw [wadd20 _ (by omega)]
    | simp -implicitDefEqProofs only [go_sem, eS, Int.toNat_natCast, Nat.reduceAdd, Nat.reduceEqDiff, Nat.reduceLT, Nat.reduceBEq, Nat.reduceLeDiff, Nat.reduceSub, Int.reduceLE, Int.reduceNeg, Int.reduceEq, Int.reduceToNat]
    | with_reducible refine know_of fun _ => ?_
    | with_reducible refine ifD1 (by omega) ?_
    | with_reducible refine ifD0 (by omega) ?_
    | with_reducible refine ifE1 (by omega) ?_
    | with_reducible refine ifE0 (by omega) ?_
    | with_reducible refine ifN1 (by omega) ?_
    | with_reducible refine ifN0 (by omega) ?_
    | with_reducible refine ifD_of (fun _ => ?_) (fun _ => ?_)
    | with_reducible refine ifE_of (fun _ => ?_) (fun _ => ?_)
    | with_reducible refine ifN_of (fun _ => ?_) (fun _ => ?_)
    | with_reducible refine Go.V.if1 (by assumption) ?_
    | with_reducible refine Go.V.if0 (by assumption) ?_
    | with_reducible refine if_of (fun _ => ?_) (fun _ => ?_)
    | with_reducible refine s_of (idx_get _ _ _ (by omega) (by omega)) ?_
    | with_reducible refine s_of (idx_get _ _ _ (by omega) (by simp only [List.length_set, List.length_append, List.length_take, List.length_drop, List.length_reverse, List.length_singleton]; omega)) ?_
    | with_reducible refine s_of (map_get _ _ _ (by omega)) ?_
    | with_reducible refine s_of (map_get _ _ _ (by simp only [List.length_set]; omega)) ?_
    | with_reducible refine s_of (if_neg (by omega)) ?_
    | with_reducible refine s_of (if_pos (by omega)) ?_
    | with_reducible refine need_of (by omega) ?_
    | with_reducible refine nil_of (fun _ => ?_) ?_
    | with_reducible refine alt_of ?_ ?_
    | (with_reducible apply join_of; intro _ _)
    | with_reducible assumption)
  rotate_left
  · exact h s hs (ho.all (by omega))
  have ih0 := ih
  clear ih
  refine loop_then (loop_ind (σ := Nat × List Side) (fun s => [(0, .own 0), (1, vi n), (2, .fn 87 []), (6, vi bs), (7, vi s.1), (8, vi (2 * bs + s.1 : Nat))]) (fun s => [.row 135 (s.2.map eS)]) (fun s => n - s.1) (fun s => Stab cS 0 n l s.2 ∧ Pass cS s.2 bs s.1 n) ?_ (0, s) ⟨hs, Pass.start ho⟩)
  rintro X ⟨a, s⟩ ⟨hs, hP⟩ ih
  try dsimp only at ih ⊢
  dsimp only at hs hP
  have hsl := hs.len
  have hle := hP.le
  repeat' (first
    | rw [wadd _ _ (by omega)]
    | rw [wsub _ _ (by omega) (by omega)]
    | rw [wmul2 _ (by omega)]
    | rw [wmul2' _ (by omega)]
    | rw [wadd20 _ (by omega)]
    | simp -implicitDefEqProofs only [go_sem, eS, Int.toNat_natCast, Nat.reduceAdd, Nat.reduceEqDiff, Nat.reduceLT, Nat.reduceBEq, Nat.reduceLeDiff, Nat.reduceSub, Int.reduceLE, Int.reduceNeg, Int.reduceEq, Int.reduceToNat]
    | with_reducible refine know_of fun _ => ?_
    | (with_reducible refine does_then (sym_side _ _ _ _ _ _ (Nat.le_refl _) (by omega) (by omega) (by omega) (by omega) (hP.mid (by omega)).1 ((hP.mid (by omega)).2.mono (Nat.le_refl _) (by omega)) (fun l3 t3 u3 => ?_)))
    | with_reducible refine ifD1 (by omega) ?_
    | with_reducible refine ifD0 (by omega) ?_
    | with_reducible refine ifE1 (by omega) ?_
    | with_reducible refine ifE0 (by omega) ?_
    | with_reducible refine ifN1 (by omega) ?_
    | with_reducible refine ifN0 (by omega) ?_
    | with_reducible refine ifD_of (fun _ => ?_) (fun _ => ?_)
    | with_reducible refine ifE_of (fun _ => ?_) (fun _ => ?_)
    | with_reducible refine ifN_of (fun _ => ?_) (fun _ => ?_)
    | with_reducible refine Go.V.if1 (by assumption) ?_
    | with_reducible refine Go.V.if0 (by assumption) ?_
    | with_reducible refine if_of (fun _ => ?_) (fun _ => ?_)
    | with_reducible refine s_of (idx_get _ _ _ (by omega) (by omega)) ?_
    | with_reducible refine s_of (idx_get _ _ _ (by omega) (by simp only [List.length_set, List.length_append, List.length_take, List.length_drop, List.length_reverse, List.length_singleton]; omega)) ?_
    | with_reducible refine s_of (map_get _ _ _ (by omega)) ?_
    | with_reducible refine s_of (map_get _ _ _ (by simp only [List.length_set]; omega)) ?_
    | with_reducible refine s_of (if_neg (by omega)) ?_
    | with_reducible refine s_of (if_pos (by omega)) ?_
    | with_reducible refine need_of (by omega) ?_
    | with_reducible refine nil_of (fun _ => ?_) ?_
    | with_reducible refine alt_of ?_ ?_
    | (with_reducible apply join_of; intro _ _)
    | with_reducible assumption)
  · have e : 2 * bs + a = a + 2 * bs := by omega
    rw [e] at t3 u3
    have ih1 := ih (a + 2 * bs, l3) (by dsimp only; omega) ⟨hs.trans (t3.widen (Nat.zero_le _) (by omega)), hP.step (by omega) t3 u3⟩
    dsimp only at ih1
    rw [e, show a + 2 * bs + 2 * bs = 2 * bs + (a + 2 * bs) by omega]
    exact ih1
  · exact ih0 (2 * bs, l3) (by dsimp only; omega) ⟨hs.trans (t3.widen (Nat.zero_le _) (Nat.le_refl _)), hP.end_ (by omega) t3 u3, by dsimp only; omega, by dsimp only; omega⟩
  · exact ih0 (2 * bs, s) (by dsimp only; omega) ⟨hs, hP.end_ (by omega) (Stab.refl _ _ _) (hP.tail (by omega)), by dsimp only; omega, by dsimp only; omega⟩
theorem sort_side (l : List Side) (Q : PV → Mem → Prop) (hl : l.length ≤ 1000000000) (h : ∀ l2, Stab cS 0 l.length l l2 → Srt cS l2 0 l.length → Q (.tup []) [.row 135 (l2.map eS)]) : Does Tryz.prog 142 [.own 0, .fn 87 []] [.row 135 (l.map eS)] 1 Q := by
  refine does_of mixed Tryz.func142 rfl (by kernel_rfl) lentside (slots []) ?_
  simp only [Tryz.f142]
  repeat' (first
    | simp -implicitDefEqProofs only [go_sem, Nat.reduceAdd, Nat.reduceEqDiff, Nat.reduceLT, Nat.reduceBEq, Nat.reduceLeDiff, Nat.reduceSub, Int.reduceLE, Int.reduceNeg, Int.reduceEq, Int.reduceToNat]
    | with_reducible refine know_of fun _ => ?_
    | (with_reducible refine does_then (stable_side _ _ (by omega) (fun l2 t2 u2 => ?_)))
    | with_reducible refine ifD1 (by omega) ?_
    | with_reducible refine ifD0 (by omega) ?_
    | with_reducible refine ifE1 (by omega) ?_
    | with_reducible refine ifE0 (by omega) ?_
    | with_reducible refine ifN1 (by omega) ?_
    | with_reducible refine ifN0 (by omega) ?_
    | with_reducible refine ifD_of (fun _ => ?_) (fun _ => ?_)
    | with_reducible refine ifE_of (fun _ => ?_) (fun _ => ?_)
    | with_reducible refine ifN_of (fun _ => ?_) (fun _ => ?_)
    | with_reducible refine Go.V.if1 (by assumption) ?_
    | with_reducible refine Go.V.if0 (by assumption) ?_
    | with_reducible refine if_of (fun _ => ?_) (fun _ => ?_)
    | with_reducible refine s_of (idx_get _ _ _ (by omega) (by omega)) ?_
    | with_reducible refine s_of (idx_get _ _ _ (by omega) (by simp only [List.length_set, List.length_append, List.length_take, List.length_drop, List.length_reverse, List.length_singleton]; omega)) ?_
    | with_reducible refine s_of (map_get _ _ _ (by omega)) ?_
    | with_reducible refine s_of (map_get _ _ _ (by simp only [List.length_set]; omega)) ?_
    | with_reducible refine s_of (if_neg (by omega)) ?_
    | with_reducible refine s_of (if_pos (by omega)) ?_
    | with_reducible refine need_of (by omega) ?_
    | with_reducible refine nil_of (fun _ => ?_) ?_
    | with_reducible refine alt_of ?_ ?_
    | (with_reducible apply join_of; intro _ _)
    | with_reducible assumption)
  all_goals exact h l2 t2 u2
theorem sorted_side (l : List Side) (Q : PV → Mem → Prop) (hl : l.length ≤ 1000000000) (h : ∀ l2, Stab cS 0 l.length l l2 → Srt cS l2 0 l.length → Q (.own 0) [.row 135 (l2.map eS)]) : Does Tryz.prog 90 [.sl (l.map eS), .fn 87 []] [] 0 Q := by
  refine does_of mixed Tryz.func90 rfl (by kernel_rfl) lentside (slots []) ?_
  simp only [Tryz.f90]
  repeat' (first
    | simp -implicitDefEqProofs only [go_sem, Nat.reduceAdd, Nat.reduceEqDiff, Nat.reduceLT, Nat.reduceBEq, Nat.reduceLeDiff, Nat.reduceSub, Int.reduceLE, Int.reduceNeg, Int.reduceEq, Int.reduceToNat]
    | with_reducible refine know_of fun _ => ?_
    | (with_reducible refine does_then (clone_side _ _ (by omega) ?_))
    | (with_reducible refine does_then (sort_side _ _ (by omega) (fun l2 t2 u2 => ?_)))
    | with_reducible refine ifD1 (by omega) ?_
    | with_reducible refine ifD0 (by omega) ?_
    | with_reducible refine ifE1 (by omega) ?_
    | with_reducible refine ifE0 (by omega) ?_
    | with_reducible refine ifN1 (by omega) ?_
    | with_reducible refine ifN0 (by omega) ?_
    | with_reducible refine ifD_of (fun _ => ?_) (fun _ => ?_)
    | with_reducible refine ifE_of (fun _ => ?_) (fun _ => ?_)
    | with_reducible refine ifN_of (fun _ => ?_) (fun _ => ?_)
    | with_reducible refine Go.V.if1 (by assumption) ?_
    | with_reducible refine Go.V.if0 (by assumption) ?_
    | with_reducible refine if_of (fun _ => ?_) (fun _ => ?_)
    | with_reducible refine s_of (idx_get _ _ _ (by omega) (by omega)) ?_
    | with_reducible refine s_of (idx_get _ _ _ (by omega) (by simp only [List.length_set, List.length_append, List.length_take, List.length_drop, List.length_reverse, List.length_singleton]; omega)) ?_
    | with_reducible refine s_of (map_get _ _ _ (by omega)) ?_
    | with_reducible refine s_of (map_get _ _ _ (by simp only [List.length_set]; omega)) ?_
    | with_reducible refine s_of (if_neg (by omega)) ?_
    | with_reducible refine s_of (if_pos (by omega)) ?_
    | with_reducible refine need_of (by omega) ?_
    | with_reducible refine nil_of (fun _ => ?_) ?_
    | with_reducible refine alt_of ?_ ?_
    | (with_reducible apply join_of; intro _ _)
    | with_reducible assumption)
  all_goals exact h l2 t2 u2
end Go.V
