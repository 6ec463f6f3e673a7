import Derived.Test.YtbccejopeclhmaaGreatSF
import Derived.Test.YtbccejopeclhmaaGreatF2
namespace Go.V
open Go Go.RowKit Go.Proofs
set_option maxRecDepth 100000
set_option maxHeartbeats 4000000
set_option linter.unusedVariables false
set_option linter.unusedSimpArgs false
theorem row_empty' {P : Program} {M : Nat → Prop} {w : World} {m : Mem} {ρ : Nat → Value} {e : TypeId} {z : Nat} (hz : rowSize P e = some z) : BlkOk P M w m ρ (.slice none 0 0) (.row e []) := by
  obtain ⟨i, zv, hi, hzv, hzs, h0, hz4, hby, rfl⟩ := rowSize_eq hz
  exact .row (xs := []) hi hzv hzs h0 hby (by simp) ⟨by simp, .inl ⟨rfl, rfl⟩⟩ (by simp) (fun _ e he => by cases he) (fun q j x p hq => by simp at hq) (by simp)
theorem does_nil {P : Program} {f : FuncId} {args : List PV} {e : TypeId} {z : Nat} {Q : PV → Mem → Prop} (hz : rowSize P e = some z) (h : Does P f args [] 0 (fun r m' => Q r m' ∨ ∃ p, r = .tup [.val (.slice none 0 0), .val p] ∧ m' = [] ∧ Q (.tup [.own 0, .val p]) [.row e []])) : Does P f args [] 0 Q := by
  refine ⟨h.1, fun M w vs ρ hM hm hl hr => (h.run hM hm hl hr).mono fun en w' he => ?_⟩
  obtain ⟨v, r, m', ρ', rfl, hq, hf, hrep, hmem, hft, hnew⟩ := he
  rcases hq with hq | ⟨p, rfl, rfl, hq⟩
  · exact .inl ⟨v, r, m', ρ', rfl, hq, hf, hrep, hmem, hft, hnew⟩
  have one : ∀ {b : Nat} {x : Blk}, ([.row e []] : Mem)[b]? = some x → b = 0 ∧ x = .row e [] := by
    intro b x hx
    cases b with
    | zero => simp at hx; exact ⟨rfl, hx.symm⟩
    | succ b => simp at hx
  have lv : ∀ {b : Nat}, Live [.row e []] b → b = 0 := fun ⟨x, hx, _⟩ => (one hx).1
  have htup : ∃ y, v = .tuple #[.slice none 0 0, y] ∧ Rep M w' [.row e []] (fun _ => .slice none 0 0) (.val p) y := by
    cases hrep with
    | im hh => cases hh with
      | tup hl hx =>
        rename_i vs
        obtain ⟨l⟩ := vs
        match l, hl with
        | [x, y], _ =>
          cases hx 0 _ x rfl rfl with
          | val _ => 
            have h2 := hx 1 _ y rfl rfl
            cases h2 with
            | val h3 => exact ⟨_, rfl, .im (.val h3)⟩
    | tup hl hx =>
      rename_i vs
      obtain ⟨l⟩ := vs
      match l, hl with
      | [x, y], _ =>
        obtain rfl := (hx 0 _ x rfl rfl).val_eq
        have h2 := hx 1 _ y rfl rfl
        cases h2 with
        | im h3 => cases h3 with
          | val h4 => exact ⟨_, rfl, .im (.val h4)⟩
  obtain ⟨y, rfl, hy⟩ := htup
  refine .inl ⟨_, .tup [.own 0, .val p], [.row e []], fun _ => .slice none 0 0, rfl, hq, hf, .tup rfl (fun i q u hq hu => ?_), ⟨fun b x hx => ?_, fun b b' k hb hb' _ _ => (lv hb).trans (lv hb').symm, fun b k _ hk => by cases hk⟩, ⟨by simp, fun b cs hb => by simp at hb, fun b e es hb => by simp at hb, fun b hb => by simp at hb⟩, fun b k _ hk => by cases hk⟩
  · match i, hq, hu with
    | 0, hq, hu => simp at hq hu; subst hq; subst hu; exact .own (e := e) (es := []) rfl
    | 1, hq, hu => simp at hq hu; subst hq; subst hu; exact hy
    | i + 2, hq, _ => simp at hq
  · obtain ⟨rfl, rfl⟩ := one hx
    exact row_empty' hz
def sumZ : List Side → Int → Int × Int
  | [], n => (n, 0)
  | x :: l, n => if (over (if x.away then n - x.diff else n + x.diff)).2 ≠ 0 then (0, (over (if x.away then n - x.diff else n + x.diff)).2) else sumZ l (over (if x.away then n - x.diff else n + x.diff)).1
/-- Run by run, of a list that is in order. -/
def lessZ (r : List Side) (acc : List Count) : List Count × Int := match r with
  | [] => (acc, 0)
  | x :: r => if (sumZ (hd cS x r) 0).2 ≠ 0 then ([], (sumZ (hd cS x r) 0).2) else lessZ (tl cS x r) (if (sumZ (hd cS x r) 0).1 ≠ 0 then acc ++ [⟨x.row, (sumZ (hd cS x r) 0).1⟩] else acc)
termination_by r.length
decreasing_by have := tl_len cS x r; simp; omega
def sidesA (a : List Count) : List Side := a.map fun c => ⟨c.row, c.diff, false⟩
def sidesB (b : List Count) : List Side := b.map fun c => ⟨c.row, c.diff, true⟩
theorem appS (A : List Side) (r : List Val) (n : Int) (w : Bool) : A.map eS ++ [[.sl (r.map eV), vi n, vb w]] = (A ++ [(⟨r, n, w⟩ : Side)]).map eS := by rw [List.map_append]; rfl
theorem sidesA_step (a : List Count) (i : Nat) (h : i < a.length) : sidesA (a.take i) ++ [(⟨(a.getD i default).row, (a.getD i default).diff, false⟩ : Side)] = sidesA (a.take (i + 1)) := by
  unfold sidesA
  rw [List.take_add_one, List.map_append, List.getD_eq_getElem?_getD, List.getElem?_eq_getElem h]; rfl
theorem sidesB_step (b : List Count) (i : Nat) (h : i < b.length) : sidesB (b.take i) ++ [(⟨(b.getD i default).row, (b.getD i default).diff, true⟩ : Side)] = sidesB (b.take (i + 1)) := by
  unfold sidesB
  rw [List.take_add_one, List.map_append, List.getD_eq_getElem?_getD, List.getElem?_eq_getElem h]; rfl
theorem sidesA_len (a : List Count) : (sidesA a).length = a.length := List.length_map ..
theorem sidesB_len (b : List Count) : (sidesB b).length = b.length := List.length_map ..
/-- The memory between two rounds. -/
def mZ (acc : List Count) : Mem := match acc with
  | [] => [.var [.val (.slice none 0 0)], .var [vi 0], .var [.val (.slice none 0 0)]]
  | c :: l => [.var [.val (.slice none 0 0)], .var [vi 0], .var [.own 3], .row 61 ((c :: l).map eC)]
theorem Stab.mem_all {α : Type} [Inhabited α] {c : α → α → Int} {l l2 : List α} (h : Stab c 0 l.length l l2) {y : α} (hy : y ∈ l2) : y ∈ l := by
  obtain ⟨k, hk, rfl⟩ := List.getElem_of_mem hy
  rw [h.len] at hk
  obtain ⟨j, _, hj, e⟩ := h.mem k (Nat.zero_le _) hk
  rw [List.getD_eq_getElem?_getD, List.getD_eq_getElem?_getD, List.getElem?_eq_getElem (by rw [h.len]; exact hk), List.getElem?_eq_getElem hj] at e
  simp only [Option.getD_some] at e
  rw [e]; exact List.getElem_mem hj
theorem mZ_nil : mZ [] = [.var [.val (.slice none 0 0)], .var [vi 0], .var [.val (.slice none 0 0)]] := rfl
theorem mZ_cons (c : Count) (l : List Count) : mZ (c :: l) = [.var [.val (.slice none 0 0)], .var [vi 0], .var [.own 3], .row 61 ((c :: l).map eC)] := rfl
theorem KR_n {tm : Tm} {Y Z : Mem → Prop} {t : Tm} {m : Mem} : KR tm Y Z .normal t m = back tm m Y := rfl
theorem KR_r {tm : Tm} {Y Z : Mem → Prop} {t : Tm} {m : Mem} : KR tm Y Z .ret t m = back tm m Z := rfl
theorem zset_Less (a b : List Count) (Q : PV → Mem → Prop) (hla : a.length ≤ 1000000) (hlb : b.length ≤ 1000000) (hra : ∀ y ∈ a, y.row.length ≤ 1000000) (hrb : ∀ y ∈ b, y.row.length ≤ 1000000) (h : (∀ l2, Stab cS 0 (sidesA a ++ sidesB b).length (sidesA a ++ sidesB b) l2 → Srt cS l2 0 (sidesA a ++ sidesB b).length → Q (.tup [.own 0, vi (lessZ l2 []).2]) [.row 61 ((lessZ l2 []).1.map eC)])) : Does Tryz.prog 55 [.sl (a.map eC), .sl (b.map eC)] [] 0 Q := by
  obtain ⟨i, hib, hiN, hi⟩ := iter_side
  refine does_nil (e := 61) (z := 2) (by kernel_rfl) ?_
  refine does_range (As := [_, _, _, _, _, _]) (X := fun r m => ∃ acc, m = mZ acc ∧ acc.length + r.length ≤ 2000000 ∧ (∀ y ∈ r, y.row.length ≤ 1000000) ∧ Q (.tup [.own 0, vi (lessZ r acc).2]) [.row 61 ((lessZ r acc).1.map eC)]) (i1 := 5) (i2 := 6) (lv := [4, 5, 12]) mixed Tryz.func55 rfl (by kernel_rfl) (treesT [(28, (.one 1 (.one 2 (.one 3 (.one 4 (.one 5 (.one 7 (.alt (.one 0 (.one 6 (.one 8 (.one 9 (.one 10 (.one 11 .nil)))))) (.one 6 (.one 0 (.one 8 (.one 9 (.one 10 (.one 11 .nil)))))))))))), [4, 5, 12]))]) no (slots [(0, [1, 4, 5, 6, 19, 20, 21]), (2, [4, 5, 6, 31, 32, 33]), (6, [4, 5, 12, 13, 14, 49, 50, 51])]) (by kernel_rfl) (by kernel_rfl) (by kernel_rfl) (by kernel_rfl) (by kernel_rfl) (by kernel_rfl) (by kernel_rfl) (by decide) Tryz.func140 hib (by kernel_rfl) hiN (fun _ _ => by kernel_rfl) hi [(4, .adr 0 0), (5, .adr 1 0), (12, .adr 2 0)] (by kernel_rfl) ?_ ?_ ?_
  rotate_left 2
  · simp only [chainC]
    repeat' (first
    | simp -implicitDefEqProofs only [go_sem, eS, eC, onlyN_n, Int.toNat_natCast, Nat.reduceAdd, Nat.reduceEqDiff, Nat.reduceLT, Nat.reduceBEq, Nat.reduceLeDiff, Nat.reduceSub, Int.reduceLE, Int.reduceNeg, Int.reduceEq, Int.reduceToNat]
    | with_reducible refine know_of fun _ => ?_
    | with_reducible refine ifD1 (by omega) ?_
    | with_reducible refine ifD0 (by omega) ?_
    | with_reducible refine ifE1 (by omega) ?_
    | with_reducible refine ifE0 (by omega) ?_
    | with_reducible refine ifN1 (by omega) ?_
    | with_reducible refine ifN0 (by omega) ?_
    | with_reducible refine ifD_of (fun _ => ?_) (fun _ => ?_)
    | with_reducible refine ifE_of (fun _ => ?_) (fun _ => ?_)
    | with_reducible refine ifN_of (fun _ => ?_) (fun _ => ?_)
    | with_reducible refine Go.V.if1 (by assumption) ?_
    | with_reducible refine Go.V.if0 (by assumption) ?_
    | with_reducible refine if_of (fun _ => ?_) (fun _ => ?_)
    | with_reducible refine s_of (idx_get _ _ _ (by omega) (by omega)) ?_
    | with_reducible refine s_of (idx_get _ _ _ (by omega) (by simp only [List.length_set, List.length_append, List.length_take, List.length_drop, List.length_reverse, List.length_singleton]; omega)) ?_
    | with_reducible refine s_of (map_get _ _ _ (by omega)) ?_
    | with_reducible refine s_of (map_get _ _ _ (by simp only [List.length_set]; omega)) ?_
    | with_reducible refine s_of (if_neg (by omega)) ?_
    | with_reducible refine s_of (if_pos (by omega)) ?_
    | with_reducible refine need_of (by omega) ?_
    | with_reducible refine nil_of (fun _ => ?_) ?_
    | with_reducible refine alt_of ?_ ?_
    | (with_reducible apply join_of; intro _ _)
    | with_reducible assumption)
    refine loop_then (loop_ind (σ := Nat) (fun s => [(1, .sl (b.map eC)), (4, .adr 0 0), (5, .adr 1 0), (6, .own 2), (19, .sl (a.map eC)), (20, vi a.length), (21, vi s)]) (fun s => [.var [.val (.slice none 0 0)], .var [vi 0], .row 135 ((sidesA (a.take s)).map eS)]) (fun s => a.length - s) (fun s => s ≤ a.length) ?_ 0 (Nat.zero_le _))
    rintro X i hi ih
    try dsimp only at ih ⊢
    have hsl := sidesA_len (a.take i)
    rw [List.length_take] at hsl
    repeat' (first
      | rw [appS]
      | simp -implicitDefEqProofs only [go_sem, eS, eC, onlyN_n, Int.toNat_natCast, Nat.reduceAdd, Nat.reduceEqDiff, Nat.reduceLT, Nat.reduceBEq, Nat.reduceLeDiff, Nat.reduceSub, Int.reduceLE, Int.reduceNeg, Int.reduceEq, Int.reduceToNat]
      | with_reducible refine know_of fun _ => ?_
      | with_reducible refine ifD1 (by omega) ?_
      | with_reducible refine ifD0 (by omega) ?_
      | with_reducible refine ifE1 (by omega) ?_
      | with_reducible refine ifE0 (by omega) ?_
      | with_reducible refine ifN1 (by omega) ?_
      | with_reducible refine ifN0 (by omega) ?_
      | with_reducible refine ifD_of (fun _ => ?_) (fun _ => ?_)
      | with_reducible refine ifE_of (fun _ => ?_) (fun _ => ?_)
      | with_reducible refine ifN_of (fun _ => ?_) (fun _ => ?_)
      | with_reducible refine Go.V.if1 (by assumption) ?_
      | with_reducible refine Go.V.if0 (by assumption) ?_
      | with_reducible refine if_of (fun _ => ?_) (fun _ => ?_)
      | with_reducible refine s_of (idx_get _ _ _ (by omega) (by omega)) ?_
      | with_reducible refine s_of (idx_get _ _ _ (by omega) (by simp only [List.length_set, List.length_append, List.length_take, List.length_drop, List.length_reverse, List.length_singleton]; omega)) ?_
      | with_reducible refine s_of (map_get _ _ _ (by omega)) ?_
      | with_reducible refine s_of (map_get _ _ _ (by simp only [List.length_set]; omega)) ?_
      | with_reducible refine s_of (if_neg (by omega)) ?_
      | with_reducible refine s_of (if_pos (by omega)) ?_
      | with_reducible refine need_of (by omega) ?_
      | with_reducible refine nil_of (fun _ => ?_) ?_
      | with_reducible refine alt_of ?_ ?_
      | (with_reducible apply join_of; intro _ _)
      | with_reducible assumption)
    · rw [wnat i (by omega), sidesA_step a i (by omega)]; exact ih (i + 1) (by omega) (by omega)
    obtain rfl : i = a.length := by omega
    rw [List.take_length]
    clear ih
    rw [show sidesA a = sidesA a ++ sidesB (b.take 0) by simp [sidesB]]
    refine loop_then (loop_ind (σ := Nat) (fun s => [(4, .adr 0 0), (5, .adr 1 0), (6, .own 2), (31, .sl (b.map eC)), (32, vi b.length), (33, vi s)]) (fun s => [.var [.val (.slice none 0 0)], .var [vi 0], .row 135 ((sidesA a ++ sidesB (b.take s)).map eS)]) (fun s => b.length - s) (fun s => s ≤ b.length) ?_ 0 (Nat.zero_le _))
    rintro X i hi ih
    try dsimp only at ih ⊢
    have hsl := sidesB_len (b.take i)
    rw [List.length_take] at hsl
    have hsa := sidesA_len a
    repeat' (first
      | rw [appS]
      | simp -implicitDefEqProofs only [go_sem, eS, eC, onlyN_n, Int.toNat_natCast, Nat.reduceAdd, Nat.reduceEqDiff, Nat.reduceLT, Nat.reduceBEq, Nat.reduceLeDiff, Nat.reduceSub, Int.reduceLE, Int.reduceNeg, Int.reduceEq, Int.reduceToNat]
      | with_reducible refine know_of fun _ => ?_
      | (with_reducible refine does_then (sorted_side _ _ (by simp only [List.length_append, sidesA_len, sidesB_len, List.length_take]; omega) (fun l2 t2 u2 => ?_)))
      | (with_reducible refine does_then (runs_side _ _ ?_))
      | with_reducible refine ifD1 (by omega) ?_
      | with_reducible refine ifD0 (by omega) ?_
      | with_reducible refine ifE1 (by omega) ?_
      | with_reducible refine ifE0 (by omega) ?_
      | with_reducible refine ifN1 (by omega) ?_
      | with_reducible refine ifN0 (by omega) ?_
      | with_reducible refine ifD_of (fun _ => ?_) (fun _ => ?_)
      | with_reducible refine ifE_of (fun _ => ?_) (fun _ => ?_)
      | with_reducible refine ifN_of (fun _ => ?_) (fun _ => ?_)
      | with_reducible refine Go.V.if1 (by assumption) ?_
      | with_reducible refine Go.V.if0 (by assumption) ?_
      | with_reducible refine if_of (fun _ => ?_) (fun _ => ?_)
      | with_reducible refine s_of (idx_get _ _ _ (by omega) (by omega)) ?_
      | with_reducible refine s_of (idx_get _ _ _ (by omega) (by simp only [List.length_set, List.length_append, List.length_take, List.length_drop, List.length_reverse, List.length_singleton]; omega)) ?_
      | with_reducible refine s_of (map_get _ _ _ (by omega)) ?_
      | with_reducible refine s_of (map_get _ _ _ (by simp only [List.length_set]; omega)) ?_
      | with_reducible refine s_of (if_neg (by omega)) ?_
      | with_reducible refine s_of (if_pos (by omega)) ?_
      | with_reducible refine need_of (by omega) ?_
      | with_reducible refine nil_of (fun _ => ?_) ?_
      | with_reducible refine alt_of ?_ ?_
      | (with_reducible apply join_of; intro _ _)
      | with_reducible assumption)
    · rw [wnat i (by omega), List.append_assoc, sidesB_step b i (by omega)]; exact ih (i + 1) (by omega) (by omega)
    obtain rfl : i = b.length := by omega
    rw [List.take_length] at t2 u2
    have hl2 := t2.len
    rw [List.length_append, sidesA_len, sidesB_len] at hl2
    refine ⟨l2, by omega, ⟨rfl, by decide, rfl, rfl, by kernel_rfl, by kernel_rfl, by kernel_rfl, by kernel_rfl, [], by kernel_rfl, by simp only [List.length_nil]; omega, fun y hy => ?_, h l2 t2 u2⟩⟩
    have hy2 : y ∈ sidesA a ++ sidesB b := t2.mem_all hy
    rcases List.mem_append.1 hy2 with hy2 | hy2
    · obtain ⟨z, hz, rfl⟩ := List.mem_map.1 hy2; exact hra z hz
    · obtain ⟨z, hz, rfl⟩ := List.mem_map.1 hy2; exact hrb z hz
  · rintro x r m ⟨acc, rfl, hacc, hrow, hQ⟩
    rw [lessZ] at hQ
    have hhd := hd_le cS x r
    have htl := tl_len cS x r
    simp only [List.length_cons] at hacc hhd
    cases acc with
    | nil =>
      rw [mZ_nil]
      repeat' (first
    | simp -implicitDefEqProofs only [go_sem, eS, eC, onlyN_n, Int.toNat_natCast, Nat.reduceAdd, Nat.reduceEqDiff, Nat.reduceLT, Nat.reduceBEq, Nat.reduceLeDiff, Nat.reduceSub, Int.reduceLE, Int.reduceNeg, Int.reduceEq, Int.reduceToNat]
    | with_reducible refine know_of fun _ => ?_
    | with_reducible refine ifD1 (by omega) ?_
    | with_reducible refine ifD0 (by omega) ?_
    | with_reducible refine ifE1 (by omega) ?_
    | with_reducible refine ifE0 (by omega) ?_
    | with_reducible refine ifN1 (by omega) ?_
    | with_reducible refine ifN0 (by omega) ?_
    | with_reducible refine ifD_of (fun _ => ?_) (fun _ => ?_)
    | with_reducible refine ifE_of (fun _ => ?_) (fun _ => ?_)
    | with_reducible refine ifN_of (fun _ => ?_) (fun _ => ?_)
    | with_reducible refine Go.V.if1 (by assumption) ?_
    | with_reducible refine Go.V.if0 (by assumption) ?_
    | with_reducible refine if_of (fun _ => ?_) (fun _ => ?_)
    | with_reducible refine s_of (idx_get _ _ _ (by omega) (by omega)) ?_
    | with_reducible refine s_of (idx_get _ _ _ (by omega) (by simp only [List.length_set, List.length_append, List.length_take, List.length_drop, List.length_reverse, List.length_singleton]; omega)) ?_
    | with_reducible refine s_of (map_get _ _ _ (by omega)) ?_
    | with_reducible refine s_of (map_get _ _ _ (by simp only [List.length_set]; omega)) ?_
    | with_reducible refine s_of (if_neg (by omega)) ?_
    | with_reducible refine s_of (if_pos (by omega)) ?_
    | with_reducible refine need_of (by omega) ?_
    | with_reducible refine nil_of (fun _ => ?_) ?_
    | with_reducible refine alt_of ?_ ?_
    | (with_reducible apply join_of; intro _ _)
    | with_reducible assumption)
      refine ⟨by kernel_rfl, know_of fun _ => ?_⟩
      have hrun : (hd cS x r).length ≤ 2000000 := by omega
      have hpos : 1 ≤ (hd cS x r).length := by simp [hd]
      have hrow2 : ∀ y ∈ tl cS x r, y.row.length ≤ 1000000 := fun y hy => hrow y (List.mem_cons_of_mem _ ((List.dropWhile_sublist _).subset hy))
      have hrx := hrow x List.mem_cons_self
      have hg0 : ((hd cS x r).getD 0 default).row = x.row := rfl
      generalize hd cS x r = run at *
      repeat' (first
    | simp -implicitDefEqProofs only [go_sem, eS, eC, onlyN_n, Int.toNat_natCast, Nat.reduceAdd, Nat.reduceEqDiff, Nat.reduceLT, Nat.reduceBEq, Nat.reduceLeDiff, Nat.reduceSub, Int.reduceLE, Int.reduceNeg, Int.reduceEq, Int.reduceToNat]
    | with_reducible refine know_of fun _ => ?_
    | with_reducible refine ifD1 (by omega) ?_
    | with_reducible refine ifD0 (by omega) ?_
    | with_reducible refine ifE1 (by omega) ?_
    | with_reducible refine ifE0 (by omega) ?_
    | with_reducible refine ifN1 (by omega) ?_
    | with_reducible refine ifN0 (by omega) ?_
    | with_reducible refine ifD_of (fun _ => ?_) (fun _ => ?_)
    | with_reducible refine ifE_of (fun _ => ?_) (fun _ => ?_)
    | with_reducible refine ifN_of (fun _ => ?_) (fun _ => ?_)
    | with_reducible refine Go.V.if1 (by assumption) ?_
    | with_reducible refine Go.V.if0 (by assumption) ?_
    | with_reducible refine if_of (fun _ => ?_) (fun _ => ?_)
    | with_reducible refine s_of (idx_get _ _ _ (by omega) (by omega)) ?_
    | with_reducible refine s_of (idx_get _ _ _ (by omega) (by simp only [List.length_set, List.length_append, List.length_take, List.length_drop, List.length_reverse, List.length_singleton]; omega)) ?_
    | with_reducible refine s_of (map_get _ _ _ (by omega)) ?_
    | with_reducible refine s_of (map_get _ _ _ (by simp only [List.length_set]; omega)) ?_
    | with_reducible refine s_of (if_neg (by omega)) ?_
    | with_reducible refine s_of (if_pos (by omega)) ?_
    | with_reducible refine need_of (by omega) ?_
    | with_reducible refine nil_of (fun _ => ?_) ?_
    | with_reducible refine alt_of ?_ ?_
    | (with_reducible apply join_of; intro _ _)
    | with_reducible assumption)
      refine loop_then (loop_ind (σ := Nat × Int) (fun s => [(4, .adr 0 0), (5, .adr 1 0), (12, .adr 2 0), (13, .sl (run.map eS)), (14, vi s.2), (49, .sl (run.map eS)), (50, vi run.length), (51, vi s.1)]) (fun s => [.var [.val (.slice none 0 0)], .var [vi 0], .var [.val (.slice none 0 0)]]) (fun s => run.length - s.1) (fun s => s.1 ≤ run.length ∧ sumZ run 0 = sumZ (run.drop s.1) s.2) ?_ (0, 0) ⟨Nat.zero_le _, rfl⟩)
      rintro X ⟨k, n⟩ ⟨hk, hs⟩ ih
      try dsimp only at ih ⊢
      dsimp only at hk hs
      repeat' (first
        | rw [appC]
        | simp -implicitDefEqProofs only [go_sem, eS, eC, onlyN_n, Int.toNat_natCast, KR_n, KR_r, back, nocM, nocs, noc, Tryz.f55, Nat.reduceAdd, Nat.reduceEqDiff, Nat.reduceLT, Nat.reduceBEq, Nat.reduceLeDiff, Nat.reduceSub, Int.reduceLE, Int.reduceNeg, Int.reduceEq, Int.reduceToNat]
        | with_reducible refine know_of fun _ => ?_
        | (with_reducible refine does_then (weigh_Add _ _ _ ?_))
        | (with_reducible refine does_then (weigh_Sub _ _ _ ?_))
        | (with_reducible refine does_then (clone_row _ _ ?_ ?_))
        | with_reducible refine ifD1 (by omega) ?_
        | with_reducible refine ifD0 (by omega) ?_
        | with_reducible refine ifE1 (by omega) ?_
        | with_reducible refine ifE0 (by omega) ?_
        | with_reducible refine ifN1 (by omega) ?_
        | with_reducible refine ifN0 (by omega) ?_
        | with_reducible refine ifD_of (fun _ => ?_) (fun _ => ?_)
        | with_reducible refine ifE_of (fun _ => ?_) (fun _ => ?_)
        | with_reducible refine ifN_of (fun _ => ?_) (fun _ => ?_)
        | with_reducible refine Go.V.if1 (by assumption) ?_
        | with_reducible refine Go.V.if0 (by assumption) ?_
        | with_reducible refine if_of (fun _ => ?_) (fun _ => ?_)
        | with_reducible refine s_of (idx_get _ _ _ (by omega) (by omega)) ?_
        | with_reducible refine s_of (idx_get _ _ _ (by omega) (by simp only [List.length_set, List.length_append, List.length_take, List.length_drop, List.length_reverse, List.length_singleton]; omega)) ?_
        | with_reducible refine s_of (map_get _ _ _ (by omega)) ?_
        | with_reducible refine s_of (map_get _ _ _ (by simp only [List.length_set]; omega)) ?_
        | with_reducible refine s_of (if_neg (by omega)) ?_
        | with_reducible refine s_of (if_pos (by omega)) ?_
        | with_reducible refine need_of (by omega) ?_
        | with_reducible refine nil_of (fun _ => ?_) ?_
        | with_reducible refine alt_of ?_ ?_
        | (with_reducible apply join_of; intro _ _)
        | with_reducible assumption)
      · rename_i hw h0
        refine .inr ⟨_, rfl, ?_⟩
        rw [hs, drop_getD run k (by omega), sumZ] at hQ
        simp only [hw, if_true] at hQ
        rw [if_pos h0, if_pos h0] at hQ
        exact hQ
      · rename_i hw h0 _
        rw [wnat k (by omega)]
        refine ih (k + 1, _) (by dsimp only; omega) ⟨by dsimp only; omega, ?_⟩
        rw [hs, drop_getD run k (by omega), sumZ]
        simp only [hw, if_true]
        rw [if_neg (not_not_intro h0)]
      · rename_i hw h0
        refine .inr ⟨_, rfl, ?_⟩
        rw [hs, drop_getD run k (by omega), sumZ] at hQ
        simp only [hw, if_false, Bool.false_eq_true] at hQ
        rw [if_pos h0, if_pos h0] at hQ
        exact hQ
      · rename_i hw h0 _
        rw [wnat k (by omega)]
        refine ih (k + 1, _) (by dsimp only; omega) ⟨by dsimp only; omega, ?_⟩
        rw [hs, drop_getD run k (by omega), sumZ]
        simp only [hw, if_false, Bool.false_eq_true]
        rw [if_neg (not_not_intro h0)]
      all_goals rw [hs, List.drop_eq_nil_of_le (by omega), sumZ, if_neg (fun h => h rfl)] at hQ
      · rw [hg0]; omega
      · rw [hg0]; omega
      · rename_i h0
        rw [if_pos h0] at hQ
        refine ⟨([] : List Count) ++ [⟨x.row, n⟩], by rw [hg0]; rfl, by simp only [List.length_append, List.length_singleton] at hacc ⊢; skip; omega, hrow2, hQ⟩
      · rename_i h0
        rw [if_neg (not_not_intro h0)] at hQ
        exact ⟨([] : List Count), rfl, by skip; omega, hrow2, hQ⟩
    | cons c0 acc =>
      rw [mZ_cons]
      have hmA : mZ (c0 :: acc) = [.var [.val (.slice none 0 0)], .var [vi 0], .var [.own 3], .row 61 ((c0 :: acc).map eC)] := rfl
      generalize hA : c0 :: acc = A at *
      repeat' (first
    | simp -implicitDefEqProofs only [go_sem, eS, eC, onlyN_n, Int.toNat_natCast, Nat.reduceAdd, Nat.reduceEqDiff, Nat.reduceLT, Nat.reduceBEq, Nat.reduceLeDiff, Nat.reduceSub, Int.reduceLE, Int.reduceNeg, Int.reduceEq, Int.reduceToNat]
    | with_reducible refine know_of fun _ => ?_
    | with_reducible refine ifD1 (by omega) ?_
    | with_reducible refine ifD0 (by omega) ?_
    | with_reducible refine ifE1 (by omega) ?_
    | with_reducible refine ifE0 (by omega) ?_
    | with_reducible refine ifN1 (by omega) ?_
    | with_reducible refine ifN0 (by omega) ?_
    | with_reducible refine ifD_of (fun _ => ?_) (fun _ => ?_)
    | with_reducible refine ifE_of (fun _ => ?_) (fun _ => ?_)
    | with_reducible refine ifN_of (fun _ => ?_) (fun _ => ?_)
    | with_reducible refine Go.V.if1 (by assumption) ?_
    | with_reducible refine Go.V.if0 (by assumption) ?_
    | with_reducible refine if_of (fun _ => ?_) (fun _ => ?_)
    | with_reducible refine s_of (idx_get _ _ _ (by omega) (by omega)) ?_
    | with_reducible refine s_of (idx_get _ _ _ (by omega) (by simp only [List.length_set, List.length_append, List.length_take, List.length_drop, List.length_reverse, List.length_singleton]; omega)) ?_
    | with_reducible refine s_of (map_get _ _ _ (by omega)) ?_
    | with_reducible refine s_of (map_get _ _ _ (by simp only [List.length_set]; omega)) ?_
    | with_reducible refine s_of (if_neg (by omega)) ?_
    | with_reducible refine s_of (if_pos (by omega)) ?_
    | with_reducible refine need_of (by omega) ?_
    | with_reducible refine nil_of (fun _ => ?_) ?_
    | with_reducible refine alt_of ?_ ?_
    | (with_reducible apply join_of; intro _ _)
    | with_reducible assumption)
      refine ⟨by kernel_rfl, know_of fun _ => ?_⟩
      have hrun : (hd cS x r).length ≤ 2000000 := by omega
      have hpos : 1 ≤ (hd cS x r).length := by simp [hd]
      have hrow2 : ∀ y ∈ tl cS x r, y.row.length ≤ 1000000 := fun y hy => hrow y (List.mem_cons_of_mem _ ((List.dropWhile_sublist _).subset hy))
      have hrx := hrow x List.mem_cons_self
      have hg0 : ((hd cS x r).getD 0 default).row = x.row := rfl
      generalize hd cS x r = run at *
      repeat' (first
    | simp -implicitDefEqProofs only [go_sem, eS, eC, onlyN_n, Int.toNat_natCast, Nat.reduceAdd, Nat.reduceEqDiff, Nat.reduceLT, Nat.reduceBEq, Nat.reduceLeDiff, Nat.reduceSub, Int.reduceLE, Int.reduceNeg, Int.reduceEq, Int.reduceToNat]
    | with_reducible refine know_of fun _ => ?_
    | with_reducible refine ifD1 (by omega) ?_
    | with_reducible refine ifD0 (by omega) ?_
    | with_reducible refine ifE1 (by omega) ?_
    | with_reducible refine ifE0 (by omega) ?_
    | with_reducible refine ifN1 (by omega) ?_
    | with_reducible refine ifN0 (by omega) ?_
    | with_reducible refine ifD_of (fun _ => ?_) (fun _ => ?_)
    | with_reducible refine ifE_of (fun _ => ?_) (fun _ => ?_)
    | with_reducible refine ifN_of (fun _ => ?_) (fun _ => ?_)
    | with_reducible refine Go.V.if1 (by assumption) ?_
    | with_reducible refine Go.V.if0 (by assumption) ?_
    | with_reducible refine if_of (fun _ => ?_) (fun _ => ?_)
    | with_reducible refine s_of (idx_get _ _ _ (by omega) (by omega)) ?_
    | with_reducible refine s_of (idx_get _ _ _ (by omega) (by simp only [List.length_set, List.length_append, List.length_take, List.length_drop, List.length_reverse, List.length_singleton]; omega)) ?_
    | with_reducible refine s_of (map_get _ _ _ (by omega)) ?_
    | with_reducible refine s_of (map_get _ _ _ (by simp only [List.length_set]; omega)) ?_
    | with_reducible refine s_of (if_neg (by omega)) ?_
    | with_reducible refine s_of (if_pos (by omega)) ?_
    | with_reducible refine need_of (by omega) ?_
    | with_reducible refine nil_of (fun _ => ?_) ?_
    | with_reducible refine alt_of ?_ ?_
    | (with_reducible apply join_of; intro _ _)
    | with_reducible assumption)
      refine loop_then (loop_ind (σ := Nat × Int) (fun s => [(4, .adr 0 0), (5, .adr 1 0), (12, .adr 2 0), (13, .sl (run.map eS)), (14, vi s.2), (49, .sl (run.map eS)), (50, vi run.length), (51, vi s.1)]) (fun s => [.var [.val (.slice none 0 0)], .var [vi 0], .var [.own 3], .row 61 (A.map eC)]) (fun s => run.length - s.1) (fun s => s.1 ≤ run.length ∧ sumZ run 0 = sumZ (run.drop s.1) s.2) ?_ (0, 0) ⟨Nat.zero_le _, rfl⟩)
      rintro X ⟨k, n⟩ ⟨hk, hs⟩ ih
      try dsimp only at ih ⊢
      dsimp only at hk hs
      repeat' (first
        | rw [appC]
        | simp -implicitDefEqProofs only [go_sem, eS, eC, onlyN_n, Int.toNat_natCast, KR_n, KR_r, back, nocM, nocs, noc, Tryz.f55, Nat.reduceAdd, Nat.reduceEqDiff, Nat.reduceLT, Nat.reduceBEq, Nat.reduceLeDiff, Nat.reduceSub, Int.reduceLE, Int.reduceNeg, Int.reduceEq, Int.reduceToNat]
        | with_reducible refine know_of fun _ => ?_
        | (with_reducible refine does_then (weigh_Add _ _ _ ?_))
        | (with_reducible refine does_then (weigh_Sub _ _ _ ?_))
        | (with_reducible refine does_then (clone_row _ _ ?_ ?_))
        | with_reducible refine ifD1 (by omega) ?_
        | with_reducible refine ifD0 (by omega) ?_
        | with_reducible refine ifE1 (by omega) ?_
        | with_reducible refine ifE0 (by omega) ?_
        | with_reducible refine ifN1 (by omega) ?_
        | with_reducible refine ifN0 (by omega) ?_
        | with_reducible refine ifD_of (fun _ => ?_) (fun _ => ?_)
        | with_reducible refine ifE_of (fun _ => ?_) (fun _ => ?_)
        | with_reducible refine ifN_of (fun _ => ?_) (fun _ => ?_)
        | with_reducible refine Go.V.if1 (by assumption) ?_
        | with_reducible refine Go.V.if0 (by assumption) ?_
        | with_reducible refine if_of (fun _ => ?_) (fun _ => ?_)
        | with_reducible refine s_of (idx_get _ _ _ (by omega) (by omega)) ?_
        | with_reducible refine s_of (idx_get _ _ _ (by omega) (by simp only [List.length_set, List.length_append, List.length_take, List.length_drop, List.length_reverse, List.length_singleton]; omega)) ?_
        | with_reducible refine s_of (map_get _ _ _ (by omega)) ?_
        | with_reducible refine s_of (map_get _ _ _ (by simp only [List.length_set]; omega)) ?_
        | with_reducible refine s_of (if_neg (by omega)) ?_
        | with_reducible refine s_of (if_pos (by omega)) ?_
        | with_reducible refine need_of (by omega) ?_
        | with_reducible refine nil_of (fun _ => ?_) ?_
        | with_reducible refine alt_of ?_ ?_
        | (with_reducible apply join_of; intro _ _)
        | with_reducible assumption)
      · rename_i hw h0
        refine .inr ⟨_, rfl, ?_⟩
        rw [hs, drop_getD run k (by omega), sumZ] at hQ
        simp only [hw, if_true] at hQ
        rw [if_pos h0, if_pos h0] at hQ
        exact hQ
      · rename_i hw h0 _
        rw [wnat k (by omega)]
        refine ih (k + 1, _) (by dsimp only; omega) ⟨by dsimp only; omega, ?_⟩
        rw [hs, drop_getD run k (by omega), sumZ]
        simp only [hw, if_true]
        rw [if_neg (not_not_intro h0)]
      · rename_i hw h0
        refine .inr ⟨_, rfl, ?_⟩
        rw [hs, drop_getD run k (by omega), sumZ] at hQ
        simp only [hw, if_false, Bool.false_eq_true] at hQ
        rw [if_pos h0, if_pos h0] at hQ
        exact hQ
      · rename_i hw h0 _
        rw [wnat k (by omega)]
        refine ih (k + 1, _) (by dsimp only; omega) ⟨by dsimp only; omega, ?_⟩
        rw [hs, drop_getD run k (by omega), sumZ]
        simp only [hw, if_false, Bool.false_eq_true]
        rw [if_neg (not_not_intro h0)]
      all_goals rw [hs, List.drop_eq_nil_of_le (by omega), sumZ, if_neg (fun h => h rfl)] at hQ
      · rw [hg0]; omega
      · rw [hg0]; omega
      · rename_i h0
        rw [if_pos h0] at hQ
        refine ⟨A ++ [⟨x.row, n⟩], by rw [hg0]; subst hA; rfl, by simp only [List.length_append, List.length_singleton] at hacc ⊢; subst hA; omega, hrow2, hQ⟩
      · rename_i h0
        rw [if_neg (not_not_intro h0)] at hQ
        exact ⟨A, hmA.symm, by subst hA; omega, hrow2, hQ⟩
  · rintro m ⟨acc, rfl, hacc, _, hQ⟩
    rw [lessZ] at hQ
    cases acc with
    | nil =>
      rw [mZ_nil]
      repeat' (first
    | simp -implicitDefEqProofs only [go_sem, eS, eC, onlyN_n, Int.toNat_natCast, KR_n, KR_r, back, nocM, nocs, noc, Tryz.f55, Nat.reduceAdd, Nat.reduceEqDiff, Nat.reduceLT, Nat.reduceBEq, Nat.reduceLeDiff, Nat.reduceSub, Int.reduceLE, Int.reduceNeg, Int.reduceEq, Int.reduceToNat]
    | with_reducible refine know_of fun _ => ?_
    | with_reducible refine ifD1 (by omega) ?_
    | with_reducible refine ifD0 (by omega) ?_
    | with_reducible refine ifE1 (by omega) ?_
    | with_reducible refine ifE0 (by omega) ?_
    | with_reducible refine ifN1 (by omega) ?_
    | with_reducible refine ifN0 (by omega) ?_
    | with_reducible refine ifD_of (fun _ => ?_) (fun _ => ?_)
    | with_reducible refine ifE_of (fun _ => ?_) (fun _ => ?_)
    | with_reducible refine ifN_of (fun _ => ?_) (fun _ => ?_)
    | with_reducible refine Go.V.if1 (by assumption) ?_
    | with_reducible refine Go.V.if0 (by assumption) ?_
    | with_reducible refine if_of (fun _ => ?_) (fun _ => ?_)
    | with_reducible refine s_of (idx_get _ _ _ (by omega) (by omega)) ?_
    | with_reducible refine s_of (idx_get _ _ _ (by omega) (by simp only [List.length_set, List.length_append, List.length_take, List.length_drop, List.length_reverse, List.length_singleton]; omega)) ?_
    | with_reducible refine s_of (map_get _ _ _ (by omega)) ?_
    | with_reducible refine s_of (map_get _ _ _ (by simp only [List.length_set]; omega)) ?_
    | with_reducible refine s_of (if_neg (by omega)) ?_
    | with_reducible refine s_of (if_pos (by omega)) ?_
    | with_reducible refine need_of (by omega) ?_
    | with_reducible refine nil_of (fun _ => ?_) ?_
    | with_reducible refine alt_of ?_ ?_
    | (with_reducible apply join_of; intro _ _)
    | with_reducible assumption)
      exact .inr ⟨_, rfl, hQ⟩
    | cons c0 acc =>
      rw [mZ_cons]
      generalize c0 :: acc = A at *
      repeat' (first
    | simp -implicitDefEqProofs only [go_sem, eS, eC, onlyN_n, Int.toNat_natCast, KR_n, KR_r, back, nocM, nocs, noc, Tryz.f55, Nat.reduceAdd, Nat.reduceEqDiff, Nat.reduceLT, Nat.reduceBEq, Nat.reduceLeDiff, Nat.reduceSub, Int.reduceLE, Int.reduceNeg, Int.reduceEq, Int.reduceToNat]
    | with_reducible refine know_of fun _ => ?_
    | with_reducible refine ifD1 (by omega) ?_
    | with_reducible refine ifD0 (by omega) ?_
    | with_reducible refine ifE1 (by omega) ?_
    | with_reducible refine ifE0 (by omega) ?_
    | with_reducible refine ifN1 (by omega) ?_
    | with_reducible refine ifN0 (by omega) ?_
    | with_reducible refine ifD_of (fun _ => ?_) (fun _ => ?_)
    | with_reducible refine ifE_of (fun _ => ?_) (fun _ => ?_)
    | with_reducible refine ifN_of (fun _ => ?_) (fun _ => ?_)
    | with_reducible refine Go.V.if1 (by assumption) ?_
    | with_reducible refine Go.V.if0 (by assumption) ?_
    | with_reducible refine if_of (fun _ => ?_) (fun _ => ?_)
    | with_reducible refine s_of (idx_get _ _ _ (by omega) (by omega)) ?_
    | with_reducible refine s_of (idx_get _ _ _ (by omega) (by simp only [List.length_set, List.length_append, List.length_take, List.length_drop, List.length_reverse, List.length_singleton]; omega)) ?_
    | with_reducible refine s_of (map_get _ _ _ (by omega)) ?_
    | with_reducible refine s_of (map_get _ _ _ (by simp only [List.length_set]; omega)) ?_
    | with_reducible refine s_of (if_neg (by omega)) ?_
    | with_reducible refine s_of (if_pos (by omega)) ?_
    | with_reducible refine need_of (by omega) ?_
    | with_reducible refine nil_of (fun _ => ?_) ?_
    | with_reducible refine alt_of ?_ ?_
    | (with_reducible apply join_of; intro _ _)
    | with_reducible assumption)
      exact .inl hQ
end Go.V
