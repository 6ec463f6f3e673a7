import Derived.Test.YtbccejopeclhmaaGreatLA
import Derived.Test.YtbccejopeclhmaaGreatLG2
namespace Go.V
open Go Go.RowKit Go.Proofs
set_option maxRecDepth 100000
set_option maxHeartbeats 4000000
set_option linter.unusedVariables false
set_option linter.unusedSimpArgs false
theorem row_empty {P : Program} {M : Nat → Prop} {w : World} {m : Mem} {ρ : Nat → Value} {e : TypeId} {z : Nat} (hz : rowSize P e = some z) : BlkOk P M w m ρ (.slice none 0 0) (.row e []) := by
  obtain ⟨i, zv, hi, hzv, hzs, h0, hz4, hby, rfl⟩ := rowSize_eq hz
  exact .row (xs := []) hi hzv hzs h0 hby (by simp) ⟨by simp, .inl ⟨rfl, rfl⟩⟩ (by simp) (fun _ e he => by cases he) (fun q j x p hq => by simp at hq) (by simp)
theorem does_own {P : Program} {f : FuncId} {args : List PV} {e : TypeId} {z : Nat} {Q : PV → Mem → Prop} (hz : rowSize P e = some z) (h : Does P f args [] 0 (fun r m' => (r = .val (.slice none 0 0) ∧ m' = []) ∨ ∃ es, r = .osl 0 0 0 ∧ m' = [.row e es])) (hQ : Q (.own 0) [.row e []]) : Does P f args [] 0 Q := by
  refine ⟨h.1, fun M w vs ρ hM hm hl hr => (h.run hM hm hl hr).mono fun en w' he => ?_⟩
  obtain ⟨v, r, m', ρ', rfl, hq, hf, hrep, hmem, hft, hnew⟩ := he
  have foot : ∀ ρ2, Foot ⟨P, M, w, Own [] ρ, 0, ([] : Mem).length, 0, [], ρ, [], fun _ => true⟩ [.row e []] ρ2 := fun ρ2 => ⟨by simp, fun b cs hb => by simp at hb, fun b e es hb => by simp at hb, fun b hb => by simp at hb⟩
  have one : ∀ {b : Nat} {x : Blk}, ([.row e []] : Mem)[b]? = some x → b = 0 ∧ x = .row e [] := by
    intro b x hx
    cases b with
    | zero => simp at hx; exact ⟨rfl, hx.symm⟩
    | succ b => simp at hx
  have lv : ∀ {b : Nat}, Live [.row e []] b → b = 0 := fun ⟨x, hx, _⟩ => (one hx).1
  rcases hq with ⟨rfl, rfl⟩ | ⟨es, rfl, rfl⟩
  · obtain rfl := hrep.val_eq
    refine .inl ⟨_, .own 0, [.row e []], fun _ => .slice none 0 0, rfl, hQ, hf, .own (e := e) (es := []) rfl, ⟨fun b x hx => ?_, fun b b' k hb hb' _ _ => (lv hb).trans (lv hb').symm, fun b k _ hk => by cases hk⟩, foot _, fun b k _ hk => by cases hk⟩
    obtain ⟨rfl, rfl⟩ := one hx
    exact row_empty hz
  · cases hrep with
    | im hi => cases hi
    | osl h1 h2 => omega
    | osl0 h1 h2 h3 =>
      rename_i n c A e' es'
      simp at h1
      obtain ⟨rfl, rfl⟩ := h1
      have hb := hmem.blk 0 (.row e es) rfl
      rw [h3] at hb
      have e1 : own1 (.slice A 0 c) = own1 (ρ' 0) := by rw [h3]; cases A <;> rfl
      have l0 : Live [.row e es] 0 := ⟨_, rfl, by simp⟩
      refine .inl ⟨_, .own 0, [.row e []], fun _ => .slice A 0 c, rfl, hQ, hf, .own (e := e) (es := []) rfl, ⟨fun b x hx => ?_, fun b b' k hb hb' _ _ => (lv hb).trans (lv hb').symm, fun b k _ hk => hmem.out 0 k l0 (by rw [← e1]; exact hk)⟩, foot _, fun b k _ hk => hnew 0 k l0 (by rw [← e1]; exact hk)⟩
      obtain ⟨rfl, rfl⟩ := one hx
      cases hb with
      | row hi hzz hzzs h0 hby hlen' ho hsz hf hx' h1 =>
        rename_i xs i z'
        obtain rfl : n = es.length := by
          rcases ho.2 with ⟨e1, e2⟩ | ⟨g, cap, cur, e1, _⟩
          · cases e1; exact e2.symm
          · cases e1; rfl
        have ho' := ownsRow_take ho (Nat.zero_le _)
        exact .row (xs := []) hi hzz hzzs h0 hby (by simp) (by simpa using ho') (by simp) (fun _ e he => by cases he) (fun q j x p hq => by simp at hq) (by simp)
theorem intT_ii : intT Tryz.prog 3 3 = some .i64 := by kernel_rfl
attribute [go_sem] intT_ii
def sumL {α : Type} (ls : List (List α)) (i : Nat) : Nat := ((ls.take i).map List.length).sum
def catL {α : Type} (ls : List (List α)) (i : Nat) : List α := (ls.take i).flatten
theorem take_getD {α : Type} [Inhabited α] (l : List α) (i : Nat) (h : i < l.length) : l.take (i + 1) = l.take i ++ [l.getD i default] := by
  rw [List.getD_eq_getElem?_getD, List.getElem?_eq_getElem h, List.take_succ_eq_append_getElem h]; rfl
theorem sumL_succ {α : Type} (ls : List (List α)) (i : Nat) (h : i < ls.length) : sumL ls (i + 1) = sumL ls i + (ls.getD i default).length := by
  unfold sumL; rw [take_getD ls i h]; simp
theorem catL_succ {α : Type} (ls : List (List α)) (i : Nat) (h : i < ls.length) : catL ls (i + 1) = catL ls i ++ ls.getD i default := by
  unfold catL; rw [take_getD ls i h]; simp
theorem catL_len {α : Type} (ls : List (List α)) (i : Nat) : (catL ls i).length = sumL ls i := by unfold catL sumL; rw [List.length_flatten]
theorem sumL_mono {α : Type} (ls : List (List α)) : ∀ (d i : Nat), i + d = ls.length → sumL ls i ≤ sumL ls ls.length
  | 0, i, h => by rw [show i = ls.length by omega]; exact Nat.le_refl _
  | d + 1, i, h => by
    have := sumL_mono ls d (i + 1) (by omega)
    rw [sumL_succ ls i (by omega)] at this
    omega
theorem sumL_le {α : Type} (ls : List (List α)) (i : Nat) (h : i ≤ ls.length) : sumL ls i ≤ sumL ls ls.length := sumL_mono ls (ls.length - i) i (by omega)
theorem sumL_step {α : Type} (ls : List (List α)) (i : Nat) (h : i < ls.length) : sumL ls i + (ls.getD i default).length ≤ sumL ls ls.length := by
  rw [← sumL_succ ls i h]; exact sumL_le ls (i + 1) h
def eIs (l : List Int) : List PV := [.sl (l.map eI)]
end Go.V
