import Derived.Test.YtfmhmlijnidflaaV0
import Derived.DataElems
import Derived.Below
import Derived.Deep.AppendLies
set_option linter.unusedVariables false
set_option linter.unusedSimpArgs false
namespace Go.V
open Go

def own1 : Value → Option Nat
  | .pointer (some a) => some a.block
  | .slice (some a) _ _ => some a.block
  | _ => none
def Live (m : Mem) (b : Nat) : Prop := ∃ x, m[b]? = some x ∧ x ≠ .dead
/-- The blocks that are one's own: what is told of them stands in m alone. -/
def Own (m : Mem) (ρ : Nat → Value) (k : Nat) : Prop := ∃ b, Live m b ∧ own1 (ρ b) = some k
def Mine (M : Nat → Prop) (m : Mem) (ρ : Nat → Value) (k : Nat) : Prop := M k ∨ Own m ρ k

/-- What is only read: none of it lies in N. -/
inductive Im (w : World) (N : Nat → Prop) : PV → Value → Prop where
  | val {x : Value} : okB x = true → Im w N (.val x) x
  | any {v : Value} : Im w N .any v
  | sl {es : List (List PV)} {A : Option Addr} {n c sz : Nat} (u : Nat → Nat → Value) (hn : es.length = n) (hx : n ≤ maxLen) (hc : n ≤ c) (hs : ∀ e ∈ es, e.length = sz)
      (hA : n = 0 ∨ ∃ ad, A = some ad ∧ ∀ (i j : Nat) (e : List PV) (p : PV), es[i]? = some e → e[j]? = some p → w.cell? (ad.add (i * sz + j)) = some (u i j) ∧ ¬ N ad.block ∧ (u i j).oneCell' = true)
      (hr : ∀ (i j : Nat) (e : List PV) (p : PV), es[i]? = some e → e[j]? = some p → Im w N p (u i j)) : Im w N (.sl es) (.slice A n c)
  | agg {cs : List PV} {vs : Array Value} : cs.length = vs.size → (∀ (i : Nat) (p : PV) (v : Value), cs[i]? = some p → vs[i]? = some v → Im w N p v) → (∀ v ∈ vs, v.oneCell' = true) → Im w N (.agg cs) (.agg vs)
  | tup {cs : List PV} {vs : Array Value} : cs.length = vs.size → (∀ (i : Nat) (p : PV) (v : Value), cs[i]? = some p → vs[i]? = some v → Im w N p v) → Im w N (.tup cs) (.tuple vs)
  | fn {f : FuncId} {cs : List PV} {vs : Array Value} : cs.length = vs.size → (∀ (i : Nat) (p : PV) (v : Value), cs[i]? = some p → vs[i]? = some v → Im w N p v) → Im w N (.fn f cs) (.func (.func f) #[] vs)

/-- What changed between two worlds lies in N. -/
structure Mv (N : Nat → Prop) (w w' : World) : Prop where
  size : w.heap.size ≤ w'.heap.size
  block : ∀ k, k < w.heap.size → ¬ N k → w'.heap[k]? = w.heap[k]?
theorem Mv.cell {N : Nat → Prop} {w w' : World} (h : Mv N w w') {a : Addr} {v : Value} (hc : w.cell? a = some v) (hN : ¬ N a.block) : w'.cell? a = some v :=
  (World.cell?_of_block (h.block a.block (World.block_lt_of_cell? w a hc) hN)).trans hc
theorem Mv.mono {N N' : Nat → Prop} {w w' : World} (h : Mv N w w') (hN : ∀ k, N k → N' k) : Mv N' w w' := ⟨h.size, fun k hk hn => h.block k hk fun hh => hn (hN k hh)⟩
theorem Mv.refl (N : Nat → Prop) (w : World) : Mv N w w := ⟨Nat.le_refl _, fun _ _ _ => rfl⟩
theorem Mv.alloc (N : Nat → Prop) (w : World) (o : Obj) : Mv N w (w.alloc o) := ⟨by simp, fun k hk _ => heap_alloc_old w o k hk⟩
theorem add_block (a : Addr) (n : Nat) : (a.add n).block = a.block := by unfold Addr.add; split <;> rfl
theorem add_none (g o j : Nat) : (⟨g, o, none⟩ : Addr).add j = ⟨g, o + j, none⟩ := by unfold Addr.add; split <;> simp_all
theorem Im.move {w w' : World} {N N' : Nat → Prop} {p : PV} {v : Value} (h : Im w N p v) (hm : Mv N w w') (hN : ∀ k, k < w.heap.size → N' k → N k) : Im w' N' p v := by
  induction h with
  | val h => exact .val h
  | any => exact .any
  | sl u hn hx hc hs hA hr ih =>
    refine .sl u hn hx hc hs ?_ ih
    rcases hA with h | ⟨ad, rfl, h⟩
    · exact .inl h
    · refine .inr ⟨ad, rfl, fun i j e p he hp => ?_⟩
      obtain ⟨h1, h2, h3⟩ := h i j e p he hp
      have hlt : ad.block < w.heap.size := by have := World.block_lt_of_cell? w _ h1; rwa [add_block] at this
      exact ⟨hm.cell h1 (by rw [add_block]; exact h2), fun hn' => h2 (hN _ hlt hn'), h3⟩
  | agg hl _ h1 ih => exact .agg hl ih h1
  | tup hl _ ih => exact .tup hl ih
  | fn hl _ ih => exact .fn hl ih
theorem Im.sub {w : World} {N N' : Nat → Prop} {p : PV} {v : Value} (h : Im w N p v) (hN : ∀ k, N' k → N k) : Im w N' p v := h.move (Mv.refl N w) (fun k _ hk => hN k hk)

inductive Rep (M : Nat → Prop) (w : World) (m : Mem) (ρ : Nat → Value) : PV → Value → Prop where
  | im {p : PV} {v : Value} : Im w (Mine M m ρ) p v → Rep M w m ρ p v
  | own {b : Nat} {e : TypeId} {es : List (List PV)} : m[b]? = some (.row e es) → Rep M w m ρ (.own b) (ρ b)
  | osl0 {b h n c : Nat} {A : Option Addr} {e : TypeId} {es : List (List PV)} : m[b]? = some (.row e es) → h ≤ es.length → ρ b = .slice A n c → Rep M w m ρ (.osl b 0 h) (.slice A h c)
  | osl {b l h c n c' sz g : Nat} {A : Option Addr} {e : TypeId} {es : List (List PV)} : m[b]? = some (.row e es) → 0 < l → l ≤ h → h ≤ es.length → h - l ≤ c → c ≤ maxLen → (∀ x ∈ es, x.length = sz) → (c = 0 ∨ A = some ⟨g, l * sz, none⟩) ∧ ρ b = .slice (some ⟨g, 0, none⟩) n c' ∧ c' = c + l → Rep M w m ρ (.osl b l h) (.slice A (h - l) c)
  | adr {b o g : Nat} {cs : List PV} : m[b]? = some (.var cs) → ρ b = .pointer (some ⟨g, 0, none⟩) → Rep M w m ρ (.adr b o) (.pointer (some ⟨g, o, none⟩))
  | ead {b i j g n c sz : Nat} {e : TypeId} {es : List (List PV)} : m[b]? = some (.row e es) → i < es.length → (∀ x ∈ es, x.length = sz) → ρ b = .slice (some ⟨g, 0, none⟩) n c → Rep M w m ρ (.ead b i j) (.pointer (some ⟨g, i * sz + j, none⟩))
  | cad {cs : List PV} {a : Addr} (u : Nat → Value) : (∀ (j : Nat) (p : PV), cs[j]? = some p → w.cell? (a.add j) = some (u j) ∧ ¬ Own m ρ a.block ∧ (u j).oneCell' = true) → (∀ (j : Nat) (p : PV), cs[j]? = some p → Im w (Mine M m ρ) p (u j)) → Rep M w m ρ (.cad cs) (.pointer (some a))
  | agg {cs : List PV} {vs : Array Value} : cs.length = vs.size → (∀ (i : Nat) (p : PV) (v : Value), cs[i]? = some p → vs[i]? = some v → Rep M w m ρ p v) → (∀ v ∈ vs, v.oneCell' = true) → Rep M w m ρ (.agg cs) (.agg vs)
  | tup {cs : List PV} {vs : Array Value} : cs.length = vs.size → (∀ (i : Nat) (p : PV) (v : Value), cs[i]? = some p → vs[i]? = some v → Rep M w m ρ p v) → Rep M w m ρ (.tup cs) (.tuple vs)
  | fn {f : FuncId} {cs : List PV} {vs : Array Value} : cs.length = vs.size → (∀ (i : Nat) (p : PV) (v : Value), cs[i]? = some p → vs[i]? = some v → Rep M w m ρ p v) → Rep M w m ρ (.fn f cs) (.func (.func f) #[] vs)

theorem Mv.mine {M : Nat → Prop} {w w' : World} {m : Mem} {ρ : Nat → Value} (h : Mv (Own m ρ) w w') : Mv (Mine M m ρ) w w' := h.mono fun _ hk => .inr hk
theorem Rep.cad_move {M M' : Nat → Prop} {w w' : World} {m m' : Mem} {ρ ρ' : Nat → Value} {cs : List PV} {v : Value} (h : Rep M w m ρ (.cad cs) v) (hm : Mv (Own m ρ) w w') (hO : ∀ k, k < w.heap.size → Own m' ρ' k → Own m ρ k) (hN : ∀ k, k < w.heap.size → Mine M' m' ρ' k → Mine M m ρ k) : Rep M' w' m' ρ' (.cad cs) v := by
  cases h with
  | im h => cases h
  | cad u h hi =>
    refine .cad u (fun j p hj => ?_) (fun j p hj => (hi j p hj).move hm.mine hN)
    obtain ⟨h1, h2, h3⟩ := h j p hj
    have hlt := World.block_lt_of_cell? w _ h1
    rw [add_block] at hlt
    exact ⟨hm.cell h1 (by rw [add_block]; exact h2), fun hn' => h2 (hO _ hlt hn'), h3⟩
/-- The same things, in a later world, where more may be one's own. -/
theorem Rep.move {M M' : Nat → Prop} {w w' : World} {m m' : Mem} {ρ ρ' : Nat → Value} {p : PV} {v : Value} (h : Rep M w m ρ p v) (hm : Mv (Own m ρ) w w') (hO : ∀ k, k < w.heap.size → Own m' ρ' k → Own m ρ k) (hN : ∀ k, k < w.heap.size → Mine M' m' ρ' k → Mine M m ρ k)
    (hr : ∀ b e es, m[b]? = some (.row e es) → ρ' b = ρ b ∧ ∃ e' es', m'[b]? = some (.row e' es') ∧ es'.length = es.length ∧ ∀ sz, (∀ x ∈ es, x.length = sz) → ∀ x ∈ es', x.length = sz)
    (hv : ∀ b cs, m[b]? = some (.var cs) → ρ' b = ρ b ∧ ∃ cs', m'[b]? = some (.var cs')) : Rep M' w' m' ρ' p v := by
  induction h with
  | im h => exact .im (h.move hm.mine hN)
  | own h => obtain ⟨h1, _, _, h2, _⟩ := hr _ _ _ h; rw [← h1]; exact .own h2
  | osl0 h hl hg => obtain ⟨h1, _, _, h2, h3, _⟩ := hr _ _ _ h; exact .osl0 h2 (by omega) (h1.trans hg)
  | osl h h0 hl hh hc hx hs hg => obtain ⟨h1, _, _, h2, h3, h4⟩ := hr _ _ _ h; exact .osl h2 h0 hl (by omega) hc hx (h4 _ hs) ⟨hg.1, h1.trans hg.2.1, hg.2.2⟩
  | adr h hg => obtain ⟨h1, _, h2⟩ := hv _ _ h; exact .adr h2 (h1.trans hg)
  | ead h hi hs hg => obtain ⟨h1, _, _, h2, h3, h4⟩ := hr _ _ _ h; exact .ead h2 (by omega) (h4 _ hs) (h1.trans hg)
  | cad u h hi => exact (Rep.cad u h hi).cad_move hm hO hN
  | agg hl _ h1 ih => exact .agg hl ih h1
  | tup hl _ ih => exact .tup hl ih
  | fn hl _ ih => exact .fn hl ih

/-- What stands at one place of m. -/
inductive BlkOk (P : Program) (M : Nat → Prop) (w : World) (m : Mem) (ρ : Nat → Value) : Value → Blk → Prop where
  | dead {v : Value} : BlkOk P M w m ρ v .dead
  | var {g : Nat} {t : TypeId} {vs : Array Value} {cs : List PV} : w.heap[g]? = some (.cells vs t (0, 0)) → cs.length = vs.size → (∀ (j : Nat) (p : PV) (v : Value), cs[j]? = some p → vs[j]? = some v → Rep M w m ρ p v) → (∀ v ∈ vs, v.oneCell' = true) → BlkOk P M w m ρ (.pointer (some ⟨g, 0, none⟩)) (.var cs)
  | row {v : Value} {e : TypeId} {es : List (List PV)} {xs : List Value} {i : TypeInfo} {z : Value} : P.info? e = some i → i.zero = some z → z.cells.size = i.size → 0 < i.size → i.bytes ≤ 100000 → es.length ≤ 1000000000 → w.ownsRow 0 e i.size v es.length xs → (∀ x ∈ es, x.length = i.size) → (flatT P e = true → ∀ x ∈ es, ∀ p ∈ x, flatP p = true) →
      (∀ (q j : Nat) (x : List PV) (p : PV), es[q]? = some x → x[j]? = some p → ∃ u, xs[q * i.size + j]? = some u ∧ Im w (Mine M m ρ) p u) → (∀ u ∈ xs, u.oneCell' = true) → BlkOk P M w m ρ v (.row e es)

structure Fr (S : Nat → Prop) (w w' : World) : Prop where
  os : w'.os = w.os
  tape : w'.tape = w.tape
  output : w'.output = w.output
  size : w.heap.size ≤ w'.heap.size
  block : ∀ k, k < w.heap.size → ¬ S k → w'.heap[k]? = w.heap[k]?
theorem Fr.mv {S : Nat → Prop} {w w' : World} (h : Fr S w w') : Mv S w w' := ⟨h.size, h.block⟩
/-- What stays the same in a function: the program, others' blocks, the world at its start, the blocks that it may turn, its places and its first places of m. -/
structure Cx where
  P : Program
  M : Nat → Prop
  w0 : World
  S : Nat → Prop
  N : Nat
  n : Nat
  np : Nat
  m0 : Mem
  ρ0 : Nat → Value
  D : List Deferred
  kd : Nat → Bool
structure Foot (c : Cx) (m : Mem) (ρ : Nat → Value) : Prop where
  len : c.n ≤ m.length
  var : ∀ b cs, b < c.n → c.m0[b]? = some (.var cs) → ρ b = c.ρ0 b ∧ ∃ cs', m[b]? = some (.var cs')
  row : ∀ b e es, b < c.n → c.m0[b]? = some (.row e es) → m[b]? = some .dead ∨ ((b < c.np → ρ b = c.ρ0 b) ∧ ∃ e' es', m[b]? = some (.row e' es'))
  dead : ∀ b, b < c.n → c.m0[b]? = some .dead → m[b]? = some .dead
structure Inv (c : Cx) (tm : Tm) (m : Mem) (ρ : Nat → Value) (a : Act) (w : World) : Prop where
  sz : a.tmps.size = c.N
  df : a.defers = c.D
  tm : ∀ t, Rep c.M w m ρ (get tm t) (a.tmps.getD t undef)
  blk : ∀ b x, m[b]? = some x → BlkOk c.P c.M w m ρ (ρ b) x
  sep : ∀ b b' k, Live m b → Live m b' → own1 (ρ b) = some k → own1 (ρ b') = some k → b = b'
  new : ∀ b k, Live m b → own1 (ρ b) = some k → c.w0.heap.size ≤ k ∨ c.S k
  fr : Fr c.S c.w0 w
  old : ∀ k, c.M k → k < c.w0.heap.size
  dis : ∀ k, c.S k → ¬ c.M k
  ft : Foot c m ρ
theorem get_put (tm : Tm) (d t : Nat) (p : PV) : get (put tm (some d) p) t = if d = t then p else get tm t := rfl
theorem getD_put (a : Act) (d t : Nat) (v : Value) (hd : d < a.tmps.size) : (a.put (some d) v).tmps.getD t undef = if d = t then v else a.tmps.getD t undef := by
  simp only [Act.put, Array.getD_eq_getD_getElem?]
  by_cases h : d = t
  · subst h; simp [hd]
  · rw [if_neg h, Array.getElem?_setIfInBounds_ne h]
theorem lt_of_get {α : Type} {l : List α} {b : Nat} {x : α} (h : l[b]? = some x) : b < l.length := by
  rcases Nat.lt_or_ge b l.length with h1 | h1
  · exact h1
  · rw [List.getElem?_eq_none h1] at h; cases h
section
variable {c : Cx} {P : Program} {M : Nat → Prop} {w0 w : World} {S : Nat → Prop} {N : Nat} {tm : Tm} {m : Mem} {ρ : Nat → Value} {a : Act}
theorem Inv.put (h : Inv c tm m ρ a w) {d : Option Tmp} {p : PV} {v : Value} (hd : ∀ t, d = some t → t < c.N) (hp : Rep c.M w m ρ p v) : Inv c (put tm d p) m ρ (a.put d v) w := by
  cases d with
  | none => exact h
  | some d =>
    have hd' : d < a.tmps.size := by rw [h.sz]; exact hd d rfl
    refine ⟨by simp [Act.put, h.sz], h.df, fun t => ?_, h.blk, h.sep, h.new, h.fr, h.old, h.dis, h.ft⟩
    rw [get_put, getD_put a d t v hd']
    split
    · exact hp
    · exact h.tm t
theorem okC_one {x : Value} (h : okC x = true) : x.oneCell' = true := by unfold okC at h; rw [Bool.and_eq_true] at h; exact h.1
theorem okC_ok {x : Value} (h : okC x = true) : okB x = true := by unfold okC at h; rw [Bool.and_eq_true] at h; exact h.2
theorem Rep.cut (x : Value) : Rep M w m ρ (cut x) x := by
  unfold V.cut
  split
  · rename_i cs
    split
    · rename_i h
      refine .agg (by simp) (fun i p v hp hv => ?_) (fun v hv => okC_one (List.all_eq_true.1 h v (Array.mem_toList_iff.2 hv)))
      rw [List.getElem?_map, Array.getElem?_toList, hv] at hp
      cases hp
      exact .im (.val (okC_ok (List.all_eq_true.1 h v (Array.mem_toList_iff.2 (Array.mem_of_getElem? hv)))))
    · exact .im .any
  · split
    · exact .im (.val (by assumption))
    · exact .im .any
theorem Inv.ev (h : Inv c tm m ρ a w) : ∀ x : Operand, Rep c.M w m ρ (ev tm x) (a.eval x)
  | .tmp t => h.tm t
  | .const v => Rep.cut v
  | .func f => .fn rfl (fun i p v hp => by simp at hp)
  | .global _ => .im .any
theorem wp_value {o : Oper} {K : Act → World → Prop} {Q : Exit → Act → World → Prop} {v : Value} {w' : World} (h : (execOp a.eval o).run P w = .ok (.value v) w') (hn : K (a.put o.dst v) w') : o.wp P a w K Q := by
  unfold Oper.wp
  rw [h]
  exact hn
theorem wp_skip {o : Oper} {K : Act → World → Prop} {Q : Exit → Act → World → Prop} {w' : World} (h : (execOp a.eval o).run P w = .ok .skip w') (hn : K (a.put o.dst undef) w') : o.wp P a w K Q := by
  unfold Oper.wp
  rw [h]
  exact hn
theorem Rep.val_eq {x v : Value} (h : Rep M w m ρ (.val x) v) : v = x := by
  cases h with
  | im h => cases h; rfl
theorem Rep.val_ok {x v : Value} (h : Rep M w m ρ (.val x) v) : okB x = true := by
  cases h with
  | im h => cases h; assumption
theorem okB_bool (b : Bool) : okB (.bool b) = true := rfl
theorem okB_undef : okB undef = true := rfl
theorem wrap_in (k : IntKind) (n : Int) : k.min ≤ k.wrap n ∧ k.wrap n ≤ k.max := by
  cases k <;> simp [IntKind.wrap, IntKind.min, IntKind.max, IntKind.bits, IntKind.signed] <;> omega
theorem min_max (k : IntKind) : k.min ≤ 0 ∧ 0 ≤ k.max := by
  cases k <;> simp [IntKind.min, IntKind.max, IntKind.bits, IntKind.signed]
theorem okB_wrap (k : IntKind) (n : Int) : okB (.int k (k.wrap n)) = true := decide_eq_true (wrap_in k n)
theorem okB_int {k : IntKind} {n : Int} (h : okB (.int k n) = true) : k.min ≤ n ∧ n ≤ k.max := of_decide_eq_true h

/-! the places of m -/
theorem lay_get (m : Mem) (x : Blk) (b : Nat) : (m ++ [x])[b]? = if b = m.length then some x else m[b]? := by
  by_cases h : b < m.length
  · rw [List.getElem?_append_left h, if_neg (by omega)]
  · rw [List.getElem?_append_right (by omega)]
    by_cases e : b = m.length
    · subst e; simp
    · rw [if_neg e, List.getElem?_eq_none (by omega : m.length ≤ b), List.getElem?_eq_none (by simp; omega)]
theorem free_not (m : Mem) : ¬ Live m m.length := by
  rintro ⟨x, hx, hd⟩
  have := lt_of_get hx; omega
theorem live_lay {m : Mem} {x : Blk} {b : Nat} (h : Live (m ++ [x]) b) : b = m.length ∨ Live m b := by
  obtain ⟨y, hy, hd⟩ := h
  rw [lay_get] at hy
  split at hy
  · exact .inl ‹_›
  · exact .inr ⟨y, hy, hd⟩
theorem live_row {m : Mem} {b : Nat} {e : TypeId} {es : List (List PV)} (h : m[b]? = some (.row e es)) : Live m b := ⟨_, h, by simp⟩
theorem live_var {m : Mem} {b : Nat} {cs : List PV} (h : m[b]? = some (.var cs)) : Live m b := ⟨_, h, by simp⟩
def upd (ρ : Nat → Value) (b : Nat) (v : Value) : Nat → Value := fun c => if c = b then v else ρ c
theorem own_lay {u : Value} {x : Blk} {H : Nat} (hu : ∀ k, own1 u = some k → H ≤ k) {k : Nat} (hk : k < H) (h : Own (m ++ [x]) (upd ρ m.length u) k) : Own m ρ k := by
  obtain ⟨b, hb, hk2⟩ := h
  unfold upd at hk2
  rcases live_lay hb with rfl | hb
  · rw [if_pos rfl] at hk2; have := hu k hk2; omega
  · have hne : b ≠ m.length := fun e => free_not m (e ▸ hb)
    rw [if_neg hne] at hk2; exact ⟨b, hb, hk2⟩
theorem mine_lay {u : Value} {x : Blk} {H : Nat} (hu : ∀ k, own1 u = some k → H ≤ k) {k : Nat} (hk : k < H) (h : Mine M (m ++ [x]) (upd ρ m.length u) k) : Mine M m ρ k := h.imp id (own_lay hu hk)
theorem row_lay {x : Blk} {u : Value} : ∀ b e es, m[b]? = some (.row e es) → upd ρ m.length u b = ρ b ∧ ∃ e' es', (m ++ [x])[b]? = some (.row e' es') ∧ es'.length = es.length ∧ ∀ sz, (∀ x ∈ es, x.length = sz) → ∀ x ∈ es', x.length = sz := by
  intro b e es hb
  have hne : b ≠ m.length := fun e => free_not m (e ▸ live_row hb)
  exact ⟨if_neg hne, e, es, by rw [lay_get, if_neg hne]; exact hb, rfl, fun _ h => h⟩
theorem var_lay {x : Blk} {u : Value} : ∀ b cs, m[b]? = some (.var cs) → upd ρ m.length u b = ρ b ∧ ∃ cs', (m ++ [x])[b]? = some (.var cs') := by
  intro b cs hb
  have hne : b ≠ m.length := fun e => free_not m (e ▸ live_var hb)
  exact ⟨if_neg hne, cs, by rw [lay_get, if_neg hne]; exact hb⟩
theorem Rep.lay {w' : World} {p : PV} {v u : Value} {x : Blk} (h : Rep M w m ρ p v) (hm : Mv (Own m ρ) w w') (hu : ∀ k, own1 u = some k → w.heap.size ≤ k) : Rep M w' (m ++ [x]) (upd ρ m.length u) p v :=
  h.move hm (fun k hk => own_lay hu hk) (fun k hk => mine_lay hu hk) row_lay var_lay
theorem ownsRow_move {w w' : World} {e : TypeId} {size n : Nat} {v : Value} {xs : List Value} (h : w.ownsRow 0 e size v n xs) (hb : ∀ k, own1 v = some k → k < w.heap.size → w'.heap[k]? = w.heap[k]?) : w'.ownsRow 0 e size v n xs := by
  refine ⟨h.1, ?_⟩
  rcases h.2 with hn | ⟨g, cap, cur, rfl, h0, hg, rest⟩
  · exact .inl hn
  · exact .inr ⟨g, cap, cur, rfl, h0, (hb g rfl (Array.getElem?_eq_some_iff.1 hg).1).trans hg, rest⟩
theorem BlkOk.move {M' : Nat → Prop} {w' : World} {m' : Mem} {ρ' : Nat → Value} {v : Value} {x : Blk} (h : BlkOk P M w m ρ v x) (hb : ∀ k, own1 v = some k → k < w.heap.size → w'.heap[k]? = w.heap[k]?)
    (hm : Mv (Own m ρ) w w') (hO : ∀ k, k < w.heap.size → Own m' ρ' k → Own m ρ k) (hN : ∀ k, k < w.heap.size → Mine M' m' ρ' k → Mine M m ρ k)
    (hr : ∀ b e es, m[b]? = some (.row e es) → ρ' b = ρ b ∧ ∃ e' es', m'[b]? = some (.row e' es') ∧ es'.length = es.length ∧ ∀ sz, (∀ x ∈ es, x.length = sz) → ∀ x ∈ es', x.length = sz)
    (hv : ∀ b cs, m[b]? = some (.var cs) → ρ' b = ρ b ∧ ∃ cs', m'[b]? = some (.var cs')) : BlkOk P M' w' m' ρ' v x := by
  cases h with
  | dead => exact .dead
  | var hg hl hj h1 => exact .var ((hb _ rfl (Array.getElem?_eq_some_iff.1 hg).1).trans hg) hl (fun j p v hp hv' => (hj j p v hp hv').move hm hO hN hr hv) h1
  | row hi hz hzs h0 hby hlen ho hs hf hx h1 =>
    exact .row hi hz hzs h0 hby hlen (ownsRow_move ho hb) hs hf (fun q j x p hq hj => let ⟨u, h2, h3⟩ := hx q j x p hq hj; ⟨u, h2, h3.move hm.mine hN⟩) h1
theorem Fr.step {w' : World} (h : Fr S w0 w) (ho : w'.os = w.os) (ht : w'.tape = w.tape) (hp : w'.output = w.output) (hs : w.heap.size ≤ w'.heap.size) (hb : ∀ k, k < w0.heap.size → ¬ S k → w'.heap[k]? = w.heap[k]?) : Fr S w0 w' :=
  ⟨ho.trans h.os, ht.trans h.tape, hp.trans h.output, Nat.le_trans h.size hs, fun k hk hS => (hb k hk hS).trans (h.block k hk hS)⟩
theorem BlkOk.lt {v : Value} {x : Blk} (h : BlkOk P M w m ρ v x) (hx : x ≠ .dead) {k : Nat} (hk : own1 v = some k) : k < w.heap.size := by
  cases h with
  | dead => exact absurd rfl hx
  | var hg => simp [own1] at hk; subst hk; exact (Array.getElem?_eq_some_iff.1 hg).1
  | row hi hz hzs h0 hby hlen ho =>
    rcases ho.2 with ⟨e, _⟩ | ⟨g, cap, cur, e, _, hg, _⟩
    · rw [e] at hk; cases hk
    · rw [e] at hk; simp [own1] at hk; subst hk; exact (Array.getElem?_eq_some_iff.1 hg).1
theorem Inv.lt (h : Inv c tm m ρ a w) {b k : Nat} (hb : Live m b) (hk : own1 (ρ b) = some k) : k < w.heap.size := by
  obtain ⟨y, hy, hd⟩ := hb
  exact (h.blk b y hy).lt hd hk
theorem Inv.out (h : Inv c tm m ρ a w) {b k : Nat} (hb : Live m b) (hk : own1 (ρ b) = some k) : ¬ c.M k := fun hM => by
  rcases h.new b k hb hk with h1 | h1
  · have := h.old k hM; omega
  · exact h.dis k h1 hM
/-- A new place in m, over a value that is nil or lies in a new block. -/
theorem Inv.lay0 (h : Inv c tm m ρ a w) {w' : World} {u : Value} {x : Blk}
    (hs : w.heap.size ≤ w'.heap.size) (hb : ∀ k, k < w.heap.size → w'.heap[k]? = w.heap[k]?) (ho : w'.os = w.os) (ht : w'.tape = w.tape) (hp : w'.output = w.output) (hu : ∀ k, own1 u = some k → w.heap.size ≤ k)
    (hx : BlkOk c.P c.M w' (m ++ [x]) (upd ρ m.length u) u x) : Inv c tm (m ++ [x]) (upd ρ m.length u) a w' := by
  have hm : Mv (Own m ρ) w w' := ⟨hs, fun k hk _ => hb k hk⟩
  have hsz : c.w0.heap.size ≤ w.heap.size := h.fr.size
  refine ⟨h.sz, h.df, fun t => (h.tm t).lay hm hu, fun b y hy => ?_, fun b b' k hb1 hc1 hk1 hk2 => ?_, fun b k hb1 hk1 => ?_, h.fr.step ho ht hp hs (fun k hk _ => hb k (by omega)), h.old, h.dis, ?_⟩
  · rw [lay_get] at hy
    split at hy
    · rename_i e; subst e; cases hy; rw [show upd ρ m.length u m.length = u from if_pos rfl]; exact hx
    · rename_i e
      rw [show upd ρ m.length u b = ρ b from if_neg e]
      exact (h.blk b y hy).move (fun k _ hk => hb k hk) hm (fun k hk => own_lay hu hk) (fun k hk => mine_lay hu hk) row_lay var_lay
  · have old : ∀ c, Live m c → ∀ k, own1 (ρ c) = some k → k < w.heap.size := fun c hc k hk => h.lt hc hk
    unfold upd at hk1 hk2
    rcases live_lay hb1 with e1 | hb1 <;> rcases live_lay hc1 with e2 | hc1
    · rw [e1, e2]
    · have hne : b' ≠ m.length := fun e => free_not m (e ▸ hc1)
      rw [if_pos e1] at hk1; rw [if_neg hne] at hk2
      have := hu k hk1; have := old b' hc1 k hk2; omega
    · have hne : b ≠ m.length := fun e => free_not m (e ▸ hb1)
      rw [if_neg hne] at hk1; rw [if_pos e2] at hk2
      have := hu k hk2; have := old b hb1 k hk1; omega
    · have hne : b ≠ m.length := fun e => free_not m (e ▸ hb1)
      have hne2 : b' ≠ m.length := fun e => free_not m (e ▸ hc1)
      rw [if_neg hne] at hk1; rw [if_neg hne2] at hk2
      exact h.sep b b' k hb1 hc1 hk1 hk2
  · unfold upd at hk1
    rcases live_lay hb1 with e1 | hb1
    · rw [if_pos e1] at hk1; have := hu k hk1; exact .inl (by omega)
    · have hne : b ≠ m.length := fun e => free_not m (e ▸ hb1)
      rw [if_neg hne] at hk1
      exact h.new b k hb1 hk1
  · have hl := h.ft.len
    have ub : ∀ b, b < c.n → upd ρ m.length u b = ρ b := fun b hb => if_neg (by omega)
    have gb : ∀ b, b < c.n → (m ++ [x])[b]? = m[b]? := fun b hb => by rw [lay_get, if_neg (by omega)]
    exact ⟨by simp; omega, fun b cs hb hm => by rw [ub b hb, gb b hb]; exact h.ft.var b cs hb hm, fun b e es hb hm => by rw [ub b hb, gb b hb]; exact h.ft.row b e es hb hm, fun b hb hm => by rw [gb b hb]; exact h.ft.dead b hb hm⟩
theorem Inv.lay (h : Inv c tm m ρ a w) {w' : World} {u : Value} {x : Blk} {d : Option Tmp} {p : PV} (hd : ∀ t, d = some t → t < c.N)
    (hs : w.heap.size ≤ w'.heap.size) (hb : ∀ k, k < w.heap.size → w'.heap[k]? = w.heap[k]?) (ho : w'.os = w.os) (ht : w'.tape = w.tape) (hp : w'.output = w.output) (hu : ∀ k, own1 u = some k → w.heap.size ≤ k)
    (hx : BlkOk c.P c.M w' (m ++ [x]) (upd ρ m.length u) u x) (hpu : Rep c.M w' (m ++ [x]) (upd ρ m.length u) p u) : Inv c (V.put tm d p) (m ++ [x]) (upd ρ m.length u) (a.put d u) w' :=
  (h.lay0 hs hb ho ht hp hu hx).put hd hpu
theorem Rep.laid {e : TypeId} {es : List (List PV)} {u : Value} : Rep M w (m ++ [.row e es]) (upd ρ m.length u) (.own m.length) u := by
  have := Rep.own (M := M) (w := w) (m := m ++ [.row e es]) (ρ := upd ρ m.length u) (b := m.length) (e := e) (es := es) (by rw [lay_get, if_pos rfl])
  rwa [show upd ρ m.length u m.length = u from if_pos rfl] at this
end
end Go.V
