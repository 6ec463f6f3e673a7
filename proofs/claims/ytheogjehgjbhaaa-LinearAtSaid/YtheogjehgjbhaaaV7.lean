import Derived.Test.YtheogjehgjbhaaaV6
set_option linter.unusedVariables false
set_option linter.unusedSimpArgs false
namespace Go.V
open Go
section
variable {c : Cx} {P : Program} {M M' : Nat → Prop} {w0 w w' : World} {S : Nat → Prop} {N : Nat} {tm : Tm} {m m' : Mem} {ρ ρ' : Nat → Value} {a : Act}
theorem Rep.own' {b : Nat} {e : TypeId} {es : List (List PV)} {v : Value} (h : m[b]? = some (.row e es)) (hv : ρ b = v) : Rep M w m ρ (.own b) v := by subst hv; exact .own h
theorem wipeM_get (b : Nat) : ∀ (l : Mem) (c : Nat), (wipeM b l)[c]? = (l[c]?).map fun
    | .var cs => .var (cs.map (wipe1 b))
    | x => x
  | [], c => by simp [wipeM]
  | .var cs :: l, 0 => by simp [wipeM]
  | .row e es :: l, 0 => by simp [wipeM]
  | .dead :: l, 0 => by simp [wipeM]
  | .var cs :: l, c + 1 => by simp only [wipeM, List.getElem?_cons_succ, wipeM_get b l]
  | .row e es :: l, c + 1 => by simp only [wipeM, List.getElem?_cons_succ, wipeM_get b l]
  | .dead :: l, c + 1 => by simp only [wipeM, List.getElem?_cons_succ, wipeM_get b l]
theorem wipeM_length (b : Nat) : ∀ (l : Mem), (wipeM b l).length = l.length
  | [] => rfl
  | .var cs :: l => by simp [wipeM, wipeM_length b l]
  | .row e es :: l => by simp [wipeM, wipeM_length b l]
  | .dead :: l => by simp [wipeM, wipeM_length b l]
theorem get_wipeT (b : Nat) : ∀ (tm : Tm) (t : Nat), get (wipeT b tm) t = wipe1 b (get tm t)
  | [], t => by simp [wipeT, get, wipe1, tr]
  | (k, p) :: l, t => by simp only [wipeT, get, get_wipeT b l t]; split <;> rfl
theorem Inv.append (h : Inv c tm m ρ a w) {b : Nat} {e : TypeId} {es0 es es2 : List (List PV)} {i : TypeInfo} {z v' : Value} {xs news : List Value} {d : Option Tmp} (hd : ∀ t, d = some t → t < c.N) (hm : m[b]? = some (.row e es0)) (hnp : c.np ≤ b)
    (hinf : c.P.info? e = some i) (hz : i.zero = some z) (hzs : z.cells.size = i.size) (h0 : 0 < i.size) (hby : i.bytes ≤ 100000) (hlen : (es ++ es2).length ≤ 1000000000)
    (hxl : xs.length = es.length * i.size) (hsz : ∀ x ∈ es, x.length = i.size) (hf : flatT c.P e = true → ∀ x ∈ es, ∀ p ∈ x, flatP p = true) (hx : ∀ (q j : Nat) (x : List PV) (p : PV), es[q]? = some x → x[j]? = some p → ∃ u, xs[q * i.size + j]? = some u ∧ Im w (Mine c.M m ρ) p u) (h1 : ∀ u ∈ xs, u.oneCell' = true)
    (hsz2 : ∀ x ∈ es2, x.length = i.size) (hf2 : flatT c.P e = true → ∀ x ∈ es2, ∀ p ∈ x, flatP p = true) (hx2 : ∀ (q j : Nat) (x : List PV) (p : PV), es2[q]? = some x → x[j]? = some p → ∃ u, news[q * i.size + j]? = some u ∧ Im w (Mine c.M m ρ) p u) (h2 : ∀ u ∈ news, u.oneCell' = true)
    (ho : w'.ownsRow 0 e i.size v' (es ++ es2).length (xs ++ news)) (hg : w.grownBy w' (own1 (ρ b))) (hb' : own1 v' = own1 (ρ b) ∨ own1 v' = some w.heap.size) :
    Inv c (V.put (wipeT b tm) d (.own b)) ((wipeM b m).set b (.row e (es ++ es2))) (upd ρ b v') (a.put d v') w' := by
  have hbl : b < (wipeM b m).length := by rw [wipeM_length]; exact lt_of_get hm
  generalize hm' : (wipeM b m).set b (.row e (es ++ es2)) = m'
  have gb : m'[b]? = some (.row e (es ++ es2)) := by rw [← hm', List.getElem?_set_self hbl]
  have gc : ∀ c, c ≠ b → m'[c]? = (m[c]?).map fun
    | .var cs => .var (cs.map (wipe1 b))
    | x => x := fun c hc => by rw [← hm', List.getElem?_set_ne (Ne.symm hc), wipeM_get]
  have hml : m'.length = m.length := by rw [← hm', List.length_set, wipeM_length]
  have ub : upd ρ b v' b = v' := if_pos rfl
  have uc : ∀ c, c ≠ b → upd ρ b v' c = ρ c := fun c hc => if_neg hc
  have hlive : ∀ c, Live m' c → Live m c := by
    rintro c ⟨x, hx, hdx⟩
    by_cases hc : c = b
    · subst hc; exact live_row hm
    · rw [gc c hc] at hx
      obtain ⟨y, hy, rfl⟩ := Option.map_eq_some_iff.1 hx
      refine ⟨y, hy, fun e => ?_⟩
      subst e
      exact hdx rfl
  have hown : ∀ c k, Live m' c → own1 (upd ρ b v' c) = some k → k < w.heap.size → own1 (ρ c) = some k := by
    intro c k hc hk hlt
    by_cases hcb : c = b
    · subst hcb
      rw [ub] at hk
      rcases hb' with e | e
      · rw [← e]; exact hk
      · rw [e] at hk; cases hk; omega
    · rw [uc c hcb] at hk; exact hk
  have hOwn : ∀ k, k < w.heap.size → Own m' (upd ρ b v') k → Own m ρ k := fun k hk ⟨c, hc, hck⟩ => ⟨c, hlive c hc, hown c k hc hck hk⟩
  have hmine : ∀ k, k < w.heap.size → Mine c.M m' (upd ρ b v') k → Mine c.M m ρ k := fun k hk h => h.imp id (hOwn k hk)
  have hmv : Mv (Own m ρ) w w' := ⟨hg.size, fun k hk hn => hg.block k hk fun e => hn ⟨b, live_row hm, e.symm⟩⟩
  have hrep : ∀ p v, Rep c.M w m ρ p v → Rep c.M w' m' (upd ρ b v') (wipe1 b p) v := by
    intro p v hp
    refine hp.tr _ _ _ _ _ (fun _ => True) (fun _ _ => trivial) (fun p v hi => hi.move hmv.mine hmine) (fun c e es _ hc => ?_) (fun c l hh v e es _ hc hr => ?_) (fun c i g cs _ hc hgv => ?_) (fun c i j g n cc sz e es _ hc hi hs hgv => ?_) (fun cs v hc => hc.cad_move hmv hOwn hmine)
    · by_cases hcb : c = b
      · rw [if_pos hcb]; exact .im .any
      · rw [if_neg hcb]; exact .own' (by rw [gc c hcb, hc]; rfl) (uc c hcb)
    · by_cases hcb : c = b
      · rw [if_pos hcb]; exact .im .any
      · rw [if_neg hcb]
        cases hr with
        | im hi => cases hi
        | osl0 h1 h2 h3 => exact .osl0 (by rw [gc c hcb, h1]; rfl) h2 (by rw [uc c hcb]; exact h3)
        | osl h1 h2 h3 h4 h5 h6 h7 h8 => exact .osl (by rw [gc c hcb, h1]; rfl) h2 h3 h4 h5 h6 h7 (by rw [uc c hcb]; exact h8)
    · have hcb : c ≠ b := fun e => by subst e; rw [hm] at hc; cases hc
      exact .adr (by rw [gc c hcb, hc]; rfl) (by rw [uc c hcb, hgv])
    · by_cases hcb : c = b
      · rw [if_pos hcb]; exact .im .any
      · rw [if_neg hcb]; exact .ead (by rw [gc c hcb, hc]; rfl) hi hs (by rw [uc c hcb, hgv])
  have base : Inv c (wipeT b tm) m' (upd ρ b v') a w' := by
    refine ⟨h.sz, h.df, fun t => by rw [get_wipeT]; exact hrep _ _ (h.tm t), fun c x hx' => ?_, fun c c2 k hc hc2 hk hk2 => ?_, fun c k hc hk => ?_, h.fr.step hg.os hg.tape hg.output hg.size (fun k hk hS => hg.block k (by have := h.fr.size; omega) fun e => ?_), h.old, h.dis, ?_⟩
    · by_cases hcb : c = b
      · subst hcb
        rw [gb] at hx'; cases hx'
        rw [ub]
        refine .row hinf hz hzs h0 hby hlen ho (fun x hxm => ?_) (fun hfl => ?_) (fun q j x p hq hj => ?_) (fun u hu => ?_)
        · rcases List.mem_append.1 hxm with h | h
          · exact hsz x h
          · exact hsz2 x h
        · intro x hxm
          rcases List.mem_append.1 hxm with h | h
          · exact hf hfl x h
          · exact hf2 hfl x h
        · by_cases hql : q < es.length
          · rw [List.getElem?_append_left hql] at hq
            obtain ⟨u, hu, him⟩ := hx q j x p hq hj
            refine ⟨u, ?_, him.move hmv.mine hmine⟩
            rw [List.getElem?_append_left (lt_of_get hu)]; exact hu
          · rw [List.getElem?_append_right (by omega)] at hq
            obtain ⟨u, hu, him⟩ := hx2 _ j x p hq hj
            refine ⟨u, ?_, him.move hmv.mine hmine⟩
            have hmul : es.length * i.size ≤ q * i.size := Nat.mul_le_mul_right _ (by omega)
            rw [List.getElem?_append_right (by omega), hxl, ← hu, Nat.sub_mul]
            congr 1; omega
        · rcases List.mem_append.1 hu with h | h
          · exact h1 u h
          · exact h2 u h
      · rw [gc c hcb] at hx'
        obtain ⟨y, hy, rfl⟩ := Option.map_eq_some_iff.1 hx'
        have hok := h.blk c y hy
        have hkeep : y ≠ .dead → ∀ k, own1 (ρ c) = some k → k < w.heap.size → w'.heap[k]? = w.heap[k]? := fun hyd k hk hlt => hg.block k hlt fun e => hcb (h.sep c b k ⟨y, hy, hyd⟩ (live_row hm) hk e.symm)
        rw [uc c hcb]
        generalize hv : ρ c = v at hok hkeep ⊢
        cases y with
        | dead => exact .dead
        | var cs =>
          cases hok with
          | var hgv hl hj h1v =>
            refine .var ((hkeep (by simp) _ rfl (Array.getElem?_eq_some_iff.1 hgv).1).trans hgv) (by simpa using hl) (fun j p v hp hv => ?_) h1v
            rw [List.getElem?_map] at hp
            obtain ⟨q, hq, rfl⟩ := Option.map_eq_some_iff.1 hp
            exact hrep _ _ (hj j q v hq hv)
        | row e' es' =>
          cases hok with
          | row hinf hz hzs h0 hby hlen ho hsz hf hx h1 =>
            exact .row hinf hz hzs h0 hby hlen (ownsRow_move ho (hkeep (by simp))) hsz hf (fun q j x p hq hj => let ⟨u, h2, h3⟩ := hx q j x p hq hj; ⟨u, h2, h3.move hmv.mine hmine⟩) h1
    · have old : ∀ c k, Live m' c → own1 (upd ρ b v' c) = some k → (c ≠ b → k < w.heap.size) := fun c k hc hk hcb => by
        rw [uc c hcb] at hk; exact h.lt (hlive c hc) hk
      by_cases hlt : k < w.heap.size
      · exact h.sep c c2 k (hlive c hc) (hlive c2 hc2) (hown c k hc hk hlt) (hown c2 k hc2 hk2 hlt)
      · by_cases e1 : c = b
        · by_cases e2 : c2 = b
          · rw [e1, e2]
          · exact absurd (old c2 k hc2 hk2 e2) hlt
        · exact absurd (old c k hc hk e1) hlt
    · by_cases hlt : k < w.heap.size
      · exact h.new c k (hlive c hc) (hown c k hc hk hlt)
      · have := h.fr.size; exact .inl (by omega)
    · rcases h.new b k (live_row hm) e.symm with h3 | h3
      · omega
      · exact hS h3
    · refine ⟨by rw [hml]; exact h.ft.len, fun x cs hx hm0 => ?_, fun x e es hx hm0 => ?_, fun x hx hm0 => ?_⟩
      · obtain ⟨h1, cs', h2⟩ := h.ft.var x cs hx hm0
        have hxb : x ≠ b := fun e => by subst e; rw [hm] at h2; cases h2
        exact ⟨by rw [uc x hxb]; exact h1, _, by rw [gc x hxb, h2]; rfl⟩
      · by_cases hxb : x = b
        · subst hxb; exact .inr ⟨fun hlt => by omega, _, _, gb⟩
        · rcases h.ft.row x e es hx hm0 with h1 | ⟨h1, e', es', h2⟩
          · left; rw [gc x hxb, h1]; rfl
          · exact .inr ⟨fun hlt => by rw [uc x hxb]; exact h1 hlt, e', es', by rw [gc x hxb, h2]; rfl⟩
      · have h1 := h.ft.dead x hx hm0
        have hxb : x ≠ b := fun e => by subst e; rw [hm] at h1; cases h1
        rw [gc x hxb, h1]; rfl
  exact base.put hd (.own' gb ub)
theorem append_zero {t ty e : TypeId} {i : TypeInfo} (ht : P.underlying t = some (.slice e)) (hi : P.info? e = some i) (base : Option Addr) (n cap : Nat) (hnc : n ≤ cap) (A : Option Addr) (c : Nat) (w : World) :
    (Builtin.append_ #[t, t] ty #[.slice base n cap, .slice A 0 c]).run P w = .ok (.slice base n cap) w := by
  cases A <;> cases base <;> simp [Builtin.append_, run_underlying ht, sizeOf, typeInfo, hi, Builtin.lenOf, Builtin.firstCells, loadCells, loadCellsFrom, hnc, storeCells]
theorem own1_block {v : Value} {A : Option Addr} {n c : Nat} (h : v = .slice A n c) : own1 v = v.ownBlock := by subst h; cases A <;> rfl
theorem append_run {t ty e : TypeId} {i : TypeInfo} {z : Value} (ht : P.underlying t = some (.slice e)) (hi : P.info? e = some i) (hz : i.zero = some z) (hzs : z.cells.size = i.size) (h0 : 0 < i.size) (hby : i.bytes ≤ 100000)
    {v v2 : Value} {n : Nat} {xs : List Value} (hown : w.ownsRow 0 e i.size v n xs) {es2 : List (List PV)} (h2 : RowAt M w m ρ v2 es2) (hl : ∀ x ∈ es2, x.length = i.size) (hlen : n + es2.length ≤ 1000000000) :
    ∃ v' w' news, (Builtin.append_ #[t, t] ty #[v, v2]).run P w = .ok v' w' ∧ w'.ownsRow 0 e i.size v' (n + es2.length) (xs ++ news) ∧ w.grownBy w' (own1 v) ∧ (own1 v' = own1 v ∨ own1 v' = some w.heap.size) ∧
      (∀ (q j : Nat) (x : List PV) (p : PV), es2[q]? = some x → x[j]? = some p → ∃ u, news[q * i.size + j]? = some u ∧ Im w (Mine M m ρ) p u) ∧ ∀ u ∈ news, u.oneCell' = true := by
  obtain ⟨A, c, sz, rfl, hmx, hc, hsz, _, hA⟩ := h2
  have hvf : ∃ B k, v = .slice B n k ∧ n ≤ k := by
    rcases hown.2 with ⟨rfl, rfl⟩ | ⟨g, cap, cur, rfl, _, _, hc, _⟩
    · exact ⟨none, 0, rfl, Nat.le_refl _⟩
    · exact ⟨_, cap, rfl, hc⟩
  by_cases hn : es2.length = 0
  · obtain ⟨B, k, rfl, hk⟩ := hvf
    refine ⟨_, w, [], by rw [hn]; exact append_zero ht hi B n k hk A c w, by simpa [hn] using hown, ⟨rfl, rfl, rfl, Nat.le_refl _, fun _ _ _ => rfl⟩, .inl rfl, fun q j x p hq => ?_, by simp⟩
    rw [List.getElem?_eq_none (by omega)] at hq; cases hq
  · rcases hA with h | ⟨ad, rfl, hA⟩
    · exact absurd h hn
    have hcell : ∀ k, k < es2.length * i.size → ∃ u, w.cell? (ad.add k) = some u ∧ u.oneCell' = true := by
      intro k hk
      have hq : k / i.size < es2.length := (Nat.div_lt_iff_lt_mul h0).2 hk
      have hx : es2[k / i.size]? = some (es2[k / i.size]'hq) := List.getElem?_eq_getElem hq
      have hxl := hl _ (List.mem_of_getElem? hx)
      have hj : k % i.size < (es2[k / i.size]'hq).length := by rw [hxl]; exact Nat.mod_lt _ h0
      obtain ⟨u, h1, h2, _⟩ := hA _ _ _ _ hx (List.getElem?_eq_getElem hj)
      rw [← hsz _ (List.mem_of_getElem? hx), hxl, Nat.mul_comm, Nat.div_add_mod] at h1
      exact ⟨u, h1, h2⟩
    let news := (List.range (es2.length * i.size)).map fun k => (w.cell? (ad.add k)).getD undef
    have hget : ∀ k u, news[k]? = some u → k < es2.length * i.size ∧ w.cell? (ad.add k) = some u ∧ u.oneCell' = true := by
      intro k u hu
      simp only [news, List.getElem?_map] at hu
      obtain ⟨k', hk', rfl⟩ := Option.map_eq_some_iff.1 hu
      have hlt : k < es2.length * i.size := by simpa using lt_of_get hk'
      rw [List.getElem?_range hlt] at hk'
      cases hk'
      obtain ⟨u, h1, h2⟩ := hcell k hlt
      rw [h1]
      exact ⟨hlt, rfl, h2⟩
    obtain ⟨v', w', hr, h3, h4, h5, h6⟩ := run_append_own_at (P := P) w 0 t ty e i z i.size i.bytes ht hi hz rfl rfl hzs h0 v n xs hown ad es2.length c news (by simp [news]) (fun j u hu => (hget j u hu).2.1) (fun u hu => by
      obtain ⟨k, hk⟩ := List.getElem?_of_mem hu
      exact (hget k u hk).2.2) (by simp only [maxLen]; omega) (by
      have : (n + es2.length) * i.bytes ≤ 1000000000 * 100000 := Nat.mul_le_mul hlen hby
      omega) (Nat.zero_le _)
    obtain ⟨B, k, rfl, hk⟩ := hvf
    have e1 : own1 (.slice B n k) = (Value.slice B n k).ownBlock := own1_block rfl
    obtain ⟨g, cap, rfl, _, _⟩ := h3.form (by omega)
    refine ⟨_, w', news, hr, h3, by rw [e1]; exact h4, by rw [e1]; exact h6, fun q j x p hq hj => ?_, fun u hu => ?_⟩
    · have hxl := hl x (List.mem_of_getElem? hq)
      have hql := lt_of_get hq
      have hjl : j < i.size := by rw [← hxl]; exact lt_of_get hj
      obtain ⟨u, h1, h2, him⟩ := hA q j x p hq hj
      rw [← hsz x (List.mem_of_getElem? hq), hxl] at h1
      have hlt : q * i.size + j < es2.length * i.size := by
        have := Nat.mul_le_mul_right i.size (show q + 1 ≤ es2.length by omega)
        rw [Nat.add_mul, Nat.one_mul] at this; omega
      refine ⟨u, ?_, him⟩
      simp only [news, List.getElem?_map, List.getElem?_range hlt, Option.map_some, h1, Option.getD_some]
    · obtain ⟨k, hk⟩ := List.getElem?_of_mem hu
      exact (hget k u hk).2.2
theorem ownsRow_take {e : TypeId} {size n cc h : Nat} {A : Option Addr} {xs : List Value} (ho : w.ownsRow 0 e size (.slice A n cc) n xs) (hh : h ≤ n) : w.ownsRow 0 e size (.slice A h cc) h (xs.take (h * size)) := by
  have hmul : h * size ≤ n * size := Nat.mul_le_mul_right _ hh
  refine ⟨by rw [List.length_take, ho.1]; omega, ?_⟩
  rcases ho.2 with ⟨e1, rfl⟩ | ⟨g, cap, cur, e1, h0, hg, hc, hx, hcs, ht⟩
  · cases e1
    obtain rfl : h = 0 := by omega
    exact .inl ⟨rfl, rfl⟩
  · cases e1
    exact .inr ⟨g, cc, cur, rfl, h0, hg, by omega, hx, hcs, by rw [← ht, List.take_take, Nat.min_eq_left hmul]⟩
variable {np : Nat} {lent : FuncId → Bool} {d : Option Tmp} {ty : TypeId} {pos : String} {af : Array Edge} {g : Option (Nat × Bool)} {k : Tm → Mem → Prop} {Q : Exit → Act → World → Prop}
theorem s_append (h : Inv c tm m ρ a w) (hd : ∀ t, d = some t → t < c.N) {args : Array Operand} {ts : Array TypeId} (hs : step c.P c.np lent tm m d ty k (.call { callee := .builtin .append, args := args, argTypes := ts })) : Oper.wp c.P ⟨d, .call { callee := .builtin .append, args := args, argTypes := ts }, ty, pos, af, g⟩ a w (Then c k) Q := by
  simp only [step] at hs
  obtain ⟨x, y, hx, hs1⟩ := onTwo_e hs
  obtain ⟨t, t', ht, htt, hs2⟩ := onTwo_e hs1
  clear hs hs1
  rename _ => hs
  · have hargs : args = #[x, y] := by rw [← Array.toList_inj]; exact hx
    have hts : ts = #[t, t'] := by rw [← Array.toList_inj]; exact ht
    subst hargs
    subst hts
    subst htt
    unfold onApp at hs
    split at hs
    · rename_i b hev
      obtain ⟨⟨_, hnp⟩, hs⟩ := hs
      · obtain ⟨es2, hs, hrow⟩ := row1_sound h.blk (h.ev y) hs
        · obtain ⟨e, es, hm, he, ⟨hlen, hfit⟩, hs⟩ := onRowB_e hs
          have hxv : a.eval x = ρ b := by
            have := h.ev x
            rw [hev] at this
            generalize a.eval x = vx at this
            cases this with
            | im hi => cases hi
            | own => rfl
          have hok := h.blk b _ hm
          generalize hvb : ρ b = vb at hok
          cases hok with
          | row hi hzz hzzs h0 hby hlen' ho hsz hf hx' h1 =>
            rename_i xs i z'
            have hfl : ∀ x ∈ es2, x.length = i.size := by
              intro x hx
              obtain ⟨i', zv, hi', _, _, _, _, _, e2⟩ := rowSize_eq (hfit x hx).1
              rw [hi] at hi'; cases hi'; exact e2.symm
            obtain ⟨v', w', news, hrun, h3, h4, h5, h6, h7⟩ := append_run (P := c.P) (ty := ty) (elemOf_eq he) hi hzz hzzs h0 hby ho hrow hfl hlen
            refine wp_value (v := v') (w' := w') ?_ ⟨_, _, _, hs, h.append hd hm hnp hi hzz hzzs h0 hby (by simpa using hlen) ho.1 hsz hf hx' h1 hfl hfit.flat h6 h7 (by simpa using h3) (by rw [hvb]; exact h4) (by rw [hvb]; exact h5)⟩
            simp only [execOp, resolve, invoke, builtin, Sem.run_bind, Sem.run_pure, Result.andThen_ok, List.map_toArray, List.map_cons, List.map_nil, hxv, hvb, hrun]
    · rename_i b hh hev
      obtain ⟨⟨_, hnp⟩, hs⟩ := hs
      · obtain ⟨es2, hs, hrow⟩ := row1_sound h.blk (h.ev y) hs
        · obtain ⟨e, es, hm, he, ⟨hlen, hfit⟩, hs⟩ := onRowB_e hs
          have hxv : ∃ A n cc, a.eval x = .slice A hh cc ∧ ρ b = .slice A n cc ∧ hh ≤ es.length := by
            have := h.ev x
            rw [hev] at this
            generalize a.eval x = vx at this
            cases this with
            | im hi => cases hi
            | osl0 h1 h2 h3 => rw [hm] at h1; cases h1; exact ⟨_, _, _, rfl, h3, h2⟩
            | osl h1 h2 => omega
          obtain ⟨A, n, cc, hxv, hρ, hhl⟩ := hxv
          have hok := h.blk b _ hm
          generalize hvb : ρ b = vb at hok
          rw [hρ] at hvb
          subst hvb
          cases hok with
          | row hi hzz hzzs h0 hby hlen' ho hsz hf hx' h1 =>
            rename_i xs i z'
            have hfl : ∀ x ∈ es2, x.length = i.size := by
              intro x hx
              obtain ⟨i', zv, hi', _, _, _, _, _, e2⟩ := rowSize_eq (hfit x hx).1
              rw [hi] at hi'; cases hi'; exact e2.symm
            obtain ⟨A', n', rfl⟩ : ∃ q q', n = es.length := by
              rcases ho.2 with ⟨e1, e2⟩ | ⟨g, cap, cur, e1, _⟩
              · cases e1; exact ⟨0, 0, e2.symm⟩
              · cases e1; exact ⟨0, 0, rfl⟩
            have ho' := ownsRow_take ho hhl
            have htl : (es.take hh).length = hh := by simp; omega
            obtain ⟨v', w', news, hrun, h3, h4, h5, h6, h7⟩ := append_run (P := c.P) (ty := ty) (elemOf_eq he) hi hzz hzzs h0 hby ho' hrow hfl (by omega)
            have e1 : own1 (.slice A hh cc) = own1 (ρ b) := by rw [hρ]; cases A <;> rfl
            have hmt : ∀ x ∈ es.take hh, x ∈ es := fun x hx => List.mem_of_mem_take hx
            refine wp_value (v := v') (w' := w') ?_ ⟨_, _, _, hs, h.append (es := es.take hh) (xs := xs.take (hh * i.size)) hd hm hnp hi hzz hzzs h0 hby (by simp; omega) (by rw [htl]; exact ho'.1) (fun x hx => hsz x (hmt x hx)) (fun hfl x hx => hf hfl x (hmt x hx)) (fun q j x p hq hj => ?_) (fun u hu => h1 u (List.mem_of_mem_take hu)) hfl hfit.flat h6 h7 (by rw [List.length_append, htl]; exact h3) (by rw [← e1]; exact h4) (by rw [← e1]; exact h5)⟩
            · simp only [execOp, resolve, invoke, builtin, Sem.run_bind, Sem.run_pure, Result.andThen_ok, List.map_toArray, List.map_cons, List.map_nil, hxv, hrun]
            · have hql := lt_of_get hq
              rw [htl] at hql
              rw [List.getElem?_take, if_pos hql] at hq
              obtain ⟨u, hu, him⟩ := hx' q j x p hq hj
              refine ⟨u, ?_, him⟩
              have hjl := lt_of_get hj
              rw [hsz x (List.mem_of_getElem? hq)] at hjl
              have : q * i.size + j < hh * i.size := by
                have := Nat.mul_le_mul_right i.size (show q + 1 ≤ hh by omega)
                rw [Nat.add_mul, Nat.one_mul] at this; omega
              rw [List.getElem?_take, if_pos this]; exact hu
    · rename_i hev
      have hxv := (hev ▸ h.ev x : Rep c.M w m ρ (.val (.slice none 0 0)) (a.eval x)).val_eq
      obtain ⟨e, he, hs⟩ := onS_e hs
      · obtain ⟨z, hz, hs⟩ := onS_e hs
        · obtain ⟨es2, ⟨⟨hlen, hfit⟩, hs⟩, hrow⟩ := row1_sound h.blk (h.ev y) hs
          obtain ⟨i, zv, hi, hzv, hzs, h0, hz4, hby, rfl⟩ := rowSize_eq hz
          have hfl := hfit.len hz
          have hown : w.ownsRow 0 e i.size (.slice none 0 0) 0 [] := ⟨by simp, .inl ⟨rfl, rfl⟩⟩
          obtain ⟨v', w', news, hrun, h3, h4, h5, h6, h7⟩ := append_run (P := c.P) (ty := ty) (elemOf_eq he) hi hzv hzs h0 hby hown hrow hfl (by omega)
          simp only [Nat.zero_add, List.nil_append] at h3
          have hu : ∀ k, own1 v' = some k → w.heap.size ≤ k := by
            intro k hk
            rcases h5 with e1 | e1
            · rw [e1] at hk; cases hk
            · rw [e1] at hk; cases hk; exact Nat.le_refl _
          have hmv : Mv (Own m ρ) w w' := ⟨h4.size, fun k hk _ => h4.block k hk (by simp [own1])⟩
          refine wp_value (v := v') (w' := w') (by simp only [execOp, resolve, invoke, builtin, Sem.run_bind, Sem.run_pure, Result.andThen_ok, List.map_toArray, List.map_cons, List.map_nil, hxv, hrun]) ⟨_, _, _, hs, h.lay hd h4.size (fun k hk => h4.block k hk (by simp [own1])) h4.os h4.tape h4.output hu (.row (xs := news) hi hzv hzs h0 hby hlen h3 hfl hfit.flat (fun q j x p hq hj => ?_) h7) .laid⟩
          obtain ⟨u, hu1, him⟩ := h6 q j x p hq hj
          exact ⟨u, hu1, him.move hmv.mine (fun k hk hm => mine_lay hu hk hm)⟩
    · cases hs
end
end Go.V
