import Derived.Lib.AppendZeros
import Derived.ArgAppend
import Derived.Test.YtbccejopeclhmaaGreatM1
set_option linter.unusedVariables false
set_option linter.unusedSimpArgs false
namespace Go.V
open Go
section
variable {c : Cx} {P : Program} {M M' : Nat → Prop} {w0 w w' : World} {S : Nat → Prop} {N : Nat} {tm : Tm} {m m' : Mem} {ρ ρ' : Nat → Value} {a : Act}
theorem Rep.own' {b : Nat} {e : TypeId} {es : List (List PV)} {v : Value} (h : m[b]? = some (.row e es)) (hv : ρ b = v) : Rep M w m ρ (.own b) v := by subst hv; exact .own h
theorem wipeM_get (b : Nat) : ∀ (l : Mem) (c : Nat), (wipeM b l)[c]? = (l[c]?).map fun
    | .var cs => .var (cs.map (wipe1 b))
    | x => x
  | [], c => by simp [wipeM]
  | .var cs :: l, 0 => by simp [wipeM]
  | .row e es :: l, 0 => by simp [wipeM]
  | .dead :: l, 0 => by simp [wipeM]
  | .var cs :: l, c + 1 => by simp only [wipeM, List.getElem?_cons_succ, wipeM_get b l]
  | .row e es :: l, c + 1 => by simp only [wipeM, List.getElem?_cons_succ, wipeM_get b l]
  | .dead :: l, c + 1 => by simp only [wipeM, List.getElem?_cons_succ, wipeM_get b l]
theorem wipeM_length (b : Nat) : ∀ (l : Mem), (wipeM b l).length = l.length
  | [] => rfl
  | .var cs :: l => by simp [wipeM, wipeM_length b l]
  | .row e es :: l => by simp [wipeM, wipeM_length b l]
  | .dead :: l => by simp [wipeM, wipeM_length b l]
theorem get_wipeT (b : Nat) : ∀ (tm : Tm) (t : Nat), get (wipeT b tm) t = wipe1 b (get tm t)
  | [], t => by simp [wipeT, get, wipe1, tr]
  | (k, p) :: l, t => by simp only [wipeT, get, get_wipeT b l t]; split <;> rfl
theorem Inv.append (h : Inv c tm m ρ a w) {b : Nat} {e : TypeId} {es0 es es2 : List (List PV)} {i : TypeInfo} {z v' : Value} {xs news : List Value} {d : Option Tmp} (hd : ∀ t, d = some t → t < c.N) (hm : m[b]? = some (.row e es0)) (hnp : c.np ≤ b)
    (hinf : c.P.info? e = some i) (hz : i.zero = some z) (hzs : z.cells.size = i.size) (h0 : 0 < i.size) (hby : i.bytes ≤ 100000) (hlen : (es ++ es2).length ≤ 1000000000)
    (hxl : xs.length = es.length * i.size) (hsz : ∀ x ∈ es, x.length = i.size) (hf : flatT c.P e = true → ∀ x ∈ es, ∀ p ∈ x, flatP p = true) (hx : ∀ (q j : Nat) (x : List PV) (p : PV), es[q]? = some x → x[j]? = some p → ∃ u, xs[q * i.size + j]? = some u ∧ Im w (Mine c.M m ρ) p u) (h1 : ∀ u ∈ xs, u.oneCell' = true)
    (hsz2 : ∀ x ∈ es2, x.length = i.size) (hf2 : flatT c.P e = true → ∀ x ∈ es2, ∀ p ∈ x, flatP p = true) (hx2 : ∀ (q j : Nat) (x : List PV) (p : PV), es2[q]? = some x → x[j]? = some p → ∃ u, news[q * i.size + j]? = some u ∧ Im w (Mine c.M m ρ) p u) (h2 : ∀ u ∈ news, u.oneCell' = true)
    (ho : w'.ownsRow 0 e i.size v' (es ++ es2).length (xs ++ news)) (hg : w.grownBy w' (own1 (ρ b))) (hb' : own1 v' = own1 (ρ b) ∨ own1 v' = some w.heap.size) :
    Inv c (V.put (wipeT b tm) d (.own b)) ((wipeM b m).set b (.row e (es ++ es2))) (upd ρ b v') (a.put d v') w' := by
  have hbl : b < (wipeM b m).length := by rw [wipeM_length]; exact lt_of_get hm
  generalize hm' : (wipeM b m).set b (.row e (es ++ es2)) = m'
  have gb : m'[b]? = some (.row e (es ++ es2)) := by rw [← hm', List.getElem?_set_self hbl]
  have gc : ∀ c, c ≠ b → m'[c]? = (m[c]?).map fun
    | .var cs => .var (cs.map (wipe1 b))
    | x => x := fun c hc => by rw [← hm', List.getElem?_set_ne (Ne.symm hc), wipeM_get]
  have hml : m'.length = m.length := by rw [← hm', List.length_set, wipeM_length]
  have ub : upd ρ b v' b = v' := if_pos rfl
  have uc : ∀ c, c ≠ b → upd ρ b v' c = ρ c := fun c hc => if_neg hc
  have hlive : ∀ c, Live m' c → Live m c := by
    rintro c ⟨x, hx, hdx⟩
    by_cases hc : c = b
    · subst hc; exact live_row hm
    · rw [gc c hc] at hx
      obtain ⟨y, hy, rfl⟩ := Option.map_eq_some_iff.1 hx
      refine ⟨y, hy, fun e => ?_⟩
      subst e
      exact hdx rfl
  have hown : ∀ c k, Live m' c → own1 (upd ρ b v' c) = some k → k < w.heap.size → own1 (ρ c) = some k := by
    intro c k hc hk hlt
    by_cases hcb : c = b
    · subst hcb
      rw [ub] at hk
      rcases hb' with e | e
      · rw [← e]; exact hk
      · rw [e] at hk; cases hk; omega
    · rw [uc c hcb] at hk; exact hk
  have hOwn : ∀ k, k < w.heap.size → Own m' (upd ρ b v') k → Own m ρ k := fun k hk ⟨c, hc, hck⟩ => ⟨c, hlive c hc, hown c k hc hck hk⟩
  have hmine : ∀ k, k < w.heap.size → Mine c.M m' (upd ρ b v') k → Mine c.M m ρ k := fun k hk h => h.imp id (hOwn k hk)
  have hmv : Mv (Own m ρ) w w' := ⟨hg.size, fun k hk hn => hg.block k hk fun e => hn ⟨b, live_row hm, e.symm⟩⟩
  have hrep : ∀ p v, Rep c.M w m ρ p v → Rep c.M w' m' (upd ρ b v') (wipe1 b p) v := by
    intro p v hp
    refine hp.tr _ _ _ _ _ (fun _ => True) (fun _ _ => trivial) (fun p v hi => hi.move hmv.mine hmine) (fun c e es _ hc => ?_) (fun c l hh v e es _ hc hr => ?_) (fun c i g cs _ hc hgv => ?_) (fun c i j g n cc sz e es _ hc hi hs hgv => ?_) (fun cs v hc => hc.cad_move hmv hOwn hmine)
    · by_cases hcb : c = b
      · rw [if_pos hcb]; exact .im .any
      · rw [if_neg hcb]; exact .own' (by rw [gc c hcb, hc]; rfl) (uc c hcb)
    · by_cases hcb : c = b
      · rw [if_pos hcb]; exact .im .any
      · rw [if_neg hcb]
        cases hr with
        | im hi => cases hi
        | osl0 h1 h2 h3 => exact .osl0 (by rw [gc c hcb, h1]; rfl) h2 (by rw [uc c hcb]; exact h3)
        | osl h1 h2 h3 h4 h5 h6 h7 h8 => exact .osl (by rw [gc c hcb, h1]; rfl) h2 h3 h4 h5 h6 h7 (by rw [uc c hcb]; exact h8)
    · have hcb : c ≠ b := fun e => by subst e; rw [hm] at hc; cases hc
      exact .adr (by rw [gc c hcb, hc]; rfl) (by rw [uc c hcb, hgv])
    · by_cases hcb : c = b
      · rw [if_pos hcb]; exact .im .any
      · rw [if_neg hcb]; exact .ead (by rw [gc c hcb, hc]; rfl) hi hs (by rw [uc c hcb, hgv])
  have base : Inv c (wipeT b tm) m' (upd ρ b v') a w' := by
    refine ⟨h.sz, h.df, fun t => by rw [get_wipeT]; exact hrep _ _ (h.tm t), fun c x hx' => ?_, fun c c2 k hc hc2 hk hk2 => ?_, fun c k hc hk => ?_, h.fr.step hg.os hg.tape hg.output hg.size (fun k hk hS => hg.block k (by have := h.fr.size; omega) fun e => ?_), h.old, h.dis, ?_⟩
    · by_cases hcb : c = b
      · subst hcb
        rw [gb] at hx'; cases hx'
        rw [ub]
        refine .row hinf hz hzs h0 hby hlen ho (fun x hxm => ?_) (fun hfl => ?_) (fun q j x p hq hj => ?_) (fun u hu => ?_)
        · rcases List.mem_append.1 hxm with h | h
          · exact hsz x h
          · exact hsz2 x h
        · intro x hxm
          rcases List.mem_append.1 hxm with h | h
          · exact hf hfl x h
          · exact hf2 hfl x h
        · by_cases hql : q < es.length
          · rw [List.getElem?_append_left hql] at hq
            obtain ⟨u, hu, him⟩ := hx q j x p hq hj
            refine ⟨u, ?_, him.move hmv.mine hmine⟩
            rw [List.getElem?_append_left (lt_of_get hu)]; exact hu
          · rw [List.getElem?_append_right (by omega)] at hq
            obtain ⟨u, hu, him⟩ := hx2 _ j x p hq hj
            refine ⟨u, ?_, him.move hmv.mine hmine⟩
            have hmul : es.length * i.size ≤ q * i.size := Nat.mul_le_mul_right _ (by omega)
            rw [List.getElem?_append_right (by omega), hxl, ← hu, Nat.sub_mul]
            congr 1; omega
        · rcases List.mem_append.1 hu with h | h
          · exact h1 u h
          · exact h2 u h
      · rw [gc c hcb] at hx'
        obtain ⟨y, hy, rfl⟩ := Option.map_eq_some_iff.1 hx'
        have hok := h.blk c y hy
        have hkeep : y ≠ .dead → ∀ k, own1 (ρ c) = some k → k < w.heap.size → w'.heap[k]? = w.heap[k]? := fun hyd k hk hlt => hg.block k hlt fun e => hcb (h.sep c b k ⟨y, hy, hyd⟩ (live_row hm) hk e.symm)
        rw [uc c hcb]
        generalize hv : ρ c = v at hok hkeep ⊢
        cases y with
        | dead => exact .dead
        | var cs =>
          cases hok with
          | var hgv hl hj h1v =>
            refine .var ((hkeep (by simp) _ rfl (Array.getElem?_eq_some_iff.1 hgv).1).trans hgv) (by simpa using hl) (fun j p v hp hv => ?_) h1v
            rw [List.getElem?_map] at hp
            obtain ⟨q, hq, rfl⟩ := Option.map_eq_some_iff.1 hp
            exact hrep _ _ (hj j q v hq hv)
        | row e' es' =>
          cases hok with
          | row hinf hz hzs h0 hby hlen ho hsz hf hx h1 =>
            exact .row hinf hz hzs h0 hby hlen (ownsRow_move ho (hkeep (by simp))) hsz hf (fun q j x p hq hj => let ⟨u, h2, h3⟩ := hx q j x p hq hj; ⟨u, h2, h3.move hmv.mine hmine⟩) h1
    · have old : ∀ c k, Live m' c → own1 (upd ρ b v' c) = some k → (c ≠ b → k < w.heap.size) := fun c k hc hk hcb => by
        rw [uc c hcb] at hk; exact h.lt (hlive c hc) hk
      by_cases hlt : k < w.heap.size
      · exact h.sep c c2 k (hlive c hc) (hlive c2 hc2) (hown c k hc hk hlt) (hown c2 k hc2 hk2 hlt)
      · by_cases e1 : c = b
        · by_cases e2 : c2 = b
          · rw [e1, e2]
          · exact absurd (old c2 k hc2 hk2 e2) hlt
        · exact absurd (old c k hc hk e1) hlt
    · by_cases hlt : k < w.heap.size
      · exact h.new c k (hlive c hc) (hown c k hc hk hlt)
      · have := h.fr.size; exact .inl (by omega)
    · rcases h.new b k (live_row hm) e.symm with h3 | h3
      · omega
      · exact hS h3
    · refine ⟨by rw [hml]; exact h.ft.len, fun x cs hx hm0 => ?_, fun x e es hx hm0 => ?_, fun x hx hm0 => ?_⟩
      · obtain ⟨h1, cs', h2⟩ := h.ft.var x cs hx hm0
        have hxb : x ≠ b := fun e => by subst e; rw [hm] at h2; cases h2
        exact ⟨by rw [uc x hxb]; exact h1, _, by rw [gc x hxb, h2]; rfl⟩
      · by_cases hxb : x = b
        · subst hxb; exact .inr ⟨fun hlt => by omega, _, _, gb⟩
        · rcases h.ft.row x e es hx hm0 with h1 | ⟨h1, e', es', h2⟩
          · left; rw [gc x hxb, h1]; rfl
          · exact .inr ⟨fun hlt => by rw [uc x hxb]; exact h1 hlt, e', es', by rw [gc x hxb, h2]; rfl⟩
      · have h1 := h.ft.dead x hx hm0
        have hxb : x ≠ b := fun e => by subst e; rw [hm] at h1; cases h1
        rw [gc x hxb, h1]; rfl
  exact base.put hd (.own' gb ub)
theorem append_zero {t ty e : TypeId} {i : TypeInfo} (ht : P.underlying t = some (.slice e)) (hi : P.info? e = some i) (base : Option Addr) (n cap : Nat) (hnc : n ≤ cap) (A : Option Addr) (c : Nat) (w : World) :
    (Builtin.append_ #[t, t] ty #[.slice base n cap, .slice A 0 c]).run P w = .ok (.slice base n cap) w := by
  cases A <;> cases base <;> simp [Builtin.append_, run_underlying ht, sizeOf, typeInfo, hi, Builtin.lenOf, Builtin.firstCells, loadCells, loadCellsFrom, hnc, storeCells]
theorem own1_block {v : Value} {A : Option Addr} {n c : Nat} (h : v = .slice A n c) : own1 v = v.ownBlock := by subst h; cases A <;> rfl
theorem append_run {t ty e : TypeId} {i : TypeInfo} {z : Value} (ht : P.underlying t = some (.slice e)) (hi : P.info? e = some i) (hz : i.zero = some z) (hzs : z.cells.size = i.size) (h0 : 0 < i.size) (hby : i.bytes ≤ 100000)
    {v v2 : Value} {n : Nat} {xs : List Value} (hown : w.ownsRow 0 e i.size v n xs) {es2 : List (List PV)} (h2 : RowAt M w m ρ v2 es2) (hl : ∀ x ∈ es2, x.length = i.size) (hlen : n + es2.length ≤ 1000000000) :
    ∃ v' w' news, (Builtin.append_ #[t, t] ty #[v, v2]).run P w = .ok v' w' ∧ w'.ownsRow 0 e i.size v' (n + es2.length) (xs ++ news) ∧ w.grownBy w' (own1 v) ∧ (own1 v' = own1 v ∨ own1 v' = some w.heap.size) ∧
      (∀ (q j : Nat) (x : List PV) (p : PV), es2[q]? = some x → x[j]? = some p → ∃ u, news[q * i.size + j]? = some u ∧ Im w (Mine M m ρ) p u) ∧ ∀ u ∈ news, u.oneCell' = true := by
  obtain ⟨A, c, sz, rfl, hmx, hc, hsz, _, hA⟩ := h2
  have hvf : ∃ B k, v = .slice B n k ∧ n ≤ k := by
    rcases hown.2 with ⟨rfl, rfl⟩ | ⟨g, cap, cur, rfl, _, _, hc, _⟩
    · exact ⟨none, 0, rfl, Nat.le_refl _⟩
    · exact ⟨_, cap, rfl, hc⟩
  by_cases hn : es2.length = 0
  · obtain ⟨B, k, rfl, hk⟩ := hvf
    refine ⟨_, w, [], by rw [hn]; exact append_zero ht hi B n k hk A c w, by simpa [hn] using hown, ⟨rfl, rfl, rfl, Nat.le_refl _, fun _ _ _ => rfl⟩, .inl rfl, fun q j x p hq => ?_, by simp⟩
    rw [List.getElem?_eq_none (by omega)] at hq; cases hq
  · rcases hA with h | ⟨ad, rfl, hA⟩
    · exact absurd h hn
    have hcell : ∀ k, k < es2.length * i.size → ∃ u, w.cell? (ad.add k) = some u ∧ u.oneCell' = true := by
      intro k hk
      have hq : k / i.size < es2.length := (Nat.div_lt_iff_lt_mul h0).2 hk
      have hx : es2[k / i.size]? = some (es2[k / i.size]'hq) := List.getElem?_eq_getElem hq
      have hxl := hl _ (List.mem_of_getElem? hx)
      have hj : k % i.size < (es2[k / i.size]'hq).length := by rw [hxl]; exact Nat.mod_lt _ h0
      obtain ⟨u, h1, h2, _⟩ := hA _ _ _ _ hx (List.getElem?_eq_getElem hj)
      rw [← hsz _ (List.mem_of_getElem? hx), hxl, Nat.mul_comm, Nat.div_add_mod] at h1
      exact ⟨u, h1, h2⟩
    let news := (List.range (es2.length * i.size)).map fun k => (w.cell? (ad.add k)).getD undef
    have hget : ∀ k u, news[k]? = some u → k < es2.length * i.size ∧ w.cell? (ad.add k) = some u ∧ u.oneCell' = true := by
      intro k u hu
      simp only [news, List.getElem?_map] at hu
      obtain ⟨k', hk', rfl⟩ := Option.map_eq_some_iff.1 hu
      have hlt : k < es2.length * i.size := by simpa using lt_of_get hk'
      rw [List.getElem?_range hlt] at hk'
      cases hk'
      obtain ⟨u, h1, h2⟩ := hcell k hlt
      rw [h1]
      exact ⟨hlt, rfl, h2⟩
    obtain ⟨v', w', hr, h3, h4, h5, h6⟩ := run_append_own_at (P := P) w 0 t ty e i z i.size i.bytes ht hi hz rfl rfl hzs h0 v n xs hown ad es2.length c news (by simp [news]) (fun j u hu => (hget j u hu).2.1) (fun u hu => by
      obtain ⟨k, hk⟩ := List.getElem?_of_mem hu
      exact (hget k u hk).2.2) (by simp only [maxLen]; omega) (by
      have : (n + es2.length) * i.bytes ≤ 1000000000 * 100000 := Nat.mul_le_mul hlen hby
      omega) (Nat.zero_le _)
    obtain ⟨B, k, rfl, hk⟩ := hvf
    have e1 : own1 (.slice B n k) = (Value.slice B n k).ownBlock := own1_block rfl
    obtain ⟨g, cap, rfl, _, _⟩ := h3.form (by omega)
    refine ⟨_, w', news, hr, h3, by rw [e1]; exact h4, by rw [e1]; exact h6, fun q j x p hq hj => ?_, fun u hu => ?_⟩
    · have hxl := hl x (List.mem_of_getElem? hq)
      have hql := lt_of_get hq
      have hjl : j < i.size := by rw [← hxl]; exact lt_of_get hj
      obtain ⟨u, h1, h2, him⟩ := hA q j x p hq hj
      rw [← hsz x (List.mem_of_getElem? hq), hxl] at h1
      have hlt : q * i.size + j < es2.length * i.size := by
        have := Nat.mul_le_mul_right i.size (show q + 1 ≤ es2.length by omega)
        rw [Nat.add_mul, Nat.one_mul] at this; omega
      refine ⟨u, ?_, him⟩
      simp only [news, List.getElem?_map, List.getElem?_range hlt, Option.map_some, h1, Option.getD_some]
    · obtain ⟨k, hk⟩ := List.getElem?_of_mem hu
      exact (hget k u hk).2.2
theorem ownsRow_drop_cells {e : TypeId} {size n cc l g : Nat} {xs : List Value} (ho : w.ownsRow 0 e size (.slice (some ⟨g, 0, none⟩) n cc) n xs) : ∀ j u, (xs.drop (l * size))[j]? = some u → w.cell? ((⟨g, l * size, none⟩ : Addr).add j) = some u := by
  intro j u hu
  rw [List.getElem?_drop] at hu
  have := ho.cells (g := g) rfl _ u hu
  rw [add_none] at this ⊢
  simpa using this
theorem row_news {v2 : Value} {es2 : List (List PV)} {size : Nat} (h0 : 0 < size) (h2 : RowAt M w m ρ v2 es2) (hl : ∀ x ∈ es2, x.length = size) (hn : es2.length ≠ 0) :
    ∃ ad c, ∃ news : List Value, v2 = .slice (some ad) es2.length c ∧ news.length = es2.length * size ∧ (∀ j u, news[j]? = some u → w.cell? (ad.add j) = some u) ∧ (∀ u ∈ news, u.oneCell' = true) ∧
      ∀ (q j : Nat) (x : List PV) (p : PV), es2[q]? = some x → x[j]? = some p → ∃ u, news[q * size + j]? = some u ∧ Im w (Mine M m ρ) p u := by
  obtain ⟨A, c, sz, rfl, hmx, hc, hsz, _, hA⟩ := h2
  rcases hA with h | ⟨ad, rfl, hA⟩
  · exact absurd h hn
  have hcell : ∀ k, k < es2.length * size → ∃ u, w.cell? (ad.add k) = some u ∧ u.oneCell' = true := by
    intro k hk
    have hq : k / size < es2.length := (Nat.div_lt_iff_lt_mul h0).2 hk
    have hx : es2[k / size]? = some (es2[k / size]'hq) := List.getElem?_eq_getElem hq
    have hxl := hl _ (List.mem_of_getElem? hx)
    have hj : k % size < (es2[k / size]'hq).length := by rw [hxl]; exact Nat.mod_lt _ h0
    obtain ⟨u, h1, h2, _⟩ := hA _ _ _ _ hx (List.getElem?_eq_getElem hj)
    rw [← hsz _ (List.mem_of_getElem? hx), hxl, Nat.mul_comm, Nat.div_add_mod] at h1
    exact ⟨u, h1, h2⟩
  have hget : ∀ k u, ((List.range (es2.length * size)).map fun k => (w.cell? (ad.add k)).getD undef)[k]? = some u → k < es2.length * size ∧ w.cell? (ad.add k) = some u ∧ u.oneCell' = true := by
    intro k u hu
    simp only [List.getElem?_map] at hu
    obtain ⟨k', hk', rfl⟩ := Option.map_eq_some_iff.1 hu
    have hlt : k < es2.length * size := by simpa using lt_of_get hk'
    rw [List.getElem?_range hlt] at hk'
    cases hk'
    obtain ⟨u, h1, h2⟩ := hcell k hlt
    rw [h1]
    exact ⟨hlt, rfl, h2⟩
  refine ⟨ad, c, (List.range (es2.length * size)).map fun k => (w.cell? (ad.add k)).getD undef, rfl, by simp, fun j u hu => (hget j u hu).2.1, fun u hu => ?_, fun q j x p hq hj => ?_⟩
  · obtain ⟨k, hk⟩ := List.getElem?_of_mem hu
    exact (hget k u hk).2.2
  · have hxl := hl x (List.mem_of_getElem? hq)
    have hql := lt_of_get hq
    have hjl : j < size := by rw [← hxl]; exact lt_of_get hj
    obtain ⟨u, h1, h2, him⟩ := hA q j x p hq hj
    rw [← hsz x (List.mem_of_getElem? hq), hxl] at h1
    have hlt : q * size + j < es2.length * size := by
      have := Nat.mul_le_mul_right size (show q + 1 ≤ es2.length by omega)
      rw [Nat.add_mul, Nat.one_mul] at this; omega
    refine ⟨u, ?_, him⟩
    simp only [List.getElem?_map, List.getElem?_range hlt, Option.map_some, h1, Option.getD_some]
/-- Onto the end of a part that goes to the row's end: in the row's own block, or in a new one. -/
theorem append_part {t ty e : TypeId} {i : TypeInfo} {z : Value} (ht : P.underlying t = some (.slice e)) (hi : P.info? e = some i) (hz : i.zero = some z) (hzs : z.cells.size = i.size) (h0 : 0 < i.size) (hby : i.bytes ≤ 100000)
    {v2 : Value} {n cc l g : Nat} {A : Option Addr} {xs : List Value} (hown : w.ownsRow 0 e i.size (.slice (some ⟨g, 0, none⟩) n (cc + l)) n xs) (hln : l ≤ n) (hA : cc = 0 ∨ A = some ⟨g, l * i.size, none⟩)
    {es2 : List (List PV)} (h2 : RowAt M w m ρ v2 es2) (hl : ∀ x ∈ es2, x.length = i.size) (hlen : n + es2.length ≤ 1000000000) :
    ∃ v' w' news, (Builtin.append_ #[t, t] ty #[.slice A (n - l) cc, v2]).run P w = .ok v' w' ∧ w.grownBy w' (some g) ∧
      (∀ (q j : Nat) (x : List PV) (p : PV), es2[q]? = some x → x[j]? = some p → ∃ u, news[q * i.size + j]? = some u ∧ Im w (Mine M m ρ) p u) ∧ (∀ u ∈ news, u.oneCell' = true) ∧
      ((v' = .slice A (n - l + es2.length) cc ∧ n - l + es2.length ≤ cc ∧ w'.ownsRow 0 e i.size (.slice (some ⟨g, 0, none⟩) (n + es2.length) (cc + l)) (n + es2.length) (xs ++ news)) ∨
       (w'.ownsRow 0 e i.size v' (n - l + es2.length) (xs.drop (l * i.size) ++ news) ∧ (own1 v' = some g ∨ own1 v' = some w.heap.size))) := by
  obtain ⟨cur, hgb, hcap, hcm, hcs, htk⟩ : ∃ cur, w.heap[g]? = some (.cells cur e (0, 0)) ∧ n ≤ cc + l ∧ cc + l ≤ maxLen ∧ cur.size = (cc + l) * i.size ∧ cur.toList.take (n * i.size) = xs := by
    rcases hown.2 with ⟨e1, _⟩ | ⟨g', cap, cur, e1, _, h1, h2, h3, h4, h5⟩
    · cases e1
    · cases e1; exact ⟨cur, h1, h2, h3, h4, h5⟩
  have hcn : n - l ≤ cc := by omega
  by_cases hn : es2.length = 0
  · obtain ⟨A2, c2, sz, rfl, _⟩ := h2
    refine ⟨_, w, [], by rw [hn]; exact append_zero ht hi A (n - l) cc hcn A2 c2 w, ⟨rfl, rfl, rfl, Nat.le_refl _, fun _ _ _ => rfl⟩, fun q j x p hq => ?_, by simp, .inl ⟨by rw [hn]; rfl, by omega, by simpa [hn] using hown⟩⟩
    rw [List.getElem?_eq_none (by omega)] at hq; cases hq
  obtain ⟨ad, c2, news, rfl, hnl, hnc, hn1, hni⟩ := row_news h0 h2 hl hn
  have hb : (n + es2.length) * i.bytes ≤ 140737488355328 := by
    have : (n + es2.length) * i.bytes ≤ 1000000000 * 100000 := Nat.mul_le_mul hlen hby
    omega
  have hxl := hown.1
  by_cases hroom : n - l + es2.length ≤ cc
  · rcases hA with hA | rfl
    · omega
    have e1 : l * i.size + (n - l) * i.size = n * i.size := by rw [← Nat.add_mul]; congr 1; omega
    have hcell : ∀ j, j < news.length → (w.cell? ⟨g, n * i.size + j, none⟩).isSome = true := by
      intro j hj
      rw [cell_of_row w g _ cur e (0, 0) hgb]
      have : n * i.size + j < cur.size := by
        rw [hcs]
        have := Nat.mul_le_mul_right i.size (show n + es2.length ≤ cc + l by omega)
        rw [Nat.add_mul] at this
        omega
      simp [this]
    have hfz : ∀ j, j < news.length → w.frozen? ⟨g, n * i.size + j, none⟩ = false := fun j _ => by simp [World.frozen?, hgb]
    have r1 := run_append_room_cells (P := P) (w := w) t ty e i ht hi g 0 n (cc + l) ad es2.length c2 news hnl hnc hn1 (by omega) (fun j hj => by rw [Nat.zero_add]; exact hcell j hj) (fun j hj => by rw [Nat.zero_add]; exact hfz j hj)
    have r2 := run_append_room_cells (P := P) (w := w) t ty e i ht hi g (l * i.size) (n - l) cc ad es2.length c2 news hnl hnc hn1 hroom (fun j hj => by rw [e1]; exact hcell j hj) (fun j hj => by rw [e1]; exact hfz j hj)
    obtain ⟨v1, w1, r3, o1, o2, _, _⟩ := run_append_own_at (P := P) w 0 t ty e i z i.size i.bytes ht hi hz rfl rfl hzs h0 _ n xs hown ad es2.length c2 news hnl hnc hn1 (by simp only [maxLen]; omega) hb (Nat.zero_le _)
    rw [r1] at r3
    cases r3
    rw [e1] at r2
    rw [Nat.zero_add] at o1 o2
    exact ⟨_, _, news, r2, o2, hni, hn1, .inl ⟨rfl, hroom, o1⟩⟩
  · have hgrow : ∀ b : Addr, A = some b → (∀ j u, (xs.drop (l * i.size))[j]? = some u → w.cell? (b.add j) = some u) → ∃ v' w', (Builtin.append_ #[t, t] ty #[.slice A (n - l) cc, .slice (some ad) es2.length c2]).run P w = .ok v' w' ∧ w.grownBy w' (some g) ∧ w'.ownsRow 0 e i.size v' (n - l + es2.length) (xs.drop (l * i.size) ++ news) ∧ own1 v' = some w.heap.size := by
      rintro b rfl hcells
      have hxd : (xs.drop (l * i.size)).length = (n - l) * i.size := by rw [List.length_drop, hxl, ← Nat.sub_mul]
      have hlen2 : (xs.drop (l * i.size) ++ news).length = (n - l + es2.length) * i.size := by rw [List.length_append, hxd, hnl, Nat.add_mul]
      have hb2 : (n - l + es2.length) * i.bytes ≤ 140737488355328 := by
        have : (n - l + es2.length) * i.bytes ≤ (n + es2.length) * i.bytes := Nat.mul_le_mul_right _ (by omega)
        omega
      have hr := run_append_grow (P := P) w t ty e i z ht hi hz b (n - l) cc (xs.drop (l * i.size)) hxd hcells ad es2.length c2 news hnl hnc (by omega) (by omega) (growslice_fits (by omega) hb2)
      refine ⟨_, _, hr, ⟨rfl, rfl, rfl, by simp, fun k hk _ => heap_alloc_old w.drew _ k hk⟩, ⟨hlen2, .inr ⟨w.heap.size, _, _, rfl, Nat.zero_le _, heap_alloc_new w.drew _, grownCap_ge w _ _ e, grownCap_le_maxLen w _ _ e (by simp only [maxLen]; omega), ?_, ?_⟩⟩, rfl⟩
      · have hge := grownCap_ge w (n - l + es2.length) cc e
        simp only [Array.size_append, List.size_toArray, size_zeroCells, hzs, hxd, hnl, ← Nat.add_mul]
        congr 1
        omega
      · simp only [Array.toList_append, List.append_assoc]
        rw [← List.append_assoc, ← hlen2]
        exact List.take_left
    rcases hA with rfl | rfl
    · have hd0 : xs.drop (l * i.size) = [] := List.drop_eq_nil_of_le (by rw [hxl]; exact Nat.mul_le_mul_right _ (by omega))
      cases A with
      | some b =>
        obtain ⟨v', w', hr, hg, ho, hw⟩ := hgrow b rfl (fun j u hu => by rw [hd0] at hu; simp at hu)
        exact ⟨v', w', news, hr, hg, hni, hn1, .inr ⟨ho, .inr hw⟩⟩
      | none =>
        have h0n : n - l = 0 := by omega
        obtain ⟨v', w', hr, ho, hg, _, hw⟩ := run_append_own_at (P := P) w 0 t ty e i z i.size i.bytes ht hi hz rfl rfl hzs h0 (.slice none 0 0) 0 [] ⟨by simp, .inl ⟨rfl, rfl⟩⟩ ad es2.length c2 news hnl hnc hn1 (by simp only [maxLen]; omega) (by
          have : (0 + es2.length) * i.bytes ≤ (n + es2.length) * i.bytes := Nat.mul_le_mul_right _ (by omega)
          omega) (Nat.zero_le _)
        refine ⟨v', w', news, by rw [h0n]; exact hr, ⟨hg.os, hg.tape, hg.output, hg.size, fun k hk _ => hg.block k hk (by simp [Value.ownBlock])⟩, hni, hn1, .inr ⟨by rw [h0n, hd0]; exact ho, .inr ?_⟩⟩
        rcases hw with hw | hw
        · obtain ⟨g', cap', he, _⟩ := ho.form (by omega)
          rw [he] at hw; simp [Value.ownBlock] at hw
        · obtain ⟨g', cap', he, _⟩ := ho.form (by omega)
          rw [he] at hw ⊢; exact hw
    · obtain ⟨v', w', hr, hg, ho, hw⟩ := hgrow _ rfl (ownsRow_drop_cells hown)
      exact ⟨v', w', news, hr, hg, hni, hn1, .inr ⟨ho, .inr hw⟩⟩
theorem ownsRow_take {e : TypeId} {size n cc h : Nat} {A : Option Addr} {xs : List Value} (ho : w.ownsRow 0 e size (.slice A n cc) n xs) (hh : h ≤ n) : w.ownsRow 0 e size (.slice A h cc) h (xs.take (h * size)) := by
  have hmul : h * size ≤ n * size := Nat.mul_le_mul_right _ hh
  refine ⟨by rw [List.length_take, ho.1]; omega, ?_⟩
  rcases ho.2 with ⟨e1, rfl⟩ | ⟨g, cap, cur, e1, h0, hg, hc, hx, hcs, ht⟩
  · cases e1
    obtain rfl : h = 0 := by omega
    exact .inl ⟨rfl, rfl⟩
  · cases e1
    exact .inr ⟨g, cc, cur, rfl, h0, hg, by omega, hx, hcs, by rw [← ht, List.take_take, Nat.min_eq_left hmul]⟩
variable {np : Nat} {lent : FuncId → Bool} {kp : Value → Tm → Mem → Prop} {d : Option Tmp} {ty : TypeId} {pos : String} {af : Array Edge} {gd : Option (Nat × Bool)} {k : Tm → Mem → Prop} {Q : Exit → Act → World → Prop}
theorem s_append (h : Inv c tm m ρ a w) (hd : ∀ t, d = some t → t < c.N) {args : Array Operand} {ts : Array TypeId} (hs : step c.P c.np lent kp tm m d ty k (.call { callee := .builtin .append, args := args, argTypes := ts })) : Oper.wp c.P ⟨d, .call { callee := .builtin .append, args := args, argTypes := ts }, ty, pos, af, gd⟩ a w (Then c k) Q := by
  simp only [step] at hs
  obtain ⟨x, y, hx, hs1⟩ := onTwo_e hs
  obtain ⟨t, t', ht, hs2⟩ := onTwo_e hs1
  clear hs hs1
  rename _ => hs
  · have hargs : args = #[x, y] := by rw [← Array.toList_inj]; exact hx
    have hts : ts = #[t, t'] := by rw [← Array.toList_inj]; exact ht
    subst hargs
    subst hts
    unfold ifB at hs
    split at hs
    rename_i htt
    obtain rfl : t = t' := by simpa using htt
    unfold onApp at hs
    split at hs
    · rename_i b hev
      obtain ⟨⟨_, hnp⟩, hs⟩ := hs
      · obtain ⟨es2, hs, hrow⟩ := row1_sound h.blk (h.ev y) hs
        · obtain ⟨e, es, hm, he, ⟨hlen, hfit⟩, hs⟩ := onRowB_e hs
          have hxv : a.eval x = ρ b := by
            have := h.ev x
            rw [hev] at this
            generalize a.eval x = vx at this
            cases this with
            | im hi => cases hi
            | own => rfl
          have hok := h.blk b _ hm
          generalize hvb : ρ b = vb at hok
          cases hok with
          | row hi hzz hzzs h0 hby hlen' ho hsz hf hx' h1 =>
            rename_i xs i z'
            have hfl : ∀ x ∈ es2, x.length = i.size := by
              intro x hx
              obtain ⟨i', zv, hi', _, _, _, _, _, e2⟩ := rowSize_eq (hfit x hx).1
              rw [hi] at hi'; cases hi'; exact e2.symm
            obtain ⟨v', w', news, hrun, h3, h4, h5, h6, h7⟩ := append_run (P := c.P) (ty := ty) (elemOf_eq he) hi hzz hzzs h0 hby ho hrow hfl hlen
            refine wp_value (v := v') (w' := w') ?_ ⟨_, _, _, hs, h.append hd hm hnp hi hzz hzzs h0 hby (by simpa using hlen) ho.1 hsz hf hx' h1 hfl hfit.flat h6 h7 (by simpa using h3) (by rw [hvb]; exact h4) (by rw [hvb]; exact h5)⟩
            simp only [execOp, resolve, invoke, builtin, Sem.run_bind, Sem.run_pure, Result.andThen_ok, List.map_toArray, List.map_cons, List.map_nil, hxv, hvb, hrun]
    · rename_i b hh hev
      obtain ⟨⟨_, hnp⟩, hs⟩ := hs
      · obtain ⟨es2, hs, hrow⟩ := row1_sound h.blk (h.ev y) hs
        · obtain ⟨e, es, hm, he, ⟨hlen, hfit⟩, hs⟩ := onRowB_e hs
          have hxv : ∃ A n cc, a.eval x = .slice A hh cc ∧ ρ b = .slice A n cc ∧ hh ≤ es.length := by
            have := h.ev x
            rw [hev] at this
            generalize a.eval x = vx at this
            cases this with
            | im hi => cases hi
            | osl0 h1 h2 h3 => rw [hm] at h1; cases h1; exact ⟨_, _, _, rfl, h3, h2⟩
            | osl h1 h2 => omega
          obtain ⟨A, n, cc, hxv, hρ, hhl⟩ := hxv
          have hok := h.blk b _ hm
          generalize hvb : ρ b = vb at hok
          rw [hρ] at hvb
          subst hvb
          cases hok with
          | row hi hzz hzzs h0 hby hlen' ho hsz hf hx' h1 =>
            rename_i xs i z'
            have hfl : ∀ x ∈ es2, x.length = i.size := by
              intro x hx
              obtain ⟨i', zv, hi', _, _, _, _, _, e2⟩ := rowSize_eq (hfit x hx).1
              rw [hi] at hi'; cases hi'; exact e2.symm
            obtain ⟨A', n', rfl⟩ : ∃ q q', n = es.length := by
              rcases ho.2 with ⟨e1, e2⟩ | ⟨g, cap, cur, e1, _⟩
              · cases e1; exact ⟨0, 0, e2.symm⟩
              · cases e1; exact ⟨0, 0, rfl⟩
            have ho' := ownsRow_take ho hhl
            have htl : (es.take hh).length = hh := by simp; omega
            obtain ⟨v', w', news, hrun, h3, h4, h5, h6, h7⟩ := append_run (P := c.P) (ty := ty) (elemOf_eq he) hi hzz hzzs h0 hby ho' hrow hfl (by omega)
            have e1 : own1 (.slice A hh cc) = own1 (ρ b) := by rw [hρ]; cases A <;> rfl
            have hmt : ∀ x ∈ es.take hh, x ∈ es := fun x hx => List.mem_of_mem_take hx
            refine wp_value (v := v') (w' := w') ?_ ⟨_, _, _, hs, h.append (es := es.take hh) (xs := xs.take (hh * i.size)) hd hm hnp hi hzz hzzs h0 hby (by simp; omega) (by rw [htl]; exact ho'.1) (fun x hx => hsz x (hmt x hx)) (fun hfl x hx => hf hfl x (hmt x hx)) (fun q j x p hq hj => ?_) (fun u hu => h1 u (List.mem_of_mem_take hu)) hfl hfit.flat h6 h7 (by rw [List.length_append, htl]; exact h3) (by rw [← e1]; exact h4) (by rw [← e1]; exact h5)⟩
            · simp only [execOp, resolve, invoke, builtin, Sem.run_bind, Sem.run_pure, Result.andThen_ok, List.map_toArray, List.map_cons, List.map_nil, hxv, hrun]
            · have hql := lt_of_get hq
              rw [htl] at hql
              rw [List.getElem?_take, if_pos hql] at hq
              obtain ⟨u, hu, him⟩ := hx' q j x p hq hj
              refine ⟨u, ?_, him⟩
              have hjl := lt_of_get hj
              rw [hsz x (List.mem_of_getElem? hq)] at hjl
              have : q * i.size + j < hh * i.size := by
                have := Nat.mul_le_mul_right i.size (show q + 1 ≤ hh by omega)
                rw [Nat.add_mul, Nat.one_mul] at this; omega
              rw [List.getElem?_take, if_pos this]; exact hu
    · rename_i b l hh hev
      obtain ⟨⟨_, hnp⟩, hs⟩ := hs
      obtain ⟨es2, hs, hrow⟩ := row1_sound h.blk (h.ev y) hs
      obtain ⟨e, es, hm, ⟨he, rfl⟩, ⟨hlen, hfit⟩, hk1, hk2⟩ := onRowB_e hs
      have hxv : ∃ A n cc sz g, a.eval x = .slice A (es.length - (l + 1)) cc ∧ ρ b = .slice (some ⟨g, 0, none⟩) n (cc + (l + 1)) ∧ l + 1 ≤ es.length ∧ (cc = 0 ∨ A = some ⟨g, (l + 1) * sz, none⟩) ∧ (∀ x ∈ es, x.length = sz) ∧ cc ≤ maxLen := by
        have := h.ev x
        rw [hev] at this
        generalize a.eval x = vx at this
        cases this with
        | im hi => cases hi
        | osl h1 h2 h3 h4 h5 h6 h7 h8 =>
          rw [hm] at h1; cases h1
          obtain ⟨h9, h10, rfl⟩ := h8
          exact ⟨_, _, _, _, _, rfl, h10, h3, h9, h7, h6⟩
      obtain ⟨A, n, cc, sz, g, hxv, hρ, hll, hA, hsz', hcx⟩ := hxv
      have hok := h.blk b _ hm
      generalize hvb : ρ b = vb at hok
      rw [hρ] at hvb
      subst hvb
      cases hok with
      | row hi hzz hzzs h0 hby hlen' ho hsz hf hx' h1 =>
        rename_i xs i z'
        have hfl : ∀ x ∈ es2, x.length = i.size := by
          intro x hx
          obtain ⟨i', zv, hi', _, _, _, _, _, e2⟩ := rowSize_eq (hfit x hx).1
          rw [hi] at hi'; cases hi'; exact e2.symm
        obtain rfl : n = es.length := by
          rcases ho.2 with ⟨e1, e2⟩ | ⟨g, cap, cur, e1, _⟩
          · cases e1
          · cases e1; rfl
        obtain rfl : sz = i.size := by
          obtain ⟨x, hx⟩ : ∃ x, x ∈ es := ⟨es[0], List.getElem_mem _⟩
          rw [← hsz' x hx, hsz x hx]
        have e1 : own1 (.slice (some ⟨g, 0, none⟩) es.length (cc + (l + 1))) = own1 (ρ b) := by rw [hρ]
        have e2 : own1 (ρ b) = some g := by rw [hρ]; rfl
        obtain ⟨v', w', news, hrun, h4, h6, h7, hcase⟩ := append_part (P := c.P) (ty := ty) (elemOf_eq he) hi hzz hzzs h0 hby ho hll hA hrow hfl hlen
        have hrun' : (execOp a.eval ⟨d, .call { callee := .builtin .append, args := #[x, y], argTypes := #[t, t] }, ty, pos, af, gd⟩).run c.P w = .ok (.value v') w' := by
          simp only [execOp, resolve, invoke, builtin, Sem.run_bind, Sem.run_pure, Result.andThen_ok, List.map_toArray, List.map_cons, List.map_nil, hxv, hrun]
        rcases hcase with ⟨rfl, hcap, ho'⟩ | ⟨ho', hb'⟩
        · have hinv := h.append (d := none) (v' := .slice (some ⟨g, 0, none⟩) (es.length + es2.length) (cc + (l + 1))) (fun t ht => by cases ht) hm hnp hi hzz hzzs h0 hby (by simpa using hlen) ho.1 hsz hf hx' h1 hfl hfit.flat h6 h7 (by simpa using ho') (by rw [e2]; exact h4) (.inl (by rw [e2]; rfl))
          have hbl : b < (wipeM b m).length := by rw [wipeM_length]; exact lt_of_get hm
          have hrep : Rep c.M w' ((wipeM b m).set b (.row e (es ++ es2))) (upd ρ b (.slice (some ⟨g, 0, none⟩) (es.length + es2.length) (cc + (l + 1)))) (.osl b (l + 1) (es.length + es2.length)) (.slice A (es.length + es2.length - (l + 1)) cc) :=
            .osl (sz := i.size) (g := g) (n := es.length + es2.length) (c' := cc + (l + 1)) (by rw [List.getElem?_set_self hbl]) (by omega) (by omega) (by simp) (by omega) hcx (fun x hx => by
              rcases List.mem_append.1 hx with hx | hx
              · exact hsz x hx
              · exact hfl x hx) ⟨hA, by simp [upd], rfl⟩
          rw [show es.length + es2.length - (l + 1) = es.length - (l + 1) + es2.length by omega] at hrep
          exact wp_value hrun' (hinv.then hd hrep hk2)
        · refine wp_value hrun' ⟨_, _, _, hk1, h.append (es := es.drop (l + 1)) (xs := xs.drop ((l + 1) * i.size)) hd hm hnp hi hzz hzzs h0 hby (by simp; omega) (by rw [List.length_drop, List.length_drop, ho.1, ← Nat.sub_mul]) (fun x hx => hsz x (List.mem_of_mem_drop hx)) (fun hfl x hx => hf hfl x (List.mem_of_mem_drop hx)) (fun q j x p hq hj => ?_) (fun u hu => h1 u (List.mem_of_mem_drop hu)) hfl hfit.flat h6 h7 (by rw [List.length_append, List.length_drop]; exact ho') (by rw [e2]; exact h4) (by rw [e2]; exact hb')⟩
          rw [List.getElem?_drop] at hq
          obtain ⟨u, hu, him⟩ := hx' _ j x p hq hj
          refine ⟨u, ?_, him⟩
          rw [List.getElem?_drop, ← Nat.add_assoc, ← Nat.add_mul]
          exact hu
    · rename_i hev
      have hxv := (hev ▸ h.ev x : Rep c.M w m ρ (.val (.slice none 0 0)) (a.eval x)).val_eq
      obtain ⟨e, he, hs⟩ := onS_e hs
      · obtain ⟨z, hz, hs⟩ := onS_e hs
        · obtain ⟨es2, ⟨⟨hlen, hfit⟩, hs⟩, hrow⟩ := row1_sound h.blk (h.ev y) hs
          obtain ⟨i, zv, hi, hzv, hzs, h0, hz4, hby, rfl⟩ := rowSize_eq hz
          have hfl := hfit.len hz
          have hown : w.ownsRow 0 e i.size (.slice none 0 0) 0 [] := ⟨by simp, .inl ⟨rfl, rfl⟩⟩
          obtain ⟨v', w', news, hrun, h3, h4, h5, h6, h7⟩ := append_run (P := c.P) (ty := ty) (elemOf_eq he) hi hzv hzs h0 hby hown hrow hfl (by omega)
          simp only [Nat.zero_add, List.nil_append] at h3
          have hu : ∀ k, own1 v' = some k → w.heap.size ≤ k := by
            intro k hk
            rcases h5 with e1 | e1
            · rw [e1] at hk; cases hk
            · rw [e1] at hk; cases hk; exact Nat.le_refl _
          have hmv : Mv (Own m ρ) w w' := ⟨h4.size, fun k hk _ => h4.block k hk (by simp [own1])⟩
          refine wp_value (v := v') (w' := w') (by simp only [execOp, resolve, invoke, builtin, Sem.run_bind, Sem.run_pure, Result.andThen_ok, List.map_toArray, List.map_cons, List.map_nil, hxv, hrun]) ⟨_, _, _, hs, h.lay hd h4.size (fun k hk => h4.block k hk (by simp [own1])) h4.os h4.tape h4.output hu (.row (xs := news) hi hzv hzs h0 hby hlen h3 hfl hfit.flat (fun q j x p hq hj => ?_) h7) .laid⟩
          obtain ⟨u, hu1, him⟩ := h6 q j x p hq hj
          exact ⟨u, hu1, him.move hmv.mine (fun k hk hm => mine_lay hu hk hm)⟩
    · cases hs
    · unfold onApp at hs
      split at hs
      · exact hs.elim
      · exact hs.elim
      · exact hs.elim
      · rename_i hev
        have hxv := (hev ▸ h.ev x : Rep c.M w m ρ (.val (.slice none 0 0)) (a.eval x)).val_eq
        obtain ⟨e, he, hs⟩ := onS_e hs
        obtain ⟨z, hz, hs⟩ := onS_e hs
        obtain ⟨kn, hkn, hs⟩ := onS_e hs
        obtain ⟨zs, hzo, hs⟩ := onS_e hs
        obtain ⟨kd, n, hyn, ⟨hn0, hn9⟩, hflat, hs⟩ := onInt_e hs
        have hyv := (hyn ▸ h.ev y : Rep c.M w m ρ (.val (.int kd n)) (a.eval y)).val_eq
        obtain ⟨i, zv, hi, hzv, hzs, h0, hz4, hby, rfl⟩ := rowSize_eq hz
        obtain ⟨i', z', hi', hzv', rfl, hone⟩ := zeroOf_eq hzo
        rw [hi] at hi'; cases hi'
        rw [hzv] at hzv'; cases hzv'
        obtain ⟨k', rfl⟩ : ∃ k' : Nat, n = k' := ⟨n.toNat, by omega⟩
        have htn : c.P.underlying t' = some (.int kn) := by
          unfold intT at hkn
          split at hkn
          · cases hkn; assumption
          · cases hkn
        have hbytes : k' * i.bytes ≤ 281474976710656 := by
          have : k' * i.bytes ≤ 1000000000 * 100000 := Nat.mul_le_mul (by omega) hby
          omega
        have hrun := Lib.run_append_nil_zeros (P := c.P) w t t' ty e i zv kd kn (elemOf_eq he) htn hi hzv k' (by omega) h0 (by omega) hbytes
        have hown : ∀ k, own1 (.slice (some ⟨w.heap.size, 0, none⟩) k' (grownCap w k' 0 e)) = some k → w.heap.size ≤ k := by intro k hk; simp [own1] at hk; omega
        have hge := grownCap_ge w k' 0 e
        have hsize : (madeCells zv.cells (k' * i.size)).size = k' * i.size := by simp [madeCells]
        have hcells : Builtin.zeroCells zv.cells k' = madeCells zv.cells (k' * i.size) := by rw [← hzs]; rfl
        refine wp_value (v := .slice (some ⟨w.heap.size, 0, none⟩) k' (grownCap w k' 0 e)) (w' := w.drew.alloc (.cells (Builtin.zeroCells zv.cells k' ++ Builtin.zeroCells zv.cells (grownCap w k' 0 e - k')) e)) (by simp only [execOp, resolve, invoke, builtin, Sem.run_bind, Sem.run_pure, Result.andThen_ok, List.map_toArray, List.map_cons, List.map_nil, hxv, hyv, hrun]) ⟨_, _, _, hs, h.lay hd (by simp) (fun k hk => heap_alloc_old w.drew _ k hk) rfl rfl rfl hown (.row (xs := (madeCells zv.cells (k' * i.size)).toList) hi hzv hzs h0 hby (by simp; omega) ⟨by simp [hsize], .inr ⟨w.heap.size, grownCap w k' 0 e, _, by simp, Nat.zero_le _, heap_alloc_new w.drew _, by simpa using hge, grownCap_le_maxLen w k' 0 e (by simp only [maxLen]; omega), ?_, ?_⟩⟩ (fun x hx => ?_) (fun hf x hx p hp => ?_) (fun q j x p hq hj => ?_) (fun v hv => ?_)) .laid⟩
        · simp only [Array.size_append, size_zeroCells, hzs, ← Nat.add_mul]
          congr 1
          omega
        · rw [hcells, Array.toList_append, Int.toNat_natCast, List.length_replicate]
          exact List.take_left' (by simp [hsize])
        · rw [List.eq_of_mem_replicate hx]; simp [hzs]
        · rw [List.eq_of_mem_replicate hx] at hp
          obtain ⟨y, hy, rfl⟩ := List.mem_map.1 hp
          have := List.all_eq_true.1 hflat y hy
          rw [hf] at this; simpa using this
        · have hql := lt_of_get hq
          rw [List.length_replicate, Int.toNat_natCast] at hql
          have hx := List.eq_of_mem_replicate (List.mem_of_getElem? hq)
          subst hx
          rw [List.getElem?_map] at hj
          obtain ⟨y, hy, rfl⟩ := Option.map_eq_some_iff.1 hj
          have hjl := lt_of_get hy
          rw [Array.length_toList, hzs] at hjl
          refine ⟨y, ?_, .val (okC_ok (hone y (Array.mem_toList_iff.1 (List.mem_of_getElem? hy))))⟩
          rw [made_get hzs h0 (by omega) hjl, ← hy, Array.getElem?_toList]
        · simp only [madeCells] at hv
          rw [Array.toList_map, Array.toList_range] at hv
          obtain ⟨q, _, rfl⟩ := List.mem_map.1 hv
          have hlt : q % zv.cells.size < zv.cells.size := Nat.mod_lt _ (by omega)
          rw [getElem!_pos zv.cells _ hlt]
          exact okC_one (hone _ (Array.getElem_mem hlt))
      · exact hs.elim
end
end Go.V
set_option linter.unusedVariables false
set_option linter.unusedSimpArgs false
namespace Go.V
open Go
theorem splice_get {α : Type} (l : List α) (o : Nat) (ns : List α) (ho : o + ns.length ≤ l.length) (j : Nat) : (splice l o ns)[j]? = if j < o then l[j]? else if j < o + ns.length then ns[j - o]? else l[j]? := by
  unfold splice
  by_cases h1 : j < o
  · rw [if_pos h1, List.getElem?_append_left (by simp; omega), List.getElem?_take, if_pos h1]
  · rw [if_neg h1, List.getElem?_append_right (by simp; omega), List.length_take, Nat.min_eq_left (by omega)]
    by_cases h2 : j < o + ns.length
    · rw [if_pos h2, List.getElem?_append_left (by omega)]
    · rw [if_neg h2, List.getElem?_append_right (by omega), List.getElem?_drop]
      congr 1; omega
theorem splice_length {α : Type} (l : List α) (o : Nat) (ns : List α) (ho : o + ns.length ≤ l.length) : (splice l o ns).length = l.length := by
  unfold splice
  simp; omega
theorem flats_of {ns : List PV} (h : ns.all flatP = true) : ∀ p ∈ ns, flatP p = true := fun p hp => List.all_eq_true.1 h p hp
section
variable {c : Cx} {P : Program} {M M' : Nat → Prop} {w0 w w' : World} {S : Nat → Prop} {N : Nat} {tm : Tm} {m m' : Mem} {ρ ρ' : Nat → Value} {a : Act}
theorem set_get {b : Nat} {x : Blk} (hb : b < m.length) (c : Nat) : (m.set b x)[c]? = if c = b then some x else m[c]? := by
  by_cases h : c = b
  · subst h; rw [if_pos rfl, List.getElem?_set_self hb]
  · rw [if_neg h, List.getElem?_set_ne (Ne.symm h)]
/-- What is one's own is written. -/
theorem Inv.write (h : Inv c tm m ρ a w) {b : Nat} {x0 x : Blk} (hm : m[b]? = some x0)
    (hk : (∃ e es e' es', x0 = .row e es ∧ x = .row e' es' ∧ es'.length = es.length ∧ ∀ sz, (∀ y ∈ es, y.length = sz) → ∀ y ∈ es', y.length = sz) ∨ ∃ cs cs', x0 = .var cs ∧ x = .var cs')
    (hs : w.heap.size ≤ w'.heap.size) (hw : ∀ k, k < w.heap.size → own1 (ρ b) ≠ some k → w'.heap[k]? = w.heap[k]?) (ho : w'.os = w.os) (ht : w'.tape = w.tape) (hp : w'.output = w.output)
    (hx : (∀ p v, Rep c.M w m ρ p v → Rep c.M w' (m.set b x) ρ p v) → (∀ p v, Im w (Mine c.M m ρ) p v → Im w' (Mine c.M (m.set b x) ρ) p v) → BlkOk c.P c.M w' (m.set b x) ρ (ρ b) x) : Inv c tm (m.set b x) ρ a w' := by
  have hbl := lt_of_get hm
  have hd0 : x0 ≠ .dead := by rcases hk with ⟨_, _, _, _, rfl, _⟩ | ⟨_, _, rfl, _⟩ <;> simp
  have hlb : Live m b := ⟨x0, hm, hd0⟩
  have hlive : ∀ c, Live (m.set b x) c → Live m c := by
    rintro c ⟨y, hy, hd⟩
    rw [set_get hbl] at hy
    split at hy
    · rename_i e; subst e; exact hlb
    · exact ⟨y, hy, hd⟩
  have hO : ∀ k, k < w.heap.size → Own (m.set b x) ρ k → Own m ρ k := fun k _ ⟨c, hc, hk⟩ => ⟨c, hlive c hc, hk⟩
  have hN : ∀ k, k < w.heap.size → Mine c.M (m.set b x) ρ k → Mine c.M m ρ k := fun k hk h => h.imp id (hO k hk)
  have hmv : Mv (Own m ρ) w w' := ⟨hs, fun k hk hn => hw k hk fun e => hn ⟨b, hlb, e⟩⟩
  have hr : ∀ c e es, m[c]? = some (.row e es) → ρ c = ρ c ∧ ∃ e' es', (m.set b x)[c]? = some (.row e' es') ∧ es'.length = es.length ∧ ∀ sz, (∀ y ∈ es, y.length = sz) → ∀ y ∈ es', y.length = sz := by
    intro c e es hc
    refine ⟨rfl, ?_⟩
    rw [set_get hbl]
    by_cases hcb : c = b
    · subst hcb
      rw [hm] at hc
      rcases hk with ⟨_, _, e', es', rfl, rfl, h1, h2⟩ | ⟨_, _, rfl, _⟩
      · cases hc; exact ⟨e', es', by rw [if_pos rfl], h1, h2⟩
      · cases hc
    · rw [if_neg hcb]; exact ⟨e, es, hc, rfl, fun _ h => h⟩
  have hv : ∀ c cs, m[c]? = some (.var cs) → ρ c = ρ c ∧ ∃ cs', (m.set b x)[c]? = some (.var cs') := by
    intro c cs hc
    refine ⟨rfl, ?_⟩
    rw [set_get hbl]
    by_cases hcb : c = b
    · subst hcb
      rw [hm] at hc
      rcases hk with ⟨_, _, _, _, rfl, _⟩ | ⟨_, cs', rfl, rfl⟩
      · cases hc
      · exact ⟨cs', by rw [if_pos rfl]⟩
    · rw [if_neg hcb]; exact ⟨cs, hc⟩
  refine ⟨h.sz, h.df, fun t => (h.tm t).move hmv hO hN hr hv, fun c y hy => ?_, fun c c2 k hc hc2 => h.sep c c2 k (hlive c hc) (hlive c2 hc2), fun c k hc => h.new c k (hlive c hc), h.fr.step ho ht hp hs (fun k hk hS => hw k (by have := h.fr.size; omega) fun e => ?_), h.old, h.dis, ?_⟩
  · rw [set_get hbl] at hy
    split at hy
    · rename_i e; subst e; cases hy
      exact hx (fun p v hp => hp.move hmv hO hN hr hv) (fun p v hi => hi.move hmv.mine hN)
    · rename_i hcb
      by_cases hd : y = .dead
      · subst hd; exact .dead
      · exact (h.blk c y hy).move (fun k hk hlt => hw k hlt fun e => hcb (h.sep c b k ⟨y, hy, hd⟩ hlb hk e)) hmv hO hN hr hv
  · rcases h.new b k hlb e with h3 | h3
    · omega
    · exact hS h3
  · refine ⟨by rw [List.length_set]; exact h.ft.len, fun y cs hy hm0 => ?_, fun y e es hy hm0 => ?_, fun y hy hm0 => ?_⟩
    · obtain ⟨h1, cs', h2⟩ := h.ft.var y cs hy hm0
      exact ⟨h1, (hv y cs' h2).2⟩
    · rcases h.ft.row y e es hy hm0 with h1 | ⟨h1, e', es', h2⟩
      · left
        rw [set_get hbl, if_neg (fun e => hd0 (by subst e; rw [hm] at h1; cases h1; rfl))]; exact h1
      · obtain ⟨_, e2, es2, h3, _⟩ := hr y e' es' h2
        exact .inr ⟨h1, e2, es2, h3⟩
    · have h1 := h.ft.dead y hy hm0
      rw [set_get hbl, if_neg (fun e => hd0 (by subst e; rw [hm] at h1; cases h1; rfl))]; exact h1
theorem store_run {t : TypeId} {v : Value} {n : Nat} (hs : sizeT P t = some n) (hn : v.cells.size = n) {gb o : Nat} {cur : Array Value} {te : TypeId} (hg : w.heap[gb]? = some (.cells cur te (0, 0))) (ho : o + n ≤ cur.size) (h1 : ∀ u ∈ v.cells, u.oneCell' = true) :
    (Instr.storeAt t (.pointer (some ⟨gb, o, none⟩)) v).run P w = .ok () (w.setRow gb (splice cur.toList o v.cells.toList).toArray) := by
  unfold sizeT at hs
  obtain ⟨i, hi, rfl⟩ := Option.map_eq_some_iff.1 hs
  have := run_storeCells_at (P := P) gb o te v.cells.toList 0 cur w hg (by simpa [hn] using ho) (fun u hu => h1 u (Array.mem_toList_iff.1 hu))
  simp only [Instr.storeAt, Instr.sureAddr, storeVar, sizeOf, typeInfo, Sem.run_bind, Sem.run_pure, Result.andThen_ok, run_program, hi, hn, ne_eq, not_true_eq_false, if_false]
  rw [this]
  simp only [Nat.add_zero, splice, List.append_assoc]
variable {np : Nat} {lent : FuncId → Bool} {kp : Value → Tm → Mem → Prop} {d : Option Tmp} {ty : TypeId} {pos : String} {af : Array Edge} {g : Option (Nat × Bool)} {k : Tm → Mem → Prop} {Q : Exit → Act → World → Prop}
theorem toList_get {vs : Array Value} {j : Nat} : vs.toList[j]? = vs[j]? := by simp
theorem s_store_adr (h : Inv c tm m ρ a w) {t : TypeId} {v : Value} {b o gb : Nat} {cs ns : List PV} (hm : m[b]? = some (.var cs)) (hg : ρ b = .pointer (some ⟨gb, 0, none⟩)) (hc : CellsOf c.M w m ρ v ns) (hs : sizeT c.P t = some ns.length) (ho : o + ns.length ≤ cs.length) :
    ∃ w', (Instr.storeAt t (.pointer (some ⟨gb, o, none⟩)) v).run c.P w = .ok () w' ∧ Inv c tm (m.set b (.var (splice cs o ns))) ρ a w' := by
  have hok := h.blk b _ hm
  rw [hg] at hok
  cases hok with
  | var hh hl hj h1 =>
    rename_i te vs
    have hn := hc.1
    have hrun := store_run (P := c.P) (w := w) (v := v) hs hn.symm hh (o := o) (by omega) hc.2.2
    refine ⟨_, hrun, h.write hm (.inr ⟨_, _, rfl, rfl⟩) (by simp) (fun k hk hne => setRow_other w gb k _ fun e => hne (by rw [hg, e]; rfl)) rfl rfl rfl (fun hrep him => ?_)⟩
    rw [hg]
    have hsp : o + v.cells.toList.length ≤ vs.toList.length := by rw [Array.length_toList, Array.length_toList, ← hn, ← hl]; exact ho
    refine .var (setRow_heap w gb vs _ te (0, 0) hh) (by rw [splice_length cs o ns ho, hl]; simpa using (splice_length _ _ _ hsp).symm) (fun j p u hp hu => ?_) (fun u hu => ?_)
    · rw [splice_get cs o ns ho] at hp
      rw [List.getElem?_toArray, splice_get _ _ _ hsp, Array.length_toList, ← hn] at hu
      refine hrep p u ?_
      by_cases h1 : j < o
      · rw [if_pos h1] at hp hu; exact hj j p u hp (by rw [← toList_get]; exact hu)
      · rw [if_neg h1] at hp hu
        by_cases h2 : j < o + ns.length
        · rw [if_pos h2] at hp hu; exact hc.2.1 _ p u hp (by rw [← toList_get]; exact hu)
        · rw [if_neg h2] at hp hu; exact hj j p u hp (by rw [← toList_get]; exact hu)
    · have hu' : u ∈ splice vs.toList o v.cells.toList := by simpa using hu
      unfold splice at hu'
      rcases List.mem_append.1 hu' with h3 | h3
      · exact h1 u (Array.mem_toList_iff.1 (List.mem_of_mem_take h3))
      · rcases List.mem_append.1 h3 with h3 | h3
        · exact hc.2.2 u (Array.mem_toList_iff.1 h3)
        · exact h1 u (Array.mem_toList_iff.1 (List.mem_of_mem_drop h3))
theorem s_store_ead (h : Inv c tm m ρ a w) {t : TypeId} {v : Value} {b i j gb n cc sz : Nat} {e : TypeId} {es : List (List PV)} {x ns : List PV} (hm : m[b]? = some (.row e es)) (hi : es[i]? = some x) (hsz' : ∀ y ∈ es, y.length = sz) (hg : ρ b = .slice (some ⟨gb, 0, none⟩) n cc) (hc : CellsOf c.M w m ρ v ns) (hpu : pures ns = true) (hfl : flatT c.P e = true → ∀ p ∈ ns, flatP p = true) (hs : sizeT c.P t = some ns.length) (ho : j + ns.length ≤ x.length) :
    ∃ w', (Instr.storeAt t (.pointer (some ⟨gb, i * sz + j, none⟩)) v).run c.P w = .ok () w' ∧ Inv c tm (m.set b (.row e (es.set i (splice x j ns)))) ρ a w' := by
  have hok := h.blk b _ hm
  have hil := lt_of_get hi
  have hxl : x.length = sz := hsz' x (List.mem_of_getElem? hi)
  generalize hv : ρ b = vb at hok
  cases hok with
  | row hinf hz hzs h0 hby hlen hown hsz hf hx h1 =>
    rename_i xs inf z
    have e1 : inf.size = sz := by rw [← hsz x (List.mem_of_getElem? hi), hxl]
    subst e1
    have hown' := hown
    rcases hown.2 with ⟨e2, _⟩ | ⟨g', cap, cur, e2, hb0, hh, hnc, hcm, hcs, htake⟩
    · rw [← hv, hg] at e2; cases e2
    · rw [← hv, hg] at e2
      cases e2
      have hn := hc.1
      have hmul : i * inf.size + inf.size ≤ es.length * inf.size := by
        have := Nat.mul_le_mul_right inf.size (show i + 1 ≤ es.length by omega)
        rw [Nat.add_mul, Nat.one_mul] at this; exact this
      have hmul2 : es.length * inf.size ≤ cc * inf.size := Nat.mul_le_mul_right _ hnc
      have hrun := store_run (P := c.P) (w := w) (v := v) hs hn.symm hh (o := i * inf.size + j) (by omega) hc.2.2
      have hsl : (splice x j ns).length = x.length := splice_length x j ns ho
      have hset : ∀ q, (es.set i (splice x j ns))[q]? = if q = i then some (splice x j ns) else es[q]? := by
        intro q
        by_cases hq : q = i
        · subst hq; rw [if_pos rfl, List.getElem?_set_self hil]
        · rw [if_neg hq, List.getElem?_set_ne (Ne.symm hq)]
      have hlens : ∀ s, (∀ y ∈ es, y.length = s) → ∀ y ∈ es.set i (splice x j ns), y.length = s := by
        intro s hsy y hy
        obtain ⟨q, hq⟩ := List.getElem?_of_mem hy
        rw [hset] at hq
        split at hq
        · cases hq; rw [hsl]; exact hsy x (List.mem_of_getElem? hi)
        · exact hsy y (List.mem_of_getElem? hq)
      have hxs : xs.length = es.length * inf.size := hown'.1
      have hspx : i * inf.size + j + v.cells.toList.length ≤ xs.length := by rw [Array.length_toList, ← hn]; omega
      have hspc : i * inf.size + j + v.cells.toList.length ≤ cur.toList.length := by rw [Array.length_toList, Array.length_toList, ← hn]; omega
      refine ⟨_, hrun, h.write hm (.inl ⟨_, _, _, _, rfl, rfl, by simp, hlens⟩) (by simp) (fun k hk hne => setRow_other w gb k _ fun e => hne (by rw [hg, e]; rfl)) rfl rfl rfl (fun hrep him => ?_)⟩
      rw [hg]
      refine .row (xs := splice xs (i * inf.size + j) v.cells.toList) hinf hz hzs h0 hby (by simpa using hlen) ⟨by rw [splice_length _ _ _ hspx, hxs, List.length_set], .inr ⟨gb, cc, _, by rw [List.length_set], hb0, setRow_heap w gb cur _ e (0, 0) hh, by rw [List.length_set]; exact hnc, hcm, by rw [List.size_toArray, splice_length _ _ _ hspc, Array.length_toList]; exact hcs, ?_⟩⟩ (hlens _ hsz) (fun hft => ?_) (fun q jj y p hq hj => ?_) (fun u hu => ?_)
      · rw [List.length_set]
        apply List.ext_getElem?
        intro q
        rw [List.getElem?_take, splice_get _ _ _ hspc, splice_get _ _ _ hspx, ← htake, List.getElem?_take]
        have : v.cells.toList.length = ns.length := by rw [Array.length_toList, hn]
        rw [this]
        by_cases hq : q < es.length * inf.size
        · rw [if_pos hq, if_pos hq]
        · rw [if_neg hq, if_neg hq, if_neg (by omega), if_neg (by omega)]
      · intro y hy
        obtain ⟨q, hq⟩ := List.getElem?_of_mem hy
        rw [hset] at hq
        split at hq
        · cases hq
          intro p hp
          unfold splice at hp
          rcases List.mem_append.1 hp with h3 | h3
          · exact hf hft x (List.mem_of_getElem? hi) p (List.mem_of_mem_take h3)
          · rcases List.mem_append.1 h3 with h3 | h3
            · exact hfl hft p h3
            · exact hf hft x (List.mem_of_getElem? hi) p (List.mem_of_mem_drop h3)
        · exact hf hft y (List.mem_of_getElem? hq)
      · rw [hset] at hq
        rw [splice_get _ _ _ hspx, Array.length_toList, ← hn]
        have hjl := lt_of_get hj
        split at hq
        · rename_i e2; subst e2; cases hq
          rw [hsl, hxl] at hjl
          rw [splice_get x j ns ho] at hj
          by_cases h3 : jj < j
          · rw [if_pos h3] at hj
            rw [if_pos (by omega)]
            obtain ⟨u, hu, hp⟩ := hx q jj x p hi hj
            exact ⟨u, hu, him _ _ hp⟩
          · rw [if_neg h3] at hj
            rw [if_neg (by omega)]
            by_cases h4 : jj < j + ns.length
            · rw [if_pos h4] at hj
              rw [if_pos (by omega)]
              obtain ⟨u, hu, hr, _⟩ := hc.get hj
              exact ⟨u, by rw [toList_get, ← hu]; congr 1; omega, him _ _ (hr.pure (pures_get hpu hj))⟩
            · rw [if_neg h4] at hj
              rw [if_neg (by omega)]
              obtain ⟨u, hu, hp⟩ := hx q jj x p hi hj
              exact ⟨u, hu, him _ _ hp⟩
        · rename_i hqi
          rw [hsz y (List.mem_of_getElem? hq)] at hjl
          obtain ⟨u, hu, hp⟩ := hx q jj y p hq hj
          refine ⟨u, ?_, him _ _ hp⟩
          rw [← hu]
          rcases Nat.lt_or_gt_of_ne hqi with hlt | hgt
          · have := Nat.mul_le_mul_right inf.size (show q + 1 ≤ i by omega)
            rw [Nat.add_mul, Nat.one_mul] at this
            rw [if_pos (by omega)]
          · have := Nat.mul_le_mul_right inf.size (show i + 1 ≤ q by omega)
            rw [Nat.add_mul, Nat.one_mul] at this
            rw [if_neg (by omega), if_neg (by omega)]
      · unfold splice at hu
        rcases List.mem_append.1 hu with h3 | h3
        · exact h1 u (List.mem_of_mem_take h3)
        · rcases List.mem_append.1 h3 with h3 | h3
          · exact hc.2.2 u (Array.mem_toList_iff.1 h3)
          · exact h1 u (List.mem_of_mem_drop h3)
theorem s_storeP (h : Inv c tm m ρ a w) (hd : ∀ t, d = some t → t < c.N) {t : TypeId} {x y : Operand} (hs : storeP c.P d k t x y tm m) : Oper.wp c.P ⟨d, .store t x y, ty, pos, af, g⟩ a w (Then c k) Q := by
  unfold storeP at hs
  unfold onPtr at hs
  have hx := h.ev x
  generalize hq : a.eval x = vx at hx
  split at hs
  · rename_i b o he
    rw [he] at hx
    obtain ⟨ns, hs, hc⟩ := cells_sound h.blk (h.ev y) hs
    obtain ⟨cs, hm, hcond, hs⟩ := onVarB_e hs
    cases hx with
    | im hi => cases hi
    | adr hm' hg =>
      obtain ⟨w', hrun, hinv⟩ := s_store_adr h hm hg hc hcond.1 hcond.2
      refine wp_skip (w' := w') ?_ (hinv.then hd (.im (.val okB_undef)) hs)
      simp only [execOp, Sem.run_bind, hq, hrun, Result.andThen_ok, Sem.run_pure]
  · rename_i b i j he
    rw [he] at hx
    obtain ⟨ns, hs, hc⟩ := cells_sound h.blk (h.ev y) hs
    obtain ⟨e, es, hm, hs⟩ := onRowB_e hs
    obtain ⟨cc, hi, ⟨h1, h2, h3, h4⟩, hs⟩ := onS_e hs
    cases hx with
    | im hi => cases hi
    | ead hm' hi' hsz hg =>
      rw [hm] at hm'
      cases hm'
      have hfl : flatT c.P e = true → ∀ p ∈ ns, flatP p = true := fun hft => by
        rw [hft] at h4; exact flats_of (by simpa using h4)
      obtain ⟨w', hrun, hinv⟩ := s_store_ead h hm hi hsz hg hc h3 hfl h1 h2
      refine wp_skip (w' := w') ?_ (hinv.then hd (.im (.val okB_undef)) hs)
      simp only [execOp, Sem.run_bind, hq, hrun, Result.andThen_ok, Sem.run_pure]
  · cases hs
  · cases hs
theorem s_store (h : Inv c tm m ρ a w) (hd : ∀ t, d = some t → t < c.N) {t : TypeId} {x y : Operand} (hs : step c.P np lent kp tm m d ty k (.store t x y)) : Oper.wp c.P ⟨d, .store t x y, ty, pos, af, g⟩ a w (Then c k) Q := by
  simp only [step] at hs
  unfold ifB at hs
  split at hs
  · exact s_storeP (h.frz _) hd hs
  · exact s_storeP h hd hs
theorem fold_splice {off : Nat} {ns cv : Array Value} (h : off + ns.size ≤ cv.size) : ns.zipIdx.foldl (fun cs (x : Value × Nat) => cs.setIfInBounds (off + x.2) x.1) cv = (splice cv.toList off ns.toList).toArray := by
  obtain ⟨h1, h2⟩ := Great.foldl_set off ns.toList 0 cv
  have e : ns.zipIdx.foldl (fun cs (x : Value × Nat) => cs.setIfInBounds (off + x.2) x.1) cv = (ns.toList.zipIdx 0).foldl (fun cs (x : Value × Nat) => cs.setIfInBounds (off + x.2) x.1) cv := by
    rw [← Array.foldl_toList, Array.toList_zipIdx]
  rw [e]
  apply Array.ext_getElem?
  intro j
  have e2 : (splice cv.toList off ns.toList).toArray[j]? = (splice cv.toList off ns.toList)[j]? := by simp
  rw [h2 j, e2, splice_get _ _ _ (by simpa using h)]
  simp only [Nat.add_zero, Array.length_toList]
  by_cases h3 : j < off
  · rw [if_neg (by omega), if_pos h3]; simp
  · by_cases h4 : j < off + ns.size
    · rw [if_pos (by omega), if_neg h3, if_pos h4]
    · rw [if_neg (by omega), if_neg h3, if_neg h4]; simp
theorem fill_sound (hb : ∀ b x, m[b]? = some x → BlkOk P M w m ρ (ρ b) x) (pl : List (Nat × Nat)) (ρe : Operand → Value) (te : Operand → PV) (he : ∀ x, Rep M w m ρ (te x) (ρe x)) : ∀ (l : List (Nat × Operand)) (cs : List PV) (cv : Array Value) (K : List PV → Prop), CellsOf M w m ρ (.agg cv) cs → fillB pl cs (l.map fun y => (y.1, te y.2)) K →
    ∃ cs' cv', K cs' ∧ Instr.fill (pl.toArray[·]?) cv (l.map fun y => (y.1, ρe y.2)) = some cv' ∧ CellsOf M w m ρ (.agg cv') cs'
  | [], cs, cv, K, hc, hs => ⟨cs, cv, hs, rfl, hc⟩
  | (i, x) :: l, cs, cv, K, hc, hs => by
    rw [List.map_cons, fillB] at hs
    obtain ⟨off, hoff, hs⟩ := onS_e hs
    · obtain ⟨ns, ⟨hcond, hs⟩, hn⟩ := cells_sound hb (he x) hs
      · have hcl : cs.length = cv.size := hc.1
        have hnl : ns.length = (ρe x).cells.size := hn.1
        have hle : off.1 + (ρe x).cells.size ≤ cv.size := by omega
        have hsp : off.1 + (ρe x).cells.toList.length ≤ cv.toList.length := by simpa using hle
        have hc' : CellsOf M w m ρ (.agg (splice cv.toList off.1 (ρe x).cells.toList).toArray) (splice cs off.1 ns) := by
          refine ⟨?_, fun j p u hp hu => ?_, fun u hu => ?_⟩
          · rw [splice_length cs off.1 ns hcond.2, hcl]
            simpa [Value.cells] using (splice_length _ _ _ hsp).symm
          · rw [splice_get cs off.1 ns hcond.2] at hp
            have e2 : (splice cv.toList off.1 (ρe x).cells.toList)[j]? = some u := by rw [← hu]; exact (List.getElem?_toArray).symm
            rw [splice_get _ _ _ hsp, Array.length_toList, ← hnl] at e2
            replace hu := e2
            by_cases h1 : j < off.1
            · rw [if_pos h1] at hp hu; exact hc.2.1 j p u hp (by rw [toList_get] at hu; exact hu)
            · rw [if_neg h1] at hp hu
              by_cases h2 : j < off.1 + ns.length
              · rw [if_pos h2] at hp hu; exact hn.2.1 _ p u hp (by rw [← toList_get]; exact hu)
              · rw [if_neg h2] at hp hu; exact hc.2.1 j p u hp (by rw [toList_get] at hu; exact hu)
          · have hu' : u ∈ splice cv.toList off.1 (ρe x).cells.toList := by simpa [Value.cells] using hu
            unfold splice at hu'
            rcases List.mem_append.1 hu' with h3 | h3
            · exact hc.2.2 u (Array.mem_toList_iff.1 (List.mem_of_mem_take h3))
            · rcases List.mem_append.1 h3 with h3 | h3
              · exact hn.2.2 u (Array.mem_toList_iff.1 h3)
              · exact hc.2.2 u (Array.mem_toList_iff.1 (List.mem_of_mem_drop h3))
        obtain ⟨cs', cv', h1, h2, h3⟩ := fill_sound hb pl ρe te he l _ _ K hc' hs
        refine ⟨cs', cv', h1, ?_, h3⟩
        rw [List.map_cons, Instr.fill]
        have hp : pl.toArray[i]? = some (off.1, off.2) := by rw [List.getElem?_toArray]; exact hoff
        simp only [hp]
        rw [if_neg (by simp; omega)]
        rw [← h2, ← fold_splice hle]
theorem layout_eq {t : TypeId} {pl : List (Nat × Nat)} {zs : List Value} (h : layout P t = some (pl, zs)) (parts : List (Nat × Value)) : P.built t parts = Instr.fill (pl.toArray[·]?) zs.toArray parts ∧ ∀ z ∈ zs, okC z = true := by
  unfold layout at h
  split at h
  · rename_i fs z hu hz
    split at h
    · rename_i pl' hpl
      split at h
      · rename_i hone
        cases h
        refine ⟨?_, fun z hz' => List.all_eq_true.1 hone z hz'⟩
        cases hi : P.info? t with
        | none => rw [hi] at hz; cases hz
        | some i =>
          rw [hi] at hz
          simp only [Option.bind_some] at hz
          simp only [Program.built, hi, hu, hz, hpl, Array.toArray_toList]
      · cases h
    · cases h
  · cases h
theorem s_build (h : Inv c tm m ρ a w) (hd : ∀ t, d = some t → t < c.N) {t : TypeId} {parts : Array (Nat × Operand)} (hs : step c.P np lent kp tm m d ty k (.build t parts)) : Quiet c.P ⟨d, .build t parts, ty, pos, af, g⟩ a w (Then c k) := by
  simp only [step] at hs
  obtain ⟨x, hx, hs⟩ := onS_e hs
  · obtain ⟨pl, zs⟩ := x
    obtain ⟨hbuilt, hone⟩ := layout_eq hx (parts.map fun x => (x.1, a.eval x.2)).toList
    have hz : CellsOf c.M w m ρ (.agg zs.toArray) (zs.map .val) := by
      refine ⟨by simp [Value.cells], fun j p u hp hu => ?_, fun u hu => okC_one (hone u (by simpa [Value.cells] using hu))⟩
      rw [List.getElem?_map] at hp
      simp only [Value.cells, List.getElem?_toArray] at hu
      rw [hu] at hp
      cases hp
      exact .im (.val (okC_ok (hone u (List.mem_of_getElem? hu))))
    obtain ⟨cs', cv', hk, hfill, hc⟩ := fill_sound h.blk pl a.eval (ev tm) h.ev parts.toList _ zs.toArray _ hz hs
    have hrun := run_build (P := c.P) w t (parts.map fun x => (x.1, a.eval x.2)) cv' (by rw [hbuilt, Array.toList_map]; exact hfill)
    refine q_value (v := .agg cv') ?_ (h.then hd (.agg hc.1 hc.2.1 hc.2.2) hk)
    simp only [execOp, Sem.run_bind]
    rw [hrun]; rfl
theorem bound_sound (h : Inv c tm m ρ a w) {z : Int} {o : Option Operand} {n : Int} (hb : bound z (o.map (ev tm)) = some n) : (o = none ∧ n = z) ∨ ∃ x kd, o = some x ∧ a.eval x = .int kd n := by
  cases o with
  | none => simp [bound] at hb; exact .inl ⟨rfl, hb.symm⟩
  | some x =>
    simp only [Option.map_some] at hb
    unfold bound at hb
    split at hb
    · rename_i heq; cases heq
    · rename_i kd n' heq
      cases hb
      have he : ev tm x = .val (.int kd n) := Option.some.inj heq
      exact .inr ⟨x, kd, rfl, (he ▸ h.ev x : Rep c.M w m ρ (.val (.int kd n)) (a.eval x)).val_eq⟩
    · cases hb
theorem bounds_run (h : Inv c tm m ρ a w) {lo hi : Option Operand} {l u : Int} {n cc : Nat} (hl : bound 0 (lo.map (ev tm)) = some l) (hu : bound n (hi.map (ev tm)) = some u) (h0 : 0 ≤ l) (h1 : l ≤ u) (h2 : u ≤ n) (hc : n ≤ cc) :
    (Instr.sliceBounds true n cc (lo.map a.eval) (hi.map a.eval) none).run P w = .ok (l.toNat, u.toNat, cc) w := by
  rcases bound_sound h hl with ⟨rfl, rfl⟩ | ⟨x, kd, rfl, hx⟩ <;> rcases bound_sound h hu with ⟨rfl, rfl⟩ | ⟨y, kd', rfl, hy⟩
  · simp [Instr.sliceBounds]
  · have : u ≤ (cc : Int) := by omega
    simp [Instr.sliceBounds, Instr.sliceBound, asIntOf, hy, h1, this]
  · simp [Instr.sliceBounds, Instr.sliceBound, asIntOf, hx, h0, h1]
  · have e1 : 0 ≤ u := by omega
    have e2 : u ≤ (cc : Int) := by omega
    simp [Instr.sliceBounds, Instr.sliceBound, asIntOf, hx, hy, h0, e1, e2]
    exact fun hh => absurd hh (by omega)
theorem nilP_eq {p : PV} (h : nilP p = true) : p = .val (.slice none 0 0) := by
  cases p with
  | val v => simp only [nilP] at h; unfold nilV at h; split at h <;> first | rfl | cases h
  | _ => cases h
theorem s_slice (h : Inv c tm m ρ a w) (hd : ∀ t, d = some t → t < c.N) {t : TypeId} {x : Operand} {lo hi : Option Operand} (hs : step c.P np lent kp tm m d ty k (.slice t x lo hi none)) : Quiet c.P ⟨d, .slice t x lo hi none, ty, pos, af, g⟩ a w (Then c k) := by
  simp only [step] at hs
  have hx := h.ev x
  generalize hq : a.eval x = vx at hx
  unfold ifB at hs
  split at hs
  · rename_i hnil
    rw [nilP_eq hnil] at hx
    obtain rfl := hx.val_eq
    obtain ⟨z, hz, hs⟩ := onS_e hs
    obtain ⟨l, hl, hs⟩ := onS_e hs
    obtain ⟨u, hu, ⟨rfl, rfl⟩, hs'⟩ := onS_e hs
    obtain ⟨e, i, hun, hi', rfl⟩ := elemSize_eq hz
    have hb := bounds_run (P := c.P) h (n := 0) (cc := 0) hl hu (Int.le_refl _) (Int.le_refl _) (Int.le_refl _) (Nat.le_refl _)
    refine q_value (v := .slice none 0 0) ?_ (h.then hd (.im (.val rfl)) hs')
    simp only [execOp, Instr.sliceAt, Instr.slice, Sem.run_bind, hq, run_underlying hun, Result.andThen_ok, Option.map_none, hb, sizeOf, typeInfo, run_program, hi', Sem.run_pure, Int.toNat_zero, if_true, Nat.sub_self]
  unfold onRow at hs
  split at hs
  · rename_i es he
    rw [he] at hx
    obtain ⟨l, hl, hs⟩ := onS_e hs
    obtain ⟨u, hu, hs⟩ := onS_e hs
    obtain ⟨z, hz, ⟨h0, h1, h2, h3⟩, hs⟩ := onS_e hs
    · · obtain ⟨e, i, hun, hi', rfl⟩ := elemSize_eq hz
        cases hx with
        | im hi =>
          cases hi with
          | sl uu hn hmx hcap hlen hA hr =>
            rename_i A n cc sz
            subst hn
            have hb := bounds_run (P := c.P) h (cc := cc) hl hu h0 h1 h2 hcap
            have hlen' : ((es.take u.toNat).drop l.toNat).length = u.toNat - l.toNat := by simp; omega
            refine q_value (v := .slice (if cc = l.toNat then A else A.map (·.add (l.toNat * i.size))) (u.toNat - l.toNat) (cc - l.toNat)) ?_ (h.then hd (.im (.sl (sz := sz) (fun q j => uu (l.toNat + q) j) hlen' (by omega) (by omega) (fun y hy => hlen y (List.mem_of_mem_take (List.mem_of_mem_drop hy))) ?_ (fun q j y p hy hj => hr _ j y p (part_get hy).1 hj))) hs)
            · simp only [execOp, Instr.sliceAt, Instr.slice, Sem.run_bind, hq, run_underlying hun, Result.andThen_ok, Option.map_none, hb, sizeOf, typeInfo, run_program, hi', Sem.run_pure]
            · by_cases hz0 : u.toNat - l.toNat = 0
              · exact .inl hz0
              · right
                rcases hA with hA | ⟨ad, rfl, hA⟩
                · omega
                · refine ⟨ad.add (l.toNat * i.size), by rw [if_neg (by omega)]; rfl, fun q j y p hy hj => ?_⟩
                  obtain ⟨hy', hlt'⟩ := part_get hy
                  have e1 : sz = i.size := by rw [← hlen y (List.mem_of_getElem? hy'), h3 y (List.mem_of_getElem? hy')]
                  obtain ⟨c1, c2, c3⟩ := hA _ j y p hy' hj
                  rw [Addr.add_add, add_block]
                  rw [Nat.add_mul, Nat.add_assoc, e1] at c1
                  rw [e1]
                  exact ⟨c1, c2, c3⟩
  · rename_i b he
    rw [he] at hx
    obtain ⟨e, es, hm, hs⟩ := onRowB_e hs
    · obtain ⟨l, hl, hs⟩ := onS_e hs
      obtain ⟨u, hu, hel, ⟨h0, h1, h2⟩, hs⟩ := onS_e hs
      · · have hun := elemOf_eq hel
          have hxv : vx = ρ b := by
            cases hx with
            | im hi => cases hi
            | own => rfl
          have hok := h.blk b _ hm
          generalize hvb : ρ b = vb at hok
          cases hok with
          | row hi' hzz hzzs hp0 hby hlen' ho hsz hf hx' h1' =>
            rename_i xs i z'
            have hform : ∃ A cc, vb = .slice A es.length cc ∧ es.length ≤ cc ∧ cc ≤ maxLen ∧ (es.length = 0 ∨ ∃ g, A = some ⟨g, 0, none⟩) := by
              rcases ho.2 with ⟨rfl, e2⟩ | ⟨g, cap, cur, rfl, _, _, h3, h4, _⟩
              · exact ⟨none, 0, by rw [e2], by omega, by simp [maxLen], .inl e2⟩
              · exact ⟨_, cap, rfl, h3, h4, .inr ⟨g, rfl⟩⟩
            obtain ⟨A, cc, rfl, hcap, hcx, hAf⟩ := hform
            have hb := bounds_run (P := c.P) h (cc := cc) hl hu h0 h1 h2 hcap
            refine q_value (v := .slice (if cc = l.toNat then A else A.map (·.add (l.toNat * i.size))) (u.toNat - l.toNat) (cc - l.toNat)) ?_ (h.then hd ?_ hs)
            · simp only [execOp, Instr.sliceAt, Instr.slice, Sem.run_bind, hq, hxv, hvb, run_underlying hun, Result.andThen_ok, Option.map_none, hb, sizeOf, typeInfo, run_program, hi', Sem.run_pure]
            · by_cases hl0 : l.toNat = 0
              · rw [hl0]
                have e1 : (if cc = 0 then A else A.map (·.add (0 * i.size))) = A := by
                  split
                  · rfl
                  · rw [Nat.zero_mul]; cases A with
                    | none => rfl
                    | some ad => simp [Addr.add]
                rw [e1, Nat.sub_zero, Nat.sub_zero]
                exact .osl0 hm (by omega) hvb
              · refine .osl (sz := i.size) (g := (match A with | some ad => ad.block | none => 0)) (n := es.length) (c' := cc) hm (by omega) (by omega) (by omega) (by omega) (by omega) hsz ?_
                rcases hAf with h3 | ⟨g, rfl⟩
                · omega
                · refine ⟨?_, hvb, by omega⟩
                  by_cases hcl : cc = l.toNat
                  · exact .inl (by omega)
                  · right
                    rw [if_neg hcl]
                    simp [add_none]
  · rename_i b l' h' he
    rw [he] at hx
    obtain ⟨e, es, hm, hs⟩ := onRowB_e hs
    obtain ⟨l, hl, hs⟩ := onS_e hs
    obtain ⟨u, hu, hel, ⟨hl0, h0, h1, h2⟩, hs⟩ := onS_e hs
    have hun := elemOf_eq hel
    cases hx with
    | im hi => cases hi
    | osl0 => omega
    | osl hm' g0 g1 g2 g3 g4 g5 g6 =>
      rename_i c0 n c' sz g A e' es'
      rw [hm] at hm'; cases hm'
      obtain ⟨g7, g8, g9⟩ := g6
      have hok := h.blk b _ hm
      generalize hvb : ρ b = vb at hok
      cases hok with
      | row hi' hzz hzzs hp0 hby hlen' ho hsz hf hx' h1' =>
        rename_i xs i z'
        obtain rfl : sz = i.size := by
          obtain ⟨x, hx⟩ : ∃ x, x ∈ es := ⟨es[0], List.getElem_mem _⟩
          rw [← g5 x hx, hsz x hx]
        have hb := bounds_run (P := c.P) h (n := h' - l') (cc := c0) hl hu h0 h1 h2 g3
        refine q_value (v := .slice (if c0 = l.toNat then A else A.map (·.add (l.toNat * i.size))) (u.toNat - l.toNat) (c0 - l.toNat)) ?_ (h.then hd ?_ hs)
        · simp only [execOp, Instr.sliceAt, Instr.slice, Sem.run_bind, hq, run_underlying hun, Result.andThen_ok, Option.map_none, hb, sizeOf, typeInfo, run_program, hi', Sem.run_pure]
        · have hrep : Rep c.M w m ρ (.osl b (l' + l.toNat) (l' + u.toNat)) (.slice (if c0 = l.toNat then A else A.map (·.add (l.toNat * i.size))) (l' + u.toNat - (l' + l.toNat)) (c0 - l.toNat)) := by
            refine .osl (sz := i.size) (g := g) (n := n) (c' := c') hm (by omega) (by omega) (by omega) (by omega) (by omega) hsz ⟨?_, g8, by omega⟩
            by_cases hcl : c0 = l.toNat
            · exact .inl (by omega)
            · right
              rcases g7 with g7 | rfl
              · omega
              · rw [if_neg hcl]
                simp [add_none, Nat.add_mul]
          rw [show l' + u.toNat - (l' + l.toNat) = u.toNat - l.toNat by omega] at hrep
          exact hrep
  · cases hs
theorem s_slice3 (h : Inv c tm m ρ a w) (hd : ∀ t, d = some t → t < c.N) {t : TypeId} {x hi mx : Operand} {lo : Option Operand} (hs : step c.P np lent kp tm m d ty k (.slice t x lo (some hi) (some mx))) : Quiet c.P ⟨d, .slice t x lo (some hi) (some mx), ty, pos, af, g⟩ a w (Then c k) := by
  simp only [step] at hs
  have hx := h.ev x
  generalize hq : a.eval x = vx at hx
  unfold onRow at hs
  split at hs
  · rename_i es he
    rw [he] at hx
    obtain ⟨k1, u, hu, hs⟩ := onInt_e hs
    obtain ⟨k2, uh, hh, hs⟩ := onInt_e hs
    obtain ⟨l, hl, hs⟩ := onS_e hs
    obtain ⟨z, hz, ⟨h0, h1, h2, h2', h3⟩, hs⟩ := onS_e hs
    have hmv := (hu ▸ h.ev mx : Rep c.M w m ρ (.val (.int k1 u)) (a.eval mx)).val_eq
    have hhv := (hh ▸ h.ev hi : Rep c.M w m ρ (.val (.int k2 uh)) (a.eval hi)).val_eq
    obtain ⟨e, i, hun, hi', rfl⟩ := elemSize_eq hz
    cases hx with
    | im hi0 =>
      cases hi0 with
      | sl uu hn hmx hcap hlen hA hr =>
        rename_i A n cc sz
        subst hn
        have hb : (Instr.sliceBounds true es.length cc (lo.map a.eval) (some (a.eval hi)) (some (a.eval mx))).run c.P w = .ok (l.toNat, uh.toNat, u.toNat) w := by
          have e1 : 0 ≤ u := by omega
          have e2 : u ≤ (cc : Int) := by omega
          have e3 : 0 ≤ uh := by omega
          have e4 : max u 0 = u := by omega
          have e5 : max uh 0 = uh := by omega
          rcases bound_sound h hl with ⟨rfl, rfl⟩ | ⟨y, kd, rfl, hy⟩
          · simp [Instr.sliceBounds, Instr.sliceBound, asIntOf, hmv, hhv, e1, e2, e3, h2, e4, e5]
          · simp [Instr.sliceBounds, Instr.sliceBound, asIntOf, hmv, hhv, hy, h0, h1, e1, e2, e3, h2, e4, e5]
        have hlen' : ((es.take uh.toNat).drop l.toNat).length = uh.toNat - l.toNat := by simp; omega
        refine q_value (v := .slice (if u.toNat = l.toNat then A else A.map (·.add (l.toNat * i.size))) (uh.toNat - l.toNat) (u.toNat - l.toNat)) ?_ (h.then hd (.im (.sl (sz := sz) (fun q j => uu (l.toNat + q) j) hlen' (by omega) (by omega) (fun y hy => hlen y (List.mem_of_mem_take (List.mem_of_mem_drop hy))) ?_ (fun q j y p hy hj => hr _ j y p (part_get hy).1 hj))) hs)
        · simp only [execOp, Instr.sliceAt, Instr.slice, Sem.run_bind, hq, run_underlying hun, Result.andThen_ok, Option.map_some, hb, sizeOf, typeInfo, run_program, hi', Sem.run_pure]
        · by_cases hz0 : uh.toNat - l.toNat = 0
          · exact .inl hz0
          · right
            rcases hA with hA | ⟨ad, rfl, hA⟩
            · omega
            · refine ⟨ad.add (l.toNat * i.size), by rw [if_neg (by omega)]; rfl, fun q j y p hy hj => ?_⟩
              obtain ⟨hy', hlt'⟩ := part_get hy
              have e1 : sz = i.size := by rw [← hlen y (List.mem_of_getElem? hy'), h3 y (List.mem_of_getElem? hy')]
              obtain ⟨c1, c2, c3⟩ := hA _ j y p hy' hj
              rw [Addr.add_add, add_block]
              rw [Nat.add_mul, Nat.add_assoc, e1] at c1
              rw [e1]
              exact ⟨c1, c2, c3⟩
  · exact hs.elim
  · exact hs.elim
  · exact hs.elim
theorem zeroCells_get {z : Array Value} {n i : Nat} (hz : z.size = i) (h0 : 0 < i) {q j : Nat} (hq : q < n) (hj : j < i) : (Builtin.zeroCells z n).toList[q * i + j]? = z[j]? := by
  have hlt : q * i + j < n * i := by
    have := Nat.mul_le_mul_right i (show q + 1 ≤ n by omega)
    rw [Nat.add_mul, Nat.one_mul] at this; omega
  simp only [Builtin.zeroCells]
  rw [Array.toList_map, Array.toList_range, List.getElem?_map, hz, List.getElem?_range hlt, Option.map_some, Nat.mul_comm q i, Nat.mul_add_mod, Nat.mod_eq_of_lt hj]
  rw [getElem!_pos z j (by omega), Array.getElem?_eq_getElem (by omega)]
theorem s_clear (h : Inv c tm m ρ a w) (hd : ∀ t, d = some t → t < c.N) {args : Array Operand} {ts : Array TypeId} (hs : step c.P np lent kp tm m d ty k (.call { callee := .builtin .clear, args := args, argTypes := ts })) : Oper.wp c.P ⟨d, .call { callee := .builtin .clear, args := args, argTypes := ts }, ty, pos, af, g⟩ a w (Then c k) Q := by
  simp only [step] at hs
  obtain ⟨x, hx, hs1⟩ := onOne_e hs
  obtain ⟨t, ht, hs2⟩ := onOne_e hs1
  have hargs : args = #[x] := by rw [← Array.toList_inj]; exact hx
  have hts : ts = #[t] := by rw [← Array.toList_inj]; exact ht
  subst hargs
  subst hts
  have hxr := h.ev x
  generalize hq : a.eval x = vx at hxr
  unfold onRow at hs2
  split at hs2
  · exact hs2.elim
  · exact hs2.elim
  · rename_i b l hh hev
    rw [hev] at hxr
    obtain ⟨e, es, hm, hel, hs⟩ := onRowB_e hs2
    obtain ⟨zs, hzo, ⟨hlt, hle, hfl⟩, hs⟩ := onS_e hs
    have hun := elemOf_eq hel
    obtain ⟨inf, z, hi0, hzv0, rfl, hone⟩ := zeroOf_eq hzo
    have hok := h.blk b _ hm
    generalize hvb : ρ b = vb at hok
    cases hok with
    | row hi hz hzs h0 hby hlen hown hsz hf hx' h1 =>
      rename_i xs inf0 z0
      rw [hi] at hi0; cases hi0
      rw [hz] at hzv0; cases hzv0
      obtain ⟨hxl, hrow⟩ := hown
      rcases hrow with ⟨_, e2⟩ | ⟨gb, cap, cur, rfl, hb0, hheap, hnc, hcm, hcs, htake⟩
      · omega
      · have hform : ∃ cc, vx = .slice (some ⟨gb, l * inf.size, none⟩) (hh - l) cc := by
          cases hxr with
          | im hi => cases hi
          | osl0 h1 h2 h3 => rw [hvb] at h3; cases h3; exact ⟨cap, by simp⟩
          | osl g0 g1 g2 g3 g4 g5 g6 g7 =>
            rename_i c0 n c' sz g' A e' es'
            rw [hm] at g0; cases g0
            obtain ⟨g8, g9, g10⟩ := g7
            rw [hvb] at g9; cases g9
            obtain rfl : sz = inf.size := by
              have he : es[0]? = some (es[0]'(by omega)) := List.getElem?_eq_getElem (by omega)
              rw [← g6 _ (List.mem_of_getElem? he), hsz _ (List.mem_of_getElem? he)]
            rcases g8 with g8 | rfl
            · omega
            · exact ⟨_, rfl⟩
        obtain ⟨cc, rfl⟩ := hform
        have hzl : (Builtin.zeroCells z.cells (hh - l)).toList.length = (hh - l) * inf.size := by simp [Builtin.zeroCells, hzs]
        have hm1 : l * inf.size + (hh - l) * inf.size = hh * inf.size := by rw [← Nat.add_mul]; congr 1; omega
        have hm2 : hh * inf.size ≤ es.length * inf.size := Nat.mul_le_mul_right _ hle
        have hm3 : es.length * inf.size ≤ cap * inf.size := Nat.mul_le_mul_right _ hnc
        have hspx : l * inf.size + (Builtin.zeroCells z.cells (hh - l)).toList.length ≤ xs.length := by omega
        have hspc : l * inf.size + (Builtin.zeroCells z.cells (hh - l)).toList.length ≤ cur.toList.length := by rw [hzl, Array.length_toList, hcs]; omega
        have hones : ∀ u ∈ (Builtin.zeroCells z.cells (hh - l)).toList, u.oneCell' = true := by
          intro u hu
          simp only [Builtin.zeroCells] at hu
          rw [Array.toList_map, Array.toList_range] at hu
          obtain ⟨q, _, rfl⟩ := List.mem_map.1 hu
          have hl2 : q % z.cells.size < z.cells.size := Nat.mod_lt _ (by omega)
          rw [getElem!_pos z.cells _ hl2]
          exact okC_one (hone _ (Array.getElem_mem hl2))
        have hrs := run_storeCells_at (P := c.P) gb (l * inf.size) e (Builtin.zeroCells z.cells (hh - l)).toList 0 cur w hheap (by rw [hzl, Nat.add_zero]; omega) hones
        have hrun : (Builtin.clear_ #[t] ty #[.slice (some ⟨gb, l * inf.size, none⟩) (hh - l) cc]).run c.P w = .ok (.tuple #[]) (w.setRow gb (splice cur.toList (l * inf.size) (Builtin.zeroCells z.cells (hh - l)).toList).toArray) := by
          obtain ⟨n, hn⟩ : ∃ n, hh - l = n + 1 := ⟨hh - l - 1, by omega⟩
          rw [hn] at hrs ⊢
          simp only [Nat.add_zero] at hrs
          simp [Builtin.clear_, run_underlying hun, zeroValue, typeInfo, hi, hz, hrs, splice, List.append_assoc]
        have hns : ∀ q j, q < hh - l → j < inf.size → (Builtin.zeroCells z.cells (hh - l)).toList[q * inf.size + j]? = z.cells[j]? := fun q j hq hj => zeroCells_get hzs h0 hq hj
        have hrl : (List.replicate (hh - l) (z.cells.toList.map PV.val)).length = hh - l := by simp
        have hsp : l + (List.replicate (hh - l) (z.cells.toList.map PV.val)).length ≤ es.length := by rw [hrl]; omega
        have hsl := splice_length es l _ hsp
        have hmemz : ∀ y ∈ splice es l (List.replicate (hh - l) (z.cells.toList.map PV.val)), y ∈ es ∨ y = z.cells.toList.map PV.val := by
          intro y hy
          unfold splice at hy
          rcases List.mem_append.1 hy with h3 | h3
          · exact .inl (List.mem_of_mem_take h3)
          · rcases List.mem_append.1 h3 with h3 | h3
            · exact .inr (List.eq_of_mem_replicate h3)
            · exact .inl (List.mem_of_mem_drop h3)
        have hlens : ∀ s, (∀ y ∈ es, y.length = s) → ∀ y ∈ splice es l (List.replicate (hh - l) (z.cells.toList.map PV.val)), y.length = s := by
          intro s hsy y hy
          rcases hmemz y hy with hy | rfl
          · exact hsy y hy
          · have he : es[0]? = some (es[0]'(by omega)) := List.getElem?_eq_getElem (by omega)
            rw [← hsy _ (List.mem_of_getElem? he), hsz _ (List.mem_of_getElem? he)]; simpa using hzs
        refine wp_value (v := .tuple #[]) (w' := w.setRow gb (splice cur.toList (l * inf.size) (Builtin.zeroCells z.cells (hh - l)).toList).toArray) (by simp [execOp, resolve, invoke, builtin, hq, hrun]) ⟨_, _, _, hs, (h.write hm (.inl ⟨_, _, _, _, rfl, rfl, hsl, hlens⟩) (by simp) (fun k hk hne => setRow_other w gb k _ fun e => hne (by rw [hvb, e]; rfl)) rfl rfl rfl (fun hrep him => ?_)).put hd (.tup (by simp) (fun i p v hp => by simp at hp))⟩
        rw [hvb]
        refine .row (xs := splice xs (l * inf.size) (Builtin.zeroCells z.cells (hh - l)).toList) hi hz hzs h0 hby (by rw [hsl]; exact hlen) ⟨by rw [splice_length _ _ _ hspx, hxl, hsl], .inr ⟨gb, cap, _, by rw [hsl], hb0, setRow_heap w gb cur _ e (0, 0) hheap, by rw [hsl]; exact hnc, hcm, by rw [List.size_toArray, splice_length _ _ _ hspc, Array.length_toList]; exact hcs, ?_⟩⟩ (hlens _ hsz) (fun hft => ?_) (fun q jj y p hqq hj => ?_) (fun u hu => ?_)
        · rw [hsl]
          apply List.ext_getElem?
          intro q
          rw [List.getElem?_take, splice_get _ _ _ hspc, splice_get _ _ _ hspx, ← htake, List.getElem?_take, hzl]
          by_cases hq : q < es.length * inf.size
          · rw [if_pos hq, if_pos hq]
          · rw [if_neg hq, if_neg hq, if_neg (by omega), if_neg (by omega)]
        · intro y hy p hp
          rcases hmemz y hy with hy | rfl
          · exact hf hft y hy p hp
          · obtain ⟨u, hu, rfl⟩ := List.mem_map.1 hp
            have := List.all_eq_true.1 hfl u hu
            rw [hft] at this; simpa using this
        · have hjl := lt_of_get hj
          rw [hlens _ hsz y (List.mem_of_getElem? hqq)] at hjl
          rw [splice_get es l _ hsp, hrl] at hqq
          rw [splice_get _ _ _ hspx, hzl]
          have hstep : ∀ a b : Nat, a < b → a * inf.size + inf.size ≤ b * inf.size := fun a b hab => by
            have := Nat.mul_le_mul_right inf.size (show a + 1 ≤ b by omega)
            rw [Nat.add_mul, Nat.one_mul] at this; exact this
          by_cases h3 : q < l
          · rw [if_pos h3] at hqq
            have := hstep q l h3
            rw [if_pos (by omega)]
            obtain ⟨u, hu, hp⟩ := hx' q jj y p hqq hj
            exact ⟨u, hu, him _ _ hp⟩
          · rw [if_neg h3] at hqq
            have e4 : l * inf.size ≤ q * inf.size := Nat.mul_le_mul_right _ (by omega)
            rw [if_neg (by omega)]
            by_cases h4 : q < l + (hh - l)
            · rw [if_pos h4] at hqq
              have := hstep q hh (by omega)
              rw [if_pos (by omega)]
              obtain rfl := List.eq_of_mem_replicate (List.mem_of_getElem? hqq)
              rw [List.getElem?_map] at hj
              obtain ⟨v, hv, rfl⟩ := Option.map_eq_some_iff.1 hj
              refine ⟨v, ?_, .val (okC_ok (hone v (Array.mem_toList_iff.1 (List.mem_of_getElem? hv))))⟩
              have e5 : q * inf.size + jj - l * inf.size = (q - l) * inf.size + jj := by
                have : (q - l) * inf.size + l * inf.size = q * inf.size := by rw [← Nat.add_mul]; congr 1; omega
                omega
              rw [e5, hns _ _ (by omega) hjl, ← hv, Array.getElem?_toList]
            · rw [if_neg h4] at hqq
              have : hh * inf.size ≤ q * inf.size := Nat.mul_le_mul_right _ (by omega)
              rw [if_neg (by omega)]
              obtain ⟨u, hu, hp⟩ := hx' q jj y p hqq hj
              exact ⟨u, hu, him _ _ hp⟩
        · unfold splice at hu
          rcases List.mem_append.1 hu with h3 | h3
          · exact h1 u (List.mem_of_mem_take h3)
          · rcases List.mem_append.1 h3 with h3 | h3
            · exact hones u h3
            · exact h1 u (List.mem_of_mem_drop h3)
  · exact hs2.elim
theorem s_cap (h : Inv c tm m ρ a w) (hd : ∀ t, d = some t → t < c.N) {args : Array Operand} {ts : Array TypeId} (hs : step c.P np lent kp tm m d ty k (.call { callee := .builtin .cap, args := args, argTypes := ts })) : Quiet c.P ⟨d, .call { callee := .builtin .cap, args := args, argTypes := ts }, ty, pos, af, g⟩ a w (Then c k) := by
  simp only [step] at hs
  obtain ⟨x, hx, hs1⟩ := onOne_e hs
  obtain ⟨t, ht, hs2⟩ := onOne_e hs1
  obtain ⟨e, he, hs3⟩ := onS_e hs2
  have hargs : args = #[x] := by rw [← Array.toList_inj]; exact hx
  have hts : ts = #[t] := by rw [← Array.toList_inj]; exact ht
  subst hargs
  subst hts
  have hun := elemOf_eq he
  unfold onApp at hs3
  split at hs3
  · exact hs3.elim
  · exact hs3.elim
  · exact hs3.elim
  · rename_i hev
    have hxv := (hev ▸ h.ev x : Rep c.M w m ρ (.val (.slice none 0 0)) (a.eval x)).val_eq
    refine q_value (v := .int .i64 0) ?_ (h.then hd (.im (.val rfl)) hs3)
    simp [execOp, resolve, invoke, builtin, Builtin.cap_, hxv, run_underlying hun, goInt]
  · exact hs3.elim
end
end Go.V
set_option linter.unusedVariables false
set_option linter.unusedSimpArgs false
namespace Go.V
open Go
theorem closeds_get : ∀ {l : List PV} {i : Nat} {p : PV}, closeds l = true → l[i]? = some p → closed p = true
  | q :: l, 0, p, h, hp => by simp at hp; subst hp; simp [closeds] at h; exact h.1
  | q :: l, i + 1, p, h, hp => by simp [closeds] at h; simp at hp; exact closeds_get h.2 hp
theorem Im.flat {w : World} {N N' : Nat → Prop} {p : PV} {v : Value} (h : Im w N p v) (hf : flatP p = true) : Im w N' p v := by
  cases h with
  | val h => exact .val h
  | any => exact .any
  | sl => cases hf
  | agg => cases hf
  | tup => cases hf
  | fn => cases hf
theorem Im.closed {w : World} {Nn Nn' : Nat → Prop} {p : PV} {v : Value} (h : Im w Nn p v) (hc : V.closed p = true) : Im w Nn' p v := by
  induction h with
  | val h => exact .val h
  | any => exact .any
  | sl => simp [V.closed] at hc
  | agg hl _ h1 ih => rw [V.closed] at hc; exact .agg hl (fun i p v hp hv => ih i p v hp hv (closeds_get hc hp)) h1
  | tup hl _ ih => rw [V.closed] at hc; exact .tup hl (fun i p v hp hv => ih i p v hp hv (closeds_get hc hp))
  | fn hl _ ih => rw [V.closed] at hc; exact .fn hl (fun i p v hp hv => ih i p v hp hv (closeds_get hc hp))
theorem dd_spec : ∀ (l acc : List Nat), acc.Nodup → (dd acc l).Nodup ∧ ∀ b ∈ dd acc l, b ∈ acc ∨ b ∈ l
  | [], acc, h => ⟨h, fun b hb => .inl hb⟩
  | x :: l, acc, h => by
    rw [dd]
    split
    · obtain ⟨h1, h2⟩ := dd_spec l acc h
      exact ⟨h1, fun b hb => (h2 b hb).imp id (List.mem_cons_of_mem _)⟩
    · rename_i hc
      have hn : x ∉ acc := fun hm => hc (List.contains_iff_mem.2 hm)
      obtain ⟨h1, h2⟩ := dd_spec l (acc ++ [x]) (by
        rw [List.nodup_append]
        exact ⟨h, by simp, fun a ha b hb => by simp at hb; subst hb; exact fun e => hn (e ▸ ha)⟩)
      refine ⟨h1, fun b hb => ?_⟩
      rcases h2 b hb with h3 | h3
      · rcases List.mem_append.1 h3 with h3 | h3
        · exact .inl h3
        · simp at h3; subst h3; exact .inr List.mem_cons_self
      · exact .inr (List.mem_cons_of_mem _ h3)
theorem above_spec (n : Nat) : ∀ (l : List Nat), ∀ b ∈ above n l, n ≤ b
  | [], b, h => by simp [above] at h
  | x :: l, b, h => by
    rw [above] at h
    split at h
    · exact above_spec n l b h
    · rcases List.mem_cons.1 h with rfl | h
      · omega
      · exact above_spec n l b h
theorem reach_spec (n : Nat) (m : Mem) (ps : List PV) : (reach n m ps).Nodup ∧ ∀ b ∈ reach n m ps, n ≤ b := by
  unfold reach
  obtain ⟨h1, h2⟩ := dd_spec (above n (fore m n ++ idss ps)) [] (by simp)
  obtain ⟨h3, h4⟩ := dd_spec (above n (cellIds m (dd [] (above n (fore m n ++ idss ps))))) (dd [] (above n (fore m n ++ idss ps))) h1
  refine ⟨h3, fun b hb => ?_⟩
  rcases h4 b hb with h | h
  · rcases h2 b h with h | h
    · simp at h
    · exact above_spec _ _ b h
  · exact above_spec _ _ b h
theorem nodup_inj : ∀ {l : List Nat}, l.Nodup → ∀ {i j : Nat} (hi : i < l.length) (hj : j < l.length), l[i] = l[j] → i = j
  | x :: l, h, 0, 0, _, _, _ => rfl
  | x :: l, h, 0, j + 1, _, hj, e => by
    rw [List.nodup_cons] at h
    simp at e
    exact absurd (e ▸ List.getElem_mem (by simpa using hj)) h.1
  | x :: l, h, i + 1, 0, hi, _, e => by
    rw [List.nodup_cons] at h
    simp at e
    exact absurd (e ▸ List.getElem_mem (by simpa using hi)) h.1
  | x :: l, h, i + 1, j + 1, hi, hj, e => by
    rw [List.nodup_cons] at h
    simp at e
    rw [nodup_inj h.2 (by simpa using hi) (by simpa using hj) e]
theorem idxOf?_get : ∀ (l : List Nat) (b i : Nat), l.idxOf? b = some i → l[i]? = some b
  | [], b, i, h => by simp at h
  | x :: l, b, i, h => by
    rw [List.idxOf?_cons] at h
    split at h
    · rename_i e; cases h; simp at e; simp [e]
    · obtain ⟨j, hj, rfl⟩ := Option.map_eq_some_iff.1 h
      simpa using idxOf?_get l b j hj
section
variable {c : Cx} {P : Program} {M M' M2 : Nat → Prop} {w0 w w' : World} {S : Nat → Prop} {N : Nat} {tm : Tm} {m m' m2 : Mem} {ρ ρ' ρ2 : Nat → Value} {a : Act}
/-- The same thing, told over other places. -/
theorem Rep.ren {σ : Nat → Option Nat} {kc : Bool} {p : PV} {v : Value} (h : Rep M w m ρ p v) (hcl : V.closed p = true ∨ ∀ k, Mine M2 m2 ρ2 k → Mine M m ρ k) (hkc : kc = true → (∀ k, Own m2 ρ2 k → Own m ρ k) ∧ ∀ k, Mine M2 m2 ρ2 k → Mine M m ρ k)
    (hr : ∀ b d e es, σ b = some d → m[b]? = some (.row e es) → m2[d]? = some (.row e es) ∧ ρ2 d = ρ b) (hv : ∀ b d cs, σ b = some d → m[b]? = some (.var cs) → (∃ cs', m2[d]? = some (.var cs')) ∧ ρ2 d = ρ b) : Rep M2 w m2 ρ2 (V.ren σ kc p) v := by
  unfold V.ren
  induction h with
  | im h =>
    rw [h.tr_eq]
    rcases hcl with hcl | hcl
    · exact .im (h.closed hcl)
    · exact .im (h.sub hcl)
  | own h =>
    rw [V.tr]
    split
    · rename_i d hd
      obtain ⟨h1, h2⟩ := hr _ d _ _ hd h
      exact .own' h1 h2
    · exact .im .any
  | osl0 h1 h2 h3 =>
    rw [V.tr]
    split
    · rename_i d hd
      obtain ⟨h4, h5⟩ := hr _ d _ _ hd h1
      exact .osl0 h4 h2 (h5.trans h3)
    · exact .im .any
  | osl h1 h2 h3 h4 h5 h6 h7 h8 =>
    rw [V.tr]
    split
    · rename_i d hd
      obtain ⟨e1, e2⟩ := hr _ d _ _ hd h1
      exact .osl e1 h2 h3 h4 h5 h6 h7 ⟨h8.1, e2.trans h8.2.1, h8.2.2⟩
    · exact .im .any
  | adr h1 h2 =>
    rw [V.tr]
    split
    · rename_i d hd
      obtain ⟨⟨cs', e1⟩, e2⟩ := hv _ d _ hd h1
      exact .adr e1 (e2.trans h2)
    · exact .im .any
  | ead h1 h2 h3 h4 =>
    rw [V.tr]
    split
    · rename_i d hd
      obtain ⟨e1, e2⟩ := hr _ d _ _ hd h1
      exact .ead e1 h2 h3 (e2.trans h4)
    · exact .im .any
  | cad u h1 h2 =>
    rw [V.tr]
    split
    · rename_i e
      obtain ⟨e1, e2⟩ := hkc e
      exact (Rep.cad u h1 h2).cad_sub e1 e2
    · exact .im .any
  | agg hl _ h1 ih =>
    rw [V.tr, trs_map]
    refine .agg (by simpa using hl) (fun i p v hp hv => ?_) h1
    rw [List.getElem?_map] at hp
    obtain ⟨q, hq, rfl⟩ := Option.map_eq_some_iff.1 hp
    exact ih i q v hq hv (hcl.imp (fun h => closeds_get (by rw [V.closed] at h; exact h) hq) id)
  | tup hl _ ih =>
    rw [V.tr, trs_map]
    refine .tup (by simpa using hl) (fun i p v hp hv => ?_)
    rw [List.getElem?_map] at hp
    obtain ⟨q, hq, rfl⟩ := Option.map_eq_some_iff.1 hp
    exact ih i q v hq hv (hcl.imp (fun h => closeds_get (by rw [V.closed] at h; exact h) hq) id)
  | fn hl _ ih =>
    rw [V.tr, trs_map]
    refine .fn (by simpa using hl) (fun i p v hp hv => ?_)
    rw [List.getElem?_map] at hp
    obtain ⟨q, hq, rfl⟩ := Option.map_eq_some_iff.1 hp
    exact ih i q v hq hv (hcl.imp (fun h => closeds_get (by rw [V.closed] at h; exact h) hq) id)
theorem BlkOk.ren {σ : Nat → Option Nat} {kc : Bool} {x : Blk} {v : Value} (h : BlkOk P M w m ρ v x) (hcl : closedM P [x] = true ∨ ∀ k, Mine M2 m2 ρ2 k → Mine M m ρ k) (hkc : kc = true → (∀ k, Own m2 ρ2 k → Own m ρ k) ∧ ∀ k, Mine M2 m2 ρ2 k → Mine M m ρ k)
    (hr : ∀ b d e es, σ b = some d → m[b]? = some (.row e es) → m2[d]? = some (.row e es) ∧ ρ2 d = ρ b) (hv : ∀ b d cs, σ b = some d → m[b]? = some (.var cs) → (∃ cs', m2[d]? = some (.var cs')) ∧ ρ2 d = ρ b) : BlkOk P M2 w m2 ρ2 v (renB σ kc x) := by
  cases h with
  | dead => exact .dead
  | var hg hl hj h1 =>
    refine .var hg (by simpa using hl) (fun j p v hp hv' => ?_) h1
    rw [List.getElem?_map] at hp
    obtain ⟨q, hq, rfl⟩ := Option.map_eq_some_iff.1 hp
    exact (hj j q v hq hv').ren (hcl.imp (fun h => by simp only [closedM, Bool.and_true] at h; exact closeds_get h hq) id) hkc hr hv
  | row hi hz hzs h0 hby hlen ho hs hf hx h1 =>
    refine .row hi hz hzs h0 hby hlen ho hs hf (fun q j x p hq hj => ?_) h1
    obtain ⟨u, hu, him⟩ := hx q j x p hq hj
    refine ⟨u, hu, ?_⟩
    rcases hcl with hcl | hcl
    · simp only [closedM, Bool.and_true] at hcl
      exact him.flat (hf hcl x (List.mem_of_getElem? hq) p (List.mem_of_getElem? hj))
    · exact him.sub hcl
def orig (n : Nat) (es : List Nat) (d : Nat) : Nat := if d < n then d else es.getD (d - n) 0
theorem canonM_get {n : Nat} {es : List Nat} {kc : Bool} (hn : n ≤ m.length) (d : Nat) : (canonM n m es kc)[d]? = if d < n then (m[d]?).map (renB (pos n es) kc) else (es[d - n]?).map fun b => renB (pos n es) kc (m[b]?.getD .dead) := by
  unfold canonM
  by_cases h : d < n
  · rw [if_pos h, List.getElem?_append_left (by simp; omega), List.getElem?_map, List.getElem?_take, if_pos h]
  · rw [if_neg h, List.getElem?_append_right (by simp; omega), List.getElem?_map, List.length_map, List.length_take, Nat.min_eq_left hn]
theorem renB_dead {σ : Nat → Option Nat} {kc : Bool} {x : Blk} (h : renB σ kc x ≠ .dead) : x ≠ .dead := fun e => by subst e; exact h rfl
theorem canon_at {n : Nat} {es : List Nat} {kc : Bool} (hn : n ≤ m.length) {d : Nat} {y : Blk} (h : (canonM n m es kc)[d]? = some y) (hd : y ≠ .dead) : ∃ x, m[orig n es d]? = some x ∧ x ≠ .dead ∧ y = renB (pos n es) kc x := by
  rw [canonM_get hn] at h
  unfold orig
  split at h
  · rename_i hlt
    rw [if_pos hlt]
    obtain ⟨x, hx, rfl⟩ := Option.map_eq_some_iff.1 h
    exact ⟨x, hx, renB_dead hd, rfl⟩
  · rename_i hlt
    rw [if_neg hlt]
    obtain ⟨b, hb, rfl⟩ := Option.map_eq_some_iff.1 h
    have : es.getD (d - n) 0 = b := by rw [List.getD_eq_getElem?_getD, hb]; rfl
    rw [this]
    cases hm : m[b]? with
    | none => rw [hm] at hd; exact absurd rfl hd
    | some x => rw [hm] at hd; exact ⟨x, rfl, renB_dead hd, rfl⟩
theorem pos_at {n : Nat} {es : List Nat} (hn : n ≤ m.length) {kc : Bool} {b d : Nat} {x : Blk} (h : pos n es b = some d) (hm : m[b]? = some x) : (canonM n m es kc)[d]? = some (renB (pos n es) kc x) ∧ orig n es d = b := by
  unfold pos at h
  split at h
  · rename_i hlt; cases h
    exact ⟨by rw [canonM_get hn, if_pos hlt, hm]; rfl, if_pos hlt⟩
  · obtain ⟨i, hi, rfl⟩ := Option.map_eq_some_iff.1 h
    have := idxOf?_get es b i hi
    refine ⟨by rw [canonM_get hn, if_neg (by omega), Nat.add_sub_cancel, this, Option.map_some, hm]; rfl, ?_⟩
    unfold orig
    rw [if_neg (by omega), Nat.add_sub_cancel, List.getD_eq_getElem?_getD, this]; rfl
/-- What is left of the state, its places counted anew. -/
theorem Inv.canon (h : Inv c tm m ρ a w) {es : List Nat} (hnd : es.Nodup) (hge : ∀ b ∈ es, c.n ≤ b) (kc : Bool) : Inv c (renT (pos c.n es) kc tm) (canonM c.n m es kc) (fun d => ρ (orig c.n es d)) a w ∧ ∀ p v, Rep c.M w m ρ p v → Rep c.M w (canonM c.n m es kc) (fun d => ρ (orig c.n es d)) (V.ren (pos c.n es) kc p) v := by
  have hn := h.ft.len
  have hlive : ∀ d, Live (canonM c.n m es kc) d → Live m (orig c.n es d) := by
    rintro d ⟨y, hy, hd⟩
    obtain ⟨x, hx, hxd, _⟩ := canon_at hn hy hd
    exact ⟨x, hx, hxd⟩
  have hO : ∀ k, Own (canonM c.n m es kc) (fun d => ρ (orig c.n es d)) k → Own m ρ k := fun k ⟨d, hd, hk⟩ => ⟨_, hlive d hd, hk⟩
  have hN : ∀ k, Mine c.M (canonM c.n m es kc) (fun d => ρ (orig c.n es d)) k → Mine c.M m ρ k := fun k hk => hk.imp id (hO k)
  have hr : ∀ b d e es', pos c.n es b = some d → m[b]? = some (.row e es') → (canonM c.n m es kc)[d]? = some (.row e es') ∧ (fun d => ρ (orig c.n es d)) d = ρ b := by
    intro b d e es' h1 h2
    obtain ⟨h3, h4⟩ := pos_at (kc := kc) hn h1 h2
    exact ⟨h3, by simp only [h4]⟩
  have hv : ∀ b d cs, pos c.n es b = some d → m[b]? = some (.var cs) → (∃ cs', (canonM c.n m es kc)[d]? = some (.var cs')) ∧ (fun d => ρ (orig c.n es d)) d = ρ b := by
    intro b d cs h1 h2
    obtain ⟨h3, h4⟩ := pos_at (kc := kc) hn h1 h2
    exact ⟨⟨_, h3⟩, by simp only [h4]⟩
  have hrep : ∀ p v, Rep c.M w m ρ p v → Rep c.M w (canonM c.n m es kc) (fun d => ρ (orig c.n es d)) (V.ren (pos c.n es) kc p) v := fun p v hp => hp.ren (.inr hN) (fun _ => ⟨hO, hN⟩) hr hv
  have hget : ∀ (tm : Tm) (t : Nat), get (renT (pos c.n es) kc tm) t = V.ren (pos c.n es) kc (get tm t) := by
    intro tm t
    induction tm with
    | nil => simp [renT, get, V.ren, tr]
    | cons q tm ih => obtain ⟨k, p⟩ := q; simp only [renT, get, ih]; split <;> rfl
  refine ⟨⟨h.sz, h.df, fun t => by rw [hget]; exact hrep _ _ (h.tm t), fun d y hy => ?_, fun d d' k hd hd' hk hk' => ?_, fun d k hd hk => h.new _ k (hlive d hd) hk, h.fr, h.old, h.dis, ?_⟩, hrep⟩
  · by_cases hd : y = .dead
    · subst hd; exact .dead
    · obtain ⟨x, hx, _, rfl⟩ := canon_at hn hy hd
      exact (h.blk _ x hx).ren (.inr hN) (fun _ => ⟨hO, hN⟩) hr hv
  · have he := h.sep _ _ k (hlive d hd) (hlive d' hd') hk hk'
    obtain ⟨y, hy, hyd⟩ := hd
    obtain ⟨y', hy', hyd'⟩ := hd'
    rw [canonM_get hn] at hy hy'
    unfold orig at he
    by_cases h1 : d < c.n <;> by_cases h2 : d' < c.n
    · rw [if_pos h1, if_pos h2] at he; exact he
    · rw [if_neg h2] at hy'
      rw [if_pos h1, if_neg h2] at he
      obtain ⟨b, hb, _⟩ := Option.map_eq_some_iff.1 hy'
      rw [List.getD_eq_getElem?_getD, hb] at he
      have := hge b (List.mem_of_getElem? hb)
      simp at he; omega
    · rw [if_neg h1] at hy
      rw [if_neg h1, if_pos h2] at he
      obtain ⟨b, hb, _⟩ := Option.map_eq_some_iff.1 hy
      rw [List.getD_eq_getElem?_getD, hb] at he
      have := hge b (List.mem_of_getElem? hb)
      simp at he; omega
    · rw [if_neg h1] at hy
      rw [if_neg h2] at hy'
      rw [if_neg h1, if_neg h2] at he
      obtain ⟨b, hb, _⟩ := Option.map_eq_some_iff.1 hy
      obtain ⟨b', hb', _⟩ := Option.map_eq_some_iff.1 hy'
      rw [List.getD_eq_getElem?_getD, hb, List.getD_eq_getElem?_getD, hb'] at he
      simp at he
      subst he
      have l1 := lt_of_get hb
      have l2 := lt_of_get hb'
      rw [List.getElem?_eq_getElem l1] at hb
      rw [List.getElem?_eq_getElem l2] at hb'
      have := nodup_inj hnd l1 l2 ((Option.some.inj hb).trans (Option.some.inj hb').symm)
      omega
  · have hor : ∀ b, b < c.n → orig c.n es b = b := fun b hb => if_pos hb
    refine ⟨?_, fun b cs hb hm => ?_, fun b e es' hb hm => ?_, fun b hb hm => ?_⟩
    · unfold canonM; simp; omega
    · obtain ⟨h1, cs', h2⟩ := h.ft.var b cs hb hm
      exact ⟨by simp only [hor b hb]; exact h1, _, by rw [canonM_get hn, if_pos hb, h2]; rfl⟩
    · rcases h.ft.row b e es' hb hm with h1 | ⟨h1, e', es2, h2⟩
      · left; rw [canonM_get hn, if_pos hb, h1]; rfl
      · exact .inr ⟨fun hlt => by simp only [hor b hb]; exact h1 hlt, e', es2, by rw [canonM_get hn, if_pos hb, h2]; rfl⟩
    · rw [canonM_get hn, if_pos hb, h.ft.dead b hb hm]; rfl
theorem get_keep (tm : Tm) : ∀ (l : List Nat) (t : Nat), get (keep tm l) t = get tm t ∨ get (keep tm l) t = .any
  | [], t => .inr rfl
  | s :: l, t => by
    rw [keep, get]
    split
    · rename_i e; subst e; exact .inl rfl
    · exact get_keep tm l t
theorem Inv.keep (h : Inv c tm m ρ a w) (l : List Nat) : Inv c (V.keep tm l) m ρ a w := by
  refine ⟨h.sz, h.df, fun t => ?_, h.blk, h.sep, h.new, h.fr, h.old, h.dis, h.ft⟩
  rcases get_keep tm l t with e | e
  · rw [e]; exact h.tm t
  · rw [e]; exact .im .any
theorem head_sound (h : Inv c tm m ρ a w) {live : List Nat} {X : Tm → Mem → Prop} (hX : head c.n live tm m X) : Then c X a w :=
  let ⟨h1, h2⟩ := reach_spec c.n m (vals (V.keep tm live))
  ⟨_, _, _, hX, ((h.keep live).canon h1 h2 true).1⟩
theorem closedM_get : ∀ {l : Mem} {i : Nat} {x : Blk}, closedM P l = true → l[i]? = some x → closedM P [x] = true
  | .dead :: l, 0, x, h, hx => by simp at hx; subst hx; rfl
  | .var cs :: l, 0, x, h, hx => by simp at hx; subst hx; simp only [closedM, Bool.and_eq_true] at h ⊢; exact ⟨h.1, trivial⟩
  | .row e es :: l, 0, x, h, hx => by simp at hx; subst hx; simp only [closedM, Bool.and_eq_true] at h ⊢; exact ⟨h.1, trivial⟩
  | .dead :: l, i + 1, x, h, hx => by simp only [closedM] at h; simp at hx; exact closedM_get h hx
  | .var cs :: l, i + 1, x, h, hx => by simp only [closedM, Bool.and_eq_true] at h; simp at hx; exact closedM_get h.2 hx
  | .row e es :: l, i + 1, x, h, hx => by simp only [closedM, Bool.and_eq_true] at h; simp at hx; exact closedM_get h.2 hx
theorem not_own_nil {ρ : Nat → Value} {k : Nat} : ¬ Own [] ρ k := by
  rintro ⟨b, ⟨x, hx, _⟩, _⟩
  simp at hx
/-- What a call has made is laid behind what there is. -/
theorem Inv.join (h : Inv c tm m ρ a w) {Mc : Nat → Prop} {r : PV} {v : Value} (hf : Fr (Own [] ρ2) w w') (hrep : Rep Mc w' m' ρ' r v) (hmem : MemOk c.P Mc w' m' ρ') (hnew : ∀ b k, Live m' b → own1 (ρ' b) = some k → w.heap.size ≤ k)
    (hcl : (closed r && closedM c.P m') = true ∨ ∀ k, Mine c.M m ρ k → Mc k) {d : Option Tmp} (hd : ∀ t, d = some t → t < c.N) :
    Inv c (V.put tm d (V.ren (shift m.length) false r)) (m ++ m'.map (renB (shift m.length) false)) (fun b => if b < m.length then ρ b else ρ' (b - m.length)) (a.put d v) w' := by
  generalize hL : m.length = L
  generalize hρ : (fun b => if b < L then ρ b else ρ' (b - L)) = ρ3
  generalize hm3 : m ++ m'.map (renB (shift L) false) = m3
  have g1 : ∀ b, b < L → m3[b]? = m[b]? := fun b hb => by rw [← hm3, List.getElem?_append_left (by omega)]
  have g2 : ∀ b, m3[b + L]? = (m'[b]?).map (renB (shift L) false) := fun b => by rw [← hm3, List.getElem?_append_right (by omega), List.getElem?_map, hL, Nat.add_sub_cancel]
  have r1 : ∀ b, b < L → ρ3 b = ρ b := fun b hb => by rw [← hρ]; exact if_pos hb
  have r2 : ∀ b, ρ3 (b + L) = ρ' b := fun b => by rw [← hρ]; simp only; rw [if_neg (by omega), Nat.add_sub_cancel]
  have hfb : ∀ k, k < w.heap.size → w'.heap[k]? = w.heap[k]? := fun k hk => hf.block k hk not_own_nil
  have split : ∀ b, Live m3 b → (b < L ∧ Live m b) ∨ ∃ d, b = d + L ∧ Live m' d := by
    rintro b ⟨x, hx, hdx⟩
    by_cases hb : b < L
    · rw [g1 b hb] at hx; exact .inl ⟨hb, x, hx, hdx⟩
    · obtain ⟨d, rfl⟩ : ∃ d, b = d + L := ⟨b - L, by omega⟩
      rw [g2] at hx
      obtain ⟨y, hy, rfl⟩ := Option.map_eq_some_iff.1 hx
      exact .inr ⟨d, rfl, y, hy, renB_dead hdx⟩
  have hO : ∀ k, k < w.heap.size → Own m3 ρ3 k → Own m ρ k := by
    rintro k hk ⟨b, hb, hbk⟩
    rcases split b hb with ⟨hlt, hl⟩ | ⟨d, rfl, hl⟩
    · rw [r1 b hlt] at hbk; exact ⟨b, hl, hbk⟩
    · rw [r2] at hbk; have := hnew d k hl hbk; omega
  have hN : ∀ k, k < w.heap.size → Mine c.M m3 ρ3 k → Mine c.M m ρ k := fun k hk h => h.imp id (hO k hk)
  have hmv : Mv (Own m ρ) w w' := ⟨hf.size, fun k hk _ => hfb k hk⟩
  have hr : ∀ b e es, m[b]? = some (.row e es) → ρ3 b = ρ b ∧ ∃ e' es', m3[b]? = some (.row e' es') ∧ es'.length = es.length ∧ ∀ sz, (∀ x ∈ es, x.length = sz) → ∀ x ∈ es', x.length = sz := by
    intro b e es hb
    have hlt : b < L := by rw [← hL]; exact lt_of_get hb
    exact ⟨r1 b hlt, e, es, by rw [g1 b hlt]; exact hb, rfl, fun _ h => h⟩
  have hv : ∀ b cs, m[b]? = some (.var cs) → ρ3 b = ρ b ∧ ∃ cs', m3[b]? = some (.var cs') := by
    intro b cs hb
    have hlt : b < L := by rw [← hL]; exact lt_of_get hb
    exact ⟨r1 b hlt, cs, by rw [g1 b hlt]; exact hb⟩
  have hcl' : (closed r = true ∧ closedM c.P m' = true) ∨ ∀ k, Mine c.M m3 ρ3 k → Mine Mc m' ρ' k := by
    rcases hcl with hcl | hcl
    · exact .inl (by simpa using hcl)
    · right
      rintro k (hM | ⟨b, hb, hbk⟩)
      · exact .inl (hcl k (.inl hM))
      · rcases split b hb with ⟨hlt, hl⟩ | ⟨d, rfl, hl⟩
        · rw [r1 b hlt] at hbk; exact .inl (hcl k (.inr ⟨b, hl, hbk⟩))
        · rw [r2] at hbk; exact .inr ⟨d, hl, hbk⟩
  have sr : ∀ b d e es, shift L b = some d → m'[b]? = some (.row e es) → m3[d]? = some (.row e es) ∧ ρ3 d = ρ' b := by
    intro b d e es h1 h2
    simp only [shift, Option.some.injEq] at h1
    subst h1
    exact ⟨by rw [g2, h2]; rfl, r2 b⟩
  have sv : ∀ b d cs, shift L b = some d → m'[b]? = some (.var cs) → (∃ cs', m3[d]? = some (.var cs')) ∧ ρ3 d = ρ' b := by
    intro b d cs h1 h2
    simp only [shift, Option.some.injEq] at h1
    subst h1
    exact ⟨⟨_, by rw [g2, h2]; rfl⟩, r2 b⟩
  have hsz : c.w0.heap.size ≤ w.heap.size := h.fr.size
  have base : Inv c tm m3 ρ3 a w' := by
    refine ⟨h.sz, h.df, fun t => (h.tm t).move hmv hO hN hr hv, fun b x hx => ?_, fun b b' k hb hb' hk hk' => ?_, fun b k hb hk => ?_, h.fr.step hf.os hf.tape hf.output hf.size (fun k hk _ => hfb k (by omega)), h.old, h.dis, ?_⟩
    · by_cases hlt : b < L
      · rw [g1 b hlt] at hx
        rw [r1 b hlt]
        exact (h.blk b x hx).move (fun k _ hk => hfb k hk) hmv hO hN hr hv
      · obtain ⟨d, rfl⟩ : ∃ d, b = d + L := ⟨b - L, by omega⟩
        rw [g2] at hx
        obtain ⟨y, hy, rfl⟩ := Option.map_eq_some_iff.1 hx
        rw [r2]
        exact (hmem.blk d y hy).ren (hcl'.imp (fun h => closedM_get h.2 hy) id) (fun e => by cases e) sr sv
    · rcases split b hb with ⟨h1, h2⟩ | ⟨d, rfl, h2⟩ <;> rcases split b' hb' with ⟨h3, h4⟩ | ⟨d', rfl, h4⟩
      · rw [r1 b h1] at hk; rw [r1 b' h3] at hk'; exact h.sep b b' k h2 h4 hk hk'
      · rw [r1 b h1] at hk; rw [r2] at hk'
        have := hnew d' k h4 hk'; have := h.lt h2 hk; omega
      · rw [r2] at hk; rw [r1 b' h3] at hk'
        have := hnew d k h2 hk; have := h.lt h4 hk'; omega
      · rw [r2] at hk hk'; rw [hmem.sep d d' k h2 h4 hk hk']
    · rcases split b hb with ⟨h1, h2⟩ | ⟨d, rfl, h2⟩
      · rw [r1 b h1] at hk; exact h.new b k h2 hk
      · rw [r2] at hk; have := hnew d k h2 hk; exact .inl (by omega)
    · have hl := h.ft.len
      refine ⟨by rw [← hm3, List.length_append]; omega, fun b cs hb hm => ?_, fun b e es hb hm => ?_, fun b hb hm => ?_⟩
      · rw [r1 b (by omega), g1 b (by omega)]; exact h.ft.var b cs hb hm
      · rw [r1 b (by omega), g1 b (by omega)]; exact h.ft.row b e es hb hm
      · rw [g1 b (by omega)]; exact h.ft.dead b hb hm
  exact base.put hd (hrep.ren (hcl'.imp (fun h => h.1) id) (fun e => by cases e) sr sv)
variable {lent : FuncId → Bool} {d : Option Tmp} {ty : TypeId} {pos : String} {af : Array Edge} {g : Option (Nat × Bool)} {k : Tm → Mem → Prop} {Q : Exit → Act → World → Prop}
/-- A function that is called by its value. -/
theorem enter_run {f : FuncId} {fo : Operand} {args : Array Operand} {ts : Array TypeId} {cv : Array Value} (hfo : a.eval fo = .func (.func f) #[] cv) (hb : ∃ fn co, P.funcs[f]? = some fn ∧ fn.body = some co ∧ (fn.name == "runtime.NumGoroutine") = false) (w : World) :
    (execOp a.eval ⟨d, .call { callee := .value fo, args := args, argTypes := ts }, ty, pos, af, g⟩).run P w = .ok (.enter f (args.map a.eval ++ cv)) w := by
  obtain ⟨fn, co, hfn, hbody, hname⟩ := hb
  simp [execOp, resolve, hfo, Deferred.ofValue, invoke, callFunc, hfn, hbody]
  simpa using hname
theorem fn_args (h : Inv c tm m ρ a w) {f : FuncId} {caps : List PV} {fo : Operand} (he : ev tm fo = .fn f caps) (args : Array Operand) : ∃ cv, a.eval fo = .func (.func f) #[] cv ∧ (args.toList.map (ev tm) ++ caps).length = (args.map a.eval ++ cv).size ∧ ∀ (i : Nat) (p : PV) (v : Value), (args.toList.map (ev tm) ++ caps)[i]? = some p → (args.map a.eval ++ cv)[i]? = some v → Rep c.M w m ρ p v := by
  have hx := h.ev fo
  rw [he] at hx
  generalize a.eval fo = vx at hx
  have key : ∃ cv, vx = .func (.func f) #[] cv ∧ caps.length = cv.size ∧ ∀ (i : Nat) (p : PV) (v : Value), caps[i]? = some p → cv[i]? = some v → Rep c.M w m ρ p v := by
    cases hx with
    | im hi => cases hi with
      | fn hl h1 => exact ⟨_, rfl, hl, fun i p v hp hv => .im (h1 i p v hp hv)⟩
    | fn hl h1 => exact ⟨_, rfl, hl, h1⟩
  obtain ⟨cv, rfl, hl, h1⟩ := key
  refine ⟨cv, rfl, by simp [hl], fun i p v hp hv => ?_⟩
  by_cases hi : i < args.size
  · rw [List.getElem?_append_left (by simpa using hi), List.getElem?_map] at hp
    rw [Array.getElem?_append_left (by simpa using hi), Array.getElem?_map] at hv
    obtain ⟨x, hx, rfl⟩ := Option.map_eq_some_iff.1 hp
    rw [Array.getElem?_toList] at hx
    rw [hx] at hv
    cases hv
    exact h.ev x
  · rw [List.getElem?_append_right (by simpa using hi)] at hp
    rw [Array.getElem?_append_right (by simpa using hi)] at hv
    exact h1 _ p v (by simpa using hp) (by simpa using hv)
theorem Fr.sub {S S' : Nat → Prop} {w w' : World} (h : Fr S w w') (hs : ∀ k, S k → S' k) : Fr S' w w' := ⟨h.os, h.tape, h.output, h.size, fun k hk hn => h.block k hk fun hh => hn (hs k hh)⟩
theorem Inv.stays (h : Inv c tm m ρ a w) (hf : Fr (fun _ => False) w w') : Inv c tm m ρ a w' := by
  have hmv : Mv (Own m ρ) w w' := ⟨hf.size, fun k hk _ => hf.block k hk fun h => h⟩
  have hr : ∀ b e es, m[b]? = some (.row e es) → ρ b = ρ b ∧ ∃ e' es', m[b]? = some (.row e' es') ∧ es'.length = es.length ∧ ∀ sz, (∀ x ∈ es, x.length = sz) → ∀ x ∈ es', x.length = sz := fun b e es hb => ⟨rfl, e, es, hb, rfl, fun _ h => h⟩
  have hv : ∀ b cs, m[b]? = some (.var cs) → ρ b = ρ b ∧ ∃ cs', m[b]? = some (.var cs') := fun b cs hb => ⟨rfl, cs, hb⟩
  exact ⟨h.sz, h.df, fun t => (h.tm t).move hmv (fun _ _ h => h) (fun _ _ h => h) hr hv, fun b x hx => (h.blk b x hx).move (fun k _ hk => hf.block k hk fun h => h) hmv (fun _ _ h => h) (fun _ _ h => h) hr hv, h.sep, h.new,
    h.fr.step hf.os hf.tape hf.output hf.size (fun k hk _ => hf.block k (Nat.lt_of_lt_of_le hk h.fr.size) fun h => h), h.old, h.dis, h.ft⟩
theorem mem_deepGo {m : Mem} {cs : List PV} {b b' : Nat} : ∀ {l : List Nat}, b ∈ l → m[b]? = some (.var cs) → b' ∈ idss cs → b' ∈ deepGo m l
  | x :: l, hb, hm, h => by
    rw [deepGo]
    rcases List.mem_cons.1 hb with rfl | hb
    · rw [hm]; exact List.mem_append_left _ h
    · exact List.mem_append_right _ (mem_deepGo hb hm h)
theorem s_callV {kp : Value → Tm → Mem → Prop} (hP : ∀ v a w, Then c (kp v) a w → Q (.panic [{ v := v, recovered := false }]) a w) (h : Inv c tm m ρ a w) (hd : ∀ t, d = some t → t < c.N) {f : FuncId} {fo : Operand} {caps : List PV} {args : Array Operand} {ts : Array TypeId} (he : ev tm fo = .fn f caps) (hs : callV c.P kp tm m d k f ((args.toList.map (ev tm) ++ caps).map (seen m)) (deep m (idss (args.toList.map (ev tm) ++ caps)))) : Oper.wp c.P ⟨d, .call { callee := .value fo, args := args, argTypes := ts }, ty, pos, af, g⟩ a w (Then c k) Q := by
  obtain ⟨cv, hfo, hlen, hargs⟩ := fn_args h he args
  generalize hps : args.toList.map (ev tm) ++ caps = ps at hs hlen hargs
  obtain ⟨hb, hcall⟩ := hs
  generalize hbs : deep m (idss ps) = bs at hcall
  have hc := hcall (Mine c.M (frzM bs m 0 m) ρ) w (args.map a.eval ++ cv) (fun _ => undef) (fun k hk => by
    rcases hk with hM | ⟨b, hb, hk⟩
    · have := h.old k hM; have := h.fr.size; omega
    · exact h.lt (frzM_live hb).1 hk) ⟨fun b x hx => by simp at hx, fun b b' k ⟨x, hx, _⟩ => by simp at hx, fun b k ⟨x, hx, _⟩ => by simp at hx⟩ (by simpa using hlen) (fun i p v hp hv => by
    rw [List.getElem?_map] at hp
    obtain ⟨x, hx, rfl⟩ := Option.map_eq_some_iff.1 hp
    refine h.seen (hargs i x v hx hv) (fun b hb => ?_)
    have hb' : b ∈ idss ps := mem_idss hx hb
    rw [← hbs]
    exact ⟨List.mem_append_left _ hb', fun cs hm b' hb2 => List.mem_append_right _ (mem_deepGo hb' hm hb2)⟩)
  unfold Oper.wp
  rw [enter_run hfo hb w, Oper.upon_enter]
  refine hc.mono fun e w' he => ?_
  rcases he with ⟨v, r, m', ρ', rfl, hq, hf, hrep, hmem, _, hnew⟩ | ⟨v, rfl, hR, hf⟩
  case inr =>
    show Q (.panic [{ v := v, recovered := false }]) a w'
    exact hP v a w' ⟨tm, m, ρ, hR, h.stays (hf.sub fun k hk => not_own_nil hk)⟩
  show Then c k (a.put d v) w'
  have hnew' : ∀ b k, Live m' b → own1 (ρ' b) = some k → w.heap.size ≤ k := fun b k hb hk => (hnew b k hb hk).resolve_right not_own_nil
  unfold landV at hq
  split at hq
  · rename_i hcl
    exact ⟨_, _, _, hq, h.join hf hrep hmem hnew' (.inl hcl) hd⟩
  · refine ⟨_, _, _, ?_, (h.frz bs).join hf hrep hmem hnew' (.inr fun k hk => hk) hd⟩
    rw [frzM_length]; exact hq
end
end Go.V
set_option linter.unusedVariables false
set_option linter.unusedSimpArgs false
namespace Go.V
open Go
theorem atLeast_get {n : Nat} : ∀ {l : List Nat}, atLeast n l = true → ∀ b ∈ l, n ≤ b
  | x :: l, h, b, hb => by
    simp only [atLeast, Bool.and_eq_true, decide_eq_true_eq] at h
    rcases List.mem_cons.1 hb with rfl | hb
    · exact h.1
    · exact atLeast_get h.2 b hb
theorem alive_get {P : Program} : ∀ {es : List Nat} {j0 : Nat} {m m' : Mem}, alive P j0 es m m' = true → ∀ {j b : Nat}, es[j]? = some b → (∃ cs cs', m[b]? = some (.var cs) ∧ m'[j0 + j]? = some (.var cs')) ∨ ∃ e x x', m[b]? = some (.row e x) ∧ m'[j0 + j]? = some (.row e x')
  | b0 :: es, j0, m, m', h, j, b, hj => by
    simp only [alive, Bool.and_eq_true] at h
    cases j with
    | zero =>
      simp at hj; subst hj
      have h1 := h.1
      split at h1
      · rename_i cs cs' e1 e2; exact .inl ⟨cs, cs', e1, e2⟩
      · rename_i e x e' x' e1 e2
        have : e = e' := by simpa using h1
        subst this
        exact .inr ⟨e, x, x', e1, e2⟩
      · cases h1
    | succ j =>
      have := alive_get h.2 (j := j) (b := b) (by simpa using hj)
      rwa [Nat.add_assoc, Nat.add_comm 1 j] at this
theorem setAll_length : ∀ (l : List (Nat × Blk)) (m : Mem), (setAll m l).length = m.length
  | [], m => rfl
  | (b, x) :: l, m => by rw [setAll, setAll_length l]; simp
theorem setAll_not : ∀ (l : List (Nat × Blk)) (m : Mem) (c : Nat), (∀ q ∈ l, q.1 ≠ c) → (setAll m l)[c]? = m[c]?
  | [], m, c, _ => rfl
  | (b, x) :: l, m, c, h => by
    rw [setAll, setAll_not l _ c (fun q hq => h q (List.mem_cons_of_mem _ hq)), List.getElem?_set_ne (h _ List.mem_cons_self)]
theorem setAll_at : ∀ (es : List Nat) (xs : List Blk) (m : Mem) (j b : Nat) (x : Blk), es.Nodup → es[j]? = some b → xs[j]? = some x → b < m.length → (setAll m (es.zip xs))[b]? = some x
  | b0 :: es, x0 :: xs, m, 0, b, x, hn, hb, hx, hl => by
    simp at hb hx; subst hb; subst hx
    rw [List.zip_cons_cons, setAll, setAll_not, List.getElem?_set_self hl]
    rintro ⟨c, y⟩ hq e
    simp only at e; subst e
    exact (List.nodup_cons.1 hn).1 (List.of_mem_zip hq).1
  | b0 :: es, x0 :: xs, m, j + 1, b, x, hn, hb, hx, hl => by
    rw [List.zip_cons_cons, setAll]
    exact setAll_at es xs _ j b x (List.nodup_cons.1 hn).2 (by simpa using hb) (by simpa using hx) (by simpa using hl)
  | [], xs, m, j, b, x, hn, hb, hx, hl => by simp at hb
  | b0 :: es, [], m, j, b, x, hn, hb, hx, hl => by simp at hx
theorem wipeAllM_length : ∀ (l : List Nat) (m : Mem), (wipeAllM m l).length = m.length
  | [], m => rfl
  | b :: l, m => by rw [wipeAllM, wipeAllM_length l, wipeM_length]
/-- Wiped of several places. -/
def wipes : List Nat → PV → PV
  | [], p => p
  | b :: l, p => wipes l (wipe1 b p)
theorem wipeAllT_get : ∀ (l : List Nat) (tm : Tm) (t : Nat), get (wipeAllT tm l) t = wipes l (get tm t)
  | [], tm, t => rfl
  | b :: l, tm, t => by rw [wipeAllT, wipeAllT_get l, get_wipeT, wipes]
theorem wipeAllM_get : ∀ (l : List Nat) (m : Mem) (c : Nat), (wipeAllM m l)[c]? = (m[c]?).map fun
    | .var cs => .var (cs.map (wipes l))
    | x => x
  | [], m, c => by
    rw [wipeAllM]
    cases m[c]? with
    | none => rfl
    | some x => cases x <;> simp [wipes]
  | b :: l, m, c => by
    rw [wipeAllM, wipeAllM_get l, wipeM_get]
    cases m[c]? with
    | none => rfl
    | some x => cases x <;> simp [wipes]
theorem wipes_any : ∀ l : List Nat, wipes l .any = .any
  | [] => rfl
  | b :: l => by rw [wipes, wipe1, tr, wipes_any l]
theorem wipes_own : ∀ (l : List Nat) (b : Nat), wipes l (.own b) = if b ∈ l then .any else .own b
  | [], b => by simp [wipes]
  | c :: l, b => by
    rw [wipes, wipe1, tr]
    by_cases h : b = c
    · subst h; rw [if_pos rfl, wipes_any, if_pos (by simp)]
    · rw [if_neg h, wipes_own l b]; simp [h]
theorem wipes_osl : ∀ (l : List Nat) (b x y : Nat), wipes l (.osl b x y) = if b ∈ l then .any else .osl b x y
  | [], b, x, y => by simp [wipes]
  | c :: l, b, x, y => by
    rw [wipes, wipe1, tr]
    by_cases h : b = c
    · subst h; rw [if_pos rfl, wipes_any, if_pos (by simp)]
    · rw [if_neg h, wipes_osl l b]; simp [h]
theorem wipes_ead : ∀ (l : List Nat) (b x y : Nat), wipes l (.ead b x y) = if b ∈ l then .any else .ead b x y
  | [], b, x, y => by simp [wipes]
  | c :: l, b, x, y => by
    rw [wipes, wipe1, tr]
    by_cases h : b = c
    · subst h; rw [if_pos rfl, wipes_any, if_pos (by simp)]
    · rw [if_neg h, wipes_ead l b]; simp [h]
theorem wipes_adr : ∀ (l : List Nat) (b x : Nat), wipes l (.adr b x) = .adr b x
  | [], b, x => rfl
  | c :: l, b, x => by rw [wipes, wipe1, tr, wipes_adr l]
theorem wipes_cad : ∀ (l : List Nat) (x : List PV), wipes l (.cad x) = .cad x
  | [], x => rfl
  | c :: l, x => by rw [wipes, wipe1, tr, wipes_cad l]
theorem wipes_agg : ∀ (l : List Nat) (x : List PV), wipes l (.agg x) = .agg (x.map (wipes l))
  | [], x => by simp [wipes]
  | c :: l, x => by rw [wipes, wipe1, tr, trs_map, wipes_agg l, List.map_map]; rfl
theorem wipes_tup : ∀ (l : List Nat) (x : List PV), wipes l (.tup x) = .tup (x.map (wipes l))
  | [], x => by simp [wipes]
  | c :: l, x => by rw [wipes, wipe1, tr, trs_map, wipes_tup l, List.map_map]; rfl
theorem wipes_fn (f : FuncId) : ∀ (l : List Nat) (x : List PV), wipes l (.fn f x) = .fn f (x.map (wipes l))
  | [], x => by simp [wipes]
  | c :: l, x => by rw [wipes, wipe1, tr, trs_map, wipes_fn f l, List.map_map]; rfl
theorem Im.wipes_eq {w : World} {N : Nat → Prop} {p : PV} {v : Value} (h : Im w N p v) : ∀ l : List Nat, wipes l p = p
  | [] => rfl
  | b :: l => by rw [wipes, wipe1, h.tr_eq, h.wipes_eq l]
section
variable {c : Cx} {P : Program} {M M2 : Nat → Prop} {w w' : World} {tm : Tm} {m m' m2 : Mem} {ρ ρ' ρ2 : Nat → Value} {a : Act}
/-- The same thing behind a call, but for what is wiped. -/
theorem Rep.wiped {ds : List Nat} {p : PV} {v : Value} (h : Rep M w m ρ p v) (hm : Mv (Own m ρ) w w') (hO : ∀ k, k < w.heap.size → Own m2 ρ2 k → Own m ρ k) (hN : ∀ k, k < w.heap.size → Mine M2 m2 ρ2 k → Mine M m ρ k)
    (hr : ∀ b e es, b ∉ ds → m[b]? = some (.row e es) → ρ2 b = ρ b ∧ ∃ e' es', m2[b]? = some (.row e' es') ∧ es'.length = es.length ∧ ∀ sz, (∀ x ∈ es, x.length = sz) → ∀ x ∈ es', x.length = sz)
    (hv : ∀ b cs, m[b]? = some (.var cs) → ρ2 b = ρ b ∧ ∃ cs', m2[b]? = some (.var cs')) : Rep M2 w' m2 ρ2 (wipes ds p) v := by
  induction h with
  | im h => rw [h.wipes_eq]; exact .im (h.move hm.mine hN)
  | own h =>
    rw [wipes_own]
    split
    · exact .im .any
    · rename_i hd
      obtain ⟨h1, _, _, h2, _⟩ := hr _ _ _ hd h; rw [← h1]; exact .own h2
  | osl0 h hl hg =>
    rw [wipes_osl]
    split
    · exact .im .any
    · rename_i hd
      obtain ⟨h1, _, _, h2, h3, _⟩ := hr _ _ _ hd h; exact .osl0 h2 (by omega) (h1.trans hg)
  | osl h h0 hl hh hc hx hs hg =>
    rw [wipes_osl]
    split
    · exact .im .any
    · rename_i hd
      obtain ⟨h1, _, _, h2, h3, h4⟩ := hr _ _ _ hd h; exact .osl h2 h0 hl (by omega) hc hx (h4 _ hs) ⟨hg.1, h1.trans hg.2.1, hg.2.2⟩
  | adr h hg => rw [wipes_adr]; obtain ⟨h1, _, h2⟩ := hv _ _ h; exact .adr h2 (h1.trans hg)
  | ead h hi hs hg =>
    rw [wipes_ead]
    split
    · exact .im .any
    · rename_i hd
      obtain ⟨h1, _, _, h2, h3, h4⟩ := hr _ _ _ hd h; exact .ead h2 (by omega) (h4 _ hs) (h1.trans hg)
  | cad u h hi => rw [wipes_cad]; exact (Rep.cad u h hi).cad_move hm hO hN
  | agg hl _ h1 ih =>
    rw [wipes_agg]
    refine .agg (by simpa using hl) (fun i p v hp hv => ?_) h1
    rw [List.getElem?_map] at hp
    obtain ⟨q, hq, rfl⟩ := Option.map_eq_some_iff.1 hp
    exact ih i q v hq hv
  | tup hl _ ih =>
    rw [wipes_tup]
    refine .tup (by simpa using hl) (fun i p v hp hv => ?_)
    rw [List.getElem?_map] at hp
    obtain ⟨q, hq, rfl⟩ := Option.map_eq_some_iff.1 hp
    exact ih i q v hq hv
  | fn hl _ ih =>
    rw [wipes_fn]
    refine .fn (by simpa using hl) (fun i p v hp hv => ?_)
    rw [List.getElem?_map] at hp
    obtain ⟨q, hq, rfl⟩ := Option.map_eq_some_iff.1 hp
    exact ih i q v hq hv
theorem nodup_at {l : List Nat} (hn : l.Nodup) {i j b : Nat} (hi : l[i]? = some b) (hj : l[j]? = some b) : i = j := by
  have l1 := lt_of_get hi
  have l2 := lt_of_get hj
  rw [List.getElem?_eq_getElem l1] at hi
  rw [List.getElem?_eq_getElem l2] at hj
  exact nodup_inj hn l1 l2 ((Option.some.inj hi).trans (Option.some.inj hj).symm)
theorem lentTo_nodup (m : Mem) (ps : List PV) : (lentTo m ps).Nodup := by
  obtain ⟨h1, _⟩ := dd_spec (idss ps) [] (by simp)
  exact (dd_spec (cellIds m (dd [] (idss ps))) _ h1).1
variable {d : Option Tmp} {ty : TypeId} {pos' : String} {af : Array Edge} {g : Option (Nat × Bool)} {k : Tm → Mem → Prop} {Q : Exit → Act → World → Prop}
theorem s_callM (h : Inv c tm m ρ a w) (hd : ∀ t, d = some t → t < c.N) {f : FuncId} {fo : Operand} {caps : List PV} {args : Array Operand} {ts : Array TypeId} (he : ev tm fo = .fn f caps) (hs : callM c.P c.np tm m d k f (args.toList.map (ev tm) ++ caps)) : Oper.wp c.P ⟨d, .call { callee := .value fo, args := args, argTypes := ts }, ty, pos', af, g⟩ a w (Then c k) Q := by
  obtain ⟨cv, hfo, hlen, hargs⟩ := fn_args h he args
  generalize hps : args.toList.map (ev tm) ++ caps = ps at hs hlen hargs
  obtain ⟨hnp, hcall⟩ := hs
  have hb := hcall.1
  have hnd := lentTo_nodup m ps
  generalize hes : lentTo m ps = es at hnp hcall hnd
  generalize hnpl : (dd [] (idss ps)).length = np at hnp hcall
  have hn0 : 0 ≤ m.length := Nat.zero_le _
  generalize hmf : canonM 0 m es true = mf at hcall
  have hor : ∀ (j b : Nat), es[j]? = some b → orig 0 es j = b := fun j b hj => by
    unfold orig; rw [if_neg (by omega), Nat.sub_zero, List.getD_eq_getElem?_getD, hj]; rfl
  have hmfg : ∀ j : Nat, mf[j]? = (es[j]?).map fun b => renB (pos 0 es) true (m[b]?.getD .dead) := fun j => by
    rw [← hmf, canonM_get hn0, if_neg (by omega), Nat.sub_zero]
  have hmfl : mf.length = es.length := by rw [← hmf]; simp [canonM]
  let ρf : Nat → Value := fun j => ρ (orig 0 es j)
  let Mf : Nat → Prop := fun k => c.M k ∨ ∃ b, Live m b ∧ b ∉ es ∧ own1 (ρ b) = some k
  have hflive : ∀ j, Live mf j → ∃ b : Nat, es[j]? = some b ∧ Live m b := by
    rintro j ⟨y, hy, hyd⟩
    rw [hmfg] at hy
    obtain ⟨b, hb, rfl⟩ := Option.map_eq_some_iff.1 hy
    refine ⟨b, hb, ?_⟩
    cases hmb : m[b]? with
    | none => rw [hmb] at hyd; exact absurd rfl hyd
    | some x => rw [hmb] at hyd; exact ⟨x, hmb, renB_dead hyd⟩
  have hOf : ∀ k, Own mf ρf k → ∃ (j b : Nat), es[j]? = some b ∧ Live m b ∧ own1 (ρ b) = some k := by
    rintro k ⟨j, hj, hk⟩
    obtain ⟨b, hb, hl⟩ := hflive j hj
    refine ⟨j, b, hb, hl, ?_⟩
    simp only [ρf, hor j b hb] at hk; exact hk
  have hOf' : ∀ k, Own mf ρf k → Own m ρ k := fun k hk => let ⟨_, b, _, h1, h2⟩ := hOf k hk; ⟨b, h1, h2⟩
  have hNf : ∀ k, Mine Mf mf ρf k → Mine c.M m ρ k := by
    rintro k ((hM | ⟨b, h1, _, h2⟩) | ho)
    · exact .inl hM
    · exact .inr ⟨b, h1, h2⟩
    · exact .inr (hOf' k ho)
  have fr1 : ∀ b d e es', V.pos 0 es b = some d → m[b]? = some (.row e es') → mf[d]? = some (.row e es') ∧ ρf d = ρ b := by
    intro b d e es' h1 h2
    obtain ⟨h3, h4⟩ := pos_at (kc := true) hn0 h1 h2
    exact ⟨by rw [← hmf]; exact h3, by simp only [ρf, h4]⟩
  have fv1 : ∀ b d cs, V.pos 0 es b = some d → m[b]? = some (.var cs) → (∃ cs', mf[d]? = some (.var cs')) ∧ ρf d = ρ b := by
    intro b d cs h1 h2
    obtain ⟨h3, h4⟩ := pos_at (kc := true) hn0 h1 h2
    exact ⟨⟨_, by rw [← hmf]; exact h3⟩, by simp only [ρf, h4]⟩
  have hc := Does.run hcall (M := Mf) (w := w) (vs := args.map a.eval ++ cv) (ρ := ρf) (fun k hk => by
    rcases hk with hM | ⟨b, hb, _, hk⟩
    · have := h.old k hM; have := h.fr.size; omega
    · exact h.lt hb hk) ⟨fun j y hy => ?blk, fun j j' k hj hj' hk hk' => ?sep, fun j k hj hk => ?out⟩ (by simpa using hlen) (fun i p v hp hv => by
    rw [List.getElem?_map] at hp
    obtain ⟨x, hx, rfl⟩ := Option.map_eq_some_iff.1 hp
    exact (hargs i x v hx hv).ren (.inr hNf) (fun _ => ⟨hOf', hNf⟩) fr1 fv1)
  case blk =>
    rw [hmfg] at hy
    obtain ⟨b, hb, rfl⟩ := Option.map_eq_some_iff.1 hy
    have : ρf j = ρ b := by simp only [ρf, hor j b hb]
    rw [this]
    cases hmb : m[b]? with
    | none => exact .dead
    | some x => exact (h.blk b x hmb).ren (.inr hNf) (fun _ => ⟨hOf', hNf⟩) fr1 fv1
  case sep =>
    obtain ⟨b, hb, hl⟩ := hflive j hj
    obtain ⟨b', hb', hl'⟩ := hflive j' hj'
    simp only [ρf, hor j b hb] at hk
    simp only [ρf, hor j' b' hb'] at hk'
    have := h.sep b b' k hl hl' hk hk'
    subst this
    exact nodup_at hnd hb hb'
  case out =>
    obtain ⟨b, hb, hl⟩ := hflive j hj
    simp only [ρf, hor j b hb] at hk
    rintro (hM | ⟨b', hl', hn', hk'⟩)
    · exact h.out hl hk hM
    · have := h.sep b b' k hl hl' hk hk'
      subst this
      exact hn' (List.mem_of_getElem? hb)
  unfold Oper.wp
  rw [enter_run hfo hb w, Oper.upon_enter]
  refine hc.mono fun e w' he => ?_
  obtain ⟨v, r, m', ρ', rfl, ⟨hal, hq⟩, hf, hrep, hmem, hft, hnew⟩ := he
  show Then c k (a.put d v) w'
  generalize hL : m.length = L at hq
  have hm'l : es.length ≤ m'.length := by rw [← hmfl]; exact hft.len
  generalize hm3 : setAll (wipeAllM m (es.drop np)) (es.zip (m'.map (renB (backN es L) false))) ++ (m'.drop es.length).map (renB (backN es L) false) = m3 at hq
  have esL : ∀ (j b : Nat), es[j]? = some b → b < L := fun j b hj => by
    rcases alive_get hal hj with ⟨_, _, h1, _⟩ | ⟨_, _, _, h1, _⟩ <;> (rw [← hL]; exact lt_of_get h1)
  have hsl : (setAll (wipeAllM m (es.drop np)) (es.zip (m'.map (renB (backN es L) false)))).length = L := by rw [setAll_length, wipeAllM_length, hL]
  let ρ3 : Nat → Value := fun b => match es.idxOf? b with
    | some j => ρ' j
    | none => if b < L then ρ b else ρ' (es.length + (b - L))
  have idx_in : ∀ (j b : Nat), es[j]? = some b → es.idxOf? b = some j := fun j b hj => by
    cases hx : es.idxOf? b with
    | none => rw [List.idxOf?_eq_none_iff] at hx; exact absurd (List.mem_of_getElem? hj) hx
    | some i => rw [nodup_at hnd (idxOf?_get es b i hx) hj]
  have r_in : ∀ (j b : Nat), es[j]? = some b → ρ3 b = ρ' j := fun j b hj => by simp only [ρ3, idx_in j b hj]
  have idx_out : ∀ b, b ∉ es → es.idxOf? b = none := fun b hb => List.idxOf?_eq_none_iff.2 hb
  have r_old : ∀ b, b ∉ es → b < L → ρ3 b = ρ b := fun b hb hl => by simp only [ρ3, idx_out b hb, if_pos hl]
  have r_new : ∀ i, ρ3 (L + i) = ρ' (es.length + i) := fun i => by
    have : L + i ∉ es := fun hm => by
      obtain ⟨j, hj⟩ := List.getElem?_of_mem hm
      have := esL j _ hj; omega
    simp only [ρ3, idx_out _ this]
    rw [if_neg (by omega), Nat.add_sub_cancel_left]
  have g_in : ∀ (j b : Nat) (y : Blk), es[j]? = some b → m'[j]? = some y → m3[b]? = some (renB (backN es L) false y) := fun j b y hj hy => by
    have hb := esL j b hj
    rw [← hm3, List.getElem?_append_left (by rw [hsl]; exact hb)]
    exact setAll_at es _ _ j b _ hnd hj (by rw [List.getElem?_map, hy]; rfl) (by rw [wipeAllM_length, hL]; exact hb)
  have g_old : ∀ b, b ∉ es → b < L → m3[b]? = (m[b]?).map fun
    | .var cs => .var (cs.map (wipes (es.drop np)))
    | x => x := fun b hb hl => by
    rw [← hm3, List.getElem?_append_left (by rw [hsl]; exact hl), setAll_not _ _ b (fun q hq e => hb (by rw [← e]; exact (List.of_mem_zip (show (q.1, q.2) ∈ _ from hq)).1)), wipeAllM_get]
  have g_new : ∀ i, m3[L + i]? = (m'[es.length + i]?).map (renB (backN es L) false) := fun i => by
    rw [← hm3, List.getElem?_append_right (by rw [hsl]; omega), hsl, Nat.add_sub_cancel_left, List.getElem?_map, List.getElem?_drop]
  -- where a live place of m3 comes from
  have from3 : ∀ b, Live m3 b → (b ∉ es ∧ b < L ∧ Live m b ∧ ρ3 b = ρ b) ∨ ∃ i : Nat, Live m' i ∧ ρ3 b = ρ' i ∧ ((es[i]? = some b) ∨ ∃ q, i = es.length + q ∧ b = L + q) := by
    rintro b ⟨y, hy, hyd⟩
    by_cases hbe : b ∈ es
    · obtain ⟨j, hj⟩ := List.getElem?_of_mem hbe
      have hjl : j < m'.length := by have := lt_of_get hj; omega
      have hy' := g_in j b _ hj (List.getElem?_eq_getElem hjl)
      rw [hy] at hy'
      cases hy'
      exact .inr ⟨j, ⟨_, List.getElem?_eq_getElem hjl, renB_dead hyd⟩, r_in j b hj, .inl hj⟩
    · by_cases hl : b < L
      · rw [g_old b hbe hl] at hy
        obtain ⟨x, hx, rfl⟩ := Option.map_eq_some_iff.1 hy
        exact .inl ⟨hbe, hl, ⟨x, hx, fun e => by subst e; exact hyd rfl⟩, r_old b hbe hl⟩
      · obtain ⟨q, rfl⟩ : ∃ q, b = L + q := ⟨b - L, by omega⟩
        rw [g_new] at hy
        obtain ⟨x, hx, rfl⟩ := Option.map_eq_some_iff.1 hy
        exact .inr ⟨es.length + q, ⟨x, hx, renB_dead hyd⟩, r_new q, .inr ⟨q, rfl, rfl⟩⟩
  have hO3 : ∀ k, k < w.heap.size → Own m3 ρ3 k → Own m ρ k := by
    rintro k hk ⟨b, hb, hbk⟩
    rcases from3 b hb with ⟨_, _, h1, h2⟩ | ⟨i, h1, h2, _⟩
    · rw [h2] at hbk; exact ⟨b, h1, hbk⟩
    · rw [h2] at hbk
      rcases hnew i k h1 hbk with h3 | h3
      · omega
      · exact hOf' k h3
  have hN3 : ∀ k, k < w.heap.size → Mine c.M m3 ρ3 k → Mine c.M m ρ k := fun k hk h => h.imp id (hO3 k hk)
  have hmv : Mv (Own m ρ) w w' := hf.mv.mono hOf'
  have hNb : ∀ k, Mine c.M m3 ρ3 k → Mine Mf m' ρ' k := by
    rintro k (hM | ⟨b, hb, hbk⟩)
    · exact .inl (.inl hM)
    · rcases from3 b hb with ⟨h0, _, h1, h2⟩ | ⟨i, h1, h2, _⟩
      · rw [h2] at hbk; exact .inl (.inr ⟨b, h1, h0, hbk⟩)
      · rw [h2] at hbk; exact .inr ⟨i, h1, hbk⟩
  have hrow : ∀ (j b : Nat) (e : TypeId) (es0 : List (List PV)), es[j]? = some b → m[b]? = some (.row e es0) → ∃ es1, m'[j]? = some (.row e es1) ∧ m3[b]? = some (.row e es1) := by
    intro j b e es0 hj hm
    rcases alive_get hal hj with ⟨_, _, h1, _⟩ | ⟨e', x, x', h1, h2⟩
    · rw [hm] at h1; cases h1
    · rw [hm] at h1; cases h1
      rw [Nat.zero_add] at h2
      exact ⟨x', h2, g_in j b _ hj h2⟩
  have hr3 : ∀ b e es0, b ∉ es.drop np → m[b]? = some (.row e es0) → ρ3 b = ρ b ∧ ∃ e' es', m3[b]? = some (.row e' es') ∧ es'.length = es0.length ∧ ∀ sz, (∀ x ∈ es0, x.length = sz) → ∀ x ∈ es', x.length = sz := by
    intro b e es0 hbd hm
    by_cases hbe : b ∈ es
    · obtain ⟨j, hj⟩ := List.getElem?_of_mem hbe
      have hjnp : j < np := by
        rcases Nat.lt_or_ge j np with h1 | h1
        · exact h1
        · refine absurd ?_ hbd
          have : (es.drop np)[j - np]? = some b := by rw [List.getElem?_drop, ← hj]; congr 1; omega
          exact List.mem_of_getElem? this
      obtain ⟨es1, h1, h2⟩ := hrow j b e es0 hj hm
      have hjl := lt_of_get hj
      have hmfj : mf[j]? = some (.row e es0) := by rw [hmfg, hj, Option.map_some, hm]; rfl
      have hρ : ρ' j = ρ b := by
        rcases hft.row j e es0 (by simp only [hmfl]; exact hjl) hmfj with h3 | ⟨h3, _⟩
        · rw [h1] at h3; cases h3
        · rw [h3 hjnp]; simp only [ρf, hor j b hj]
      refine ⟨(r_in j b hj).trans hρ, e, es1, h2, ?_⟩
      have hk1 := hmem.blk j _ h1
      have hk0 := h.blk b _ hm
      rw [hρ] at hk1
      generalize ρ b = vb at hk0 hk1
      cases hk0 with
      | row hi hz hzs h0 hby hlen ho hs hfl hx h1' =>
        cases hk1 with
        | row hi2 hz2 hzs2 h02 hby2 hlen2 ho2 hs2 hfl2 hx2 h12 =>
          rw [hi] at hi2; cases hi2
          have hle : es1.length = es0.length := by
            rcases ho.2 with ⟨e1, e2⟩ | ⟨g, cap, cur, e1, _⟩ <;> rcases ho2.2 with ⟨e3, e4⟩ | ⟨g', cap', cur', e3, _⟩
            · omega
            · rw [e1] at e3; cases e3
            · rw [e1] at e3; cases e3
            · rw [e1] at e3; injection e3 with _ e5 _; exact e5.symm
          refine ⟨hle, fun sz hsz x hxm => ?_⟩
          cases es0 with
          | nil => have hnil : es1 = [] := List.eq_nil_of_length_eq_zero hle
                   subst hnil; cases hxm
          | cons y l => rw [hs2 x hxm, ← hs y List.mem_cons_self, hsz y List.mem_cons_self]
    · have hlt : b < L := by rw [← hL]; exact lt_of_get hm
      exact ⟨r_old b hbe hlt, e, es0, by rw [g_old b hbe hlt, hm]; rfl, rfl, fun _ h => h⟩
  have hv3 : ∀ b cs, m[b]? = some (.var cs) → ρ3 b = ρ b ∧ ∃ cs', m3[b]? = some (.var cs') := by
    intro b cs hm
    by_cases hbe : b ∈ es
    · obtain ⟨j, hj⟩ := List.getElem?_of_mem hbe
      have hmfj : mf[j]? = some (.var (cs.map (V.ren (V.pos 0 es) true))) := by rw [hmfg, hj, Option.map_some, hm]; rfl
      obtain ⟨h1, cs', h2⟩ := hft.var j _ (by simp only [hmfl]; exact lt_of_get hj) hmfj
      exact ⟨by rw [r_in j b hj, h1]; simp only [ρf, hor j b hj], _, g_in j b _ hj h2⟩
    · have hlt : b < L := by rw [← hL]; exact lt_of_get hm
      exact ⟨r_old b hbe hlt, _, by rw [g_old b hbe hlt, hm]; rfl⟩
  have back_at : ∀ i d, backN es L i = some d → i < m'.length → (es[i]? = some d) ∨ ∃ q, i = es.length + q ∧ d = L + q := by
    intro i d hbk _
    unfold backN at hbk
    split at hbk
    · exact .inl hbk
    · simp only [Option.some.injEq] at hbk
      exact .inr ⟨i - es.length, by omega, by omega⟩
  have sr : ∀ i d e x, backN es L i = some d → m'[i]? = some (.row e x) → m3[d]? = some (.row e x) ∧ ρ3 d = ρ' i := by
    intro i d e x h1 h2
    rcases back_at i d h1 (lt_of_get h2) with h3 | ⟨q, rfl, rfl⟩
    · exact ⟨g_in i d _ h3 h2, r_in i d h3⟩
    · exact ⟨by rw [g_new, h2]; rfl, r_new q⟩
  have sv : ∀ i d cs, backN es L i = some d → m'[i]? = some (.var cs) → (∃ cs', m3[d]? = some (.var cs')) ∧ ρ3 d = ρ' i := by
    intro i d cs h1 h2
    rcases back_at i d h1 (lt_of_get h2) with h3 | ⟨q, rfl, rfl⟩
    · exact ⟨⟨_, g_in i d _ h3 h2⟩, r_in i d h3⟩
    · exact ⟨⟨_, by rw [g_new, h2]; rfl⟩, r_new q⟩
  have hrep3 : ∀ p v, Rep c.M w m ρ p v → Rep c.M w' m3 ρ3 (wipes (es.drop np) p) v := fun p v hp => hp.wiped hmv hO3 hN3 hr3 hv3
  have hsz : c.w0.heap.size ≤ w.heap.size := h.fr.size
  have keepB : ∀ b, b ∉ es → Live m b → ∀ k, own1 (ρ b) = some k → k < w.heap.size → w'.heap[k]? = w.heap[k]? := fun b hb hl k hk hlt => hf.block k hlt fun ho => by
    obtain ⟨j, b', h1, h2, h3⟩ := hOf k ho
    obtain rfl := h.sep b b' k hl h2 hk h3
    exact hb (List.mem_of_getElem? h1)
  have base : Inv c (wipeAllT tm (es.drop np)) m3 ρ3 a w' := by
    refine ⟨h.sz, h.df, fun t => by rw [wipeAllT_get]; exact hrep3 _ _ (h.tm t), fun b y hy => ?_, fun b b' k hb hb' hk hk' => ?_, fun b k hb hk => ?_, h.fr.step hf.os hf.tape hf.output hf.size (fun k hk hS => hf.block k (by omega) fun ho => ?_), h.old, h.dis, ?_⟩
    · by_cases hyd : y = .dead
      · subst hyd; exact .dead
      rcases from3 b ⟨y, hy, hyd⟩ with ⟨hbe, hl, hlive, hρ⟩ | ⟨i, hlive, hρ, hor'⟩
      · rw [g_old b hbe hl] at hy
        obtain ⟨x, hx, rfl⟩ := Option.map_eq_some_iff.1 hy
        have hok := h.blk b x hx
        have hkb := keepB b hbe hlive
        rw [hρ]
        generalize ρ b = vb at hok hkb
        cases x with
        | dead => exact .dead
        | var cs =>
          cases hok with
          | var hgv hl' hj h1v =>
            refine .var ((hkb _ rfl (Array.getElem?_eq_some_iff.1 hgv).1).trans hgv) (by simpa using hl') (fun j p v hp hv => ?_) h1v
            rw [List.getElem?_map] at hp
            obtain ⟨q, hq, rfl⟩ := Option.map_eq_some_iff.1 hp
            exact hrep3 _ _ (hj j q v hq hv)
        | row e es' =>
          cases hok with
          | row hinf hz hzs h0 hby hlen ho hsz hfl hx h1 =>
            exact .row hinf hz hzs h0 hby hlen (ownsRow_move ho hkb) hsz hfl (fun q j x p hq hj => let ⟨u, h2, h3⟩ := hx q j x p hq hj; ⟨u, h2, h3.move hmv.mine hN3⟩) h1
      · obtain ⟨x, hx, hxd⟩ := hlive
        have hy3 : m3[b]? = some (renB (backN es L) false x) := by
          rcases hor' with h3 | ⟨q, rfl, rfl⟩
          · exact g_in i b x h3 hx
          · rw [g_new, hx]; rfl
        rw [hy] at hy3
        cases hy3
        rw [hρ]
        exact (hmem.blk i x hx).ren (.inr hNb) (fun e => by cases e) sr sv
    · rcases from3 b hb with ⟨h1, h2, h3, h4⟩ | ⟨i, h3, h4, h5⟩ <;> rcases from3 b' hb' with ⟨h1', h2', h3', h4'⟩ | ⟨i', h3', h4', h5'⟩
      · rw [h4] at hk; rw [h4'] at hk'; exact h.sep b b' k h3 h3' hk hk'
      · rw [h4] at hk; rw [h4'] at hk'
        exact absurd (.inr ⟨b, h3, h1, hk⟩) (hmem.out i' k h3' hk')
      · rw [h4] at hk; rw [h4'] at hk'
        exact absurd (.inr ⟨b', h3', h1', hk'⟩) (hmem.out i k h3 hk)
      · rw [h4] at hk; rw [h4'] at hk'
        have := hmem.sep i i' k h3 h3' hk hk'
        subst this
        rcases h5 with h5 | ⟨q, e1, rfl⟩ <;> rcases h5' with h5' | ⟨q', e1', rfl⟩
        · rw [h5] at h5'; exact Option.some.inj h5'
        · have := lt_of_get h5; omega
        · have := lt_of_get h5'; omega
        · omega
    · rcases from3 b hb with ⟨_, _, h3, h4⟩ | ⟨i, h3, h4, _⟩
      · rw [h4] at hk; exact h.new b k h3 hk
      · rw [h4] at hk
        rcases hnew i k h3 hk with h5 | h5
        · exact .inl (by omega)
        · obtain ⟨j, b', _, h6, h7⟩ := hOf k h5
          exact h.new b' k h6 h7
    · obtain ⟨j, b', _, h6, h7⟩ := hOf k ho
      rcases h.new b' k h6 h7 with h8 | h8
      · omega
      · exact hS h8
    · have hlen3 : L ≤ m3.length := by rw [← hm3, List.length_append, hsl]; omega
      have hn := h.ft.len
      refine ⟨by omega, fun b cs hb hm => ?_, fun b e es0 hb hm => ?_, fun b hb hm => ?_⟩
      · obtain ⟨h1, cs', h2⟩ := h.ft.var b cs hb hm
        obtain ⟨h3, h4⟩ := hv3 b cs' h2
        exact ⟨h3.trans h1, h4⟩
      · rcases h.ft.row b e es0 hb hm with h1 | ⟨h1, e', es', h2⟩
        · left
          have hbe : b ∉ es := fun hbe => by
            obtain ⟨j, hj⟩ := List.getElem?_of_mem hbe
            rcases alive_get hal hj with ⟨_, _, h3, _⟩ | ⟨_, _, _, h3, _⟩ <;> (rw [h1] at h3; cases h3)
          rw [g_old b hbe (by omega), h1]; rfl
        · right
          by_cases hbd : b ∈ es.drop np
          · have := atLeast_get hnp b hbd
            obtain ⟨j, hj⟩ := List.getElem?_of_mem (List.mem_of_mem_drop hbd)
            obtain ⟨es1, _, h3⟩ := hrow j b e' es' hj h2
            exact ⟨fun hlt => by omega, e', es1, h3⟩
          · obtain ⟨h3, e2, es2, h4, _⟩ := hr3 b e' es' hbd h2
            exact ⟨fun hlt => h3.trans (h1 hlt), e2, es2, h4⟩
      · have h1 := h.ft.dead b hb hm
        have hbe : b ∉ es := fun hbe => by
          obtain ⟨j, hj⟩ := List.getElem?_of_mem hbe
          rcases alive_get hal hj with ⟨_, _, h3, _⟩ | ⟨_, _, _, h3, _⟩ <;> (rw [h1] at h3; cases h3)
        rw [g_old b hbe (by omega), h1]; rfl
  exact ⟨_, _, _, hq, base.put hd (hrep.ren (.inr hNb) (fun e => by cases e) sr sv)⟩
end
end Go.V
