import Derived.Lib.AppendZeros
import Derived.ArgAppend
import Derived.Test.YtfmhmlijnidflaaV6
set_option linter.unusedVariables false
set_option linter.unusedSimpArgs false
namespace Go.V
open Go
section
variable {c : Cx} {P : Program} {M M' : Nat → Prop} {w0 w w' : World} {S : Nat → Prop} {N : Nat} {tm : Tm} {m m' : Mem} {ρ ρ' : Nat → Value} {a : Act}
theorem Rep.own' {b : Nat} {e : TypeId} {es : List (List PV)} {v : Value} (h : m[b]? = some (.row e es)) (hv : ρ b = v) : Rep M w m ρ (.own b) v := by subst hv; exact .own h
theorem wipeM_get (b : Nat) : ∀ (l : Mem) (c : Nat), (wipeM b l)[c]? = (l[c]?).map fun
    | .var cs => .var (cs.map (wipe1 b))
    | x => x
  | [], c => by simp [wipeM]
  | .var cs :: l, 0 => by simp [wipeM]
  | .row e es :: l, 0 => by simp [wipeM]
  | .dead :: l, 0 => by simp [wipeM]
  | .var cs :: l, c + 1 => by simp only [wipeM, List.getElem?_cons_succ, wipeM_get b l]
  | .row e es :: l, c + 1 => by simp only [wipeM, List.getElem?_cons_succ, wipeM_get b l]
  | .dead :: l, c + 1 => by simp only [wipeM, List.getElem?_cons_succ, wipeM_get b l]
theorem wipeM_length (b : Nat) : ∀ (l : Mem), (wipeM b l).length = l.length
  | [] => rfl
  | .var cs :: l => by simp [wipeM, wipeM_length b l]
  | .row e es :: l => by simp [wipeM, wipeM_length b l]
  | .dead :: l => by simp [wipeM, wipeM_length b l]
theorem get_wipeT (b : Nat) : ∀ (tm : Tm) (t : Nat), get (wipeT b tm) t = wipe1 b (get tm t)
  | [], t => by simp [wipeT, get, wipe1, tr]
  | (k, p) :: l, t => by simp only [wipeT, get, get_wipeT b l t]; split <;> rfl
theorem Inv.append (h : Inv c tm m ρ a w) {b : Nat} {e : TypeId} {es0 es es2 : List (List PV)} {i : TypeInfo} {z v' : Value} {xs news : List Value} {d : Option Tmp} (hd : ∀ t, d = some t → t < c.N) (hm : m[b]? = some (.row e es0)) (hnp : c.np ≤ b)
    (hinf : c.P.info? e = some i) (hz : i.zero = some z) (hzs : z.cells.size = i.size) (h0 : 0 < i.size) (hby : i.bytes ≤ 100000) (hlen : (es ++ es2).length ≤ 1000000000)
    (hxl : xs.length = es.length * i.size) (hsz : ∀ x ∈ es, x.length = i.size) (hf : flatT c.P e = true → ∀ x ∈ es, ∀ p ∈ x, flatP p = true) (hx : ∀ (q j : Nat) (x : List PV) (p : PV), es[q]? = some x → x[j]? = some p → ∃ u, xs[q * i.size + j]? = some u ∧ Im w (Mine c.M m ρ) p u) (h1 : ∀ u ∈ xs, u.oneCell' = true)
    (hsz2 : ∀ x ∈ es2, x.length = i.size) (hf2 : flatT c.P e = true → ∀ x ∈ es2, ∀ p ∈ x, flatP p = true) (hx2 : ∀ (q j : Nat) (x : List PV) (p : PV), es2[q]? = some x → x[j]? = some p → ∃ u, news[q * i.size + j]? = some u ∧ Im w (Mine c.M m ρ) p u) (h2 : ∀ u ∈ news, u.oneCell' = true)
    (ho : w'.ownsRow 0 e i.size v' (es ++ es2).length (xs ++ news)) (hg : w.grownBy w' (own1 (ρ b))) (hb' : own1 v' = own1 (ρ b) ∨ own1 v' = some w.heap.size) :
    Inv c (V.put (wipeT b tm) d (.own b)) ((wipeM b m).set b (.row e (es ++ es2))) (upd ρ b v') (a.put d v') w' := by
  have hbl : b < (wipeM b m).length := by rw [wipeM_length]; exact lt_of_get hm
  generalize hm' : (wipeM b m).set b (.row e (es ++ es2)) = m'
  have gb : m'[b]? = some (.row e (es ++ es2)) := by rw [← hm', List.getElem?_set_self hbl]
  have gc : ∀ c, c ≠ b → m'[c]? = (m[c]?).map fun
    | .var cs => .var (cs.map (wipe1 b))
    | x => x := fun c hc => by rw [← hm', List.getElem?_set_ne (Ne.symm hc), wipeM_get]
  have hml : m'.length = m.length := by rw [← hm', List.length_set, wipeM_length]
  have ub : upd ρ b v' b = v' := if_pos rfl
  have uc : ∀ c, c ≠ b → upd ρ b v' c = ρ c := fun c hc => if_neg hc
  have hlive : ∀ c, Live m' c → Live m c := by
    rintro c ⟨x, hx, hdx⟩
    by_cases hc : c = b
    · subst hc; exact live_row hm
    · rw [gc c hc] at hx
      obtain ⟨y, hy, rfl⟩ := Option.map_eq_some_iff.1 hx
      refine ⟨y, hy, fun e => ?_⟩
      subst e
      exact hdx rfl
  have hown : ∀ c k, Live m' c → own1 (upd ρ b v' c) = some k → k < w.heap.size → own1 (ρ c) = some k := by
    intro c k hc hk hlt
    by_cases hcb : c = b
    · subst hcb
      rw [ub] at hk
      rcases hb' with e | e
      · rw [← e]; exact hk
      · rw [e] at hk; cases hk; omega
    · rw [uc c hcb] at hk; exact hk
  have hOwn : ∀ k, k < w.heap.size → Own m' (upd ρ b v') k → Own m ρ k := fun k hk ⟨c, hc, hck⟩ => ⟨c, hlive c hc, hown c k hc hck hk⟩
  have hmine : ∀ k, k < w.heap.size → Mine c.M m' (upd ρ b v') k → Mine c.M m ρ k := fun k hk h => h.imp id (hOwn k hk)
  have hmv : Mv (Own m ρ) w w' := ⟨hg.size, fun k hk hn => hg.block k hk fun e => hn ⟨b, live_row hm, e.symm⟩⟩
  have hrep : ∀ p v, Rep c.M w m ρ p v → Rep c.M w' m' (upd ρ b v') (wipe1 b p) v := by
    intro p v hp
    refine hp.tr _ _ _ _ _ (fun _ => True) (fun _ _ => trivial) (fun p v hi => hi.move hmv.mine hmine) (fun c e es _ hc => ?_) (fun c l hh v e es _ hc hr => ?_) (fun c i g cs _ hc hgv => ?_) (fun c i j g n cc sz e es _ hc hi hs hgv => ?_) (fun cs v hc => hc.cad_move hmv hOwn hmine)
    · by_cases hcb : c = b
      · rw [if_pos hcb]; exact .im .any
      · rw [if_neg hcb]; exact .own' (by rw [gc c hcb, hc]; rfl) (uc c hcb)
    · by_cases hcb : c = b
      · rw [if_pos hcb]; exact .im .any
      · rw [if_neg hcb]
        cases hr with
        | im hi => cases hi
        | osl0 h1 h2 h3 => exact .osl0 (by rw [gc c hcb, h1]; rfl) h2 (by rw [uc c hcb]; exact h3)
        | osl h1 h2 h3 h4 h5 h6 h7 h8 => exact .osl (by rw [gc c hcb, h1]; rfl) h2 h3 h4 h5 h6 h7 (by rw [uc c hcb]; exact h8)
    · have hcb : c ≠ b := fun e => by subst e; rw [hm] at hc; cases hc
      exact .adr (by rw [gc c hcb, hc]; rfl) (by rw [uc c hcb, hgv])
    · by_cases hcb : c = b
      · rw [if_pos hcb]; exact .im .any
      · rw [if_neg hcb]; exact .ead (by rw [gc c hcb, hc]; rfl) hi hs (by rw [uc c hcb, hgv])
  have base : Inv c (wipeT b tm) m' (upd ρ b v') a w' := by
    refine ⟨h.sz, h.df, fun t => by rw [get_wipeT]; exact hrep _ _ (h.tm t), fun c x hx' => ?_, fun c c2 k hc hc2 hk hk2 => ?_, fun c k hc hk => ?_, h.fr.step hg.os hg.tape hg.output hg.size (fun k hk hS => hg.block k (by have := h.fr.size; omega) fun e => ?_), h.old, h.dis, ?_⟩
    · by_cases hcb : c = b
      · subst hcb
        rw [gb] at hx'; cases hx'
        rw [ub]
        refine .row hinf hz hzs h0 hby hlen ho (fun x hxm => ?_) (fun hfl => ?_) (fun q j x p hq hj => ?_) (fun u hu => ?_)
        · rcases List.mem_append.1 hxm with h | h
          · exact hsz x h
          · exact hsz2 x h
        · intro x hxm
          rcases List.mem_append.1 hxm with h | h
          · exact hf hfl x h
          · exact hf2 hfl x h
        · by_cases hql : q < es.length
          · rw [List.getElem?_append_left hql] at hq
            obtain ⟨u, hu, him⟩ := hx q j x p hq hj
            refine ⟨u, ?_, him.move hmv.mine hmine⟩
            rw [List.getElem?_append_left (lt_of_get hu)]; exact hu
          · rw [List.getElem?_append_right (by omega)] at hq
            obtain ⟨u, hu, him⟩ := hx2 _ j x p hq hj
            refine ⟨u, ?_, him.move hmv.mine hmine⟩
            have hmul : es.length * i.size ≤ q * i.size := Nat.mul_le_mul_right _ (by omega)
            rw [List.getElem?_append_right (by omega), hxl, ← hu, Nat.sub_mul]
            congr 1; omega
        · rcases List.mem_append.1 hu with h | h
          · exact h1 u h
          · exact h2 u h
      · rw [gc c hcb] at hx'
        obtain ⟨y, hy, rfl⟩ := Option.map_eq_some_iff.1 hx'
        have hok := h.blk c y hy
        have hkeep : y ≠ .dead → ∀ k, own1 (ρ c) = some k → k < w.heap.size → w'.heap[k]? = w.heap[k]? := fun hyd k hk hlt => hg.block k hlt fun e => hcb (h.sep c b k ⟨y, hy, hyd⟩ (live_row hm) hk e.symm)
        rw [uc c hcb]
        generalize hv : ρ c = v at hok hkeep ⊢
        cases y with
        | dead => exact .dead
        | var cs =>
          cases hok with
          | var hgv hl hj h1v =>
            refine .var ((hkeep (by simp) _ rfl (Array.getElem?_eq_some_iff.1 hgv).1).trans hgv) (by simpa using hl) (fun j p v hp hv => ?_) h1v
            rw [List.getElem?_map] at hp
            obtain ⟨q, hq, rfl⟩ := Option.map_eq_some_iff.1 hp
            exact hrep _ _ (hj j q v hq hv)
        | row e' es' =>
          cases hok with
          | row hinf hz hzs h0 hby hlen ho hsz hf hx h1 =>
            exact .row hinf hz hzs h0 hby hlen (ownsRow_move ho (hkeep (by simp))) hsz hf (fun q j x p hq hj => let ⟨u, h2, h3⟩ := hx q j x p hq hj; ⟨u, h2, h3.move hmv.mine hmine⟩) h1
    · have old : ∀ c k, Live m' c → own1 (upd ρ b v' c) = some k → (c ≠ b → k < w.heap.size) := fun c k hc hk hcb => by
        rw [uc c hcb] at hk; exact h.lt (hlive c hc) hk
      by_cases hlt : k < w.heap.size
      · exact h.sep c c2 k (hlive c hc) (hlive c2 hc2) (hown c k hc hk hlt) (hown c2 k hc2 hk2 hlt)
      · by_cases e1 : c = b
        · by_cases e2 : c2 = b
          · rw [e1, e2]
          · exact absurd (old c2 k hc2 hk2 e2) hlt
        · exact absurd (old c k hc hk e1) hlt
    · by_cases hlt : k < w.heap.size
      · exact h.new c k (hlive c hc) (hown c k hc hk hlt)
      · have := h.fr.size; exact .inl (by omega)
    · rcases h.new b k (live_row hm) e.symm with h3 | h3
      · omega
      · exact hS h3
    · refine ⟨by rw [hml]; exact h.ft.len, fun x cs hx hm0 => ?_, fun x e es hx hm0 => ?_, fun x hx hm0 => ?_⟩
      · obtain ⟨h1, cs', h2⟩ := h.ft.var x cs hx hm0
        have hxb : x ≠ b := fun e => by subst e; rw [hm] at h2; cases h2
        exact ⟨by rw [uc x hxb]; exact h1, _, by rw [gc x hxb, h2]; rfl⟩
      · by_cases hxb : x = b
        · subst hxb; exact .inr ⟨fun hlt => by omega, _, _, gb⟩
        · rcases h.ft.row x e es hx hm0 with h1 | ⟨h1, e', es', h2⟩
          · left; rw [gc x hxb, h1]; rfl
          · exact .inr ⟨fun hlt => by rw [uc x hxb]; exact h1 hlt, e', es', by rw [gc x hxb, h2]; rfl⟩
      · have h1 := h.ft.dead x hx hm0
        have hxb : x ≠ b := fun e => by subst e; rw [hm] at h1; cases h1
        rw [gc x hxb, h1]; rfl
  exact base.put hd (.own' gb ub)
theorem append_zero {t ty e : TypeId} {i : TypeInfo} (ht : P.underlying t = some (.slice e)) (hi : P.info? e = some i) (base : Option Addr) (n cap : Nat) (hnc : n ≤ cap) (A : Option Addr) (c : Nat) (w : World) :
    (Builtin.append_ #[t, t] ty #[.slice base n cap, .slice A 0 c]).run P w = .ok (.slice base n cap) w := by
  cases A <;> cases base <;> simp [Builtin.append_, run_underlying ht, sizeOf, typeInfo, hi, Builtin.lenOf, Builtin.firstCells, loadCells, loadCellsFrom, hnc, storeCells]
theorem own1_block {v : Value} {A : Option Addr} {n c : Nat} (h : v = .slice A n c) : own1 v = v.ownBlock := by subst h; cases A <;> rfl
theorem append_run {t ty e : TypeId} {i : TypeInfo} {z : Value} (ht : P.underlying t = some (.slice e)) (hi : P.info? e = some i) (hz : i.zero = some z) (hzs : z.cells.size = i.size) (h0 : 0 < i.size) (hby : i.bytes ≤ 100000)
    {v v2 : Value} {n : Nat} {xs : List Value} (hown : w.ownsRow 0 e i.size v n xs) {es2 : List (List PV)} (h2 : RowAt M w m ρ v2 es2) (hl : ∀ x ∈ es2, x.length = i.size) (hlen : n + es2.length ≤ 1000000000) :
    ∃ v' w' news, (Builtin.append_ #[t, t] ty #[v, v2]).run P w = .ok v' w' ∧ w'.ownsRow 0 e i.size v' (n + es2.length) (xs ++ news) ∧ w.grownBy w' (own1 v) ∧ (own1 v' = own1 v ∨ own1 v' = some w.heap.size) ∧
      (∀ (q j : Nat) (x : List PV) (p : PV), es2[q]? = some x → x[j]? = some p → ∃ u, news[q * i.size + j]? = some u ∧ Im w (Mine M m ρ) p u) ∧ ∀ u ∈ news, u.oneCell' = true := by
  obtain ⟨A, c, sz, rfl, hmx, hc, hsz, _, hA⟩ := h2
  have hvf : ∃ B k, v = .slice B n k ∧ n ≤ k := by
    rcases hown.2 with ⟨rfl, rfl⟩ | ⟨g, cap, cur, rfl, _, _, hc, _⟩
    · exact ⟨none, 0, rfl, Nat.le_refl _⟩
    · exact ⟨_, cap, rfl, hc⟩
  by_cases hn : es2.length = 0
  · obtain ⟨B, k, rfl, hk⟩ := hvf
    refine ⟨_, w, [], by rw [hn]; exact append_zero ht hi B n k hk A c w, by simpa [hn] using hown, ⟨rfl, rfl, rfl, Nat.le_refl _, fun _ _ _ => rfl⟩, .inl rfl, fun q j x p hq => ?_, by simp⟩
    rw [List.getElem?_eq_none (by omega)] at hq; cases hq
  · rcases hA with h | ⟨ad, rfl, hA⟩
    · exact absurd h hn
    have hcell : ∀ k, k < es2.length * i.size → ∃ u, w.cell? (ad.add k) = some u ∧ u.oneCell' = true := by
      intro k hk
      have hq : k / i.size < es2.length := (Nat.div_lt_iff_lt_mul h0).2 hk
      have hx : es2[k / i.size]? = some (es2[k / i.size]'hq) := List.getElem?_eq_getElem hq
      have hxl := hl _ (List.mem_of_getElem? hx)
      have hj : k % i.size < (es2[k / i.size]'hq).length := by rw [hxl]; exact Nat.mod_lt _ h0
      obtain ⟨u, h1, h2, _⟩ := hA _ _ _ _ hx (List.getElem?_eq_getElem hj)
      rw [← hsz _ (List.mem_of_getElem? hx), hxl, Nat.mul_comm, Nat.div_add_mod] at h1
      exact ⟨u, h1, h2⟩
    let news := (List.range (es2.length * i.size)).map fun k => (w.cell? (ad.add k)).getD undef
    have hget : ∀ k u, news[k]? = some u → k < es2.length * i.size ∧ w.cell? (ad.add k) = some u ∧ u.oneCell' = true := by
      intro k u hu
      simp only [news, List.getElem?_map] at hu
      obtain ⟨k', hk', rfl⟩ := Option.map_eq_some_iff.1 hu
      have hlt : k < es2.length * i.size := by simpa using lt_of_get hk'
      rw [List.getElem?_range hlt] at hk'
      cases hk'
      obtain ⟨u, h1, h2⟩ := hcell k hlt
      rw [h1]
      exact ⟨hlt, rfl, h2⟩
    obtain ⟨v', w', hr, h3, h4, h5, h6⟩ := run_append_own_at (P := P) w 0 t ty e i z i.size i.bytes ht hi hz rfl rfl hzs h0 v n xs hown ad es2.length c news (by simp [news]) (fun j u hu => (hget j u hu).2.1) (fun u hu => by
      obtain ⟨k, hk⟩ := List.getElem?_of_mem hu
      exact (hget k u hk).2.2) (by simp only [maxLen]; omega) (by
      have : (n + es2.length) * i.bytes ≤ 1000000000 * 100000 := Nat.mul_le_mul hlen hby
      omega) (Nat.zero_le _)
    obtain ⟨B, k, rfl, hk⟩ := hvf
    have e1 : own1 (.slice B n k) = (Value.slice B n k).ownBlock := own1_block rfl
    obtain ⟨g, cap, rfl, _, _⟩ := h3.form (by omega)
    refine ⟨_, w', news, hr, h3, by rw [e1]; exact h4, by rw [e1]; exact h6, fun q j x p hq hj => ?_, fun u hu => ?_⟩
    · have hxl := hl x (List.mem_of_getElem? hq)
      have hql := lt_of_get hq
      have hjl : j < i.size := by rw [← hxl]; exact lt_of_get hj
      obtain ⟨u, h1, h2, him⟩ := hA q j x p hq hj
      rw [← hsz x (List.mem_of_getElem? hq), hxl] at h1
      have hlt : q * i.size + j < es2.length * i.size := by
        have := Nat.mul_le_mul_right i.size (show q + 1 ≤ es2.length by omega)
        rw [Nat.add_mul, Nat.one_mul] at this; omega
      refine ⟨u, ?_, him⟩
      simp only [news, List.getElem?_map, List.getElem?_range hlt, Option.map_some, h1, Option.getD_some]
    · obtain ⟨k, hk⟩ := List.getElem?_of_mem hu
      exact (hget k u hk).2.2
theorem ownsRow_drop_cells {e : TypeId} {size n cc l g : Nat} {xs : List Value} (ho : w.ownsRow 0 e size (.slice (some ⟨g, 0, none⟩) n cc) n xs) : ∀ j u, (xs.drop (l * size))[j]? = some u → w.cell? ((⟨g, l * size, none⟩ : Addr).add j) = some u := by
  intro j u hu
  rw [List.getElem?_drop] at hu
  have := ho.cells (g := g) rfl _ u hu
  rw [add_none] at this ⊢
  simpa using this
theorem row_news {v2 : Value} {es2 : List (List PV)} {size : Nat} (h0 : 0 < size) (h2 : RowAt M w m ρ v2 es2) (hl : ∀ x ∈ es2, x.length = size) (hn : es2.length ≠ 0) :
    ∃ ad c, ∃ news : List Value, v2 = .slice (some ad) es2.length c ∧ news.length = es2.length * size ∧ (∀ j u, news[j]? = some u → w.cell? (ad.add j) = some u) ∧ (∀ u ∈ news, u.oneCell' = true) ∧
      ∀ (q j : Nat) (x : List PV) (p : PV), es2[q]? = some x → x[j]? = some p → ∃ u, news[q * size + j]? = some u ∧ Im w (Mine M m ρ) p u := by
  obtain ⟨A, c, sz, rfl, hmx, hc, hsz, _, hA⟩ := h2
  rcases hA with h | ⟨ad, rfl, hA⟩
  · exact absurd h hn
  have hcell : ∀ k, k < es2.length * size → ∃ u, w.cell? (ad.add k) = some u ∧ u.oneCell' = true := by
    intro k hk
    have hq : k / size < es2.length := (Nat.div_lt_iff_lt_mul h0).2 hk
    have hx : es2[k / size]? = some (es2[k / size]'hq) := List.getElem?_eq_getElem hq
    have hxl := hl _ (List.mem_of_getElem? hx)
    have hj : k % size < (es2[k / size]'hq).length := by rw [hxl]; exact Nat.mod_lt _ h0
    obtain ⟨u, h1, h2, _⟩ := hA _ _ _ _ hx (List.getElem?_eq_getElem hj)
    rw [← hsz _ (List.mem_of_getElem? hx), hxl, Nat.mul_comm, Nat.div_add_mod] at h1
    exact ⟨u, h1, h2⟩
  have hget : ∀ k u, ((List.range (es2.length * size)).map fun k => (w.cell? (ad.add k)).getD undef)[k]? = some u → k < es2.length * size ∧ w.cell? (ad.add k) = some u ∧ u.oneCell' = true := by
    intro k u hu
    simp only [List.getElem?_map] at hu
    obtain ⟨k', hk', rfl⟩ := Option.map_eq_some_iff.1 hu
    have hlt : k < es2.length * size := by simpa using lt_of_get hk'
    rw [List.getElem?_range hlt] at hk'
    cases hk'
    obtain ⟨u, h1, h2⟩ := hcell k hlt
    rw [h1]
    exact ⟨hlt, rfl, h2⟩
  refine ⟨ad, c, (List.range (es2.length * size)).map fun k => (w.cell? (ad.add k)).getD undef, rfl, by simp, fun j u hu => (hget j u hu).2.1, fun u hu => ?_, fun q j x p hq hj => ?_⟩
  · obtain ⟨k, hk⟩ := List.getElem?_of_mem hu
    exact (hget k u hk).2.2
  · have hxl := hl x (List.mem_of_getElem? hq)
    have hql := lt_of_get hq
    have hjl : j < size := by rw [← hxl]; exact lt_of_get hj
    obtain ⟨u, h1, h2, him⟩ := hA q j x p hq hj
    rw [← hsz x (List.mem_of_getElem? hq), hxl] at h1
    have hlt : q * size + j < es2.length * size := by
      have := Nat.mul_le_mul_right size (show q + 1 ≤ es2.length by omega)
      rw [Nat.add_mul, Nat.one_mul] at this; omega
    refine ⟨u, ?_, him⟩
    simp only [List.getElem?_map, List.getElem?_range hlt, Option.map_some, h1, Option.getD_some]
/-- Onto the end of a part that goes to the row's end: in the row's own block, or in a new one. -/
theorem append_part {t ty e : TypeId} {i : TypeInfo} {z : Value} (ht : P.underlying t = some (.slice e)) (hi : P.info? e = some i) (hz : i.zero = some z) (hzs : z.cells.size = i.size) (h0 : 0 < i.size) (hby : i.bytes ≤ 100000)
    {v2 : Value} {n cc l g : Nat} {A : Option Addr} {xs : List Value} (hown : w.ownsRow 0 e i.size (.slice (some ⟨g, 0, none⟩) n (cc + l)) n xs) (hln : l ≤ n) (hA : cc = 0 ∨ A = some ⟨g, l * i.size, none⟩)
    {es2 : List (List PV)} (h2 : RowAt M w m ρ v2 es2) (hl : ∀ x ∈ es2, x.length = i.size) (hlen : n + es2.length ≤ 1000000000) :
    ∃ v' w' news, (Builtin.append_ #[t, t] ty #[.slice A (n - l) cc, v2]).run P w = .ok v' w' ∧ w.grownBy w' (some g) ∧
      (∀ (q j : Nat) (x : List PV) (p : PV), es2[q]? = some x → x[j]? = some p → ∃ u, news[q * i.size + j]? = some u ∧ Im w (Mine M m ρ) p u) ∧ (∀ u ∈ news, u.oneCell' = true) ∧
      ((v' = .slice A (n - l + es2.length) cc ∧ n - l + es2.length ≤ cc ∧ w'.ownsRow 0 e i.size (.slice (some ⟨g, 0, none⟩) (n + es2.length) (cc + l)) (n + es2.length) (xs ++ news)) ∨
       (w'.ownsRow 0 e i.size v' (n - l + es2.length) (xs.drop (l * i.size) ++ news) ∧ (own1 v' = some g ∨ own1 v' = some w.heap.size))) := by
  obtain ⟨cur, hgb, hcap, hcm, hcs, htk⟩ : ∃ cur, w.heap[g]? = some (.cells cur e (0, 0)) ∧ n ≤ cc + l ∧ cc + l ≤ maxLen ∧ cur.size = (cc + l) * i.size ∧ cur.toList.take (n * i.size) = xs := by
    rcases hown.2 with ⟨e1, _⟩ | ⟨g', cap, cur, e1, _, h1, h2, h3, h4, h5⟩
    · cases e1
    · cases e1; exact ⟨cur, h1, h2, h3, h4, h5⟩
  have hcn : n - l ≤ cc := by omega
  by_cases hn : es2.length = 0
  · obtain ⟨A2, c2, sz, rfl, _⟩ := h2
    refine ⟨_, w, [], by rw [hn]; exact append_zero ht hi A (n - l) cc hcn A2 c2 w, ⟨rfl, rfl, rfl, Nat.le_refl _, fun _ _ _ => rfl⟩, fun q j x p hq => ?_, by simp, .inl ⟨by rw [hn]; rfl, by omega, by simpa [hn] using hown⟩⟩
    rw [List.getElem?_eq_none (by omega)] at hq; cases hq
  obtain ⟨ad, c2, news, rfl, hnl, hnc, hn1, hni⟩ := row_news h0 h2 hl hn
  have hb : (n + es2.length) * i.bytes ≤ 140737488355328 := by
    have : (n + es2.length) * i.bytes ≤ 1000000000 * 100000 := Nat.mul_le_mul hlen hby
    omega
  have hxl := hown.1
  by_cases hroom : n - l + es2.length ≤ cc
  · rcases hA with hA | rfl
    · omega
    have e1 : l * i.size + (n - l) * i.size = n * i.size := by rw [← Nat.add_mul]; congr 1; omega
    have hcell : ∀ j, j < news.length → (w.cell? ⟨g, n * i.size + j, none⟩).isSome = true := by
      intro j hj
      rw [cell_of_row w g _ cur e (0, 0) hgb]
      have : n * i.size + j < cur.size := by
        rw [hcs]
        have := Nat.mul_le_mul_right i.size (show n + es2.length ≤ cc + l by omega)
        rw [Nat.add_mul] at this
        omega
      simp [this]
    have hfz : ∀ j, j < news.length → w.frozen? ⟨g, n * i.size + j, none⟩ = false := fun j _ => by simp [World.frozen?, hgb]
    have r1 := run_append_room_cells (P := P) (w := w) t ty e i ht hi g 0 n (cc + l) ad es2.length c2 news hnl hnc hn1 (by omega) (fun j hj => by rw [Nat.zero_add]; exact hcell j hj) (fun j hj => by rw [Nat.zero_add]; exact hfz j hj)
    have r2 := run_append_room_cells (P := P) (w := w) t ty e i ht hi g (l * i.size) (n - l) cc ad es2.length c2 news hnl hnc hn1 hroom (fun j hj => by rw [e1]; exact hcell j hj) (fun j hj => by rw [e1]; exact hfz j hj)
    obtain ⟨v1, w1, r3, o1, o2, _, _⟩ := run_append_own_at (P := P) w 0 t ty e i z i.size i.bytes ht hi hz rfl rfl hzs h0 _ n xs hown ad es2.length c2 news hnl hnc hn1 (by simp only [maxLen]; omega) hb (Nat.zero_le _)
    rw [r1] at r3
    cases r3
    rw [e1] at r2
    rw [Nat.zero_add] at o1 o2
    exact ⟨_, _, news, r2, o2, hni, hn1, .inl ⟨rfl, hroom, o1⟩⟩
  · have hgrow : ∀ b : Addr, A = some b → (∀ j u, (xs.drop (l * i.size))[j]? = some u → w.cell? (b.add j) = some u) → ∃ v' w', (Builtin.append_ #[t, t] ty #[.slice A (n - l) cc, .slice (some ad) es2.length c2]).run P w = .ok v' w' ∧ w.grownBy w' (some g) ∧ w'.ownsRow 0 e i.size v' (n - l + es2.length) (xs.drop (l * i.size) ++ news) ∧ own1 v' = some w.heap.size := by
      rintro b rfl hcells
      have hxd : (xs.drop (l * i.size)).length = (n - l) * i.size := by rw [List.length_drop, hxl, ← Nat.sub_mul]
      have hlen2 : (xs.drop (l * i.size) ++ news).length = (n - l + es2.length) * i.size := by rw [List.length_append, hxd, hnl, Nat.add_mul]
      have hb2 : (n - l + es2.length) * i.bytes ≤ 140737488355328 := by
        have : (n - l + es2.length) * i.bytes ≤ (n + es2.length) * i.bytes := Nat.mul_le_mul_right _ (by omega)
        omega
      have hr := run_append_grow (P := P) w t ty e i z ht hi hz b (n - l) cc (xs.drop (l * i.size)) hxd hcells ad es2.length c2 news hnl hnc (by omega) (by omega) (growslice_fits (by omega) hb2)
      refine ⟨_, _, hr, ⟨rfl, rfl, rfl, by simp, fun k hk _ => heap_alloc_old w.drew _ k hk⟩, ⟨hlen2, .inr ⟨w.heap.size, _, _, rfl, Nat.zero_le _, heap_alloc_new w.drew _, grownCap_ge w _ _ e, grownCap_le_maxLen w _ _ e (by simp only [maxLen]; omega), ?_, ?_⟩⟩, rfl⟩
      · have hge := grownCap_ge w (n - l + es2.length) cc e
        simp only [Array.size_append, List.size_toArray, size_zeroCells, hzs, hxd, hnl, ← Nat.add_mul]
        congr 1
        omega
      · simp only [Array.toList_append, List.append_assoc]
        rw [← List.append_assoc, ← hlen2]
        exact List.take_left
    rcases hA with rfl | rfl
    · have hd0 : xs.drop (l * i.size) = [] := List.drop_eq_nil_of_le (by rw [hxl]; exact Nat.mul_le_mul_right _ (by omega))
      cases A with
      | some b =>
        obtain ⟨v', w', hr, hg, ho, hw⟩ := hgrow b rfl (fun j u hu => by rw [hd0] at hu; simp at hu)
        exact ⟨v', w', news, hr, hg, hni, hn1, .inr ⟨ho, .inr hw⟩⟩
      | none =>
        have h0n : n - l = 0 := by omega
        obtain ⟨v', w', hr, ho, hg, _, hw⟩ := run_append_own_at (P := P) w 0 t ty e i z i.size i.bytes ht hi hz rfl rfl hzs h0 (.slice none 0 0) 0 [] ⟨by simp, .inl ⟨rfl, rfl⟩⟩ ad es2.length c2 news hnl hnc hn1 (by simp only [maxLen]; omega) (by
          have : (0 + es2.length) * i.bytes ≤ (n + es2.length) * i.bytes := Nat.mul_le_mul_right _ (by omega)
          omega) (Nat.zero_le _)
        refine ⟨v', w', news, by rw [h0n]; exact hr, ⟨hg.os, hg.tape, hg.output, hg.size, fun k hk _ => hg.block k hk (by simp [Value.ownBlock])⟩, hni, hn1, .inr ⟨by rw [h0n, hd0]; exact ho, .inr ?_⟩⟩
        rcases hw with hw | hw
        · obtain ⟨g', cap', he, _⟩ := ho.form (by omega)
          rw [he] at hw; simp [Value.ownBlock] at hw
        · obtain ⟨g', cap', he, _⟩ := ho.form (by omega)
          rw [he] at hw ⊢; exact hw
    · obtain ⟨v', w', hr, hg, ho, hw⟩ := hgrow _ rfl (ownsRow_drop_cells hown)
      exact ⟨v', w', news, hr, hg, hni, hn1, .inr ⟨ho, .inr hw⟩⟩
theorem ownsRow_take {e : TypeId} {size n cc h : Nat} {A : Option Addr} {xs : List Value} (ho : w.ownsRow 0 e size (.slice A n cc) n xs) (hh : h ≤ n) : w.ownsRow 0 e size (.slice A h cc) h (xs.take (h * size)) := by
  have hmul : h * size ≤ n * size := Nat.mul_le_mul_right _ hh
  refine ⟨by rw [List.length_take, ho.1]; omega, ?_⟩
  rcases ho.2 with ⟨e1, rfl⟩ | ⟨g, cap, cur, e1, h0, hg, hc, hx, hcs, ht⟩
  · cases e1
    obtain rfl : h = 0 := by omega
    exact .inl ⟨rfl, rfl⟩
  · cases e1
    exact .inr ⟨g, cc, cur, rfl, h0, hg, by omega, hx, hcs, by rw [← ht, List.take_take, Nat.min_eq_left hmul]⟩
variable {np : Nat} {lent : FuncId → Bool} {kp : Value → Tm → Mem → Prop} {d : Option Tmp} {ty : TypeId} {pos : String} {af : Array Edge} {gd : Option (Nat × Bool)} {k : Tm → Mem → Prop} {Q : Exit → Act → World → Prop}
theorem s_append (h : Inv c tm m ρ a w) (hd : ∀ t, d = some t → t < c.N) {args : Array Operand} {ts : Array TypeId} (hs : step c.P c.np lent kp tm m d ty k (.call { callee := .builtin .append, args := args, argTypes := ts })) : Oper.wp c.P ⟨d, .call { callee := .builtin .append, args := args, argTypes := ts }, ty, pos, af, gd⟩ a w (Then c k) Q := by
  simp only [step] at hs
  obtain ⟨x, y, hx, hs1⟩ := onTwo_e hs
  obtain ⟨t, t', ht, hs2⟩ := onTwo_e hs1
  clear hs hs1
  rename _ => hs
  · have hargs : args = #[x, y] := by rw [← Array.toList_inj]; exact hx
    have hts : ts = #[t, t'] := by rw [← Array.toList_inj]; exact ht
    subst hargs
    subst hts
    unfold ifB at hs
    split at hs
    rename_i htt
    obtain rfl : t = t' := by simpa using htt
    unfold onApp at hs
    split at hs
    · rename_i b hev
      obtain ⟨⟨_, hnp⟩, hs⟩ := hs
      · obtain ⟨es2, hs, hrow⟩ := row1_sound h.blk (h.ev y) hs
        · obtain ⟨e, es, hm, he, ⟨hlen, hfit⟩, hs⟩ := onRowB_e hs
          have hxv : a.eval x = ρ b := by
            have := h.ev x
            rw [hev] at this
            generalize a.eval x = vx at this
            cases this with
            | im hi => cases hi
            | own => rfl
          have hok := h.blk b _ hm
          generalize hvb : ρ b = vb at hok
          cases hok with
          | row hi hzz hzzs h0 hby hlen' ho hsz hf hx' h1 =>
            rename_i xs i z'
            have hfl : ∀ x ∈ es2, x.length = i.size := by
              intro x hx
              obtain ⟨i', zv, hi', _, _, _, _, _, e2⟩ := rowSize_eq (hfit x hx).1
              rw [hi] at hi'; cases hi'; exact e2.symm
            obtain ⟨v', w', news, hrun, h3, h4, h5, h6, h7⟩ := append_run (P := c.P) (ty := ty) (elemOf_eq he) hi hzz hzzs h0 hby ho hrow hfl hlen
            refine wp_value (v := v') (w' := w') ?_ ⟨_, _, _, hs, h.append hd hm hnp hi hzz hzzs h0 hby (by simpa using hlen) ho.1 hsz hf hx' h1 hfl hfit.flat h6 h7 (by simpa using h3) (by rw [hvb]; exact h4) (by rw [hvb]; exact h5)⟩
            simp only [execOp, resolve, invoke, builtin, Sem.run_bind, Sem.run_pure, Result.andThen_ok, List.map_toArray, List.map_cons, List.map_nil, hxv, hvb, hrun]
    · rename_i b hh hev
      obtain ⟨⟨_, hnp⟩, hs⟩ := hs
      · obtain ⟨es2, hs, hrow⟩ := row1_sound h.blk (h.ev y) hs
        · obtain ⟨e, es, hm, he, ⟨hlen, hfit⟩, hs⟩ := onRowB_e hs
          have hxv : ∃ A n cc, a.eval x = .slice A hh cc ∧ ρ b = .slice A n cc ∧ hh ≤ es.length := by
            have := h.ev x
            rw [hev] at this
            generalize a.eval x = vx at this
            cases this with
            | im hi => cases hi
            | osl0 h1 h2 h3 => rw [hm] at h1; cases h1; exact ⟨_, _, _, rfl, h3, h2⟩
            | osl h1 h2 => omega
          obtain ⟨A, n, cc, hxv, hρ, hhl⟩ := hxv
          have hok := h.blk b _ hm
          generalize hvb : ρ b = vb at hok
          rw [hρ] at hvb
          subst hvb
          cases hok with
          | row hi hzz hzzs h0 hby hlen' ho hsz hf hx' h1 =>
            rename_i xs i z'
            have hfl : ∀ x ∈ es2, x.length = i.size := by
              intro x hx
              obtain ⟨i', zv, hi', _, _, _, _, _, e2⟩ := rowSize_eq (hfit x hx).1
              rw [hi] at hi'; cases hi'; exact e2.symm
            obtain ⟨A', n', rfl⟩ : ∃ q q', n = es.length := by
              rcases ho.2 with ⟨e1, e2⟩ | ⟨g, cap, cur, e1, _⟩
              · cases e1; exact ⟨0, 0, e2.symm⟩
              · cases e1; exact ⟨0, 0, rfl⟩
            have ho' := ownsRow_take ho hhl
            have htl : (es.take hh).length = hh := by simp; omega
            obtain ⟨v', w', news, hrun, h3, h4, h5, h6, h7⟩ := append_run (P := c.P) (ty := ty) (elemOf_eq he) hi hzz hzzs h0 hby ho' hrow hfl (by omega)
            have e1 : own1 (.slice A hh cc) = own1 (ρ b) := by rw [hρ]; cases A <;> rfl
            have hmt : ∀ x ∈ es.take hh, x ∈ es := fun x hx => List.mem_of_mem_take hx
            refine wp_value (v := v') (w' := w') ?_ ⟨_, _, _, hs, h.append (es := es.take hh) (xs := xs.take (hh * i.size)) hd hm hnp hi hzz hzzs h0 hby (by simp; omega) (by rw [htl]; exact ho'.1) (fun x hx => hsz x (hmt x hx)) (fun hfl x hx => hf hfl x (hmt x hx)) (fun q j x p hq hj => ?_) (fun u hu => h1 u (List.mem_of_mem_take hu)) hfl hfit.flat h6 h7 (by rw [List.length_append, htl]; exact h3) (by rw [← e1]; exact h4) (by rw [← e1]; exact h5)⟩
            · simp only [execOp, resolve, invoke, builtin, Sem.run_bind, Sem.run_pure, Result.andThen_ok, List.map_toArray, List.map_cons, List.map_nil, hxv, hrun]
            · have hql := lt_of_get hq
              rw [htl] at hql
              rw [List.getElem?_take, if_pos hql] at hq
              obtain ⟨u, hu, him⟩ := hx' q j x p hq hj
              refine ⟨u, ?_, him⟩
              have hjl := lt_of_get hj
              rw [hsz x (List.mem_of_getElem? hq)] at hjl
              have : q * i.size + j < hh * i.size := by
                have := Nat.mul_le_mul_right i.size (show q + 1 ≤ hh by omega)
                rw [Nat.add_mul, Nat.one_mul] at this; omega
              rw [List.getElem?_take, if_pos this]; exact hu
    · rename_i b l hh hev
      obtain ⟨⟨_, hnp⟩, hs⟩ := hs
      obtain ⟨es2, hs, hrow⟩ := row1_sound h.blk (h.ev y) hs
      obtain ⟨e, es, hm, ⟨he, rfl⟩, ⟨hlen, hfit⟩, hk1, hk2⟩ := onRowB_e hs
      have hxv : ∃ A n cc sz g, a.eval x = .slice A (es.length - (l + 1)) cc ∧ ρ b = .slice (some ⟨g, 0, none⟩) n (cc + (l + 1)) ∧ l + 1 ≤ es.length ∧ (cc = 0 ∨ A = some ⟨g, (l + 1) * sz, none⟩) ∧ (∀ x ∈ es, x.length = sz) ∧ cc ≤ maxLen := by
        have := h.ev x
        rw [hev] at this
        generalize a.eval x = vx at this
        cases this with
        | im hi => cases hi
        | osl h1 h2 h3 h4 h5 h6 h7 h8 =>
          rw [hm] at h1; cases h1
          obtain ⟨h9, h10, rfl⟩ := h8
          exact ⟨_, _, _, _, _, rfl, h10, h3, h9, h7, h6⟩
      obtain ⟨A, n, cc, sz, g, hxv, hρ, hll, hA, hsz', hcx⟩ := hxv
      have hok := h.blk b _ hm
      generalize hvb : ρ b = vb at hok
      rw [hρ] at hvb
      subst hvb
      cases hok with
      | row hi hzz hzzs h0 hby hlen' ho hsz hf hx' h1 =>
        rename_i xs i z'
        have hfl : ∀ x ∈ es2, x.length = i.size := by
          intro x hx
          obtain ⟨i', zv, hi', _, _, _, _, _, e2⟩ := rowSize_eq (hfit x hx).1
          rw [hi] at hi'; cases hi'; exact e2.symm
        obtain rfl : n = es.length := by
          rcases ho.2 with ⟨e1, e2⟩ | ⟨g, cap, cur, e1, _⟩
          · cases e1
          · cases e1; rfl
        obtain rfl : sz = i.size := by
          obtain ⟨x, hx⟩ : ∃ x, x ∈ es := ⟨es[0], List.getElem_mem _⟩
          rw [← hsz' x hx, hsz x hx]
        have e1 : own1 (.slice (some ⟨g, 0, none⟩) es.length (cc + (l + 1))) = own1 (ρ b) := by rw [hρ]
        have e2 : own1 (ρ b) = some g := by rw [hρ]; rfl
        obtain ⟨v', w', news, hrun, h4, h6, h7, hcase⟩ := append_part (P := c.P) (ty := ty) (elemOf_eq he) hi hzz hzzs h0 hby ho hll hA hrow hfl hlen
        have hrun' : (execOp a.eval ⟨d, .call { callee := .builtin .append, args := #[x, y], argTypes := #[t, t] }, ty, pos, af, gd⟩).run c.P w = .ok (.value v') w' := by
          simp only [execOp, resolve, invoke, builtin, Sem.run_bind, Sem.run_pure, Result.andThen_ok, List.map_toArray, List.map_cons, List.map_nil, hxv, hrun]
        rcases hcase with ⟨rfl, hcap, ho'⟩ | ⟨ho', hb'⟩
        · have hinv := h.append (d := none) (v' := .slice (some ⟨g, 0, none⟩) (es.length + es2.length) (cc + (l + 1))) (fun t ht => by cases ht) hm hnp hi hzz hzzs h0 hby (by simpa using hlen) ho.1 hsz hf hx' h1 hfl hfit.flat h6 h7 (by simpa using ho') (by rw [e2]; exact h4) (.inl (by rw [e2]; rfl))
          have hbl : b < (wipeM b m).length := by rw [wipeM_length]; exact lt_of_get hm
          have hrep : Rep c.M w' ((wipeM b m).set b (.row e (es ++ es2))) (upd ρ b (.slice (some ⟨g, 0, none⟩) (es.length + es2.length) (cc + (l + 1)))) (.osl b (l + 1) (es.length + es2.length)) (.slice A (es.length + es2.length - (l + 1)) cc) :=
            .osl (sz := i.size) (g := g) (n := es.length + es2.length) (c' := cc + (l + 1)) (by rw [List.getElem?_set_self hbl]) (by omega) (by omega) (by simp) (by omega) hcx (fun x hx => by
              rcases List.mem_append.1 hx with hx | hx
              · exact hsz x hx
              · exact hfl x hx) ⟨hA, by simp [upd], rfl⟩
          rw [show es.length + es2.length - (l + 1) = es.length - (l + 1) + es2.length by omega] at hrep
          exact wp_value hrun' (hinv.then hd hrep hk2)
        · refine wp_value hrun' ⟨_, _, _, hk1, h.append (es := es.drop (l + 1)) (xs := xs.drop ((l + 1) * i.size)) hd hm hnp hi hzz hzzs h0 hby (by simp; omega) (by rw [List.length_drop, List.length_drop, ho.1, ← Nat.sub_mul]) (fun x hx => hsz x (List.mem_of_mem_drop hx)) (fun hfl x hx => hf hfl x (List.mem_of_mem_drop hx)) (fun q j x p hq hj => ?_) (fun u hu => h1 u (List.mem_of_mem_drop hu)) hfl hfit.flat h6 h7 (by rw [List.length_append, List.length_drop]; exact ho') (by rw [e2]; exact h4) (by rw [e2]; exact hb')⟩
          rw [List.getElem?_drop] at hq
          obtain ⟨u, hu, him⟩ := hx' _ j x p hq hj
          refine ⟨u, ?_, him⟩
          rw [List.getElem?_drop, ← Nat.add_assoc, ← Nat.add_mul]
          exact hu
    · rename_i hev
      have hxv := (hev ▸ h.ev x : Rep c.M w m ρ (.val (.slice none 0 0)) (a.eval x)).val_eq
      obtain ⟨e, he, hs⟩ := onS_e hs
      · obtain ⟨z, hz, hs⟩ := onS_e hs
        · obtain ⟨es2, ⟨⟨hlen, hfit⟩, hs⟩, hrow⟩ := row1_sound h.blk (h.ev y) hs
          obtain ⟨i, zv, hi, hzv, hzs, h0, hz4, hby, rfl⟩ := rowSize_eq hz
          have hfl := hfit.len hz
          have hown : w.ownsRow 0 e i.size (.slice none 0 0) 0 [] := ⟨by simp, .inl ⟨rfl, rfl⟩⟩
          obtain ⟨v', w', news, hrun, h3, h4, h5, h6, h7⟩ := append_run (P := c.P) (ty := ty) (elemOf_eq he) hi hzv hzs h0 hby hown hrow hfl (by omega)
          simp only [Nat.zero_add, List.nil_append] at h3
          have hu : ∀ k, own1 v' = some k → w.heap.size ≤ k := by
            intro k hk
            rcases h5 with e1 | e1
            · rw [e1] at hk; cases hk
            · rw [e1] at hk; cases hk; exact Nat.le_refl _
          have hmv : Mv (Own m ρ) w w' := ⟨h4.size, fun k hk _ => h4.block k hk (by simp [own1])⟩
          refine wp_value (v := v') (w' := w') (by simp only [execOp, resolve, invoke, builtin, Sem.run_bind, Sem.run_pure, Result.andThen_ok, List.map_toArray, List.map_cons, List.map_nil, hxv, hrun]) ⟨_, _, _, hs, h.lay hd h4.size (fun k hk => h4.block k hk (by simp [own1])) h4.os h4.tape h4.output hu (.row (xs := news) hi hzv hzs h0 hby hlen h3 hfl hfit.flat (fun q j x p hq hj => ?_) h7) .laid⟩
          obtain ⟨u, hu1, him⟩ := h6 q j x p hq hj
          exact ⟨u, hu1, him.move hmv.mine (fun k hk hm => mine_lay hu hk hm)⟩
    · cases hs
    · unfold onApp at hs
      split at hs
      · exact hs.elim
      · exact hs.elim
      · exact hs.elim
      · rename_i hev
        have hxv := (hev ▸ h.ev x : Rep c.M w m ρ (.val (.slice none 0 0)) (a.eval x)).val_eq
        obtain ⟨e, he, hs⟩ := onS_e hs
        obtain ⟨z, hz, hs⟩ := onS_e hs
        obtain ⟨kn, hkn, hs⟩ := onS_e hs
        obtain ⟨zs, hzo, hs⟩ := onS_e hs
        obtain ⟨kd, n, hyn, ⟨hn0, hn9⟩, hflat, hs⟩ := onInt_e hs
        have hyv := (hyn ▸ h.ev y : Rep c.M w m ρ (.val (.int kd n)) (a.eval y)).val_eq
        obtain ⟨i, zv, hi, hzv, hzs, h0, hz4, hby, rfl⟩ := rowSize_eq hz
        obtain ⟨i', z', hi', hzv', rfl, hone⟩ := zeroOf_eq hzo
        rw [hi] at hi'; cases hi'
        rw [hzv] at hzv'; cases hzv'
        obtain ⟨k', rfl⟩ : ∃ k' : Nat, n = k' := ⟨n.toNat, by omega⟩
        have htn : c.P.underlying t' = some (.int kn) := by
          unfold intT at hkn
          split at hkn
          · cases hkn; assumption
          · cases hkn
        have hbytes : k' * i.bytes ≤ 281474976710656 := by
          have : k' * i.bytes ≤ 1000000000 * 100000 := Nat.mul_le_mul (by omega) hby
          omega
        have hrun := Lib.run_append_nil_zeros (P := c.P) w t t' ty e i zv kd kn (elemOf_eq he) htn hi hzv k' (by omega) h0 (by omega) hbytes
        have hown : ∀ k, own1 (.slice (some ⟨w.heap.size, 0, none⟩) k' (grownCap w k' 0 e)) = some k → w.heap.size ≤ k := by intro k hk; simp [own1] at hk; omega
        have hge := grownCap_ge w k' 0 e
        have hsize : (madeCells zv.cells (k' * i.size)).size = k' * i.size := by simp [madeCells]
        have hcells : Builtin.zeroCells zv.cells k' = madeCells zv.cells (k' * i.size) := by rw [← hzs]; rfl
        refine wp_value (v := .slice (some ⟨w.heap.size, 0, none⟩) k' (grownCap w k' 0 e)) (w' := w.drew.alloc (.cells (Builtin.zeroCells zv.cells k' ++ Builtin.zeroCells zv.cells (grownCap w k' 0 e - k')) e)) (by simp only [execOp, resolve, invoke, builtin, Sem.run_bind, Sem.run_pure, Result.andThen_ok, List.map_toArray, List.map_cons, List.map_nil, hxv, hyv, hrun]) ⟨_, _, _, hs, h.lay hd (by simp) (fun k hk => heap_alloc_old w.drew _ k hk) rfl rfl rfl hown (.row (xs := (madeCells zv.cells (k' * i.size)).toList) hi hzv hzs h0 hby (by simp; omega) ⟨by simp [hsize], .inr ⟨w.heap.size, grownCap w k' 0 e, _, by simp, Nat.zero_le _, heap_alloc_new w.drew _, by simpa using hge, grownCap_le_maxLen w k' 0 e (by simp only [maxLen]; omega), ?_, ?_⟩⟩ (fun x hx => ?_) (fun hf x hx p hp => ?_) (fun q j x p hq hj => ?_) (fun v hv => ?_)) .laid⟩
        · simp only [Array.size_append, size_zeroCells, hzs, ← Nat.add_mul]
          congr 1
          omega
        · rw [hcells, Array.toList_append, Int.toNat_natCast, List.length_replicate]
          exact List.take_left' (by simp [hsize])
        · rw [List.eq_of_mem_replicate hx]; simp [hzs]
        · rw [List.eq_of_mem_replicate hx] at hp
          obtain ⟨y, hy, rfl⟩ := List.mem_map.1 hp
          have := List.all_eq_true.1 hflat y hy
          rw [hf] at this; simpa using this
        · have hql := lt_of_get hq
          rw [List.length_replicate, Int.toNat_natCast] at hql
          have hx := List.eq_of_mem_replicate (List.mem_of_getElem? hq)
          subst hx
          rw [List.getElem?_map] at hj
          obtain ⟨y, hy, rfl⟩ := Option.map_eq_some_iff.1 hj
          have hjl := lt_of_get hy
          rw [Array.length_toList, hzs] at hjl
          refine ⟨y, ?_, .val (okC_ok (hone y (Array.mem_toList_iff.1 (List.mem_of_getElem? hy))))⟩
          rw [made_get hzs h0 (by omega) hjl, ← hy, Array.getElem?_toList]
        · simp only [madeCells] at hv
          rw [Array.toList_map, Array.toList_range] at hv
          obtain ⟨q, _, rfl⟩ := List.mem_map.1 hv
          have hlt : q % zv.cells.size < zv.cells.size := Nat.mod_lt _ (by omega)
          rw [getElem!_pos zv.cells _ hlt]
          exact okC_one (hone _ (Array.getElem_mem hlt))
      · exact hs.elim
end
end Go.V
