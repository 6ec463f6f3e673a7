import Derived.Test.YtfmhmlijnidflaaV7
set_option linter.unusedVariables false
set_option linter.unusedSimpArgs false
namespace Go.V
open Go
theorem splice_get {α : Type} (l : List α) (o : Nat) (ns : List α) (ho : o + ns.length ≤ l.length) (j : Nat) : (splice l o ns)[j]? = if j < o then l[j]? else if j < o + ns.length then ns[j - o]? else l[j]? := by
  unfold splice
  by_cases h1 : j < o
  · rw [if_pos h1, List.getElem?_append_left (by simp; omega), List.getElem?_take, if_pos h1]
  · rw [if_neg h1, List.getElem?_append_right (by simp; omega), List.length_take, Nat.min_eq_left (by omega)]
    by_cases h2 : j < o + ns.length
    · rw [if_pos h2, List.getElem?_append_left (by omega)]
    · rw [if_neg h2, List.getElem?_append_right (by omega), List.getElem?_drop]
      congr 1; omega
theorem splice_length {α : Type} (l : List α) (o : Nat) (ns : List α) (ho : o + ns.length ≤ l.length) : (splice l o ns).length = l.length := by
  unfold splice
  simp; omega
theorem flats_of {ns : List PV} (h : ns.all flatP = true) : ∀ p ∈ ns, flatP p = true := fun p hp => List.all_eq_true.1 h p hp
section
variable {c : Cx} {P : Program} {M M' : Nat → Prop} {w0 w w' : World} {S : Nat → Prop} {N : Nat} {tm : Tm} {m m' : Mem} {ρ ρ' : Nat → Value} {a : Act}
theorem set_get {b : Nat} {x : Blk} (hb : b < m.length) (c : Nat) : (m.set b x)[c]? = if c = b then some x else m[c]? := by
  by_cases h : c = b
  · subst h; rw [if_pos rfl, List.getElem?_set_self hb]
  · rw [if_neg h, List.getElem?_set_ne (Ne.symm h)]
/-- What is one's own is written. -/
theorem Inv.write (h : Inv c tm m ρ a w) {b : Nat} {x0 x : Blk} (hm : m[b]? = some x0)
    (hk : (∃ e es e' es', x0 = .row e es ∧ x = .row e' es' ∧ es'.length = es.length ∧ ∀ sz, (∀ y ∈ es, y.length = sz) → ∀ y ∈ es', y.length = sz) ∨ ∃ cs cs', x0 = .var cs ∧ x = .var cs')
    (hs : w.heap.size ≤ w'.heap.size) (hw : ∀ k, k < w.heap.size → own1 (ρ b) ≠ some k → w'.heap[k]? = w.heap[k]?) (ho : w'.os = w.os) (ht : w'.tape = w.tape) (hp : w'.output = w.output)
    (hx : (∀ p v, Rep c.M w m ρ p v → Rep c.M w' (m.set b x) ρ p v) → (∀ p v, Im w (Mine c.M m ρ) p v → Im w' (Mine c.M (m.set b x) ρ) p v) → BlkOk c.P c.M w' (m.set b x) ρ (ρ b) x) : Inv c tm (m.set b x) ρ a w' := by
  have hbl := lt_of_get hm
  have hd0 : x0 ≠ .dead := by rcases hk with ⟨_, _, _, _, rfl, _⟩ | ⟨_, _, rfl, _⟩ <;> simp
  have hlb : Live m b := ⟨x0, hm, hd0⟩
  have hlive : ∀ c, Live (m.set b x) c → Live m c := by
    rintro c ⟨y, hy, hd⟩
    rw [set_get hbl] at hy
    split at hy
    · rename_i e; subst e; exact hlb
    · exact ⟨y, hy, hd⟩
  have hO : ∀ k, k < w.heap.size → Own (m.set b x) ρ k → Own m ρ k := fun k _ ⟨c, hc, hk⟩ => ⟨c, hlive c hc, hk⟩
  have hN : ∀ k, k < w.heap.size → Mine c.M (m.set b x) ρ k → Mine c.M m ρ k := fun k hk h => h.imp id (hO k hk)
  have hmv : Mv (Own m ρ) w w' := ⟨hs, fun k hk hn => hw k hk fun e => hn ⟨b, hlb, e⟩⟩
  have hr : ∀ c e es, m[c]? = some (.row e es) → ρ c = ρ c ∧ ∃ e' es', (m.set b x)[c]? = some (.row e' es') ∧ es'.length = es.length ∧ ∀ sz, (∀ y ∈ es, y.length = sz) → ∀ y ∈ es', y.length = sz := by
    intro c e es hc
    refine ⟨rfl, ?_⟩
    rw [set_get hbl]
    by_cases hcb : c = b
    · subst hcb
      rw [hm] at hc
      rcases hk with ⟨_, _, e', es', rfl, rfl, h1, h2⟩ | ⟨_, _, rfl, _⟩
      · cases hc; exact ⟨e', es', by rw [if_pos rfl], h1, h2⟩
      · cases hc
    · rw [if_neg hcb]; exact ⟨e, es, hc, rfl, fun _ h => h⟩
  have hv : ∀ c cs, m[c]? = some (.var cs) → ρ c = ρ c ∧ ∃ cs', (m.set b x)[c]? = some (.var cs') := by
    intro c cs hc
    refine ⟨rfl, ?_⟩
    rw [set_get hbl]
    by_cases hcb : c = b
    · subst hcb
      rw [hm] at hc
      rcases hk with ⟨_, _, _, _, rfl, _⟩ | ⟨_, cs', rfl, rfl⟩
      · cases hc
      · exact ⟨cs', by rw [if_pos rfl]⟩
    · rw [if_neg hcb]; exact ⟨cs, hc⟩
  refine ⟨h.sz, h.df, fun t => (h.tm t).move hmv hO hN hr hv, fun c y hy => ?_, fun c c2 k hc hc2 => h.sep c c2 k (hlive c hc) (hlive c2 hc2), fun c k hc => h.new c k (hlive c hc), h.fr.step ho ht hp hs (fun k hk hS => hw k (by have := h.fr.size; omega) fun e => ?_), h.old, h.dis, ?_⟩
  · rw [set_get hbl] at hy
    split at hy
    · rename_i e; subst e; cases hy
      exact hx (fun p v hp => hp.move hmv hO hN hr hv) (fun p v hi => hi.move hmv.mine hN)
    · rename_i hcb
      by_cases hd : y = .dead
      · subst hd; exact .dead
      · exact (h.blk c y hy).move (fun k hk hlt => hw k hlt fun e => hcb (h.sep c b k ⟨y, hy, hd⟩ hlb hk e)) hmv hO hN hr hv
  · rcases h.new b k hlb e with h3 | h3
    · omega
    · exact hS h3
  · refine ⟨by rw [List.length_set]; exact h.ft.len, fun y cs hy hm0 => ?_, fun y e es hy hm0 => ?_, fun y hy hm0 => ?_⟩
    · obtain ⟨h1, cs', h2⟩ := h.ft.var y cs hy hm0
      exact ⟨h1, (hv y cs' h2).2⟩
    · rcases h.ft.row y e es hy hm0 with h1 | ⟨h1, e', es', h2⟩
      · left
        rw [set_get hbl, if_neg (fun e => hd0 (by subst e; rw [hm] at h1; cases h1; rfl))]; exact h1
      · obtain ⟨_, e2, es2, h3, _⟩ := hr y e' es' h2
        exact .inr ⟨h1, e2, es2, h3⟩
    · have h1 := h.ft.dead y hy hm0
      rw [set_get hbl, if_neg (fun e => hd0 (by subst e; rw [hm] at h1; cases h1; rfl))]; exact h1
theorem store_run {t : TypeId} {v : Value} {n : Nat} (hs : sizeT P t = some n) (hn : v.cells.size = n) {gb o : Nat} {cur : Array Value} {te : TypeId} (hg : w.heap[gb]? = some (.cells cur te (0, 0))) (ho : o + n ≤ cur.size) (h1 : ∀ u ∈ v.cells, u.oneCell' = true) :
    (Instr.storeAt t (.pointer (some ⟨gb, o, none⟩)) v).run P w = .ok () (w.setRow gb (splice cur.toList o v.cells.toList).toArray) := by
  unfold sizeT at hs
  obtain ⟨i, hi, rfl⟩ := Option.map_eq_some_iff.1 hs
  have := run_storeCells_at (P := P) gb o te v.cells.toList 0 cur w hg (by simpa [hn] using ho) (fun u hu => h1 u (Array.mem_toList_iff.1 hu))
  simp only [Instr.storeAt, Instr.sureAddr, storeVar, sizeOf, typeInfo, Sem.run_bind, Sem.run_pure, Result.andThen_ok, run_program, hi, hn, ne_eq, not_true_eq_false, if_false]
  rw [this]
  simp only [Nat.add_zero, splice, List.append_assoc]
variable {np : Nat} {lent : FuncId → Bool} {kp : Value → Tm → Mem → Prop} {d : Option Tmp} {ty : TypeId} {pos : String} {af : Array Edge} {g : Option (Nat × Bool)} {k : Tm → Mem → Prop} {Q : Exit → Act → World → Prop}
theorem toList_get {vs : Array Value} {j : Nat} : vs.toList[j]? = vs[j]? := by simp
theorem s_store_adr (h : Inv c tm m ρ a w) {t : TypeId} {v : Value} {b o gb : Nat} {cs ns : List PV} (hm : m[b]? = some (.var cs)) (hg : ρ b = .pointer (some ⟨gb, 0, none⟩)) (hc : CellsOf c.M w m ρ v ns) (hs : sizeT c.P t = some ns.length) (ho : o + ns.length ≤ cs.length) :
    ∃ w', (Instr.storeAt t (.pointer (some ⟨gb, o, none⟩)) v).run c.P w = .ok () w' ∧ Inv c tm (m.set b (.var (splice cs o ns))) ρ a w' := by
  have hok := h.blk b _ hm
  rw [hg] at hok
  cases hok with
  | var hh hl hj h1 =>
    rename_i te vs
    have hn := hc.1
    have hrun := store_run (P := c.P) (w := w) (v := v) hs hn.symm hh (o := o) (by omega) hc.2.2
    refine ⟨_, hrun, h.write hm (.inr ⟨_, _, rfl, rfl⟩) (by simp) (fun k hk hne => setRow_other w gb k _ fun e => hne (by rw [hg, e]; rfl)) rfl rfl rfl (fun hrep him => ?_)⟩
    rw [hg]
    have hsp : o + v.cells.toList.length ≤ vs.toList.length := by rw [Array.length_toList, Array.length_toList, ← hn, ← hl]; exact ho
    refine .var (setRow_heap w gb vs _ te (0, 0) hh) (by rw [splice_length cs o ns ho, hl]; simpa using (splice_length _ _ _ hsp).symm) (fun j p u hp hu => ?_) (fun u hu => ?_)
    · rw [splice_get cs o ns ho] at hp
      rw [List.getElem?_toArray, splice_get _ _ _ hsp, Array.length_toList, ← hn] at hu
      refine hrep p u ?_
      by_cases h1 : j < o
      · rw [if_pos h1] at hp hu; exact hj j p u hp (by rw [← toList_get]; exact hu)
      · rw [if_neg h1] at hp hu
        by_cases h2 : j < o + ns.length
        · rw [if_pos h2] at hp hu; exact hc.2.1 _ p u hp (by rw [← toList_get]; exact hu)
        · rw [if_neg h2] at hp hu; exact hj j p u hp (by rw [← toList_get]; exact hu)
    · have hu' : u ∈ splice vs.toList o v.cells.toList := by simpa using hu
      unfold splice at hu'
      rcases List.mem_append.1 hu' with h3 | h3
      · exact h1 u (Array.mem_toList_iff.1 (List.mem_of_mem_take h3))
      · rcases List.mem_append.1 h3 with h3 | h3
        · exact hc.2.2 u (Array.mem_toList_iff.1 h3)
        · exact h1 u (Array.mem_toList_iff.1 (List.mem_of_mem_drop h3))
theorem s_store_ead (h : Inv c tm m ρ a w) {t : TypeId} {v : Value} {b i j gb n cc sz : Nat} {e : TypeId} {es : List (List PV)} {x ns : List PV} (hm : m[b]? = some (.row e es)) (hi : es[i]? = some x) (hsz' : ∀ y ∈ es, y.length = sz) (hg : ρ b = .slice (some ⟨gb, 0, none⟩) n cc) (hc : CellsOf c.M w m ρ v ns) (hpu : pures ns = true) (hfl : flatT c.P e = true → ∀ p ∈ ns, flatP p = true) (hs : sizeT c.P t = some ns.length) (ho : j + ns.length ≤ x.length) :
    ∃ w', (Instr.storeAt t (.pointer (some ⟨gb, i * sz + j, none⟩)) v).run c.P w = .ok () w' ∧ Inv c tm (m.set b (.row e (es.set i (splice x j ns)))) ρ a w' := by
  have hok := h.blk b _ hm
  have hil := lt_of_get hi
  have hxl : x.length = sz := hsz' x (List.mem_of_getElem? hi)
  generalize hv : ρ b = vb at hok
  cases hok with
  | row hinf hz hzs h0 hby hlen hown hsz hf hx h1 =>
    rename_i xs inf z
    have e1 : inf.size = sz := by rw [← hsz x (List.mem_of_getElem? hi), hxl]
    subst e1
    have hown' := hown
    rcases hown.2 with ⟨e2, _⟩ | ⟨g', cap, cur, e2, hb0, hh, hnc, hcm, hcs, htake⟩
    · rw [← hv, hg] at e2; cases e2
    · rw [← hv, hg] at e2
      cases e2
      have hn := hc.1
      have hmul : i * inf.size + inf.size ≤ es.length * inf.size := by
        have := Nat.mul_le_mul_right inf.size (show i + 1 ≤ es.length by omega)
        rw [Nat.add_mul, Nat.one_mul] at this; exact this
      have hmul2 : es.length * inf.size ≤ cc * inf.size := Nat.mul_le_mul_right _ hnc
      have hrun := store_run (P := c.P) (w := w) (v := v) hs hn.symm hh (o := i * inf.size + j) (by omega) hc.2.2
      have hsl : (splice x j ns).length = x.length := splice_length x j ns ho
      have hset : ∀ q, (es.set i (splice x j ns))[q]? = if q = i then some (splice x j ns) else es[q]? := by
        intro q
        by_cases hq : q = i
        · subst hq; rw [if_pos rfl, List.getElem?_set_self hil]
        · rw [if_neg hq, List.getElem?_set_ne (Ne.symm hq)]
      have hlens : ∀ s, (∀ y ∈ es, y.length = s) → ∀ y ∈ es.set i (splice x j ns), y.length = s := by
        intro s hsy y hy
        obtain ⟨q, hq⟩ := List.getElem?_of_mem hy
        rw [hset] at hq
        split at hq
        · cases hq; rw [hsl]; exact hsy x (List.mem_of_getElem? hi)
        · exact hsy y (List.mem_of_getElem? hq)
      have hxs : xs.length = es.length * inf.size := hown'.1
      have hspx : i * inf.size + j + v.cells.toList.length ≤ xs.length := by rw [Array.length_toList, ← hn]; omega
      have hspc : i * inf.size + j + v.cells.toList.length ≤ cur.toList.length := by rw [Array.length_toList, Array.length_toList, ← hn]; omega
      refine ⟨_, hrun, h.write hm (.inl ⟨_, _, _, _, rfl, rfl, by simp, hlens⟩) (by simp) (fun k hk hne => setRow_other w gb k _ fun e => hne (by rw [hg, e]; rfl)) rfl rfl rfl (fun hrep him => ?_)⟩
      rw [hg]
      refine .row (xs := splice xs (i * inf.size + j) v.cells.toList) hinf hz hzs h0 hby (by simpa using hlen) ⟨by rw [splice_length _ _ _ hspx, hxs, List.length_set], .inr ⟨gb, cc, _, by rw [List.length_set], hb0, setRow_heap w gb cur _ e (0, 0) hh, by rw [List.length_set]; exact hnc, hcm, by rw [List.size_toArray, splice_length _ _ _ hspc, Array.length_toList]; exact hcs, ?_⟩⟩ (hlens _ hsz) (fun hft => ?_) (fun q jj y p hq hj => ?_) (fun u hu => ?_)
      · rw [List.length_set]
        apply List.ext_getElem?
        intro q
        rw [List.getElem?_take, splice_get _ _ _ hspc, splice_get _ _ _ hspx, ← htake, List.getElem?_take]
        have : v.cells.toList.length = ns.length := by rw [Array.length_toList, hn]
        rw [this]
        by_cases hq : q < es.length * inf.size
        · rw [if_pos hq, if_pos hq]
        · rw [if_neg hq, if_neg hq, if_neg (by omega), if_neg (by omega)]
      · intro y hy
        obtain ⟨q, hq⟩ := List.getElem?_of_mem hy
        rw [hset] at hq
        split at hq
        · cases hq
          intro p hp
          unfold splice at hp
          rcases List.mem_append.1 hp with h3 | h3
          · exact hf hft x (List.mem_of_getElem? hi) p (List.mem_of_mem_take h3)
          · rcases List.mem_append.1 h3 with h3 | h3
            · exact hfl hft p h3
            · exact hf hft x (List.mem_of_getElem? hi) p (List.mem_of_mem_drop h3)
        · exact hf hft y (List.mem_of_getElem? hq)
      · rw [hset] at hq
        rw [splice_get _ _ _ hspx, Array.length_toList, ← hn]
        have hjl := lt_of_get hj
        split at hq
        · rename_i e2; subst e2; cases hq
          rw [hsl, hxl] at hjl
          rw [splice_get x j ns ho] at hj
          by_cases h3 : jj < j
          · rw [if_pos h3] at hj
            rw [if_pos (by omega)]
            obtain ⟨u, hu, hp⟩ := hx q jj x p hi hj
            exact ⟨u, hu, him _ _ hp⟩
          · rw [if_neg h3] at hj
            rw [if_neg (by omega)]
            by_cases h4 : jj < j + ns.length
            · rw [if_pos h4] at hj
              rw [if_pos (by omega)]
              obtain ⟨u, hu, hr, _⟩ := hc.get hj
              exact ⟨u, by rw [toList_get, ← hu]; congr 1; omega, him _ _ (hr.pure (pures_get hpu hj))⟩
            · rw [if_neg h4] at hj
              rw [if_neg (by omega)]
              obtain ⟨u, hu, hp⟩ := hx q jj x p hi hj
              exact ⟨u, hu, him _ _ hp⟩
        · rename_i hqi
          rw [hsz y (List.mem_of_getElem? hq)] at hjl
          obtain ⟨u, hu, hp⟩ := hx q jj y p hq hj
          refine ⟨u, ?_, him _ _ hp⟩
          rw [← hu]
          rcases Nat.lt_or_gt_of_ne hqi with hlt | hgt
          · have := Nat.mul_le_mul_right inf.size (show q + 1 ≤ i by omega)
            rw [Nat.add_mul, Nat.one_mul] at this
            rw [if_pos (by omega)]
          · have := Nat.mul_le_mul_right inf.size (show i + 1 ≤ q by omega)
            rw [Nat.add_mul, Nat.one_mul] at this
            rw [if_neg (by omega), if_neg (by omega)]
      · unfold splice at hu
        rcases List.mem_append.1 hu with h3 | h3
        · exact h1 u (List.mem_of_mem_take h3)
        · rcases List.mem_append.1 h3 with h3 | h3
          · exact hc.2.2 u (Array.mem_toList_iff.1 h3)
          · exact h1 u (List.mem_of_mem_drop h3)
theorem s_storeP (h : Inv c tm m ρ a w) (hd : ∀ t, d = some t → t < c.N) {t : TypeId} {x y : Operand} (hs : storeP c.P d k t x y tm m) : Oper.wp c.P ⟨d, .store t x y, ty, pos, af, g⟩ a w (Then c k) Q := by
  unfold storeP at hs
  unfold onPtr at hs
  have hx := h.ev x
  generalize hq : a.eval x = vx at hx
  split at hs
  · rename_i b o he
    rw [he] at hx
    obtain ⟨ns, hs, hc⟩ := cells_sound h.blk (h.ev y) hs
    obtain ⟨cs, hm, hcond, hs⟩ := onVarB_e hs
    cases hx with
    | im hi => cases hi
    | adr hm' hg =>
      obtain ⟨w', hrun, hinv⟩ := s_store_adr h hm hg hc hcond.1 hcond.2
      refine wp_skip (w' := w') ?_ (hinv.then hd (.im (.val okB_undef)) hs)
      simp only [execOp, Sem.run_bind, hq, hrun, Result.andThen_ok, Sem.run_pure]
  · rename_i b i j he
    rw [he] at hx
    obtain ⟨ns, hs, hc⟩ := cells_sound h.blk (h.ev y) hs
    obtain ⟨e, es, hm, hs⟩ := onRowB_e hs
    obtain ⟨cc, hi, ⟨h1, h2, h3, h4⟩, hs⟩ := onS_e hs
    cases hx with
    | im hi => cases hi
    | ead hm' hi' hsz hg =>
      rw [hm] at hm'
      cases hm'
      have hfl : flatT c.P e = true → ∀ p ∈ ns, flatP p = true := fun hft => by
        rw [hft] at h4; exact flats_of (by simpa using h4)
      obtain ⟨w', hrun, hinv⟩ := s_store_ead h hm hi hsz hg hc h3 hfl h1 h2
      refine wp_skip (w' := w') ?_ (hinv.then hd (.im (.val okB_undef)) hs)
      simp only [execOp, Sem.run_bind, hq, hrun, Result.andThen_ok, Sem.run_pure]
  · cases hs
  · cases hs
theorem s_store (h : Inv c tm m ρ a w) (hd : ∀ t, d = some t → t < c.N) {t : TypeId} {x y : Operand} (hs : step c.P np lent kp tm m d ty k (.store t x y)) : Oper.wp c.P ⟨d, .store t x y, ty, pos, af, g⟩ a w (Then c k) Q := by
  simp only [step] at hs
  unfold ifB at hs
  split at hs
  · exact s_storeP (h.frz _) hd hs
  · exact s_storeP h hd hs
theorem fold_splice {off : Nat} {ns cv : Array Value} (h : off + ns.size ≤ cv.size) : ns.zipIdx.foldl (fun cs (x : Value × Nat) => cs.setIfInBounds (off + x.2) x.1) cv = (splice cv.toList off ns.toList).toArray := by
  obtain ⟨h1, h2⟩ := Great.foldl_set off ns.toList 0 cv
  have e : ns.zipIdx.foldl (fun cs (x : Value × Nat) => cs.setIfInBounds (off + x.2) x.1) cv = (ns.toList.zipIdx 0).foldl (fun cs (x : Value × Nat) => cs.setIfInBounds (off + x.2) x.1) cv := by
    rw [← Array.foldl_toList, Array.toList_zipIdx]
  rw [e]
  apply Array.ext_getElem?
  intro j
  have e2 : (splice cv.toList off ns.toList).toArray[j]? = (splice cv.toList off ns.toList)[j]? := by simp
  rw [h2 j, e2, splice_get _ _ _ (by simpa using h)]
  simp only [Nat.add_zero, Array.length_toList]
  by_cases h3 : j < off
  · rw [if_neg (by omega), if_pos h3]; simp
  · by_cases h4 : j < off + ns.size
    · rw [if_pos (by omega), if_neg h3, if_pos h4]
    · rw [if_neg (by omega), if_neg h3, if_neg h4]; simp
theorem fill_sound (hb : ∀ b x, m[b]? = some x → BlkOk P M w m ρ (ρ b) x) (pl : List (Nat × Nat)) (ρe : Operand → Value) (te : Operand → PV) (he : ∀ x, Rep M w m ρ (te x) (ρe x)) : ∀ (l : List (Nat × Operand)) (cs : List PV) (cv : Array Value) (K : List PV → Prop), CellsOf M w m ρ (.agg cv) cs → fillB pl cs (l.map fun y => (y.1, te y.2)) K →
    ∃ cs' cv', K cs' ∧ Instr.fill (pl.toArray[·]?) cv (l.map fun y => (y.1, ρe y.2)) = some cv' ∧ CellsOf M w m ρ (.agg cv') cs'
  | [], cs, cv, K, hc, hs => ⟨cs, cv, hs, rfl, hc⟩
  | (i, x) :: l, cs, cv, K, hc, hs => by
    rw [List.map_cons, fillB] at hs
    obtain ⟨off, hoff, hs⟩ := onS_e hs
    · obtain ⟨ns, ⟨hcond, hs⟩, hn⟩ := cells_sound hb (he x) hs
      · have hcl : cs.length = cv.size := hc.1
        have hnl : ns.length = (ρe x).cells.size := hn.1
        have hle : off.1 + (ρe x).cells.size ≤ cv.size := by omega
        have hsp : off.1 + (ρe x).cells.toList.length ≤ cv.toList.length := by simpa using hle
        have hc' : CellsOf M w m ρ (.agg (splice cv.toList off.1 (ρe x).cells.toList).toArray) (splice cs off.1 ns) := by
          refine ⟨?_, fun j p u hp hu => ?_, fun u hu => ?_⟩
          · rw [splice_length cs off.1 ns hcond.2, hcl]
            simpa [Value.cells] using (splice_length _ _ _ hsp).symm
          · rw [splice_get cs off.1 ns hcond.2] at hp
            have e2 : (splice cv.toList off.1 (ρe x).cells.toList)[j]? = some u := by rw [← hu]; exact (List.getElem?_toArray).symm
            rw [splice_get _ _ _ hsp, Array.length_toList, ← hnl] at e2
            replace hu := e2
            by_cases h1 : j < off.1
            · rw [if_pos h1] at hp hu; exact hc.2.1 j p u hp (by rw [toList_get] at hu; exact hu)
            · rw [if_neg h1] at hp hu
              by_cases h2 : j < off.1 + ns.length
              · rw [if_pos h2] at hp hu; exact hn.2.1 _ p u hp (by rw [← toList_get]; exact hu)
              · rw [if_neg h2] at hp hu; exact hc.2.1 j p u hp (by rw [toList_get] at hu; exact hu)
          · have hu' : u ∈ splice cv.toList off.1 (ρe x).cells.toList := by simpa [Value.cells] using hu
            unfold splice at hu'
            rcases List.mem_append.1 hu' with h3 | h3
            · exact hc.2.2 u (Array.mem_toList_iff.1 (List.mem_of_mem_take h3))
            · rcases List.mem_append.1 h3 with h3 | h3
              · exact hn.2.2 u (Array.mem_toList_iff.1 h3)
              · exact hc.2.2 u (Array.mem_toList_iff.1 (List.mem_of_mem_drop h3))
        obtain ⟨cs', cv', h1, h2, h3⟩ := fill_sound hb pl ρe te he l _ _ K hc' hs
        refine ⟨cs', cv', h1, ?_, h3⟩
        rw [List.map_cons, Instr.fill]
        have hp : pl.toArray[i]? = some (off.1, off.2) := by rw [List.getElem?_toArray]; exact hoff
        simp only [hp]
        rw [if_neg (by simp; omega)]
        rw [← h2, ← fold_splice hle]
theorem layout_eq {t : TypeId} {pl : List (Nat × Nat)} {zs : List Value} (h : layout P t = some (pl, zs)) (parts : List (Nat × Value)) : P.built t parts = Instr.fill (pl.toArray[·]?) zs.toArray parts ∧ ∀ z ∈ zs, okC z = true := by
  unfold layout at h
  split at h
  · rename_i fs z hu hz
    split at h
    · rename_i pl' hpl
      split at h
      · rename_i hone
        cases h
        refine ⟨?_, fun z hz' => List.all_eq_true.1 hone z hz'⟩
        cases hi : P.info? t with
        | none => rw [hi] at hz; cases hz
        | some i =>
          rw [hi] at hz
          simp only [Option.bind_some] at hz
          simp only [Program.built, hi, hu, hz, hpl, Array.toArray_toList]
      · cases h
    · cases h
  · cases h
theorem s_build (h : Inv c tm m ρ a w) (hd : ∀ t, d = some t → t < c.N) {t : TypeId} {parts : Array (Nat × Operand)} (hs : step c.P np lent kp tm m d ty k (.build t parts)) : Quiet c.P ⟨d, .build t parts, ty, pos, af, g⟩ a w (Then c k) := by
  simp only [step] at hs
  obtain ⟨x, hx, hs⟩ := onS_e hs
  · obtain ⟨pl, zs⟩ := x
    obtain ⟨hbuilt, hone⟩ := layout_eq hx (parts.map fun x => (x.1, a.eval x.2)).toList
    have hz : CellsOf c.M w m ρ (.agg zs.toArray) (zs.map .val) := by
      refine ⟨by simp [Value.cells], fun j p u hp hu => ?_, fun u hu => okC_one (hone u (by simpa [Value.cells] using hu))⟩
      rw [List.getElem?_map] at hp
      simp only [Value.cells, List.getElem?_toArray] at hu
      rw [hu] at hp
      cases hp
      exact .im (.val (okC_ok (hone u (List.mem_of_getElem? hu))))
    obtain ⟨cs', cv', hk, hfill, hc⟩ := fill_sound h.blk pl a.eval (ev tm) h.ev parts.toList _ zs.toArray _ hz hs
    have hrun := run_build (P := c.P) w t (parts.map fun x => (x.1, a.eval x.2)) cv' (by rw [hbuilt, Array.toList_map]; exact hfill)
    refine q_value (v := .agg cv') ?_ (h.then hd (.agg hc.1 hc.2.1 hc.2.2) hk)
    simp only [execOp, Sem.run_bind]
    rw [hrun]; rfl
theorem bound_sound (h : Inv c tm m ρ a w) {z : Int} {o : Option Operand} {n : Int} (hb : bound z (o.map (ev tm)) = some n) : (o = none ∧ n = z) ∨ ∃ x kd, o = some x ∧ a.eval x = .int kd n := by
  cases o with
  | none => simp [bound] at hb; exact .inl ⟨rfl, hb.symm⟩
  | some x =>
    simp only [Option.map_some] at hb
    unfold bound at hb
    split at hb
    · rename_i heq; cases heq
    · rename_i kd n' heq
      cases hb
      have he : ev tm x = .val (.int kd n) := Option.some.inj heq
      exact .inr ⟨x, kd, rfl, (he ▸ h.ev x : Rep c.M w m ρ (.val (.int kd n)) (a.eval x)).val_eq⟩
    · cases hb
theorem bounds_run (h : Inv c tm m ρ a w) {lo hi : Option Operand} {l u : Int} {n cc : Nat} (hl : bound 0 (lo.map (ev tm)) = some l) (hu : bound n (hi.map (ev tm)) = some u) (h0 : 0 ≤ l) (h1 : l ≤ u) (h2 : u ≤ n) (hc : n ≤ cc) :
    (Instr.sliceBounds true n cc (lo.map a.eval) (hi.map a.eval) none).run P w = .ok (l.toNat, u.toNat, cc) w := by
  rcases bound_sound h hl with ⟨rfl, rfl⟩ | ⟨x, kd, rfl, hx⟩ <;> rcases bound_sound h hu with ⟨rfl, rfl⟩ | ⟨y, kd', rfl, hy⟩
  · simp [Instr.sliceBounds]
  · have : u ≤ (cc : Int) := by omega
    simp [Instr.sliceBounds, Instr.sliceBound, asIntOf, hy, h1, this]
  · simp [Instr.sliceBounds, Instr.sliceBound, asIntOf, hx, h0, h1]
  · have e1 : 0 ≤ u := by omega
    have e2 : u ≤ (cc : Int) := by omega
    simp [Instr.sliceBounds, Instr.sliceBound, asIntOf, hx, hy, h0, e1, e2]
    exact fun hh => absurd hh (by omega)
theorem nilP_eq {p : PV} (h : nilP p = true) : p = .val (.slice none 0 0) := by
  cases p with
  | val v => simp only [nilP] at h; unfold nilV at h; split at h <;> first | rfl | cases h
  | _ => cases h
theorem s_slice (h : Inv c tm m ρ a w) (hd : ∀ t, d = some t → t < c.N) {t : TypeId} {x : Operand} {lo hi : Option Operand} (hs : step c.P np lent kp tm m d ty k (.slice t x lo hi none)) : Quiet c.P ⟨d, .slice t x lo hi none, ty, pos, af, g⟩ a w (Then c k) := by
  simp only [step] at hs
  have hx := h.ev x
  generalize hq : a.eval x = vx at hx
  unfold ifB at hs
  split at hs
  · rename_i hnil
    rw [nilP_eq hnil] at hx
    obtain rfl := hx.val_eq
    obtain ⟨z, hz, hs⟩ := onS_e hs
    obtain ⟨l, hl, hs⟩ := onS_e hs
    obtain ⟨u, hu, ⟨rfl, rfl⟩, hs'⟩ := onS_e hs
    obtain ⟨e, i, hun, hi', rfl⟩ := elemSize_eq hz
    have hb := bounds_run (P := c.P) h (n := 0) (cc := 0) hl hu (Int.le_refl _) (Int.le_refl _) (Int.le_refl _) (Nat.le_refl _)
    refine q_value (v := .slice none 0 0) ?_ (h.then hd (.im (.val rfl)) hs')
    simp only [execOp, Instr.sliceAt, Instr.slice, Sem.run_bind, hq, run_underlying hun, Result.andThen_ok, Option.map_none, hb, sizeOf, typeInfo, run_program, hi', Sem.run_pure, Int.toNat_zero, if_true, Nat.sub_self]
  unfold onRow at hs
  split at hs
  · rename_i es he
    rw [he] at hx
    obtain ⟨l, hl, hs⟩ := onS_e hs
    obtain ⟨u, hu, hs⟩ := onS_e hs
    obtain ⟨z, hz, ⟨h0, h1, h2, h3⟩, hs⟩ := onS_e hs
    · · obtain ⟨e, i, hun, hi', rfl⟩ := elemSize_eq hz
        cases hx with
        | im hi =>
          cases hi with
          | sl uu hn hmx hcap hlen hA hr =>
            rename_i A n cc sz
            subst hn
            have hb := bounds_run (P := c.P) h (cc := cc) hl hu h0 h1 h2 hcap
            have hlen' : ((es.take u.toNat).drop l.toNat).length = u.toNat - l.toNat := by simp; omega
            refine q_value (v := .slice (if cc = l.toNat then A else A.map (·.add (l.toNat * i.size))) (u.toNat - l.toNat) (cc - l.toNat)) ?_ (h.then hd (.im (.sl (sz := sz) (fun q j => uu (l.toNat + q) j) hlen' (by omega) (by omega) (fun y hy => hlen y (List.mem_of_mem_take (List.mem_of_mem_drop hy))) ?_ (fun q j y p hy hj => hr _ j y p (part_get hy).1 hj))) hs)
            · simp only [execOp, Instr.sliceAt, Instr.slice, Sem.run_bind, hq, run_underlying hun, Result.andThen_ok, Option.map_none, hb, sizeOf, typeInfo, run_program, hi', Sem.run_pure]
            · by_cases hz0 : u.toNat - l.toNat = 0
              · exact .inl hz0
              · right
                rcases hA with hA | ⟨ad, rfl, hA⟩
                · omega
                · refine ⟨ad.add (l.toNat * i.size), by rw [if_neg (by omega)]; rfl, fun q j y p hy hj => ?_⟩
                  obtain ⟨hy', hlt'⟩ := part_get hy
                  have e1 : sz = i.size := by rw [← hlen y (List.mem_of_getElem? hy'), h3 y (List.mem_of_getElem? hy')]
                  obtain ⟨c1, c2, c3⟩ := hA _ j y p hy' hj
                  rw [Addr.add_add, add_block]
                  rw [Nat.add_mul, Nat.add_assoc, e1] at c1
                  rw [e1]
                  exact ⟨c1, c2, c3⟩
  · rename_i b he
    rw [he] at hx
    obtain ⟨e, es, hm, hs⟩ := onRowB_e hs
    · obtain ⟨l, hl, hs⟩ := onS_e hs
      obtain ⟨u, hu, hel, ⟨h0, h1, h2⟩, hs⟩ := onS_e hs
      · · have hun := elemOf_eq hel
          have hxv : vx = ρ b := by
            cases hx with
            | im hi => cases hi
            | own => rfl
          have hok := h.blk b _ hm
          generalize hvb : ρ b = vb at hok
          cases hok with
          | row hi' hzz hzzs hp0 hby hlen' ho hsz hf hx' h1' =>
            rename_i xs i z'
            have hform : ∃ A cc, vb = .slice A es.length cc ∧ es.length ≤ cc ∧ cc ≤ maxLen ∧ (es.length = 0 ∨ ∃ g, A = some ⟨g, 0, none⟩) := by
              rcases ho.2 with ⟨rfl, e2⟩ | ⟨g, cap, cur, rfl, _, _, h3, h4, _⟩
              · exact ⟨none, 0, by rw [e2], by omega, by simp [maxLen], .inl e2⟩
              · exact ⟨_, cap, rfl, h3, h4, .inr ⟨g, rfl⟩⟩
            obtain ⟨A, cc, rfl, hcap, hcx, hAf⟩ := hform
            have hb := bounds_run (P := c.P) h (cc := cc) hl hu h0 h1 h2 hcap
            refine q_value (v := .slice (if cc = l.toNat then A else A.map (·.add (l.toNat * i.size))) (u.toNat - l.toNat) (cc - l.toNat)) ?_ (h.then hd ?_ hs)
            · simp only [execOp, Instr.sliceAt, Instr.slice, Sem.run_bind, hq, hxv, hvb, run_underlying hun, Result.andThen_ok, Option.map_none, hb, sizeOf, typeInfo, run_program, hi', Sem.run_pure]
            · by_cases hl0 : l.toNat = 0
              · rw [hl0]
                have e1 : (if cc = 0 then A else A.map (·.add (0 * i.size))) = A := by
                  split
                  · rfl
                  · rw [Nat.zero_mul]; cases A with
                    | none => rfl
                    | some ad => simp [Addr.add]
                rw [e1, Nat.sub_zero, Nat.sub_zero]
                exact .osl0 hm (by omega) hvb
              · refine .osl (sz := i.size) (g := (match A with | some ad => ad.block | none => 0)) (n := es.length) (c' := cc) hm (by omega) (by omega) (by omega) (by omega) (by omega) hsz ?_
                rcases hAf with h3 | ⟨g, rfl⟩
                · omega
                · refine ⟨?_, hvb, by omega⟩
                  by_cases hcl : cc = l.toNat
                  · exact .inl (by omega)
                  · right
                    rw [if_neg hcl]
                    simp [add_none]
  · rename_i b l' h' he
    rw [he] at hx
    obtain ⟨e, es, hm, hs⟩ := onRowB_e hs
    obtain ⟨l, hl, hs⟩ := onS_e hs
    obtain ⟨u, hu, hel, ⟨hl0, h0, h1, h2⟩, hs⟩ := onS_e hs
    have hun := elemOf_eq hel
    cases hx with
    | im hi => cases hi
    | osl0 => omega
    | osl hm' g0 g1 g2 g3 g4 g5 g6 =>
      rename_i c0 n c' sz g A e' es'
      rw [hm] at hm'; cases hm'
      obtain ⟨g7, g8, g9⟩ := g6
      have hok := h.blk b _ hm
      generalize hvb : ρ b = vb at hok
      cases hok with
      | row hi' hzz hzzs hp0 hby hlen' ho hsz hf hx' h1' =>
        rename_i xs i z'
        obtain rfl : sz = i.size := by
          obtain ⟨x, hx⟩ : ∃ x, x ∈ es := ⟨es[0], List.getElem_mem _⟩
          rw [← g5 x hx, hsz x hx]
        have hb := bounds_run (P := c.P) h (n := h' - l') (cc := c0) hl hu h0 h1 h2 g3
        refine q_value (v := .slice (if c0 = l.toNat then A else A.map (·.add (l.toNat * i.size))) (u.toNat - l.toNat) (c0 - l.toNat)) ?_ (h.then hd ?_ hs)
        · simp only [execOp, Instr.sliceAt, Instr.slice, Sem.run_bind, hq, run_underlying hun, Result.andThen_ok, Option.map_none, hb, sizeOf, typeInfo, run_program, hi', Sem.run_pure]
        · have hrep : Rep c.M w m ρ (.osl b (l' + l.toNat) (l' + u.toNat)) (.slice (if c0 = l.toNat then A else A.map (·.add (l.toNat * i.size))) (l' + u.toNat - (l' + l.toNat)) (c0 - l.toNat)) := by
            refine .osl (sz := i.size) (g := g) (n := n) (c' := c') hm (by omega) (by omega) (by omega) (by omega) (by omega) hsz ⟨?_, g8, by omega⟩
            by_cases hcl : c0 = l.toNat
            · exact .inl (by omega)
            · right
              rcases g7 with g7 | rfl
              · omega
              · rw [if_neg hcl]
                simp [add_none, Nat.add_mul]
          rw [show l' + u.toNat - (l' + l.toNat) = u.toNat - l.toNat by omega] at hrep
          exact hrep
  · cases hs
theorem s_slice3 (h : Inv c tm m ρ a w) (hd : ∀ t, d = some t → t < c.N) {t : TypeId} {x hi mx : Operand} {lo : Option Operand} (hs : step c.P np lent kp tm m d ty k (.slice t x lo (some hi) (some mx))) : Quiet c.P ⟨d, .slice t x lo (some hi) (some mx), ty, pos, af, g⟩ a w (Then c k) := by
  simp only [step] at hs
  have hx := h.ev x
  generalize hq : a.eval x = vx at hx
  unfold onRow at hs
  split at hs
  · rename_i es he
    rw [he] at hx
    obtain ⟨k1, u, hu, hs⟩ := onInt_e hs
    obtain ⟨k2, uh, hh, hs⟩ := onInt_e hs
    obtain ⟨l, hl, hs⟩ := onS_e hs
    obtain ⟨z, hz, ⟨h0, h1, h2, h2', h3⟩, hs⟩ := onS_e hs
    have hmv := (hu ▸ h.ev mx : Rep c.M w m ρ (.val (.int k1 u)) (a.eval mx)).val_eq
    have hhv := (hh ▸ h.ev hi : Rep c.M w m ρ (.val (.int k2 uh)) (a.eval hi)).val_eq
    obtain ⟨e, i, hun, hi', rfl⟩ := elemSize_eq hz
    cases hx with
    | im hi0 =>
      cases hi0 with
      | sl uu hn hmx hcap hlen hA hr =>
        rename_i A n cc sz
        subst hn
        have hb : (Instr.sliceBounds true es.length cc (lo.map a.eval) (some (a.eval hi)) (some (a.eval mx))).run c.P w = .ok (l.toNat, uh.toNat, u.toNat) w := by
          have e1 : 0 ≤ u := by omega
          have e2 : u ≤ (cc : Int) := by omega
          have e3 : 0 ≤ uh := by omega
          have e4 : max u 0 = u := by omega
          have e5 : max uh 0 = uh := by omega
          rcases bound_sound h hl with ⟨rfl, rfl⟩ | ⟨y, kd, rfl, hy⟩
          · simp [Instr.sliceBounds, Instr.sliceBound, asIntOf, hmv, hhv, e1, e2, e3, h2, e4, e5]
          · simp [Instr.sliceBounds, Instr.sliceBound, asIntOf, hmv, hhv, hy, h0, h1, e1, e2, e3, h2, e4, e5]
        have hlen' : ((es.take uh.toNat).drop l.toNat).length = uh.toNat - l.toNat := by simp; omega
        refine q_value (v := .slice (if u.toNat = l.toNat then A else A.map (·.add (l.toNat * i.size))) (uh.toNat - l.toNat) (u.toNat - l.toNat)) ?_ (h.then hd (.im (.sl (sz := sz) (fun q j => uu (l.toNat + q) j) hlen' (by omega) (by omega) (fun y hy => hlen y (List.mem_of_mem_take (List.mem_of_mem_drop hy))) ?_ (fun q j y p hy hj => hr _ j y p (part_get hy).1 hj))) hs)
        · simp only [execOp, Instr.sliceAt, Instr.slice, Sem.run_bind, hq, run_underlying hun, Result.andThen_ok, Option.map_some, hb, sizeOf, typeInfo, run_program, hi', Sem.run_pure]
        · by_cases hz0 : uh.toNat - l.toNat = 0
          · exact .inl hz0
          · right
            rcases hA with hA | ⟨ad, rfl, hA⟩
            · omega
            · refine ⟨ad.add (l.toNat * i.size), by rw [if_neg (by omega)]; rfl, fun q j y p hy hj => ?_⟩
              obtain ⟨hy', hlt'⟩ := part_get hy
              have e1 : sz = i.size := by rw [← hlen y (List.mem_of_getElem? hy'), h3 y (List.mem_of_getElem? hy')]
              obtain ⟨c1, c2, c3⟩ := hA _ j y p hy' hj
              rw [Addr.add_add, add_block]
              rw [Nat.add_mul, Nat.add_assoc, e1] at c1
              rw [e1]
              exact ⟨c1, c2, c3⟩
  · exact hs.elim
  · exact hs.elim
  · exact hs.elim
theorem zeroCells_get {z : Array Value} {n i : Nat} (hz : z.size = i) (h0 : 0 < i) {q j : Nat} (hq : q < n) (hj : j < i) : (Builtin.zeroCells z n).toList[q * i + j]? = z[j]? := by
  have hlt : q * i + j < n * i := by
    have := Nat.mul_le_mul_right i (show q + 1 ≤ n by omega)
    rw [Nat.add_mul, Nat.one_mul] at this; omega
  simp only [Builtin.zeroCells]
  rw [Array.toList_map, Array.toList_range, List.getElem?_map, hz, List.getElem?_range hlt, Option.map_some, Nat.mul_comm q i, Nat.mul_add_mod, Nat.mod_eq_of_lt hj]
  rw [getElem!_pos z j (by omega), Array.getElem?_eq_getElem (by omega)]
theorem s_clear (h : Inv c tm m ρ a w) (hd : ∀ t, d = some t → t < c.N) {args : Array Operand} {ts : Array TypeId} (hs : step c.P np lent kp tm m d ty k (.call { callee := .builtin .clear, args := args, argTypes := ts })) : Oper.wp c.P ⟨d, .call { callee := .builtin .clear, args := args, argTypes := ts }, ty, pos, af, g⟩ a w (Then c k) Q := by
  simp only [step] at hs
  obtain ⟨x, hx, hs1⟩ := onOne_e hs
  obtain ⟨t, ht, hs2⟩ := onOne_e hs1
  have hargs : args = #[x] := by rw [← Array.toList_inj]; exact hx
  have hts : ts = #[t] := by rw [← Array.toList_inj]; exact ht
  subst hargs
  subst hts
  have hxr := h.ev x
  generalize hq : a.eval x = vx at hxr
  unfold onRow at hs2
  split at hs2
  · exact hs2.elim
  · exact hs2.elim
  · rename_i b l hh hev
    rw [hev] at hxr
    obtain ⟨e, es, hm, hel, hs⟩ := onRowB_e hs2
    obtain ⟨zs, hzo, ⟨hlt, hle, hfl⟩, hs⟩ := onS_e hs
    have hun := elemOf_eq hel
    obtain ⟨inf, z, hi0, hzv0, rfl, hone⟩ := zeroOf_eq hzo
    have hok := h.blk b _ hm
    generalize hvb : ρ b = vb at hok
    cases hok with
    | row hi hz hzs h0 hby hlen hown hsz hf hx' h1 =>
      rename_i xs inf0 z0
      rw [hi] at hi0; cases hi0
      rw [hz] at hzv0; cases hzv0
      obtain ⟨hxl, hrow⟩ := hown
      rcases hrow with ⟨_, e2⟩ | ⟨gb, cap, cur, rfl, hb0, hheap, hnc, hcm, hcs, htake⟩
      · omega
      · have hform : ∃ cc, vx = .slice (some ⟨gb, l * inf.size, none⟩) (hh - l) cc := by
          cases hxr with
          | im hi => cases hi
          | osl0 h1 h2 h3 => rw [hvb] at h3; cases h3; exact ⟨cap, by simp⟩
          | osl g0 g1 g2 g3 g4 g5 g6 g7 =>
            rename_i c0 n c' sz g' A e' es'
            rw [hm] at g0; cases g0
            obtain ⟨g8, g9, g10⟩ := g7
            rw [hvb] at g9; cases g9
            obtain rfl : sz = inf.size := by
              have he : es[0]? = some (es[0]'(by omega)) := List.getElem?_eq_getElem (by omega)
              rw [← g6 _ (List.mem_of_getElem? he), hsz _ (List.mem_of_getElem? he)]
            rcases g8 with g8 | rfl
            · omega
            · exact ⟨_, rfl⟩
        obtain ⟨cc, rfl⟩ := hform
        have hzl : (Builtin.zeroCells z.cells (hh - l)).toList.length = (hh - l) * inf.size := by simp [Builtin.zeroCells, hzs]
        have hm1 : l * inf.size + (hh - l) * inf.size = hh * inf.size := by rw [← Nat.add_mul]; congr 1; omega
        have hm2 : hh * inf.size ≤ es.length * inf.size := Nat.mul_le_mul_right _ hle
        have hm3 : es.length * inf.size ≤ cap * inf.size := Nat.mul_le_mul_right _ hnc
        have hspx : l * inf.size + (Builtin.zeroCells z.cells (hh - l)).toList.length ≤ xs.length := by omega
        have hspc : l * inf.size + (Builtin.zeroCells z.cells (hh - l)).toList.length ≤ cur.toList.length := by rw [hzl, Array.length_toList, hcs]; omega
        have hones : ∀ u ∈ (Builtin.zeroCells z.cells (hh - l)).toList, u.oneCell' = true := by
          intro u hu
          simp only [Builtin.zeroCells] at hu
          rw [Array.toList_map, Array.toList_range] at hu
          obtain ⟨q, _, rfl⟩ := List.mem_map.1 hu
          have hl2 : q % z.cells.size < z.cells.size := Nat.mod_lt _ (by omega)
          rw [getElem!_pos z.cells _ hl2]
          exact okC_one (hone _ (Array.getElem_mem hl2))
        have hrs := run_storeCells_at (P := c.P) gb (l * inf.size) e (Builtin.zeroCells z.cells (hh - l)).toList 0 cur w hheap (by rw [hzl, Nat.add_zero]; omega) hones
        have hrun : (Builtin.clear_ #[t] ty #[.slice (some ⟨gb, l * inf.size, none⟩) (hh - l) cc]).run c.P w = .ok (.tuple #[]) (w.setRow gb (splice cur.toList (l * inf.size) (Builtin.zeroCells z.cells (hh - l)).toList).toArray) := by
          obtain ⟨n, hn⟩ : ∃ n, hh - l = n + 1 := ⟨hh - l - 1, by omega⟩
          rw [hn] at hrs ⊢
          simp only [Nat.add_zero] at hrs
          simp [Builtin.clear_, run_underlying hun, zeroValue, typeInfo, hi, hz, hrs, splice, List.append_assoc]
        have hns : ∀ q j, q < hh - l → j < inf.size → (Builtin.zeroCells z.cells (hh - l)).toList[q * inf.size + j]? = z.cells[j]? := fun q j hq hj => zeroCells_get hzs h0 hq hj
        have hrl : (List.replicate (hh - l) (z.cells.toList.map PV.val)).length = hh - l := by simp
        have hsp : l + (List.replicate (hh - l) (z.cells.toList.map PV.val)).length ≤ es.length := by rw [hrl]; omega
        have hsl := splice_length es l _ hsp
        have hmemz : ∀ y ∈ splice es l (List.replicate (hh - l) (z.cells.toList.map PV.val)), y ∈ es ∨ y = z.cells.toList.map PV.val := by
          intro y hy
          unfold splice at hy
          rcases List.mem_append.1 hy with h3 | h3
          · exact .inl (List.mem_of_mem_take h3)
          · rcases List.mem_append.1 h3 with h3 | h3
            · exact .inr (List.eq_of_mem_replicate h3)
            · exact .inl (List.mem_of_mem_drop h3)
        have hlens : ∀ s, (∀ y ∈ es, y.length = s) → ∀ y ∈ splice es l (List.replicate (hh - l) (z.cells.toList.map PV.val)), y.length = s := by
          intro s hsy y hy
          rcases hmemz y hy with hy | rfl
          · exact hsy y hy
          · have he : es[0]? = some (es[0]'(by omega)) := List.getElem?_eq_getElem (by omega)
            rw [← hsy _ (List.mem_of_getElem? he), hsz _ (List.mem_of_getElem? he)]; simpa using hzs
        refine wp_value (v := .tuple #[]) (w' := w.setRow gb (splice cur.toList (l * inf.size) (Builtin.zeroCells z.cells (hh - l)).toList).toArray) (by simp [execOp, resolve, invoke, builtin, hq, hrun]) ⟨_, _, _, hs, (h.write hm (.inl ⟨_, _, _, _, rfl, rfl, hsl, hlens⟩) (by simp) (fun k hk hne => setRow_other w gb k _ fun e => hne (by rw [hvb, e]; rfl)) rfl rfl rfl (fun hrep him => ?_)).put hd (.tup (by simp) (fun i p v hp => by simp at hp))⟩
        rw [hvb]
        refine .row (xs := splice xs (l * inf.size) (Builtin.zeroCells z.cells (hh - l)).toList) hi hz hzs h0 hby (by rw [hsl]; exact hlen) ⟨by rw [splice_length _ _ _ hspx, hxl, hsl], .inr ⟨gb, cap, _, by rw [hsl], hb0, setRow_heap w gb cur _ e (0, 0) hheap, by rw [hsl]; exact hnc, hcm, by rw [List.size_toArray, splice_length _ _ _ hspc, Array.length_toList]; exact hcs, ?_⟩⟩ (hlens _ hsz) (fun hft => ?_) (fun q jj y p hqq hj => ?_) (fun u hu => ?_)
        · rw [hsl]
          apply List.ext_getElem?
          intro q
          rw [List.getElem?_take, splice_get _ _ _ hspc, splice_get _ _ _ hspx, ← htake, List.getElem?_take, hzl]
          by_cases hq : q < es.length * inf.size
          · rw [if_pos hq, if_pos hq]
          · rw [if_neg hq, if_neg hq, if_neg (by omega), if_neg (by omega)]
        · intro y hy p hp
          rcases hmemz y hy with hy | rfl
          · exact hf hft y hy p hp
          · obtain ⟨u, hu, rfl⟩ := List.mem_map.1 hp
            have := List.all_eq_true.1 hfl u hu
            rw [hft] at this; simpa using this
        · have hjl := lt_of_get hj
          rw [hlens _ hsz y (List.mem_of_getElem? hqq)] at hjl
          rw [splice_get es l _ hsp, hrl] at hqq
          rw [splice_get _ _ _ hspx, hzl]
          have hstep : ∀ a b : Nat, a < b → a * inf.size + inf.size ≤ b * inf.size := fun a b hab => by
            have := Nat.mul_le_mul_right inf.size (show a + 1 ≤ b by omega)
            rw [Nat.add_mul, Nat.one_mul] at this; exact this
          by_cases h3 : q < l
          · rw [if_pos h3] at hqq
            have := hstep q l h3
            rw [if_pos (by omega)]
            obtain ⟨u, hu, hp⟩ := hx' q jj y p hqq hj
            exact ⟨u, hu, him _ _ hp⟩
          · rw [if_neg h3] at hqq
            have e4 : l * inf.size ≤ q * inf.size := Nat.mul_le_mul_right _ (by omega)
            rw [if_neg (by omega)]
            by_cases h4 : q < l + (hh - l)
            · rw [if_pos h4] at hqq
              have := hstep q hh (by omega)
              rw [if_pos (by omega)]
              obtain rfl := List.eq_of_mem_replicate (List.mem_of_getElem? hqq)
              rw [List.getElem?_map] at hj
              obtain ⟨v, hv, rfl⟩ := Option.map_eq_some_iff.1 hj
              refine ⟨v, ?_, .val (okC_ok (hone v (Array.mem_toList_iff.1 (List.mem_of_getElem? hv))))⟩
              have e5 : q * inf.size + jj - l * inf.size = (q - l) * inf.size + jj := by
                have : (q - l) * inf.size + l * inf.size = q * inf.size := by rw [← Nat.add_mul]; congr 1; omega
                omega
              rw [e5, hns _ _ (by omega) hjl, ← hv, Array.getElem?_toList]
            · rw [if_neg h4] at hqq
              have : hh * inf.size ≤ q * inf.size := Nat.mul_le_mul_right _ (by omega)
              rw [if_neg (by omega)]
              obtain ⟨u, hu, hp⟩ := hx' q jj y p hqq hj
              exact ⟨u, hu, him _ _ hp⟩
        · unfold splice at hu
          rcases List.mem_append.1 hu with h3 | h3
          · exact h1 u (List.mem_of_mem_take h3)
          · rcases List.mem_append.1 h3 with h3 | h3
            · exact hones u h3
            · exact h1 u (List.mem_of_mem_drop h3)
  · exact hs2.elim
theorem s_cap (h : Inv c tm m ρ a w) (hd : ∀ t, d = some t → t < c.N) {args : Array Operand} {ts : Array TypeId} (hs : step c.P np lent kp tm m d ty k (.call { callee := .builtin .cap, args := args, argTypes := ts })) : Quiet c.P ⟨d, .call { callee := .builtin .cap, args := args, argTypes := ts }, ty, pos, af, g⟩ a w (Then c k) := by
  simp only [step] at hs
  obtain ⟨x, hx, hs1⟩ := onOne_e hs
  obtain ⟨t, ht, hs2⟩ := onOne_e hs1
  obtain ⟨e, he, hs3⟩ := onS_e hs2
  have hargs : args = #[x] := by rw [← Array.toList_inj]; exact hx
  have hts : ts = #[t] := by rw [← Array.toList_inj]; exact ht
  subst hargs
  subst hts
  have hun := elemOf_eq he
  unfold onApp at hs3
  split at hs3
  · exact hs3.elim
  · exact hs3.elim
  · exact hs3.elim
  · rename_i hev
    have hxv := (hev ▸ h.ev x : Rep c.M w m ρ (.val (.slice none 0 0)) (a.eval x)).val_eq
    refine q_value (v := .int .i64 0) ?_ (h.then hd (.im (.val rfl)) hs3)
    simp [execOp, resolve, invoke, builtin, Builtin.cap_, hxv, run_underlying hun, goInt]
  · exact hs3.elim
end
end Go.V
