import Derived.Test.YtfmhmlijnidflaaV16
set_option linter.unusedVariables false
set_option linter.unusedSimpArgs false
namespace Go.V
open Go
/-- The iterator's code: it hands on a piece of its row, again and again. -/
structure Itc where
  ra : Code
  c7 : Tmp
  ix : Nat
  ib : Nat
  rb : Code
  lp : Code
  id4 : Nat
  l4 : List Oper
  o4 : Oper
  o5 : Oper
  c31 : Tmp
  rc : Code
  N : Nat
  ty : Tmp
  ta : Tmp
  tr : Tmp
  s4 : Tmp
  ts : Array TypeId
def Itc.ops (i : Itc) : Array Oper := (i.l4 ++ [i.o4, i.o5]).toArray
def Itc.body (i : Itc) : Code := .seq (.seq i.ra (.cond (.tmp i.c7) .skip (.exit i.ix))) (.block i.ib (.seq i.rb (.seq i.lp (.seq (.seq (.region i.id4 i.ops false) (.cond (.tmp i.c31) .ret .skip)) i.rc))))
def SL (yv : Value) (tm : Tm) : Prop := get tm 0 = .val yv ∧ get tm 1 = .adr 0 0 ∧ get tm 2 = .adr 1 0
abbrev Rg.yv (g : Rg) : Value := .func (.yield g.lr) #[] #[]
/-- The first ones that are alike; what is behind them. -/
def hd {α : Type} (c : α → α → Int) (x : α) (r : List α) : List α := x :: r.takeWhile fun y => c x y == 0
def tl {α : Type} (c : α → α → Int) (x : α) (r : List α) : List α := r.dropWhile fun y => c x y == 0
theorem tl_len {α : Type} (c : α → α → Int) (x : α) (r : List α) : (tl c x r).length ≤ r.length := by
  have := congrArg List.length (List.takeWhile_append_dropWhile (p := fun y => c x y == 0) (l := r))
  rw [List.length_append] at this
  unfold tl; omega
def nope : Value → Tm → Mem → Prop := fun _ _ _ => False
structure Itc.Ok (i : Itc) (P : Program) (lent : FuncId → Bool) (live : Nat → List Nat) (tr : Nat → Option (Tr × List Nat)) {α : Type} (enc : α → List PV) (c : α → α → Int) (cmp : FuncId) : Prop where
  okA : okCode i.N (fun _ => true) tr i.ra = true
  okB : okCode i.N (fun _ => true) tr i.rb = true
  okL : okCode i.N (fun _ => true) tr i.lp = true
  okC : okCode i.N (fun _ => true) tr i.rc = true
  ok4 : okOps i.N i.l4 = true
  ok5 : okOps i.N [i.o5] = true
  o4op : i.o4.op = .call { callee := .value (.tmp i.ty), args := #[.tmp i.ta], argTypes := i.ts }
  o4g : i.o4.guard = none
  o4d : i.o4.dst = some i.tr
  s4N : 4 < i.N
  trN : i.tr < i.N
  s4tr : i.s4 ≠ i.tr ∧ i.tr ≠ 0 ∧ i.tr ≠ 1 ∧ i.tr ≠ 2 ∧ i.s4 ≠ 0 ∧ i.s4 ≠ 1 ∧ i.s4 ≠ 2
  s1 : ∀ yv tm r, SL yv tm → execC P 0 lent 2 live tr i.ra (onlyN fun tm m => SL yv tm ∧ m = mI cmp (List.map enc r) ∧ get tm i.c7 = .val (.bool (!r.isEmpty))) tm (mI cmp (List.map enc r))
  s2 : ∀ yv tm x r, SL yv tm → (x :: r).length ≤ 1000000000 → execC P 0 lent 2 live tr i.rb (onlyN fun tm m => execC P 0 lent 2 live tr i.lp (onlyN fun tm m => execOps P 0 lent nope i.ops (fun tm m => SL yv tm ∧ m = mI cmp (List.map enc (x :: r)) ∧ get tm i.s4 = .val (.int .i64 ((hd c x r).length : Nat)) ∧ get tm i.ty = .val yv ∧ get tm i.ta = .sl ((hd c x r).map enc)) i.l4 tm m) tm m) tm (mI cmp (List.map enc (x :: r)))
  s3 : ∀ yv tm x r b, SL yv tm → (x :: r).length ≤ 1000000000 → get tm i.s4 = .val (.int .i64 ((hd c x r).length : Nat)) → get tm i.tr = .val (.bool b) → execOps P 0 lent nope i.ops (fun tm m => SL yv tm ∧ m = mI cmp (List.map enc (x :: r)) ∧ get tm i.c31 = .val (.bool !b) ∧ (b = true → execC P 0 lent 2 live tr i.rc (onlyN fun tm m => SL yv tm ∧ m = mI cmp (List.map enc (tl c x r))) tm m)) [i.o5] tm (mI cmp (List.map enc (x :: r)))
/-- How the iterator's loop is left. -/
def QI (i : Itc) (g : Rg) (Y Z : Mem → Prop) : Exit → Act → World → Prop
  | .exit j, a, W => j = i.ix ∧ a.defers = [] ∧ ∃ m ρ, Y m ∧ Cal g m ρ W ∧ W.heap[g.lr]? = some (.loop (g.lp .ready none))
  | .ret, a, W => a.defers = [] ∧ ∃ m ρ, Z m ∧ Cal g m ρ W ∧ W.heap[g.lr]? = some (.loop (g.lp .done (some .ret)))
  | _, _, _ => False
theorem onlyN_back {c : Cx} {k : Tm → Mem → Prop} {e : Exit} {a : Act} {w : World} (h : Post c (onlyN k) e a w) : e = .normal ∧ Then c k a w := by
  cases e with
  | exit id => obtain ⟨_, _, _, h1, _⟩ := h; exact h1.elim
  | ret => obtain ⟨_, _, _, h1, _⟩ := h; exact h1.elim
  | goto l => exact h.elim
  | outgrown => exact h.elim
  | panic ch => obtain ⟨v, _, _, _, _, h1, _⟩ := h; exact h1.elim
  | normal => exact ⟨rfl, h⟩
/-- A piece of code, told by V, in a plain frame. -/
theorem piece {c : Cx} (hP : c.P.follows .mixedOrders = true) {n : Nat} {lent : FuncId → Bool} {live : Nat → List Nat} {tr : Nat → Option (Tr × List Nat)} {co : Code} {k : Tm → Mem → Prop} {tm : Tm} {m : Mem} {ρ : Nat → Value} {a : Act} {w : World} {Q : Exit → Act → World → Prop}
    (hN : okCode c.N c.kd tr co = true) (hs : execC c.P c.np lent c.n live tr co (onlyN k) tm m) (h : Inv c tm m ρ a w) (hQ : ∀ a w, Then c k a w → Q .normal a w) : co.wpIn Fence.wide n c.P Q a w :=
  wpIn_wide.2 (wp_mono (execC_sound hP onlyN_pan hN hs h) fun e a w hq => by
    obtain ⟨rfl, hq⟩ := onlyN_back hq
    exact hQ a w hq)
theorem iter_ok {α : Type} {g : Rg} (hm : g.P.follows .mixedOrders = true) (hg : g.Ok) {i : Itc} {lentI : FuncId → Bool} {liveI : Nat → List Nat} {trI : Nat → Option (Tr × List Nat)} {enc : α → List PV} {c : α → α → Int} {cmp : FuncId} (hi : i.Ok g.P lentI liveI trI enc c cmp)
    {lent : FuncId → Bool} {live : Nat → List Nat} {tr : Nat → Option (Tr × List Nat)} (hA : okCode g.tmps.size (fun _ => true) tr g.as = true) (hA2 : ndCode g.as = true) (hB : okCode g.tmps.size (fun _ => true) tr g.bd = true) (hB2 : ndCode g.bd = true) {X : List α → Mem → Prop} {Z : Mem → Prop}
    (HR : ∀ x r m, X (x :: r) m → execC g.P 0 lent m.length live tr g.as (onlyN fun t' m' => m' = m ∧ nocT t' = true ∧ execC g.P 0 lent m.length live tr g.bd (KR g.tm (X (tl c x r)) Z) t' m') (put g.tm (some g.p) (.sl ((hd c x r).map enc))) m) :
    ∀ (r : List α), r.length ≤ 1000000000 → (∀ x r', r = x :: r' → ∀ (m : Mem) (ρ : Nat → Value) (W : World) (a : Act) (tm : Tm), X (tl c x r') m → Cal g m ρ W → W.heap[g.lr]? = some (.loop (g.lp .ready none)) → It g cmp ((tl c x r').map enc) m ρ W → a.tmps.size = i.N → a.defers = [] → SL g.yv tm → (∀ t, slI g (get tm t) (a.tmps.getD t undef)) →
      LoopAt g.P i.body (QI i g (X []) Z) a W) → ∀ (m : Mem) (ρ : Nat → Value) (W : World) (a : Act) (tm : Tm), X r m → Cal g m ρ W → W.heap[g.lr]? = some (.loop (g.lp .ready none)) → It g cmp (r.map enc) m ρ W → a.tmps.size = i.N → a.defers = [] → SL g.yv tm → (∀ t, slI g (get tm t) (a.tmps.getD t undef)) →
      LoopAt g.P i.body (QI i g (X []) Z) a W := by
  intro r hlen ih m ρ W a tm hX hc hl hit hN hD hSL ht
  have hlrM : g.MB g.lr := .inl hg.lr
  have nb : ∀ {W W' : World}, Cal g m ρ W → Fr (fun k => k = g.b1 ∨ k = g.b2) W W' → W.heap[g.lr]? = some (.loop (g.lp .ready none)) → W'.heap[g.lr]? = some (.loop (g.lp .ready none)) := fun hc hf hl => (hf.block _ (hc.lt _ hlrM) fun hh => hh.elim (fun e => hg.n1 (e ▸ hg.lr)) fun e => hg.n2 (e ▸ hg.lr)).trans hl
  have h0 := it_inv hg hc hit ht
  refine LoopAt.mk (n := 1) (Go.wpIn_seq (Go.wpIn_seq (piece hm (by show okCode a.tmps.size _ _ _ = true; rw [hN]; exact hi.okA) (hi.s1 g.yv tm r hSL) h0 fun a1 W1 hq => ?_)))
  obtain ⟨t1, m1, ρ1, ⟨hs1, rfl, hc7⟩, h1⟩ := hq
  obtain ⟨hc1, hit1, hf1, _, _, hx1, _⟩ := it_back hg hc h1
  refine Go.wpIn_cond (t := !r.isEmpty) (hx1 i.c7 _ hc7) ?_
  cases r with
  | nil =>
    refine Go.wpIn_exit ?_
    exact ⟨rfl, h1.df.trans hD, m, ρ, hX, hc1, nb hc hf1 hl⟩
  | cons x r =>
    refine Go.wpIn_skip (Go.wpIn_block (Go.wpIn_seq (piece hm (by show okCode a.tmps.size _ _ _ = true; rw [hN]; exact hi.okB) (hi.s2 g.yv t1 x r hs1 hlen) h1 fun a2 W2 hq => ?_)))
    obtain ⟨t2, m2, ρ2, hs2, h2⟩ := hq
    refine Go.wpIn_seq (piece hm (by show okCode a.tmps.size _ _ _ = true; rw [hN]; exact hi.okL) hs2 h2 fun a3 W3 hq => ?_)
    obtain ⟨t3, m3, ρ3, hs3, h3⟩ := hq
    refine Go.wpIn_seq (Go.wpIn_seq (wpIn_region_list ?_))
    rw [show i.ops.toList = i.l4 ++ [i.o4, i.o5] by simp [Itc.ops]]
    refine list_wide (Q' := fun e a w => match e with | .normal => Then _ _ a w | _ => False) (fun _ _ _ h => h) (fun ⟨_, _, h⟩ => h) ?_ _ _ _ (execOps_sound (c := ⟨g.P, g.MI m ρ, W, Own (mI cmp (List.map enc (x :: r))) (ρI g), a.tmps.size, 2, 0, mI cmp (List.map enc (x :: r)), ρI g, a.defers, fun _ => true⟩) (kp := nope) (fun v a w ⟨_, _, _, h, _⟩ => h) (fun a w h => h) i.l4 t3 m3 ρ3 a3 W3 (by show okOps a.tmps.size _ = true; rw [hN]; exact hi.ok4) hs3 h3)
    rintro a4 W4 ⟨t4, m4, ρ4, ⟨hs4, rfl, hn4, hty, hta⟩, h4⟩
    obtain ⟨hc4, hit4, hf4, e1, e2, hx4, him4⟩ := it_back hg hc h4
    have hl4 := nb hc hf4 hl
    have hy : (Instr.yield g.lr #[a4.tmps.getD i.ta undef]).run g.P W4 = .ok (.round g.lr g.fn (g.tmps.setIfInBounds g.p (a4.tmps.getD i.ta undef)) g.as g.bd) W4 := by
      rw [run_yield hl4 rfl]; simp [Rg.lp]
    have hrun := yield_run (P := g.P) hi.o4op (hx4 _ _ hty) hy
    rw [wpListIn, if_pos (by simp [Region.wanted, hi.o4g])]
    refine ⟨fun _ _ => trivial, ?_⟩
    rw [show Fence.wide.round = none from rfl, Oper.semAt_none, hrun, Oper.uponIn_round]
    refine ⟨fun h => (by cases h), RoundIn.mono (round_ok hm hg hA hA2 hB hB2 hc4 hl4 (him4 _ _ hta) (HR x r m hX)) ?_⟩
    rintro e W5 ⟨m5, ρ5, hc5, hf5, hO5, hcase⟩
    have hit5 := hit4.move hg hc4 hf5 hO5
    have hsz4 : a4.tmps.size = i.N := h4.sz.trans hN
    have hd4 : a4.defers = [] := h4.df.trans hD
    have hsl : ∀ b : Bool, ∀ t, slI g (get [(0, .val g.yv), (1, .adr 0 0), (2, .adr 1 0), (i.s4, .val (.int .i64 ((hd c x r).length : Nat))), (i.tr, .val (.bool b))] t) ((a4.put (some i.tr) (.bool b)).tmps.getD t undef) := fun b t => by
      have q := hi.s4tr
      rw [getD_put _ _ _ _ (by rw [hsz4]; exact hi.trN)]
      simp only [get]
      split
      · rename_i e; subst e; rw [if_neg (fun e => q.2.1 e)]; exact .inr (.inr (.inr ⟨by rw [hx4 0 _ hs4.1], by rw [hx4 0 _ hs4.1]; rfl⟩))
      · split
        · rename_i e; subst e; rw [if_neg (fun e => q.2.2.1 e)]; exact .inr (.inl ⟨rfl, e1 hs4.2.1⟩)
        · split
          · rename_i e; subst e; rw [if_neg (fun e => q.2.2.2.1 e)]; exact .inr (.inr (.inl ⟨rfl, e2 hs4.2.2⟩))
          · split
            · rename_i e; subst e; rw [if_neg (fun e => q.1 e.symm), hx4 _ _ hn4]; exact .inr (.inr (.inr ⟨rfl, okB_nat _ (by have := congrArg List.length (List.takeWhile_append_dropWhile (p := fun y => c x y == 0) (l := r)); rw [List.length_append] at this; simp only [List.length_cons] at hlen; simp only [hd, List.length_cons]; omega)⟩))
            · split
              · rename_i e; subst e; exact .inr (.inr (.inr ⟨rfl, rfl⟩))
              · exact .inl rfl
    have hg5 : ∀ b : Bool, get [(0, .val g.yv), (1, .adr 0 0), (2, .adr 1 0), (i.s4, .val (.int .i64 ((hd c x r).length : Nat))), (i.tr, .val (.bool b))] i.s4 = .val (.int .i64 ((hd c x r).length : Nat)) ∧ get [(0, .val g.yv), (1, .adr 0 0), (2, .adr 1 0), (i.s4, .val (.int .i64 ((hd c x r).length : Nat))), (i.tr, .val (.bool b))] i.tr = .val (.bool b) := fun b => by
      obtain ⟨q1, q2, q3, q4, q5, q6, q7⟩ := hi.s4tr
      constructor
      · simp only [get]; rw [if_neg (Ne.symm q5), if_neg (Ne.symm q6), if_neg (Ne.symm q7), if_pos trivial]
      · simp only [get]; rw [if_neg (Ne.symm q2), if_neg (Ne.symm q3), if_neg (Ne.symm q4), if_neg q1, if_pos trivial]
    have hsz5 : ∀ b : Bool, (a4.put (some i.tr) (.bool b)).tmps.size = i.N := fun b => by simp [Act.put, hsz4]
    have rest : ∀ (b : Bool) (Q : Exit → Act → World → Prop), (∀ a6 W6, Cal g m5 ρ5 W6 → W6.heap[g.lr]? = W5.heap[g.lr]? → a6.defers = [] → a6.eval (.tmp i.c31) = .bool (!b) → (b = true → i.rc.wpIn Fence.wide 1 g.P (fun e a7 W7 => e = .normal ∧ Cal g m5 ρ5 W7 ∧ W7.heap[g.lr]? = W5.heap[g.lr]? ∧ It g cmp (List.map enc (tl c x r)) m5 ρ5 W7 ∧ a7.tmps.size = i.N ∧ a7.defers = [] ∧ ∀ t, slI g (get [(0, .val g.yv), (1, .adr 0 0), (2, .adr 1 0)] t) (a7.tmps.getD t undef)) a6 W6) → Q .normal a6 W6) → wpListIn Fence.wide 1 g.P i.ops Q [i.o5] (a4.put (some i.tr) (.bool b)) W5 := by
      intro b Q hQ
      have h5 := it_inv hg hc5 hit5 (hsl b)
      refine list_wide (rest := []) (Q' := fun e a w => match e with | .normal => Then _ _ a w | _ => False) (fun _ _ _ h => h) (fun ⟨_, _, h⟩ => h) ?_ [i.o5] _ _ (execOps_sound (c := ⟨g.P, g.MI m5 ρ5, W5, Own (mI cmp (List.map enc (x :: r))) (ρI g), (a4.put (some i.tr) (.bool b)).tmps.size, 2, 0, mI cmp (List.map enc (x :: r)), ρI g, (a4.put (some i.tr) (.bool b)).defers, fun _ => true⟩) (kp := nope) (fun v a w ⟨_, _, _, h, _⟩ => h) (fun a w h => h) [i.o5] _ _ _ _ _ (by show okOps (a4.put (some i.tr) (.bool b)).tmps.size _ = true; rw [hsz5]; exact hi.ok5) (hi.s3 g.yv _ x r b ⟨rfl, rfl, rfl⟩ hlen (hg5 b).1 (hg5 b).2) h5)
      rintro a6 W6 ⟨t6, m6, ρ6, ⟨hs6, rfl, hc31, hrc⟩, h6⟩
      obtain ⟨hc6, _, hf6, _, _, hx6, _⟩ := it_back hg hc5 h6
      have nb5 : ∀ {W W' : World}, Cal g m5 ρ5 W → Fr (fun k => k = g.b1 ∨ k = g.b2) W W' → W'.heap[g.lr]? = W.heap[g.lr]? := fun hc hf => hf.block _ (hc.lt _ hlrM) fun hh => hh.elim (fun e => hg.n1 (e ▸ hg.lr)) fun e => hg.n2 (e ▸ hg.lr)
      refine hQ a6 W6 hc6 (nb5 hc5 hf6) (h6.df.trans hd4) (hx6 i.c31 _ hc31) fun hb => ?_
      refine piece hm (by show okCode (a4.put (some i.tr) (.bool b)).tmps.size _ _ _ = true; rw [hsz5]; exact hi.okC) (hrc hb) h6 fun a7 W7 hq => ?_
      obtain ⟨t7, m7, ρ7, ⟨hs7, rfl⟩, h7⟩ := hq
      obtain ⟨hc7, hit7, hf7, e71, e72, hx7, _⟩ := it_back hg hc5 h7
      refine ⟨rfl, hc7, nb5 hc5 hf7, hit7, h7.sz.trans (hsz5 b), h7.df.trans hd4, fun t => ?_⟩
      simp only [get]
      split
      · rename_i e; subst e; exact .inr (.inr (.inr ⟨by rw [hx7 0 _ hs7.1], by rw [hx7 0 _ hs7.1]; rfl⟩))
      · split
        · rename_i e; subst e; exact .inr (.inl ⟨rfl, e71 hs7.2.1⟩)
        · split
          · rename_i e; subst e; exact .inr (.inr (.inl ⟨rfl, e72 hs7.2.2⟩))
          · exact .inl rfl
    rcases hcase with ⟨rfl, hX5, hl5⟩ | ⟨rfl, hZ5, hl5⟩
    · show wpListIn Fence.wide 1 g.P i.ops _ [i.o5] (a4.put i.o4.dst (.bool true)) W5
      rw [hi.o4d]
      refine rest true _ fun a6 W6 hc6 hl6 hd6 hv6 hrc => ?_
      refine Go.wpIn_cond hv6 (Go.wpIn_skip ?_)
      refine Go.wpIn_mono (hrc rfl) ?_
      rintro e a7 W7 ⟨rfl, hc7, hl7, hit7, hsz7, hd7, hsl7⟩
      exact ih x r rfl m5 ρ5 W7 a7 _ hX5 hc7 (hl7.trans hl5) hit7 hsz7 hd7 ⟨rfl, rfl, rfl⟩ hsl7
    · show wpListIn Fence.wide 1 g.P i.ops _ [i.o5] (a4.put i.o4.dst (.bool false)) W5
      rw [hi.o4d]
      refine rest false _ fun a6 W6 hc6 hl6 hd6 hv6 hrc => ?_
      refine Go.wpIn_cond hv6 (Go.wpIn_ret ?_)
      exact ⟨hd6, m5, ρ5, hZ5, hc6, hl6.trans hl5⟩
theorem iter_all {α : Type} {g : Rg} (hm : g.P.follows .mixedOrders = true) (hg : g.Ok) {i : Itc} {lentI : FuncId → Bool} {liveI : Nat → List Nat} {trI : Nat → Option (Tr × List Nat)} {enc : α → List PV} {c : α → α → Int} {cmp : FuncId} (hi : i.Ok g.P lentI liveI trI enc c cmp)
    {lent : FuncId → Bool} {live : Nat → List Nat} {tr : Nat → Option (Tr × List Nat)} (hA : okCode g.tmps.size (fun _ => true) tr g.as = true) (hA2 : ndCode g.as = true) (hB : okCode g.tmps.size (fun _ => true) tr g.bd = true) (hB2 : ndCode g.bd = true) {X : List α → Mem → Prop} {Z : Mem → Prop}
    (HR : ∀ x r m, X (x :: r) m → execC g.P 0 lent m.length live tr g.as (onlyN fun t' m' => m' = m ∧ nocT t' = true ∧ execC g.P 0 lent m.length live tr g.bd (KR g.tm (X (tl c x r)) Z) t' m') (put g.tm (some g.p) (.sl ((hd c x r).map enc))) m) :
    ∀ (k : Nat) (r : List α), r.length ≤ k → r.length ≤ 1000000000 → ∀ (m : Mem) (ρ : Nat → Value) (W : World) (a : Act) (tm : Tm), X r m → Cal g m ρ W → W.heap[g.lr]? = some (.loop (g.lp .ready none)) → It g cmp (r.map enc) m ρ W → a.tmps.size = i.N → a.defers = [] → SL g.yv tm → (∀ t, slI g (get tm t) (a.tmps.getD t undef)) →
      LoopAt g.P i.body (QI i g (X []) Z) a W
  | 0, r, hk, hlen => iter_ok hm hg hi hA hA2 hB hB2 HR r hlen fun x r' e => by subst e; simp at hk
  | k + 1, r, hk, hlen => iter_ok hm hg hi hA hA2 hB hB2 HR r hlen fun x r' e => iter_all hm hg hi hA hA2 hB hB2 HR k (tl c x r') (by subst e; have := tl_len c x r'; simp at hk; omega) (by subst e; have := tl_len c x r'; simp at hlen; omega)
end Go.V
