import Derived.Orders
import Derived.Test.YtfmhmlijnidflaaV9b
set_option linter.unusedVariables false
set_option linter.unusedSimpArgs false
namespace Go.V
open Go
/-- A run that looks at no memory. -/
def FreeS {α : Type} (s : Sem α) : Prop := ∀ (P : Program) (w : World) (x : α) (w1 : World), s.run P w = .ok x w1 → w1 = w ∧ ∀ w', s.run P w' = .ok x w'
theorem FreeS.pure {α : Type} (a : α) : FreeS (Pure.pure a : Sem α) := fun P w x w1 h => by
  rw [Sem.run_pure] at h; cases h; exact ⟨rfl, fun w' => by rw [Sem.run_pure]⟩
theorem FreeS.bind {α β : Type} {s : Sem α} {f : α → Sem β} (hs : FreeS s) (hf : ∀ a, FreeS (f a)) : FreeS (s >>= f) := fun P w x w1 h => by
  rw [Sem.run_bind] at h
  cases hr : s.run P w with
  | ok y w2 =>
    rw [hr] at h
    obtain ⟨rfl, h2⟩ := hs P w y w2 hr
    obtain ⟨h3, h4⟩ := hf y P _ x w1 h
    exact ⟨h3, fun w' => by rw [Sem.run_bind, h2 w']; exact h4 w'⟩
  | halt e w2 => rw [hr] at h; cases h
def DeadS {α : Type} (s : Sem α) : Prop := ∀ (P : Program) (w : World) (x : α) (w1 : World), s.run P w ≠ .ok x w1
theorem DeadS.free {α : Type} {s : Sem α} (h : DeadS s) : FreeS s := fun P w x w1 hr => absurd hr (h P w x w1)
theorem DeadS.bind {α β : Type} {s : Sem α} {f : α → Sem β} (hf : ∀ a, DeadS (f a)) : DeadS (s >>= f) := fun P w x w1 h => by
  rw [Sem.run_bind] at h
  cases hr : s.run P w with
  | ok y w2 => rw [hr] at h; exact hf y P w2 x w1 h
  | halt e w2 => rw [hr] at h; cases h
theorem DeadS.left {α β : Type} {s : Sem α} {f : α → Sem β} (hs : DeadS s) : DeadS (s >>= f) := fun P w x w1 h => by
  rw [Sem.run_bind] at h
  cases hr : s.run P w with
  | ok y w2 => exact hs P w y w2 hr
  | halt e w2 => rw [hr] at h; cases h
theorem DeadS.stuck {α : Type} (s : String) : DeadS (Go.stuck s : Sem α) := fun P w x w1 h => by cases h
theorem DeadS.halt {α : Type} (e : Halt) : DeadS (.halt e : Sem α) := fun P w x w1 h => by cases h
theorem DeadS.run {α : Type} (e : RuntimeError) : DeadS (runtimePanic e : Sem α) := by
  unfold runtimePanic
  refine DeadS.bind fun p => ?_
  cases e <;> first | exact DeadS.halt _ | exact DeadS.bind fun _ => DeadS.bind fun _ => DeadS.halt _
theorem DeadS.bounds {α : Type} (k : IntKind) (x y : Int) (c : BoundsCode) : DeadS (boundsPanic k x y c : Sem α) := by
  unfold boundsPanic
  dsimp only
  split <;> exact DeadS.bind fun _ => DeadS.run _
theorem FreeS.program : FreeS Go.program := fun P w x w1 h => by cases h; exact ⟨rfl, fun _ => rfl⟩
theorem FreeS.underlying (t : TypeId) : FreeS (Go.underlying t) := by
  unfold Go.underlying
  refine FreeS.bind FreeS.program fun p => ?_
  split
  · exact FreeS.pure _
  · exact (DeadS.stuck _).free
theorem FreeS.typeInfo (t : TypeId) : FreeS (Go.typeInfo t) := by
  unfold Go.typeInfo
  refine FreeS.bind FreeS.program fun p => ?_
  split
  · exact FreeS.pure _
  · exact (DeadS.stuck _).free
theorem FreeS.sizeOf (t : TypeId) : FreeS (Go.sizeOf t) := FreeS.bind (FreeS.typeInfo t) fun i => FreeS.pure _
theorem FreeS.asIntOf (v : Value) : FreeS (Go.asIntOf v) := by
  unfold Go.asIntOf
  split <;> first | exact FreeS.pure _ | exact (DeadS.stuck _).free | exact (DeadS.halt _).free
theorem FreeS.asBool (v : Value) : FreeS (Go.asBool v) := by
  unfold Go.asBool
  split <;> first | exact FreeS.pure _ | exact (DeadS.stuck _).free
theorem FreeS.asAddr (v : Value) : FreeS (Go.asAddr v) := by
  unfold Go.asAddr
  split <;> first | exact FreeS.pure _ | exact (DeadS.stuck _).free | exact (DeadS.run _).free
theorem FreeS.sureAddr (v : Value) : FreeS (Instr.sureAddr v) := by
  unfold Instr.sureAddr
  split <;> first | exact FreeS.pure _ | exact (DeadS.stuck _).free
theorem FreeS.extract (v : Value) (i : Nat) : FreeS (Instr.extract v i) := by
  unfold Instr.extract
  split
  · split <;> first | exact FreeS.pure _ | exact (DeadS.stuck _).free
  · exact (DeadS.stuck _).free
theorem FreeS.sliceBound (x : Value) (y : Nat) (c : BoundsCode) : FreeS (Instr.sliceBound x y c) := by
  unfold Instr.sliceBound
  refine FreeS.bind (FreeS.asIntOf x) fun p => ?_
  dsimp only
  split
  · exact FreeS.pure _
  · exact (DeadS.bounds _ _ _ _).free
theorem FreeS.sliceBounds (b : Bool) (l c : Nat) (lo hi mx : Option Value) : FreeS (Instr.sliceBounds b l c lo hi mx) := by
  unfold Instr.sliceBounds
  cases mx <;> cases hi <;> cases lo <;> dsimp only
  all_goals repeat' first
    | (with_reducible refine FreeS.bind (FreeS.sliceBound _ _ _) fun _ => ?_)
    | (with_reducible refine FreeS.bind (DeadS.stuck _).free fun _ => ?_)
    | (with_reducible refine FreeS.bind (FreeS.pure _) fun _ => ?_)
    | (with_reducible exact FreeS.pure _)
theorem FreeS.slice (t : TypeId) (x : Value) (lo hi : Option Value) : FreeS (Instr.slice t x lo hi none) := by
  unfold Instr.slice
  refine FreeS.bind (FreeS.underlying t) fun u => ?_
  split
  · exact FreeS.bind (FreeS.sliceBounds _ _ _ _ _ _) fun p => FreeS.pure _
  · exact FreeS.bind (FreeS.sliceBounds _ _ _ _ _ _) fun p => FreeS.bind (FreeS.sizeOf _) fun _ => FreeS.pure _
  · refine FreeS.bind (FreeS.asAddr _) fun a => FreeS.bind (FreeS.underlying _) fun d => ?_
    split
    · exact FreeS.bind (FreeS.sliceBounds _ _ _ _ _ _) fun p => FreeS.bind (FreeS.sizeOf _) fun _ => FreeS.pure _
    · exact (DeadS.stuck _).free
  · exact (DeadS.stuck _).free
theorem FreeS.sliceAt (t : TypeId) (x : Value) (lo hi : Option Value) : FreeS (Instr.sliceAt t x lo hi none) := by
  unfold Instr.sliceAt
  refine FreeS.bind (FreeS.underlying t) fun u => ?_
  split
  · exact FreeS.bind (FreeS.sureAddr _) fun a => FreeS.bind (FreeS.sliceBounds _ _ _ _ _ _) fun p => FreeS.bind (FreeS.sizeOf _) fun _ => FreeS.pure _
  · exact FreeS.slice _ _ _ _
/-- A run that but reads: more memory does not change it. -/
def ReadS {α : Type} (s : Sem α) : Prop := ∀ (P : Program) (w : World) (x : α) (w1 : World), s.run P w = .ok x w1 → w1 = w ∧ ∀ o, s.run P (w.alloc o) = .ok x (w.alloc o)
theorem FreeS.read {α : Type} {s : Sem α} (h : FreeS s) : ReadS s := fun P w x w1 hr => ⟨(h P w x w1 hr).1, fun o => (h P w x w1 hr).2 _⟩
theorem ReadS.bind {α β : Type} {s : Sem α} {f : α → Sem β} (hs : ReadS s) (hf : ∀ a, ReadS (f a)) : ReadS (s >>= f) := fun P w x w1 h => by
  rw [Sem.run_bind] at h
  cases hr : s.run P w with
  | ok y w2 =>
    rw [hr] at h
    obtain ⟨rfl, h2⟩ := hs P w y w2 hr
    obtain ⟨h3, h4⟩ := hf y P _ x w1 h
    exact ⟨h3, fun o => by rw [Sem.run_bind, h2 o]; exact h4 o⟩
  | halt e w2 => rw [hr] at h; cases h
theorem heap_more {w : World} {i : Nat} {x : Obj} (o : Obj) (h : w.heap[i]? = some x) : (w.alloc o).heap[i]? = some x := by
  have hlt : i < w.heap.size := (Array.getElem?_eq_some_iff.1 h).1
  show (w.heap.push o)[i]? = some x
  rw [Array.getElem?_push, if_neg (Nat.ne_of_lt hlt)]; exact h
theorem seen_more {p : Program} {w : World} {at_ : Addr} {u : TypeId} {k : Addr} {b : Bool} {r} (o : Obj) (h : w.seen p at_ u k b = .ok r) : (w.alloc o).seen p at_ u k b = .ok r := by
  have he : ∃ x, w.heap[at_.block]? = some x := by
    cases hb : w.heap[at_.block]? with
    | some x => exact ⟨x, rfl⟩
    | none =>
      exfalso
      unfold World.seen at h
      rw [hb] at h
      simp only [bind, Except.bind, pure, Except.pure, throw, throwThe, MonadExceptOf.throw] at h
      repeat' split at h
      all_goals first | cases h | skip
  obtain ⟨x, hx⟩ := he
  unfold World.seen at h ⊢
  rw [heap_more o hx]
  rw [hx] at h
  exact h
theorem ReadS.load (a : Addr) (m : Mode) : ReadS (Go.load a m) := fun P w x w1 h => by
  unfold Go.load at h ⊢
  rw [Sem.run] at h
  cases hc : w.cell? a with
  | some v =>
    rw [hc] at h
    cases h
    refine ⟨rfl, fun o => ?_⟩
    rw [Sem.run, World.cell?_alloc_lt w o a (World.block_lt_of_cell? w a hc), hc]; rfl
  | none =>
    rw [hc] at h
    simp only at h
    unfold World.farLoad at h
    cases hb : w.heap[a.block]? with
    | none => rw [hb] at h; cases h
    | some x =>
      rw [hb] at h
      have hlt : a.block < w.heap.size := (Array.getElem?_eq_some_iff.1 hb).1
      cases x with
      | view at_ u =>
        simp only at h
        cases hv : w.viewLoad P at_ u a (m == .atomic) with
        | error e => rw [hv] at h; cases h
        | ok r =>
          rw [hv] at h
          cases h
          refine ⟨rfl, fun o => ?_⟩
          have hv' : (w.alloc o).viewLoad P at_ u a (m == .atomic) = .ok r := by
            unfold World.viewLoad at hv ⊢
            cases hs : w.seen P at_ u a (m == .atomic) with
            | error e => rw [hs] at hv; cases hv
            | ok q => rw [seen_more o hs]; rw [hs] at hv; exact hv
          rw [Sem.run, World.cell?_alloc_lt w o a hlt, hc]
          simp only
          unfold World.farLoad
          rw [heap_more o hb]
          simp only [hv']
          rfl
      | _ => cases h
theorem ReadS.stuck {α : Type} (e : String) : ReadS (Go.stuck e : Sem α) := (DeadS.stuck e).free.read
theorem ReadS.pure {α : Type} (a : α) : ReadS (Pure.pure a : Sem α) := (FreeS.pure a).read
theorem ReadS.loadCellsFrom (a : Addr) : ∀ (n i : Nat) (acc : Array Value), ReadS (Go.loadCellsFrom a i n acc)
  | 0, _, _ => ReadS.pure _
  | n + 1, i, acc => ReadS.bind (ReadS.load _ _) fun v => ReadS.loadCellsFrom a n (i + 1) (acc.push v)
theorem FreeS.isAgg (t : TypeId) : FreeS (Go.isAgg t) := by
  unfold Go.isAgg
  refine FreeS.bind (FreeS.underlying t) fun u => ?_
  split <;> exact FreeS.pure _
theorem ReadS.loadVar (t : TypeId) (a : Addr) : ReadS (Go.loadVar t a) := by
  unfold Go.loadVar
  refine ReadS.bind (FreeS.isAgg t).read fun b => ?_
  split
  · exact ReadS.bind (FreeS.sizeOf t).read fun n => ReadS.bind (ReadS.loadCellsFrom a n 0 #[]) fun _ => ReadS.pure _
  · exact ReadS.load _ _
theorem ReadS.loadAt (t : TypeId) (v : Value) : ReadS (Instr.loadAt t v) := ReadS.bind (FreeS.sureAddr v).read fun a => ReadS.loadVar t a
theorem FreeS.indexAt (t : TypeId) (x i : Value) : FreeS (Instr.indexAt t x i) := by
  unfold Instr.indexAt
  refine FreeS.bind (FreeS.asIntOf i) fun p => FreeS.bind (FreeS.underlying t) fun u => ?_
  dsimp only
  have fin : ∀ (b : Option Addr) (n : Nat) (e : TypeId) (tiny : Bool), FreeS (match b with
      | some a =>
        if 0 ≤ p.2 ∧ p.2 < n then do Pure.pure (Value.pointer (some (a.add (p.2.toNat * (← Go.sizeOf e)))))
        else if tiny then unsupported (.noEntry "op/indexAddr.an index out of range at an array of length 0 or 1 (ledger 616)")
        else boundsPanic p.1 p.2 n .index
      | none => boundsPanic p.1 p.2 0 .index : Sem Value) := fun b n e tiny => by
    cases b with
    | none => exact (DeadS.bounds _ _ _ _).free
    | some a =>
      dsimp only
      split
      · exact FreeS.bind (FreeS.sizeOf _) fun n => FreeS.pure _
      · cases tiny
        · exact (DeadS.bounds _ _ _ _).free
        · exact (DeadS.halt _).free
  split <;> first
    | exact FreeS.bind (DeadS.stuck _).free fun _ => FreeS.bind (FreeS.underlying t) fun u2 => fin _ _ _ _
    | exact FreeS.bind (FreeS.pure _) fun _ => FreeS.bind (FreeS.underlying t) fun u2 => fin _ _ _ _
    | exact FreeS.bind (FreeS.sureAddr _) fun _ => FreeS.bind (FreeS.pure _) fun _ => FreeS.bind (FreeS.underlying t) fun u2 => fin _ _ _ _
theorem shape_more {w : World} {a : Nat} {q : TypeId × Nat} (o : Obj) (hs : w.shape? a = some q) : (w.alloc o).shape? a = some q := by
  unfold World.shape? at hs ⊢
  cases hb : w.heap[a]? with
  | none => rw [hb] at hs; cases hs
  | some y => rw [heap_more o hb]; rw [hb] at hs; exact hs
theorem ReadS.shape (a : Nat) {α : Type} {f : Option (TypeId × Nat) → Sem α} (h0 : DeadS (f none)) (hf : ∀ x, ReadS (f (some x))) : ReadS (Go.shape a >>= f) := fun P w x w1 h => by
  rw [Sem.run_bind] at h
  have h1 : (Go.shape a).run P w = .ok (w.shape? a) w := rfl
  rw [h1] at h
  cases hs : w.shape? a with
  | none => rw [hs] at h; exact absurd h (h0 P w x w1)
  | some q =>
    rw [hs] at h
    obtain ⟨h2, h3⟩ := hf q P w x w1 h
    refine ⟨h2, fun o => ?_⟩
    rw [Sem.run_bind]
    have h4 : (Go.shape a).run P (w.alloc o) = .ok (some q) (w.alloc o) := by
      show Result.ok ((w.alloc o).shape? a) _ = _
      rw [shape_more o hs]
    rw [h4]
    exact h3 o
theorem ReadS.viewAt (r : Nat) : ReadS (Go.viewAt r) := fun P w x w1 h => by
  unfold Go.viewAt at h ⊢
  simp only [Sem.run_bind] at h ⊢
  have h1 : ∀ w : World, (Go.shape r).run P w = .ok (w.shape? r) w := fun w => rfl
  simp only [h1] at h ⊢
  cases hb : w.heap[r]? with
  | none =>
    have hs : w.shape? r = none := by unfold World.shape?; rw [hb]
    rw [hs] at h
    have hg : (Go.getObj r).run P w = .halt (.stuck "getObj: no such block") w := by show Sem.run P (.getObj r .pure) w = _; rw [Sem.run, hb]
    simp only [Result.andThen_ok, Option.isSome_none, Bool.false_eq_true, if_false, Sem.run_bind, hg] at h
    cases h
  | some y =>
    have hs : ∀ o, (w.alloc o).shape? r = w.shape? r := fun o => by unfold World.shape?; rw [heap_more o hb, hb]
    have hg : ∀ o, (Go.getObj r).run P (w.alloc o) = (match (Go.getObj r).run P w with | .ok z _ => .ok z (w.alloc o) | .halt e _ => .halt e (w.alloc o)) := fun o => by
      show Sem.run P (.getObj r .pure) _ = (match Sem.run P (.getObj r .pure) w with | .ok z _ => .ok z (w.alloc o) | .halt e _ => .halt e (w.alloc o))
      rw [Sem.run, Sem.run, heap_more o hb, hb]
      cases y <;> rfl
    have hw : ∀ z w2, (Go.getObj r).run P w = .ok z w2 → w2 = w := fun z w2 hz => by
      have : Sem.run P (.getObj r .pure) w = .ok z w2 := hz
      rw [Sem.run, hb] at this
      cases y <;> cases this <;> rfl
    simp only [hs]
    cases hq : w.shape? r with
    | some q =>
      rw [hq] at h
      simp only [Result.andThen_ok, Option.isSome_some, if_true, Sem.run_pure] at h ⊢
      cases h; exact ⟨rfl, fun _ => rfl⟩
    | none =>
      rw [hq] at h
      simp only [Result.andThen_ok, Option.isSome_none, Bool.false_eq_true, if_false, Sem.run_bind, hg] at h ⊢
      cases hz : (Go.getObj r).run P w with
      | halt e w2 => rw [hz] at h; cases h
      | ok z w2 =>
        obtain rfl := hw z w2 hz
        rw [hz] at h
        simp only [Result.andThen_ok] at h ⊢
        cases z <;> (cases h; exact ⟨rfl, fun _ => rfl⟩)
theorem ReadS.byteOf (a : Addr) : ReadS (Go.byteOf a) := by
  unfold Go.byteOf
  cases a.spot with
  | some s => exact ReadS.pure _
  | none =>
    dsimp only
    refine ReadS.bind FreeS.program.read fun p => ReadS.bind ?_ fun _ => ReadS.shape _ (DeadS.stuck _) fun x => ?_
    · unfold Go.noView
      refine ReadS.bind (ReadS.viewAt _) fun v => ?_
      split
      · exact (DeadS.halt _).free.read
      · exact ReadS.pure _
    · dsimp only
      split
      · exact ReadS.pure _
      · split
        · exact ReadS.pure _
        · exact ReadS.stuck _
theorem ReadS.fieldAt (t : TypeId) (x : Value) (f : Nat) : ReadS (Instr.fieldAt t x f) := by
  unfold Instr.fieldAt
  refine ReadS.bind (FreeS.underlying t).read fun u => ?_
  split
  · split
    · refine ReadS.bind (FreeS.sureAddr _).read fun a => ReadS.bind ?_ fun _ => ReadS.pure _
      unfold Go.fieldPlace
      refine ReadS.bind (FreeS.sizeOf _).read fun n => ?_
      split
      · unfold Go.partAt
        exact ReadS.bind (ReadS.byteOf _) fun b => ReadS.bind (ReadS.byteOf _) fun c => ReadS.pure _
      · exact ReadS.pure _
    · exact ReadS.stuck _
  · exact ReadS.stuck _
/-- A run that lays one new block. -/
def AllocS {α : Type} (s : Sem α) : Prop := ∀ (P : Program) (w : World) (x : α) (w1 : World), s.run P w = .ok x w1 → ∃ o, w1 = w.alloc o
theorem AllocS.bind {α β : Type} {s : Sem α} {f : α → Sem β} (hs : FreeS s) (hf : ∀ a, AllocS (f a)) : AllocS (s >>= f) := fun P w x w1 h => by
  rw [Sem.run_bind] at h
  cases hr : s.run P w with
  | ok y w2 =>
    rw [hr] at h
    obtain ⟨rfl, h2⟩ := hs P w y w2 hr
    exact hf y P _ x w1 h
  | halt e w2 => rw [hr] at h; cases h
theorem AllocS.then {α β : Type} {s : Sem α} {f : α → Sem β} (hs : AllocS s) (hf : ∀ a, FreeS (f a)) : AllocS (s >>= f) := fun P w x w1 h => by
  rw [Sem.run_bind] at h
  cases hr : s.run P w with
  | ok y w2 =>
    rw [hr] at h
    obtain ⟨o, rfl⟩ := hs P w y w2 hr
    exact ⟨o, (hf y P _ x w1 h).1⟩
  | halt e w2 => rw [hr] at h; cases h
theorem AllocS.dead {α : Type} {s : Sem α} (h : DeadS s) : AllocS s := fun P w x w1 hr => absurd hr (h P w x w1)
theorem AllocS.newObj (o : Obj) : AllocS (Go.newObj o) := fun P w x w1 h => by cases h; exact ⟨o, rfl⟩
theorem AllocS.newRow (t : TypeId) (c : Array Value) : AllocS (Go.newRow t c) := AllocS.then (AllocS.newObj _) fun r => FreeS.pure _
theorem FreeS.zeroValue (t : TypeId) : FreeS (Go.zeroValue t) := by
  unfold Go.zeroValue
  refine FreeS.bind (FreeS.typeInfo t) fun i => ?_
  split
  · exact FreeS.pure _
  · exact (DeadS.halt _).free
theorem AllocS.alloc (t : TypeId) : AllocS (Instr.alloc t true (.tuple #[])) := by
  unfold Instr.alloc
  refine AllocS.bind (FreeS.zeroValue t) fun z => ?_
  exact AllocS.then (AllocS.newRow _ _) fun a => FreeS.pure _
theorem AllocS.box (t : TypeId) (v : Value) : AllocS (Instr.box t v) := AllocS.then (AllocS.newRow _ _) fun a => FreeS.pure _
theorem AllocS.buildSlice (t : TypeId) (n : Nat) (ps : Array (Nat × Value)) : AllocS (Instr.buildSlice t n ps) := by
  unfold Instr.buildSlice
  refine AllocS.bind (FreeS.underlying t) fun u => ?_
  split
  · refine AllocS.bind (FreeS.sizeOf _) fun sz => ?_
    have rest : ∀ (e : TypeId) (z : Array Value), AllocS (do
        let some cells := Instr.fill (fun i => some (i * sz, sz)) ((Array.range (n * sz)).map (z[· % z.size]!)) ps.toList
          | stuck "buildSlice: a part of the wrong size"
        Pure.pure (Value.slice (some (← Go.newRow e cells)) n n)) := fun e z => by
      split
      · exact AllocS.then (AllocS.newRow _ _) fun a => FreeS.pure _
      · exact AllocS.dead (DeadS.stuck _)
    dsimp only
    split
    · exact AllocS.dead (DeadS.left (DeadS.halt _))
    · split
      · exact AllocS.bind (FreeS.pure _) fun z => rest _ _
      · exact AllocS.bind (FreeS.zeroValue _) fun z => AllocS.bind (FreeS.pure _) fun z => rest _ _
  · exact AllocS.dead (DeadS.stuck _)
/-- What such an operation gives hangs on its operands alone. -/
def pureOp : Op → Bool
  | .move _ | .assign _ | .pick .. | .extract .. | .indexAddr .. => true
  | .slice _ _ _ _ none => true
  | _ => false
theorem pureOp_free {o : Oper} (h : pureOp o.op = true) (ev : Operand → Value) : FreeS (execOp ev o) := by
  obtain ⟨dst, op, ty, pos, af, g⟩ := o
  unfold pureOp at h
  simp only at h
  split at h
  · exact FreeS.pure _
  · exact FreeS.pure _
  · exact FreeS.bind (FreeS.asBool _) fun b => FreeS.pure _
  · exact FreeS.bind (FreeS.extract _ _) fun b => FreeS.pure _
  · exact FreeS.bind (FreeS.indexAt _ _ _) fun b => FreeS.pure _
  · exact FreeS.bind (FreeS.sliceAt _ _ _ _) fun b => FreeS.pure _
  · cases h
/-- What such an operation gives does not change with more memory. -/
def steadyOp : Op → Bool
  | .load .. | .fieldAddr .. => true
  | _ => false
theorem steadyOp_read {o : Oper} (h : steadyOp o.op = true) (ev : Operand → Value) : ReadS (execOp ev o) := by
  obtain ⟨dst, op, ty, pos, af, g⟩ := o
  unfold steadyOp at h
  simp only at h
  split at h
  · exact ReadS.bind (ReadS.loadAt _ _) fun b => ReadS.pure _
  · exact ReadS.bind (ReadS.fieldAt _ _ _) fun b => ReadS.pure _
  · cases h
/-- Such an operation but lays a new block. -/
def allocOp : Op → Bool
  | .alloc _ | .box .. | .buildSlice .. => true
  | _ => false
theorem allocOp_run {o : Oper} (h : allocOp o.op = true) {ev : Operand → Value} {P : Program} {w w1 : World} {n : Next} (hr : (execOp ev o).run P w = .ok n w1) : ∃ v b, n = .value v ∧ w1 = w.alloc b := by
  obtain ⟨dst, op, ty, pos, af, g⟩ := o
  have key : ∀ {s : Sem Value}, AllocS s → (do Pure.pure (Next.value (← s)) : Sem Next).run P w = .ok n w1 → ∃ v b, n = .value v ∧ w1 = w.alloc b := fun {s} hs hr => by
    rw [Sem.run_bind] at hr
    cases hq : s.run P w with
    | ok y w2 =>
      rw [hq] at hr
      obtain ⟨b, rfl⟩ := hs P w y w2 hq
      cases hr; exact ⟨y, b, rfl, rfl⟩
    | halt e w2 => rw [hq] at hr; cases hr
  unfold allocOp at h
  simp only at h
  split at h
  · exact key (AllocS.alloc _) hr
  · exact key (AllocS.box _ _) hr
  · exact key (AllocS.buildSlice _ _ _) hr
  · cases h
def quietOp : Op → Bool
  | .move _ | .pick .. | .load .. | .fieldAddr .. | .indexAddr .. | .extract .. | .binOp .. | .unOp .. => true
  | .assign _ | .build .. | .nilCheck _ | .slice _ _ _ _ none | .convert .. | .makeFunc .. => true
  | .call { callee := .builtin .len, .. } => true
  | _ => false
section
variable {P : Program} {ops : Array Oper} {md : Region.Mode} {w : World} {Q : Exit → Act → World → Prop}
def YV (P : Program) (ops : Array Oper) (w : World) (o : Oper) (v : Value) (a : Act) : Prop :=
  (Region.wanted o (yielded ops a.tmps) = true ∧ (execOp a.eval o).run P w = .ok (.value v) w) ∨ (Region.wanted o (yielded ops a.tmps) = false ∧ v = undef)
theorem YV.unique {o : Oper} {v v' : Value} {a : Act} (h : YV P ops w o v a) (h' : YV P ops w o v' a) : v = v' := by
  rcases h with ⟨h1, h2⟩ | ⟨h1, rfl⟩ <;> rcases h' with ⟨h3, h4⟩ | ⟨h3, rfl⟩
  · rw [h2] at h4; cases h4; rfl
  · rw [h1] at h3; cases h3
  · rw [h1] at h3; cases h3
  · rfl
theorem YV.same {o : Oper} {v : Value} {a a' : Act} (hy : YV P ops w o v a) (he : execOp a'.eval o = execOp a.eval o) (hw : Region.wanted o (yielded ops a'.tmps) = Region.wanted o (yielded ops a.tmps)) : YV P ops w o v a' := by
  unfold YV at *
  rw [he, hw]
  exact hy
theorem YV.yields {o : Oper} {v : Value} {a : Act} (hp : pureOp o.op = true) (h : YV P ops w o v a) : Yields P ops o v a := by
  rcases h with ⟨h1, h2⟩ | h
  · exact .inl ⟨h1, (pureOp_free hp _ P w _ _ h2).2⟩
  · exact .inr h
theorem YV.of_yields {o : Oper} {v : Value} {a : Act} (h : Yields P ops o v a) : YV P ops w o v a := by
  rcases h with ⟨h1, h2⟩ | h
  · exact .inl ⟨h1, h2 w⟩
  · exact .inr h
/-- A quiet operation is run: it gives a value, and the world stays. -/
def qOp (P : Program) (ops : Array Oper) (w : World) (i : Nat) (K : Act → Prop) (a : Act) : Prop := match ops[i]? with
  | none => False
  | some o => ∃ v, YV P ops w o v a ∧ K (a.put o.dst v)
theorem qOp_mono {i : Nat} {K K' : Act → Prop} {a : Act} (h : ∀ a, K a → K' a) (hh : qOp P ops w i K a) : qOp P ops w i K' a := by
  unfold qOp at *
  split
  · simp_all
  · rename_i o ho
    simp only [ho] at hh
    obtain ⟨v, h1, h2⟩ := hh
    exact ⟨v, h1, h _ h2⟩
theorem wpOp_of_q {i : Nat} {K : Act → World → Prop} {a : Act} (h : qOp P ops w i (fun a' => K a' w) a) : wpOp P ops Q i K a w := by
  unfold qOp at h
  unfold wpOp
  split at h
  · exact h.elim
  · rename_i o ho
    obtain ⟨v, ⟨h1, h2⟩ | ⟨h1, rfl⟩, h3⟩ := h
    · simp only [ho, h1, if_true, Oper.wp, h2, Oper.upon]; exact .inl h3
    · simp only [ho, h1, Bool.false_eq_true, if_false]; exact h3
theorem qOp_put {j : Nat} {oi oj : Oper} {v : Value} (hj : ops[j]? = some oj) (hap : oi.apart ops oj = true) (hsi : ∀ cs b, oi.op ≠ .select cs b) (hsj : ∀ cs b, oj.op ≠ .select cs b) {K : Act → Prop} {a : Act}
    (hy : YV P ops w oi v a) (h : qOp P ops w j K (a.put oi.dst v)) : qOp P ops w j (fun a' => YV P ops w oi v a' ∧ K (a'.put oi.dst v)) a := by
  obtain ⟨h1, h2, h3⟩ := Oper.apart_spec hap
  unfold qOp at *
  simp only [hj] at *
  obtain ⟨u, hu, hk⟩ := h
  exact ⟨u, hu.same (execOp_put oj hsj a oi.dst v h1).symm (wanted_put oj a oi.dst v h1).symm, hy.same (execOp_put oi hsi a oj.dst u h3) (wanted_put oi a oj.dst u h3), by rw [← Act.put_comm a v u h2]; exact hk⟩
def qt (ops : Array Oper) (i : Nat) : Bool := match ops[i]? with
  | some o => quietOp o.op
  | none => false
def wpOpS (P : Program) (ops : Array Oper) (Q : Exit → Act → World → Prop) (i : Nat) (K : Act → World → Prop) (a : Act) (w : World) : Prop :=
  if qt ops i = true then qOp P ops w i (fun a' => K a' w) a else wpOp P ops Q i K a w
theorem wpOpS_mono {i : Nat} {K K' : Act → World → Prop} {a : Act} (h : ∀ a w, K a w → K' a w) (hh : wpOpS P ops Q i K a w) : wpOpS P ops Q i K' a w := by
  unfold wpOpS at *
  split
  · rename_i e; rw [if_pos e] at hh; exact qOp_mono (fun a => h a w) hh
  · rename_i e; rw [if_neg e] at hh; exact wpOp_mono h hh
theorem wpOpS_op {i : Nat} {K : Act → World → Prop} {a : Act} (h : wpOpS P ops Q i K a w) : wpOp P ops Q i K a w := by
  unfold wpOpS at h
  split at h
  · exact wpOp_of_q h
  · exact h
def anyS (P : Program) (md : Region.Mode) (ops : Array Oper) (Q : Exit → Act → World → Prop) : Nat → Array Bool → Act → World → Prop
  | 0, listed, a, w => Region.ready md ops listed = [] ∧ Q .normal a w
  | f + 1, listed, a, w => (Region.ready md ops listed = [] → Q .normal a w) ∧ ∀ i ∈ Region.ready md ops listed, wpOpS P ops Q i (anyS P md ops Q f (listed.setIfInBounds i true)) a w
theorem anyS_any : ∀ (f : Nat) (listed : Array Bool) (a : Act) (w : World), anyS P md ops Q f listed a w → wpAny P md ops Q f listed a w
  | 0, _, _, _, h => h
  | f + 1, _, _, _, h => ⟨h.1, fun i hi => wpOp_mono (fun a w => anyS_any f _ a w) (wpOpS_op (h.2 i hi))⟩
/-- Whatever is listed, all that it waits for is. -/
structure Cl (md : Region.Mode) (ops : Array Oper) (listed : Array Bool) : Prop where
  size : listed.size = ops.size
  closed : ∀ j oj, ops[j]? = some oj → listed.getD j false = true → ∀ e ∈ oj.after, Region.binds md e = true → listed.getD e.on false = true
theorem get_false {listed : Array Bool} {i : Nat} (h : listed.getD i true = false) : listed.getD i false = false := by
  rcases Nat.lt_or_ge i listed.size with h' | h'
  · simp [h'] at h ⊢; exact h
  · simp [Array.getElem?_eq_none h'] at h
theorem Cl.set {i : Nat} {listed : Array Bool} (inv : Cl md ops listed) (hi : i ∈ Region.ready md ops listed) : Cl md ops (listed.setIfInBounds i true) := by
  obtain ⟨_, oi, hoi, hall⟩ := mem_ready.1 hi
  refine ⟨by simp [inv.size], fun j oj hj hl e he hb => ?_⟩
  by_cases hij : i = j
  · subst hij
    have : oj = oi := Option.some.inj (hj.symm.trans hoi)
    subst this
    exact getD_set_true (hall e he hb)
  · rw [getD_set_ne false hij] at hl
    exact getD_set_true (inv.closed j oj hj hl e he hb)
/-- These wait for i, some of them through others. -/
def depL (md : Region.Mode) (ops : Array Oper) (i : Nat) : Array Bool := ops.foldl (fun d o => d.push (d.size == i || o.after.any fun e => Region.binds md e && d.getD e.on false)) #[]
def depOk (md : Region.Mode) (ops : Array Oper) (i : Nat) (d : Array Bool) : Bool := (List.range ops.size).all fun j => !(d.getD j false) || j == i || match ops[j]? with
  | some o => o.after.any fun e => Region.binds md e && (decide (e.on < j) && d.getD e.on false)
  | none => false
theorem dep_not {i : Nat} {d listed : Array Bool} (hd : depOk md ops i d = true) (inv : Cl md ops listed) (hi : listed.getD i true = false) : ∀ j, j < ops.size → d.getD j false = true → listed.getD j false = false := by
  intro j
  induction j using Nat.strongRecOn with
  | _ j ih =>
    intro hj hdj
    have h1 := List.all_eq_true.1 hd j (List.mem_range.2 hj)
    rw [hdj] at h1
    simp only [Bool.not_true, Bool.false_or, Bool.or_eq_true, beq_iff_eq] at h1
    rcases h1 with rfl | h1
    · exact get_false hi
    · have ho : ops[j]? = some ops[j] := Array.getElem?_eq_getElem hj
      rw [ho] at h1
      obtain ⟨e, he, hb⟩ := Array.any_eq_true'.1 h1
      simp only [Bool.and_eq_true, decide_eq_true_eq] at hb
      have h2 := ih e.on hb.2.1 (by omega) hb.2.2
      cases hl : listed.getD j false with
      | false => rfl
      | true =>
        have := inv.closed j _ ho hl e he hb.1
        rw [h2] at this; cases this
/-- While i is to run, only quiet operations may run. -/
def calm (md : Region.Mode) (ops : Array Oper) (listed : Array Bool) (i : Nat) : Bool :=
  depOk md ops i (depL md ops i) && (List.range ops.size).all fun j => j == i || listed.getD j true || (depL md ops i).getD j false || qt ops j
def al (ops : Array Oper) (i : Nat) : Bool := match ops[i]? with
  | some o => allocOp o.op
  | none => false
def steady (md : Region.Mode) (ops : Array Oper) (listed : Array Bool) (i : Nat) : Bool :=
  (match ops[i]? with | some o => steadyOp o.op | none => false) && (depOk md ops i (depL md ops i) && (List.range ops.size).all fun j => j == i || listed.getD j true || (depL md ops i).getD j false || (qt ops j || al ops j))
theorem alloc_put {j : Nat} {oi oj : Oper} {v : Value} (hj : ops[j]? = some oj) (hal : allocOp oj.op = true) (hst : steadyOp oi.op = true) (hap : oi.apart ops oj = true)
    (hsi : ∀ cs b, oi.op ≠ .select cs b) (hsj : ∀ cs b, oj.op ≠ .select cs b) (hQ : ∀ c a w, Q (.panic c) (a.put oi.dst v) w → Q (.panic c) a w) {K : Act → World → Prop} {a : Act}
    (hy : YV P ops w oi v a) (h : wpOp P ops Q j K (a.put oi.dst v) w) : wpOp P ops Q j (fun a' w' => YV P ops w' oi v a' ∧ K (a'.put oi.dst v) w') a w := by
  obtain ⟨h1, h2, h3⟩ := Oper.apart_spec hap
  have keep : ∀ u b, YV P ops (w.alloc b) oi v (a.put oj.dst u) := fun u b => by
    have h0 : YV P ops w oi v (a.put oj.dst u) := hy.same (execOp_put oi hsi a oj.dst u h3) (wanted_put oi a oj.dst u h3)
    rcases h0 with ⟨h4, h5⟩ | h0
    · exact .inl ⟨h4, (steadyOp_read hst _ P w _ _ h5).2 b⟩
    · exact .inr h0
  unfold wpOp at *
  simp only [hj] at *
  rw [wanted_put oj a oi.dst v h1] at h
  split
  · rename_i hw
    simp only [hw, if_true] at h
    rcases h with h | ⟨hasks, hlets⟩
    case inr => exact .inr ⟨by unfold Oper.asks at *; rw [execOp_put oj hsj a oi.dst v h1] at hasks; exact hasks, hlets⟩
    refine .inl ?_
    unfold Oper.wp at *
    rw [execOp_put oj hsj a oi.dst v h1] at h
    cases hr : (execOp a.eval oj).run P w with
    | ok n w' =>
      rw [hr] at h
      obtain ⟨u, b, rfl, rfl⟩ := allocOp_run hal hr
      simp only [Oper.upon] at h ⊢
      exact ⟨keep u b, by rw [← Act.put_comm a v u h2]; exact h⟩
    | halt x w' =>
      rw [hr] at h
      cases x <;> simp only [Oper.upon] at h ⊢
      case panic u => exact hQ _ _ _ h
  · rename_i hw
    simp only [hw] at h
    exact ⟨hy.same (execOp_put oi hsi a oj.dst undef h3) (wanted_put oi a oj.dst undef h3), by rw [← Act.put_comm a v undef h2]; exact h⟩
theorem anyS_first {i : Nat} {oi : Oper} {v : Value} (hi : ops[i]? = some oi) (hsel : ∀ (j : Nat) (o : Oper) cs b, ops[j]? = some o → o.op ≠ .select cs b) (hQ : ∀ c a w, Q (.panic c) (a.put oi.dst v) w → Q (.panic c) a w) {d : Array Bool} (hd : pureOp oi.op = true ∨ depOk md ops i d = true) :
    ∀ (f : Nat) (listed : Array Bool) (a : Act) (w : World), Cl md ops listed →
      (∀ j oj, ops[j]? = some oj → j ≠ i → listed.getD j true = false → (∀ e ∈ oj.after, Region.binds md e = true → e.on ≠ i) → oi.apart ops oj = true) →
      (pureOp oi.op = true ∨ ∀ j, j < ops.size → j ≠ i → listed.getD j true = false → d.getD j false = true ∨ qt ops j = true ∨ (al ops j = true ∧ steadyOp oi.op = true)) →
      i ∈ Region.ready md ops listed → YV P ops w oi v a → qt ops i = true →
      anyS P md ops Q f (listed.setIfInBounds i true) (a.put oi.dst v) w → anyS P md ops Q (f + 1) listed a w := by
  have self : ∀ {K : Act → World → Prop} {a : Act} {w : World}, YV P ops w oi v a → qt ops i = true → K (a.put oi.dst v) w → wpOpS P ops Q i K a w := fun hy hq hk => by
    unfold wpOpS qOp
    rw [if_pos hq]
    simp only [hi]
    exact ⟨v, hy, hk⟩
  intro f
  induction f with
  | zero =>
    intro listed a w inv _ _ hr hy hq H
    refine ⟨fun h => (by rw [h] at hr; cases hr), fun j hj => ?_⟩
    by_cases hji : j = i
    · subst hji; exact self hy hq H
    · have := ready_mono hj hji
      rw [H.1] at this; cases this
  | succ f ih =>
    intro listed a w inv hfree hcalm hr hy hq H
    have hun := (mem_ready.1 hr).1
    refine ⟨fun h => (by rw [h] at hr; cases hr), fun j hj => ?_⟩
    by_cases hji : j = i
    · subst hji; exact self hy hq H
    · have h1 := H.2 j (ready_mono hj hji)
      obtain ⟨hjun, oj, hoj, hall⟩ := mem_ready.1 hj
      have hjs : j < ops.size := (Array.getElem?_eq_some_iff.1 hoj).1
      have hnot : ∀ e ∈ oj.after, Region.binds md e = true → e.on ≠ i := fun e he hb heq => by
        have h1 := hall e he hb
        rw [heq, get_false hun] at h1
        cases h1
      have hap := hfree j oj hoj hji hjun hnot
      have hfree' : ∀ k ok, ops[k]? = some ok → k ≠ i → (listed.setIfInBounds j true).getD k true = false →
          (∀ e ∈ ok.after, Region.binds md e = true → e.on ≠ i) → oi.apart ops ok = true := fun k ok hk hki hun hno => by
        refine hfree k ok hk hki ?_ hno
        by_cases hjk : j = k
        · subst hjk; exact hjun
        · rw [getD_set_ne true hjk] at hun; exact hun
      have hcalm' : pureOp oi.op = true ∨ ∀ k, k < ops.size → k ≠ i → (listed.setIfInBounds j true).getD k true = false → d.getD k false = true ∨ qt ops k = true ∨ (al ops k = true ∧ steadyOp oi.op = true) := hcalm.imp id fun hc k hk hki hun => by
        refine hc k hk hki ?_
        by_cases hjk : j = k
        · subst hjk; exact hjun
        · rw [getD_set_ne true hjk] at hun; exact hun
      have next : ∀ a' w', YV P ops w' oi v a' ∧ anyS P md ops Q f ((listed.setIfInBounds i true).setIfInBounds j true) (a'.put oi.dst v) w' → anyS P md ops Q (f + 1) (listed.setIfInBounds j true) a' w' := fun a' w' h3 => by
        refine ih (listed.setIfInBounds j true) a' w' (inv.set hj) hfree' hcalm' (ready_mono hr (Ne.symm hji)) h3.1 hq ?_
        rw [Array.setIfInBounds_comm _ _ hji]
        exact h3.2
      unfold wpOpS at h1 ⊢
      split
      · rename_i hqj
        rw [if_pos hqj] at h1
        exact qOp_mono (fun a' => next a' w) (qOp_put hoj hap (fun cs b => hsel i oi cs b hi) (fun cs b => hsel j oj cs b hoj) hy h1)
      · rename_i hqj
        rw [if_neg hqj] at h1
        by_cases hp : pureOp oi.op = true
        · exact wpOp_mono (fun a' w' h => next a' w' ⟨YV.of_yields h.1, h.2⟩) (wpOp_put hoj hap (fun cs b => hsel i oi cs b hi) (fun cs b => hsel j oj cs b hoj) hQ (hy.yields hp) h1)
        · rcases (hcalm.resolve_left hp) j hjs hji hjun with h2 | h2 | ⟨h2, h2'⟩
          · -- j waits for i, and is ready
            exfalso
            have hds := hd.resolve_left hp
            have h3 := List.all_eq_true.1 hds j (List.mem_range.2 hjs)
            rw [h2] at h3
            simp only [Bool.not_true, Bool.false_or, Bool.or_eq_true, beq_iff_eq, hji, false_or, hoj] at h3
            obtain ⟨e, he, hb⟩ := Array.any_eq_true'.1 h3
            simp only [Bool.and_eq_true, decide_eq_true_eq] at hb
            have h4 := hall e he hb.1
            have h5 := dep_not hds inv hun e.on (by omega) hb.2.2
            rw [h5] at h4; cases h4
          · exact absurd h2 hqj
          · have hal : allocOp oj.op = true := by unfold al at h2; rw [hoj] at h2; exact h2
            exact wpOp_mono next (alloc_put hoj hal h2' hap (fun cs b => hsel i oi cs b hi) (fun cs b => hsel j oj cs b hoj) hQ hy h1)
def brs : Tr → List (Nat × Tr)
  | .nil => []
  | .one k t => [(k, t)]
  | .alt s t => brs s ++ brs t
def chainT : Nat → Nat → Tr
  | 0, _ => .nil
  | f + 1, k => .one k (chainT f (k + 1))
def wpT (P : Program) (ops : Array Oper) (Q : Exit → Act → World → Prop) : Tr → Act → World → Prop
  | .nil, a, w => Q .normal a w
  | .one k t, a, w => wpOpS P ops Q k (wpT P ops Q t) a w
  | .alt s t, a, w => wpT P ops Q s a w ∧ wpT P ops Q t a w
theorem wpT_brs : ∀ {t : Tr} {a : Act} {w : World}, wpT P ops Q t a w → ∀ q ∈ brs t, wpOpS P ops Q q.1 (wpT P ops Q q.2) a w
  | .nil, _, _, _, q, hq => by cases hq
  | .one k t, _, _, h, q, hq => by
    rw [brs, List.mem_singleton] at hq; subst hq; exact h
  | .alt s t, _, _, h, q, hq => by
    rcases List.mem_append.1 hq with hq | hq
    · exact wpT_brs h.1 q hq
    · exact wpT_brs h.2 q hq
def takes (md : Region.Mode) (ops : Array Oper) (listed : Array Bool) (k : Nat) : Bool :=
  (Region.ready md ops listed).contains k && (qt ops k && (Region.free md ops listed k && ((match ops[k]? with | some o => pureOp o.op | none => false) || (calm md ops listed k || steady md ops listed k))))
def branch (f : Tr → Bool) (i : Nat) : List (Nat × Tr) → Bool
  | [] => false
  | (k, t) :: l => if k = i then f t else branch f i l
theorem branch_spec {f : Tr → Bool} {i : Nat} : ∀ {l : List (Nat × Tr)}, branch f i l = true → ∃ t, (i, t) ∈ l ∧ f t = true
  | (k, t) :: l, h => by
    rw [branch] at h
    split at h
    · rename_i e; subst e; exact ⟨t, List.mem_cons_self, h⟩
    · obtain ⟨t', h1, h2⟩ := branch_spec h; exact ⟨t', List.mem_cons_of_mem _ h1, h2⟩
def forks (md : Region.Mode) (ops : Array Oper) (cov : Tr → Array Bool → Bool) (T : Tr) (listed : Array Bool) : Bool :=
  !(Region.ready md ops listed).isEmpty && (Region.ready md ops listed).all fun i => branch (fun t => cov t (listed.setIfInBounds i true)) i (brs T)
def cover (md : Region.Mode) (ops : Array Oper) : Nat → Tr → Array Bool → Bool
  | 0, .nil, listed => (Region.ready md ops listed).isEmpty
  | 0, _, _ => false
  | f + 1, .one k t, listed => if takes md ops listed k = true then cover md ops f t (listed.setIfInBounds k true) else forks md ops (cover md ops f) (.one k t) listed
  | f + 1, T, listed => forks md ops (cover md ops f) T listed
theorem forks_any {f : Nat} {T : Tr} {listed : Array Bool} {a : Act} {w : World} (ih : ∀ (T : Tr) (listed : Array Bool) (a : Act) (w : World), Cl md ops listed → cover md ops f T listed = true → wpT P ops Q T a w → anyS P md ops Q f listed a w)
    (inv : Cl md ops listed) (hc : forks md ops (cover md ops f) T listed = true) (h : wpT P ops Q T a w) : anyS P md ops Q (f + 1) listed a w := by
  simp only [forks, Bool.and_eq_true, Bool.not_eq_true'] at hc
  refine ⟨fun e => (by rw [e] at hc; exact absurd hc.1 (by simp)), fun i hi => ?_⟩
  obtain ⟨t, h1, h2⟩ := branch_spec (List.all_eq_true.1 hc.2 i hi)
  exact wpOpS_mono (fun a w hT => ih t _ a w (inv.set hi) h2 hT) (wpT_brs h _ h1)
theorem cover_any (hsel : Region.noSelect ops = true) (hQ : ∀ (i : Nat) (o : Oper) (v : Value) c a w, ops[i]? = some o → Q (.panic c) (a.put o.dst v) w → Q (.panic c) a w) : ∀ (f : Nat) (T : Tr) (listed : Array Bool) (a : Act) (w : World), Cl md ops listed → cover md ops f T listed = true → wpT P ops Q T a w → anyS P md ops Q f listed a w
  | 0, .nil, listed, a, w, inv, hc, h => ⟨by simpa [cover] using hc, h⟩
  | 0, .one k t, listed, a, w, inv, hc, h => by simp [cover] at hc
  | 0, .alt s t, listed, a, w, inv, hc, h => by simp [cover] at hc
  | f + 1, .nil, listed, a, w, inv, hc, h => forks_any (cover_any hsel hQ f) inv (by simpa only [cover] using hc) h
  | f + 1, .alt s t, listed, a, w, inv, hc, h => forks_any (cover_any hsel hQ f) inv (by simpa only [cover] using hc) h
  | f + 1, .one k t, listed, a, w, inv, hc, h => by
    rw [cover] at hc
    split at hc
    · rename_i ht
      simp only [takes, Bool.and_eq_true, Bool.or_eq_true] at ht
      obtain ⟨hr, hq, hf, hp⟩ := ht
      have hr' : k ∈ Region.ready md ops listed := by simpa using hr
      obtain ⟨_, ok, hok, _⟩ := mem_ready.1 hr'
      have hw : wpOpS P ops Q k (wpT P ops Q t) a w := h
      unfold wpOpS qOp at hw
      rw [if_pos hq] at hw
      simp only [hok] at hw
      obtain ⟨v, hy, hk⟩ := hw
      have hp' : pureOp ok.op = true ∨ (calm md ops listed k = true ∨ steady md ops listed k = true) := by
        rcases hp with hp | hp
        · rw [hok] at hp; exact .inl hp
        · exact .inr hp
      refine anyS_first (P := P) (d := depL md ops k) hok (Region.noSelect_spec hsel) (fun c a w => hQ k ok v c a w hok) (hp'.imp id fun hc => ?_) f listed a w inv (Region.free_spec hok hf) (hp'.imp id fun hc j hj hji hun => ?_) hr' hy hq (cover_any hsel hQ f t _ _ w (inv.set hr') hc hk)
      · rcases hc with hc | hc
        · simp only [calm, Bool.and_eq_true] at hc; exact hc.1
        · simp only [steady, Bool.and_eq_true] at hc; exact hc.2.1
      · rcases hc with hc | hc
        · simp only [calm, Bool.and_eq_true] at hc
          have h1 := List.all_eq_true.1 hc.2 j (List.mem_range.2 hj)
          simp only [Bool.or_eq_true, beq_iff_eq, hji, false_or, hun, Bool.false_eq_true] at h1
          exact h1.imp id fun h => .inl h
        · simp only [steady, Bool.and_eq_true] at hc
          have h1 := List.all_eq_true.1 hc.2.2 j (List.mem_range.2 hj)
          simp only [Bool.or_eq_true, beq_iff_eq, hji, false_or, hun, Bool.false_eq_true] at h1
          rw [hok] at hc
          exact h1.imp id fun h => h.imp id fun h => ⟨h, hc.1⟩
    · exact forks_any (cover_any hsel hQ f) inv hc h
theorem Cl.start : Cl md ops (Array.replicate ops.size false) := ⟨by simp, fun j oj hj hl => by
  have h2 : j < ops.size := (Array.getElem?_eq_some_iff.1 hj).1
  simp [h2] at hl⟩
end
end Go.V
