import Derived.Orders
import Derived.Test.YtbccejopeclhmaaGreatM2
import Derived.Scope
import Derived.IntWalk
set_option linter.unusedVariables false
set_option linter.unusedSimpArgs false
namespace Go.V
open Go
/-- A run that looks at no memory. -/
def FreeS {α : Type} (s : Sem α) : Prop := ∀ (P : Program) (w : World) (x : α) (w1 : World), s.run P w = .ok x w1 → w1 = w ∧ ∀ w', s.run P w' = .ok x w'
theorem FreeS.pure {α : Type} (a : α) : FreeS (Pure.pure a : Sem α) := fun P w x w1 h => by
  rw [Sem.run_pure] at h; cases h; exact ⟨rfl, fun w' => by rw [Sem.run_pure]⟩
theorem FreeS.bind {α β : Type} {s : Sem α} {f : α → Sem β} (hs : FreeS s) (hf : ∀ a, FreeS (f a)) : FreeS (s >>= f) := fun P w x w1 h => by
  rw [Sem.run_bind] at h
  cases hr : s.run P w with
  | ok y w2 =>
    rw [hr] at h
    obtain ⟨rfl, h2⟩ := hs P w y w2 hr
    obtain ⟨h3, h4⟩ := hf y P _ x w1 h
    exact ⟨h3, fun w' => by rw [Sem.run_bind, h2 w']; exact h4 w'⟩
  | halt e w2 => rw [hr] at h; cases h
def DeadS {α : Type} (s : Sem α) : Prop := ∀ (P : Program) (w : World) (x : α) (w1 : World), s.run P w ≠ .ok x w1
theorem DeadS.free {α : Type} {s : Sem α} (h : DeadS s) : FreeS s := fun P w x w1 hr => absurd hr (h P w x w1)
theorem DeadS.bind {α β : Type} {s : Sem α} {f : α → Sem β} (hf : ∀ a, DeadS (f a)) : DeadS (s >>= f) := fun P w x w1 h => by
  rw [Sem.run_bind] at h
  cases hr : s.run P w with
  | ok y w2 => rw [hr] at h; exact hf y P w2 x w1 h
  | halt e w2 => rw [hr] at h; cases h
theorem DeadS.left {α β : Type} {s : Sem α} {f : α → Sem β} (hs : DeadS s) : DeadS (s >>= f) := fun P w x w1 h => by
  rw [Sem.run_bind] at h
  cases hr : s.run P w with
  | ok y w2 => exact hs P w y w2 hr
  | halt e w2 => rw [hr] at h; cases h
theorem DeadS.stuck {α : Type} (s : String) : DeadS (Go.stuck s : Sem α) := fun P w x w1 h => by cases h
theorem DeadS.halt {α : Type} (e : Halt) : DeadS (.halt e : Sem α) := fun P w x w1 h => by cases h
theorem DeadS.run {α : Type} (e : RuntimeError) : DeadS (runtimePanic e : Sem α) := by
  unfold runtimePanic
  refine DeadS.bind fun p => ?_
  cases e <;> first | exact DeadS.halt _ | exact DeadS.bind fun _ => DeadS.bind fun _ => DeadS.halt _
theorem DeadS.bounds {α : Type} (k : IntKind) (x y : Int) (c : BoundsCode) : DeadS (boundsPanic k x y c : Sem α) := by
  unfold boundsPanic
  dsimp only
  split <;> exact DeadS.bind fun _ => DeadS.run _
theorem FreeS.program : FreeS Go.program := fun P w x w1 h => by cases h; exact ⟨rfl, fun _ => rfl⟩
theorem FreeS.underlying (t : TypeId) : FreeS (Go.underlying t) := by
  unfold Go.underlying
  refine FreeS.bind FreeS.program fun p => ?_
  split
  · exact FreeS.pure _
  · exact (DeadS.stuck _).free
theorem FreeS.typeInfo (t : TypeId) : FreeS (Go.typeInfo t) := by
  unfold Go.typeInfo
  refine FreeS.bind FreeS.program fun p => ?_
  split
  · exact FreeS.pure _
  · exact (DeadS.stuck _).free
theorem FreeS.sizeOf (t : TypeId) : FreeS (Go.sizeOf t) := FreeS.bind (FreeS.typeInfo t) fun i => FreeS.pure _
theorem FreeS.asIntOf (v : Value) : FreeS (Go.asIntOf v) := by
  unfold Go.asIntOf
  split <;> first | exact FreeS.pure _ | exact (DeadS.stuck _).free | exact (DeadS.halt _).free
theorem FreeS.asBool (v : Value) : FreeS (Go.asBool v) := by
  unfold Go.asBool
  split <;> first | exact FreeS.pure _ | exact (DeadS.stuck _).free
theorem FreeS.asAddr (v : Value) : FreeS (Go.asAddr v) := by
  unfold Go.asAddr
  split <;> first | exact FreeS.pure _ | exact (DeadS.stuck _).free | exact (DeadS.run _).free
theorem FreeS.sureAddr (v : Value) : FreeS (Instr.sureAddr v) := by
  unfold Instr.sureAddr
  split <;> first | exact FreeS.pure _ | exact (DeadS.stuck _).free
theorem FreeS.extract (v : Value) (i : Nat) : FreeS (Instr.extract v i) := by
  unfold Instr.extract
  split
  · split <;> first | exact FreeS.pure _ | exact (DeadS.stuck _).free
  · exact (DeadS.stuck _).free
theorem FreeS.sliceBound (x : Value) (y : Nat) (c : BoundsCode) : FreeS (Instr.sliceBound x y c) := by
  unfold Instr.sliceBound
  refine FreeS.bind (FreeS.asIntOf x) fun p => ?_
  dsimp only
  split
  · exact FreeS.pure _
  · exact (DeadS.bounds _ _ _ _).free
theorem FreeS.sliceBounds (b : Bool) (l c : Nat) (lo hi mx : Option Value) : FreeS (Instr.sliceBounds b l c lo hi mx) := by
  unfold Instr.sliceBounds
  cases mx <;> cases hi <;> cases lo <;> dsimp only
  all_goals repeat' first
    | (with_reducible refine FreeS.bind (FreeS.sliceBound _ _ _) fun _ => ?_)
    | (with_reducible refine FreeS.bind (DeadS.stuck _).free fun _ => ?_)
    | (with_reducible refine FreeS.bind (FreeS.pure _) fun _ => ?_)
    | (with_reducible exact FreeS.pure _)
theorem FreeS.slice (t : TypeId) (x : Value) (lo hi : Option Value) : FreeS (Instr.slice t x lo hi none) := by
  unfold Instr.slice
  refine FreeS.bind (FreeS.underlying t) fun u => ?_
  split
  · exact FreeS.bind (FreeS.sliceBounds _ _ _ _ _ _) fun p => FreeS.pure _
  · exact FreeS.bind (FreeS.sliceBounds _ _ _ _ _ _) fun p => FreeS.bind (FreeS.sizeOf _) fun _ => FreeS.pure _
  · refine FreeS.bind (FreeS.asAddr _) fun a => FreeS.bind (FreeS.underlying _) fun d => ?_
    split
    · exact FreeS.bind (FreeS.sliceBounds _ _ _ _ _ _) fun p => FreeS.bind (FreeS.sizeOf _) fun _ => FreeS.pure _
    · exact (DeadS.stuck _).free
  · exact (DeadS.stuck _).free
theorem FreeS.sliceAt (t : TypeId) (x : Value) (lo hi : Option Value) : FreeS (Instr.sliceAt t x lo hi none) := by
  unfold Instr.sliceAt
  refine FreeS.bind (FreeS.underlying t) fun u => ?_
  split
  · exact FreeS.bind (FreeS.sureAddr _) fun a => FreeS.bind (FreeS.sliceBounds _ _ _ _ _ _) fun p => FreeS.bind (FreeS.sizeOf _) fun _ => FreeS.pure _
  · exact FreeS.slice _ _ _ _
/-- A run that but reads: more memory does not change it. -/
def ReadS {α : Type} (s : Sem α) : Prop := ∀ (P : Program) (w : World) (x : α) (w1 : World), s.run P w = .ok x w1 → w1 = w ∧ ∀ o, s.run P (w.alloc o) = .ok x (w.alloc o)
theorem FreeS.read {α : Type} {s : Sem α} (h : FreeS s) : ReadS s := fun P w x w1 hr => ⟨(h P w x w1 hr).1, fun o => (h P w x w1 hr).2 _⟩
theorem ReadS.bind {α β : Type} {s : Sem α} {f : α → Sem β} (hs : ReadS s) (hf : ∀ a, ReadS (f a)) : ReadS (s >>= f) := fun P w x w1 h => by
  rw [Sem.run_bind] at h
  cases hr : s.run P w with
  | ok y w2 =>
    rw [hr] at h
    obtain ⟨rfl, h2⟩ := hs P w y w2 hr
    obtain ⟨h3, h4⟩ := hf y P _ x w1 h
    exact ⟨h3, fun o => by rw [Sem.run_bind, h2 o]; exact h4 o⟩
  | halt e w2 => rw [hr] at h; cases h
theorem heap_more {w : World} {i : Nat} {x : Obj} (o : Obj) (h : w.heap[i]? = some x) : (w.alloc o).heap[i]? = some x := by
  have hlt : i < w.heap.size := (Array.getElem?_eq_some_iff.1 h).1
  show (w.heap.push o)[i]? = some x
  rw [Array.getElem?_push, if_neg (Nat.ne_of_lt hlt)]; exact h
theorem seen_more {p : Program} {w : World} {at_ : Addr} {u : TypeId} {k : Addr} {b : Bool} {r} (o : Obj) (h : w.seen p at_ u k b = .ok r) : (w.alloc o).seen p at_ u k b = .ok r := by
  have he : ∃ x, w.heap[at_.block]? = some x := by
    cases hb : w.heap[at_.block]? with
    | some x => exact ⟨x, rfl⟩
    | none =>
      exfalso
      unfold World.seen at h
      rw [hb] at h
      simp only [bind, Except.bind, pure, Except.pure, throw, throwThe, MonadExceptOf.throw] at h
      repeat' split at h
      all_goals first | cases h | skip
  obtain ⟨x, hx⟩ := he
  unfold World.seen at h ⊢
  rw [heap_more o hx]
  rw [hx] at h
  exact h
theorem ReadS.load (a : Addr) (m : Mode) : ReadS (Go.load a m) := fun P w x w1 h => by
  unfold Go.load at h ⊢
  rw [Sem.run] at h
  cases hc : w.cell? a with
  | some v =>
    rw [hc] at h
    cases h
    refine ⟨rfl, fun o => ?_⟩
    rw [Sem.run, World.cell?_alloc_lt w o a (World.block_lt_of_cell? w a hc), hc]; rfl
  | none =>
    rw [hc] at h
    simp only at h
    unfold World.farLoad at h
    cases hb : w.heap[a.block]? with
    | none => rw [hb] at h; cases h
    | some x =>
      rw [hb] at h
      have hlt : a.block < w.heap.size := (Array.getElem?_eq_some_iff.1 hb).1
      cases x with
      | view at_ u =>
        simp only at h
        cases hv : w.viewLoad P at_ u a (m == .atomic) with
        | error e => rw [hv] at h; cases h
        | ok r =>
          rw [hv] at h
          cases h
          refine ⟨rfl, fun o => ?_⟩
          have hv' : (w.alloc o).viewLoad P at_ u a (m == .atomic) = .ok r := by
            unfold World.viewLoad at hv ⊢
            cases hs : w.seen P at_ u a (m == .atomic) with
            | error e => rw [hs] at hv; cases hv
            | ok q => rw [seen_more o hs]; rw [hs] at hv; exact hv
          rw [Sem.run, World.cell?_alloc_lt w o a hlt, hc]
          simp only
          unfold World.farLoad
          rw [heap_more o hb]
          simp only [hv']
          rfl
      | _ => cases h
theorem ReadS.stuck {α : Type} (e : String) : ReadS (Go.stuck e : Sem α) := (DeadS.stuck e).free.read
theorem ReadS.pure {α : Type} (a : α) : ReadS (Pure.pure a : Sem α) := (FreeS.pure a).read
theorem ReadS.loadCellsFrom (a : Addr) : ∀ (n i : Nat) (acc : Array Value), ReadS (Go.loadCellsFrom a i n acc)
  | 0, _, _ => ReadS.pure _
  | n + 1, i, acc => ReadS.bind (ReadS.load _ _) fun v => ReadS.loadCellsFrom a n (i + 1) (acc.push v)
theorem FreeS.isAgg (t : TypeId) : FreeS (Go.isAgg t) := by
  unfold Go.isAgg
  refine FreeS.bind (FreeS.underlying t) fun u => ?_
  split <;> exact FreeS.pure _
theorem ReadS.loadVar (t : TypeId) (a : Addr) : ReadS (Go.loadVar t a) := by
  unfold Go.loadVar
  refine ReadS.bind (FreeS.isAgg t).read fun b => ?_
  split
  · exact ReadS.bind (FreeS.sizeOf t).read fun n => ReadS.bind (ReadS.loadCellsFrom a n 0 #[]) fun _ => ReadS.pure _
  · exact ReadS.load _ _
theorem ReadS.loadAt (t : TypeId) (v : Value) : ReadS (Instr.loadAt t v) := ReadS.bind (FreeS.sureAddr v).read fun a => ReadS.loadVar t a
theorem FreeS.indexAt (t : TypeId) (x i : Value) : FreeS (Instr.indexAt t x i) := by
  unfold Instr.indexAt
  refine FreeS.bind (FreeS.asIntOf i) fun p => FreeS.bind (FreeS.underlying t) fun u => ?_
  dsimp only
  have fin : ∀ (b : Option Addr) (n : Nat) (e : TypeId) (tiny : Bool), FreeS (match b with
      | some a =>
        if 0 ≤ p.2 ∧ p.2 < n then do Pure.pure (Value.pointer (some (a.add (p.2.toNat * (← Go.sizeOf e)))))
        else if tiny then unsupported (.noEntry "op/indexAddr.an index out of range at an array of length 0 or 1 (ledger 616)")
        else boundsPanic p.1 p.2 n .index
      | none => boundsPanic p.1 p.2 0 .index : Sem Value) := fun b n e tiny => by
    cases b with
    | none => exact (DeadS.bounds _ _ _ _).free
    | some a =>
      dsimp only
      split
      · exact FreeS.bind (FreeS.sizeOf _) fun n => FreeS.pure _
      · cases tiny
        · exact (DeadS.bounds _ _ _ _).free
        · exact (DeadS.halt _).free
  split <;> first
    | exact FreeS.bind (DeadS.stuck _).free fun _ => FreeS.bind (FreeS.underlying t) fun u2 => fin _ _ _ _
    | exact FreeS.bind (FreeS.pure _) fun _ => FreeS.bind (FreeS.underlying t) fun u2 => fin _ _ _ _
    | exact FreeS.bind (FreeS.sureAddr _) fun _ => FreeS.bind (FreeS.pure _) fun _ => FreeS.bind (FreeS.underlying t) fun u2 => fin _ _ _ _
theorem shape_more {w : World} {a : Nat} {q : TypeId × Nat} (o : Obj) (hs : w.shape? a = some q) : (w.alloc o).shape? a = some q := by
  unfold World.shape? at hs ⊢
  cases hb : w.heap[a]? with
  | none => rw [hb] at hs; cases hs
  | some y => rw [heap_more o hb]; rw [hb] at hs; exact hs
theorem ReadS.shape (a : Nat) {α : Type} {f : Option (TypeId × Nat) → Sem α} (h0 : DeadS (f none)) (hf : ∀ x, ReadS (f (some x))) : ReadS (Go.shape a >>= f) := fun P w x w1 h => by
  rw [Sem.run_bind] at h
  have h1 : (Go.shape a).run P w = .ok (w.shape? a) w := rfl
  rw [h1] at h
  cases hs : w.shape? a with
  | none => rw [hs] at h; exact absurd h (h0 P w x w1)
  | some q =>
    rw [hs] at h
    obtain ⟨h2, h3⟩ := hf q P w x w1 h
    refine ⟨h2, fun o => ?_⟩
    rw [Sem.run_bind]
    have h4 : (Go.shape a).run P (w.alloc o) = .ok (some q) (w.alloc o) := by
      show Result.ok ((w.alloc o).shape? a) _ = _
      rw [shape_more o hs]
    rw [h4]
    exact h3 o
theorem ReadS.viewAt (r : Nat) : ReadS (Go.viewAt r) := fun P w x w1 h => by
  unfold Go.viewAt at h ⊢
  simp only [Sem.run_bind] at h ⊢
  have h1 : ∀ w : World, (Go.shape r).run P w = .ok (w.shape? r) w := fun w => rfl
  simp only [h1] at h ⊢
  cases hb : w.heap[r]? with
  | none =>
    have hs : w.shape? r = none := by unfold World.shape?; rw [hb]
    rw [hs] at h
    have hg : (Go.getObj r).run P w = .halt (.stuck "getObj: no such block") w := by show Sem.run P (.getObj r .pure) w = _; rw [Sem.run, hb]
    simp only [Result.andThen_ok, Option.isSome_none, Bool.false_eq_true, if_false, Sem.run_bind, hg] at h
    cases h
  | some y =>
    have hs : ∀ o, (w.alloc o).shape? r = w.shape? r := fun o => by unfold World.shape?; rw [heap_more o hb, hb]
    have hg : ∀ o, (Go.getObj r).run P (w.alloc o) = (match (Go.getObj r).run P w with | .ok z _ => .ok z (w.alloc o) | .halt e _ => .halt e (w.alloc o)) := fun o => by
      show Sem.run P (.getObj r .pure) _ = (match Sem.run P (.getObj r .pure) w with | .ok z _ => .ok z (w.alloc o) | .halt e _ => .halt e (w.alloc o))
      rw [Sem.run, Sem.run, heap_more o hb, hb]
      cases y <;> rfl
    have hw : ∀ z w2, (Go.getObj r).run P w = .ok z w2 → w2 = w := fun z w2 hz => by
      have : Sem.run P (.getObj r .pure) w = .ok z w2 := hz
      rw [Sem.run, hb] at this
      cases y <;> cases this <;> rfl
    simp only [hs]
    cases hq : w.shape? r with
    | some q =>
      rw [hq] at h
      simp only [Result.andThen_ok, Option.isSome_some, if_true, Sem.run_pure] at h ⊢
      cases h; exact ⟨rfl, fun _ => rfl⟩
    | none =>
      rw [hq] at h
      simp only [Result.andThen_ok, Option.isSome_none, Bool.false_eq_true, if_false, Sem.run_bind, hg] at h ⊢
      cases hz : (Go.getObj r).run P w with
      | halt e w2 => rw [hz] at h; cases h
      | ok z w2 =>
        obtain rfl := hw z w2 hz
        rw [hz] at h
        simp only [Result.andThen_ok] at h ⊢
        cases z <;> (cases h; exact ⟨rfl, fun _ => rfl⟩)
theorem ReadS.byteOf (a : Addr) : ReadS (Go.byteOf a) := by
  unfold Go.byteOf
  cases a.spot with
  | some s => exact ReadS.pure _
  | none =>
    dsimp only
    refine ReadS.bind FreeS.program.read fun p => ReadS.bind ?_ fun _ => ReadS.shape _ (DeadS.stuck _) fun x => ?_
    · unfold Go.noView
      refine ReadS.bind (ReadS.viewAt _) fun v => ?_
      split
      · exact (DeadS.halt _).free.read
      · exact ReadS.pure _
    · dsimp only
      split
      · exact ReadS.pure _
      · split
        · exact ReadS.pure _
        · exact ReadS.stuck _
theorem ReadS.fieldAt (t : TypeId) (x : Value) (f : Nat) : ReadS (Instr.fieldAt t x f) := by
  unfold Instr.fieldAt
  refine ReadS.bind (FreeS.underlying t).read fun u => ?_
  split
  · split
    · refine ReadS.bind (FreeS.sureAddr _).read fun a => ReadS.bind ?_ fun _ => ReadS.pure _
      unfold Go.fieldPlace
      refine ReadS.bind (FreeS.sizeOf _).read fun n => ?_
      split
      · unfold Go.partAt
        exact ReadS.bind (ReadS.byteOf _) fun b => ReadS.bind (ReadS.byteOf _) fun c => ReadS.pure _
      · exact ReadS.pure _
    · exact ReadS.stuck _
  · exact ReadS.stuck _
/-- A run that lays one new block. -/
def AllocS {α : Type} (s : Sem α) : Prop := ∀ (P : Program) (w : World) (x : α) (w1 : World), s.run P w = .ok x w1 → ∃ o, w1 = w.alloc o
theorem AllocS.bind {α β : Type} {s : Sem α} {f : α → Sem β} (hs : FreeS s) (hf : ∀ a, AllocS (f a)) : AllocS (s >>= f) := fun P w x w1 h => by
  rw [Sem.run_bind] at h
  cases hr : s.run P w with
  | ok y w2 =>
    rw [hr] at h
    obtain ⟨rfl, h2⟩ := hs P w y w2 hr
    exact hf y P _ x w1 h
  | halt e w2 => rw [hr] at h; cases h
theorem AllocS.then {α β : Type} {s : Sem α} {f : α → Sem β} (hs : AllocS s) (hf : ∀ a, FreeS (f a)) : AllocS (s >>= f) := fun P w x w1 h => by
  rw [Sem.run_bind] at h
  cases hr : s.run P w with
  | ok y w2 =>
    rw [hr] at h
    obtain ⟨o, rfl⟩ := hs P w y w2 hr
    exact ⟨o, (hf y P _ x w1 h).1⟩
  | halt e w2 => rw [hr] at h; cases h
theorem AllocS.dead {α : Type} {s : Sem α} (h : DeadS s) : AllocS s := fun P w x w1 hr => absurd hr (h P w x w1)
theorem AllocS.newObj (o : Obj) : AllocS (Go.newObj o) := fun P w x w1 h => by cases h; exact ⟨o, rfl⟩
theorem AllocS.newRow (t : TypeId) (c : Array Value) : AllocS (Go.newRow t c) := AllocS.then (AllocS.newObj _) fun r => FreeS.pure _
theorem FreeS.zeroValue (t : TypeId) : FreeS (Go.zeroValue t) := by
  unfold Go.zeroValue
  refine FreeS.bind (FreeS.typeInfo t) fun i => ?_
  split
  · exact FreeS.pure _
  · exact (DeadS.halt _).free
theorem AllocS.alloc (t : TypeId) : AllocS (Instr.alloc t true (.tuple #[])) := by
  unfold Instr.alloc
  refine AllocS.bind (FreeS.zeroValue t) fun z => ?_
  exact AllocS.then (AllocS.newRow _ _) fun a => FreeS.pure _
theorem AllocS.box (t : TypeId) (v : Value) : AllocS (Instr.box t v) := AllocS.then (AllocS.newRow _ _) fun a => FreeS.pure _
theorem AllocS.buildSlice (t : TypeId) (n : Nat) (ps : Array (Nat × Value)) : AllocS (Instr.buildSlice t n ps) := by
  unfold Instr.buildSlice
  refine AllocS.bind (FreeS.underlying t) fun u => ?_
  split
  · refine AllocS.bind (FreeS.sizeOf _) fun sz => ?_
    have rest : ∀ (e : TypeId) (z : Array Value), AllocS (do
        let some cells := Instr.fill (fun i => some (i * sz, sz)) ((Array.range (n * sz)).map (z[· % z.size]!)) ps.toList
          | stuck "buildSlice: a part of the wrong size"
        Pure.pure (Value.slice (some (← Go.newRow e cells)) n n)) := fun e z => by
      split
      · exact AllocS.then (AllocS.newRow _ _) fun a => FreeS.pure _
      · exact AllocS.dead (DeadS.stuck _)
    dsimp only
    split
    · exact AllocS.dead (DeadS.left (DeadS.halt _))
    · split
      · exact AllocS.bind (FreeS.pure _) fun z => rest _ _
      · exact AllocS.bind (FreeS.zeroValue _) fun z => AllocS.bind (FreeS.pure _) fun z => rest _ _
  · exact AllocS.dead (DeadS.stuck _)
/-- What such an operation gives hangs on its operands alone. -/
def pureOp : Op → Bool
  | .move _ | .assign _ | .pick .. | .extract .. | .indexAddr .. => true
  | .slice _ _ _ _ none => true
  | _ => false
theorem pureOp_free {o : Oper} (h : pureOp o.op = true) (ev : Operand → Value) : FreeS (execOp ev o) := by
  obtain ⟨dst, op, ty, pos, af, g⟩ := o
  unfold pureOp at h
  simp only at h
  split at h
  · exact FreeS.pure _
  · exact FreeS.pure _
  · exact FreeS.bind (FreeS.asBool _) fun b => FreeS.pure _
  · exact FreeS.bind (FreeS.extract _ _) fun b => FreeS.pure _
  · exact FreeS.bind (FreeS.indexAt _ _ _) fun b => FreeS.pure _
  · exact FreeS.bind (FreeS.sliceAt _ _ _ _) fun b => FreeS.pure _
  · cases h
/-- What such an operation gives does not change with more memory. -/
def steadyOp : Op → Bool
  | .load .. | .fieldAddr .. => true
  | _ => false
theorem steadyOp_read {o : Oper} (h : steadyOp o.op = true) (ev : Operand → Value) : ReadS (execOp ev o) := by
  obtain ⟨dst, op, ty, pos, af, g⟩ := o
  unfold steadyOp at h
  simp only at h
  split at h
  · exact ReadS.bind (ReadS.loadAt _ _) fun b => ReadS.pure _
  · exact ReadS.bind (ReadS.fieldAt _ _ _) fun b => ReadS.pure _
  · cases h
/-- Such an operation but lays a new block. -/
def allocOp : Op → Bool
  | .alloc _ | .box .. | .buildSlice .. => true
  | _ => false
theorem allocOp_run {o : Oper} (h : allocOp o.op = true) {ev : Operand → Value} {P : Program} {w w1 : World} {n : Next} (hr : (execOp ev o).run P w = .ok n w1) : ∃ v b, n = .value v ∧ w1 = w.alloc b := by
  obtain ⟨dst, op, ty, pos, af, g⟩ := o
  have key : ∀ {s : Sem Value}, AllocS s → (do Pure.pure (Next.value (← s)) : Sem Next).run P w = .ok n w1 → ∃ v b, n = .value v ∧ w1 = w.alloc b := fun {s} hs hr => by
    rw [Sem.run_bind] at hr
    cases hq : s.run P w with
    | ok y w2 =>
      rw [hq] at hr
      obtain ⟨b, rfl⟩ := hs P w y w2 hq
      cases hr; exact ⟨y, b, rfl, rfl⟩
    | halt e w2 => rw [hq] at hr; cases hr
  unfold allocOp at h
  simp only at h
  split at h
  · exact key (AllocS.alloc _) hr
  · exact key (AllocS.box _ _) hr
  · exact key (AllocS.buildSlice _ _ _) hr
  · cases h
def quietOp : Op → Bool
  | .move _ | .pick .. | .load .. | .fieldAddr .. | .indexAddr .. | .extract .. | .binOp .. | .unOp .. => true
  | .assign _ | .build .. | .nilCheck _ | .slice _ _ _ _ none | .convert .. | .makeFunc .. => true
  | .call { callee := .builtin .len, .. } => true
  | _ => false
section
variable {P : Program} {ops : Array Oper} {md : Region.Mode} {w : World} {Q : Exit → Act → World → Prop}
def YV (P : Program) (ops : Array Oper) (w : World) (o : Oper) (v : Value) (a : Act) : Prop :=
  (Region.wanted o (yielded ops a.tmps) = true ∧ (execOp a.eval o).run P w = .ok (.value v) w) ∨ (Region.wanted o (yielded ops a.tmps) = false ∧ v = undef)
theorem YV.unique {o : Oper} {v v' : Value} {a : Act} (h : YV P ops w o v a) (h' : YV P ops w o v' a) : v = v' := by
  rcases h with ⟨h1, h2⟩ | ⟨h1, rfl⟩ <;> rcases h' with ⟨h3, h4⟩ | ⟨h3, rfl⟩
  · rw [h2] at h4; cases h4; rfl
  · rw [h1] at h3; cases h3
  · rw [h1] at h3; cases h3
  · rfl
theorem YV.same {o : Oper} {v : Value} {a a' : Act} (hy : YV P ops w o v a) (he : execOp a'.eval o = execOp a.eval o) (hw : Region.wanted o (yielded ops a'.tmps) = Region.wanted o (yielded ops a.tmps)) : YV P ops w o v a' := by
  unfold YV at *
  rw [he, hw]
  exact hy
theorem YV.yields {o : Oper} {v : Value} {a : Act} (hp : pureOp o.op = true) (h : YV P ops w o v a) : Yields P ops o v a := by
  rcases h with ⟨h1, h2⟩ | h
  · exact .inl ⟨h1, (pureOp_free hp _ P w _ _ h2).2⟩
  · exact .inr h
theorem YV.of_yields {o : Oper} {v : Value} {a : Act} (h : Yields P ops o v a) : YV P ops w o v a := by
  rcases h with ⟨h1, h2⟩ | h
  · exact .inl ⟨h1, h2 w⟩
  · exact .inr h
/-- A quiet operation is run: it gives a value, and the world stays. -/
def qOp (P : Program) (ops : Array Oper) (w : World) (i : Nat) (K : Act → Prop) (a : Act) : Prop := match ops[i]? with
  | none => False
  | some o => ∃ v, YV P ops w o v a ∧ K (a.put o.dst v)
theorem qOp_mono {i : Nat} {K K' : Act → Prop} {a : Act} (h : ∀ a, K a → K' a) (hh : qOp P ops w i K a) : qOp P ops w i K' a := by
  unfold qOp at *
  split
  · simp_all
  · rename_i o ho
    simp only [ho] at hh
    obtain ⟨v, h1, h2⟩ := hh
    exact ⟨v, h1, h _ h2⟩
theorem wpOp_of_q {i : Nat} {K : Act → World → Prop} {a : Act} (h : qOp P ops w i (fun a' => K a' w) a) : wpOp P ops Q i K a w := by
  unfold qOp at h
  unfold wpOp
  split at h
  · exact h.elim
  · rename_i o ho
    obtain ⟨v, ⟨h1, h2⟩ | ⟨h1, rfl⟩, h3⟩ := h
    · simp only [ho, h1, if_true, Oper.wp, h2, Oper.upon]; exact .inl h3
    · simp only [ho, h1, Bool.false_eq_true, if_false]; exact h3
theorem qOp_put {j : Nat} {oi oj : Oper} {v : Value} (hj : ops[j]? = some oj) (hap : oi.apart ops oj = true) (hsi : ∀ cs b, oi.op ≠ .select cs b) (hsj : ∀ cs b, oj.op ≠ .select cs b) {K : Act → Prop} {a : Act}
    (hy : YV P ops w oi v a) (h : qOp P ops w j K (a.put oi.dst v)) : qOp P ops w j (fun a' => YV P ops w oi v a' ∧ K (a'.put oi.dst v)) a := by
  obtain ⟨h1, h2, h3⟩ := Oper.apart_spec hap
  unfold qOp at *
  simp only [hj] at *
  obtain ⟨u, hu, hk⟩ := h
  exact ⟨u, hu.same (execOp_put oj hsj a oi.dst v h1).symm (wanted_put oj a oi.dst v h1).symm, hy.same (execOp_put oi hsi a oj.dst u h3) (wanted_put oi a oj.dst u h3), by rw [← Act.put_comm a v u h2]; exact hk⟩
def qt (ops : Array Oper) (i : Nat) : Bool := match ops[i]? with
  | some o => quietOp o.op
  | none => false
def wpOpS (P : Program) (ops : Array Oper) (Q : Exit → Act → World → Prop) (i : Nat) (K : Act → World → Prop) (a : Act) (w : World) : Prop :=
  if qt ops i = true then qOp P ops w i (fun a' => K a' w) a else wpOp P ops Q i K a w
theorem wpOpS_mono {i : Nat} {K K' : Act → World → Prop} {a : Act} (h : ∀ a w, K a w → K' a w) (hh : wpOpS P ops Q i K a w) : wpOpS P ops Q i K' a w := by
  unfold wpOpS at *
  split
  · rename_i e; rw [if_pos e] at hh; exact qOp_mono (fun a => h a w) hh
  · rename_i e; rw [if_neg e] at hh; exact wpOp_mono h hh
theorem wpOpS_op {i : Nat} {K : Act → World → Prop} {a : Act} (h : wpOpS P ops Q i K a w) : wpOp P ops Q i K a w := by
  unfold wpOpS at h
  split at h
  · exact wpOp_of_q h
  · exact h
def anyS (P : Program) (md : Region.Mode) (ops : Array Oper) (Q : Exit → Act → World → Prop) : Nat → Array Bool → Act → World → Prop
  | 0, listed, a, w => Region.ready md ops listed = [] ∧ Q .normal a w
  | f + 1, listed, a, w => (Region.ready md ops listed = [] → Q .normal a w) ∧ ∀ i ∈ Region.ready md ops listed, wpOpS P ops Q i (anyS P md ops Q f (listed.setIfInBounds i true)) a w
theorem anyS_any : ∀ (f : Nat) (listed : Array Bool) (a : Act) (w : World), anyS P md ops Q f listed a w → wpAny P md ops Q f listed a w
  | 0, _, _, _, h => h
  | f + 1, _, _, _, h => ⟨h.1, fun i hi => wpOp_mono (fun a w => anyS_any f _ a w) (wpOpS_op (h.2 i hi))⟩
/-- Whatever is listed, all that it waits for is. -/
structure Cl (md : Region.Mode) (ops : Array Oper) (listed : Array Bool) : Prop where
  size : listed.size = ops.size
  closed : ∀ j oj, ops[j]? = some oj → listed.getD j false = true → ∀ e ∈ oj.after, Region.binds md e = true → listed.getD e.on false = true
theorem get_false {listed : Array Bool} {i : Nat} (h : listed.getD i true = false) : listed.getD i false = false := by
  rcases Nat.lt_or_ge i listed.size with h' | h'
  · simp [h'] at h ⊢; exact h
  · simp [Array.getElem?_eq_none h'] at h
theorem Cl.set {i : Nat} {listed : Array Bool} (inv : Cl md ops listed) (hi : i ∈ Region.ready md ops listed) : Cl md ops (listed.setIfInBounds i true) := by
  obtain ⟨_, oi, hoi, hall⟩ := mem_ready.1 hi
  refine ⟨by simp [inv.size], fun j oj hj hl e he hb => ?_⟩
  by_cases hij : i = j
  · subst hij
    have : oj = oi := Option.some.inj (hj.symm.trans hoi)
    subst this
    exact getD_set_true (hall e he hb)
  · rw [getD_set_ne false hij] at hl
    exact getD_set_true (inv.closed j oj hj hl e he hb)
/-- These wait for i, some of them through others. -/
def depL (md : Region.Mode) (ops : Array Oper) (i : Nat) : Array Bool := ops.foldl (fun d o => d.push (d.size == i || o.after.any fun e => Region.binds md e && d.getD e.on false)) #[]
def depOk (md : Region.Mode) (ops : Array Oper) (i : Nat) (d : Array Bool) : Bool := (List.range ops.size).all fun j => !(d.getD j false) || j == i || match ops[j]? with
  | some o => o.after.any fun e => Region.binds md e && (decide (e.on < j) && d.getD e.on false)
  | none => false
theorem dep_not {i : Nat} {d listed : Array Bool} (hd : depOk md ops i d = true) (inv : Cl md ops listed) (hi : listed.getD i true = false) : ∀ j, j < ops.size → d.getD j false = true → listed.getD j false = false := by
  intro j
  induction j using Nat.strongRecOn with
  | _ j ih =>
    intro hj hdj
    have h1 := List.all_eq_true.1 hd j (List.mem_range.2 hj)
    rw [hdj] at h1
    simp only [Bool.not_true, Bool.false_or, Bool.or_eq_true, beq_iff_eq] at h1
    rcases h1 with rfl | h1
    · exact get_false hi
    · have ho : ops[j]? = some ops[j] := Array.getElem?_eq_getElem hj
      rw [ho] at h1
      obtain ⟨e, he, hb⟩ := Array.any_eq_true'.1 h1
      simp only [Bool.and_eq_true, decide_eq_true_eq] at hb
      have h2 := ih e.on hb.2.1 (by omega) hb.2.2
      cases hl : listed.getD j false with
      | false => rfl
      | true =>
        have := inv.closed j _ ho hl e he hb.1
        rw [h2] at this; cases this
/-- While i is to run, only quiet operations may run. -/
def calm (md : Region.Mode) (ops : Array Oper) (listed : Array Bool) (i : Nat) : Bool :=
  depOk md ops i (depL md ops i) && (List.range ops.size).all fun j => j == i || listed.getD j true || (depL md ops i).getD j false || qt ops j
def al (ops : Array Oper) (i : Nat) : Bool := match ops[i]? with
  | some o => allocOp o.op
  | none => false
def steady (md : Region.Mode) (ops : Array Oper) (listed : Array Bool) (i : Nat) : Bool :=
  (match ops[i]? with | some o => steadyOp o.op | none => false) && (depOk md ops i (depL md ops i) && (List.range ops.size).all fun j => j == i || listed.getD j true || (depL md ops i).getD j false || (qt ops j || al ops j))
theorem alloc_put {j : Nat} {oi oj : Oper} {v : Value} (hj : ops[j]? = some oj) (hal : allocOp oj.op = true) (hst : steadyOp oi.op = true) (hap : oi.apart ops oj = true)
    (hsi : ∀ cs b, oi.op ≠ .select cs b) (hsj : ∀ cs b, oj.op ≠ .select cs b) (hQ : ∀ c a w, Q (.panic c) (a.put oi.dst v) w → Q (.panic c) a w) {K : Act → World → Prop} {a : Act}
    (hy : YV P ops w oi v a) (h : wpOp P ops Q j K (a.put oi.dst v) w) : wpOp P ops Q j (fun a' w' => YV P ops w' oi v a' ∧ K (a'.put oi.dst v) w') a w := by
  obtain ⟨h1, h2, h3⟩ := Oper.apart_spec hap
  have keep : ∀ u b, YV P ops (w.alloc b) oi v (a.put oj.dst u) := fun u b => by
    have h0 : YV P ops w oi v (a.put oj.dst u) := hy.same (execOp_put oi hsi a oj.dst u h3) (wanted_put oi a oj.dst u h3)
    rcases h0 with ⟨h4, h5⟩ | h0
    · exact .inl ⟨h4, (steadyOp_read hst _ P w _ _ h5).2 b⟩
    · exact .inr h0
  unfold wpOp at *
  simp only [hj] at *
  rw [wanted_put oj a oi.dst v h1] at h
  split
  · rename_i hw
    simp only [hw, if_true] at h
    rcases h with h | ⟨hasks, hlets⟩
    case inr => exact .inr ⟨by unfold Oper.asks at *; rw [execOp_put oj hsj a oi.dst v h1] at hasks; exact hasks, hlets⟩
    refine .inl ?_
    unfold Oper.wp at *
    rw [execOp_put oj hsj a oi.dst v h1] at h
    cases hr : (execOp a.eval oj).run P w with
    | ok n w' =>
      rw [hr] at h
      obtain ⟨u, b, rfl, rfl⟩ := allocOp_run hal hr
      simp only [Oper.upon] at h ⊢
      exact ⟨keep u b, by rw [← Act.put_comm a v u h2]; exact h⟩
    | halt x w' =>
      rw [hr] at h
      cases x <;> simp only [Oper.upon] at h ⊢
      case panic u => exact hQ _ _ _ h
  · rename_i hw
    simp only [hw] at h
    exact ⟨hy.same (execOp_put oi hsi a oj.dst undef h3) (wanted_put oi a oj.dst undef h3), by rw [← Act.put_comm a v undef h2]; exact h⟩
theorem anyS_first {i : Nat} {oi : Oper} {v : Value} (hi : ops[i]? = some oi) (hsel : ∀ (j : Nat) (o : Oper) cs b, ops[j]? = some o → o.op ≠ .select cs b) (hQ : ∀ c a w, Q (.panic c) (a.put oi.dst v) w → Q (.panic c) a w) {d : Array Bool} (hd : pureOp oi.op = true ∨ depOk md ops i d = true) :
    ∀ (f : Nat) (listed : Array Bool) (a : Act) (w : World), Cl md ops listed →
      (∀ j oj, ops[j]? = some oj → j ≠ i → listed.getD j true = false → (∀ e ∈ oj.after, Region.binds md e = true → e.on ≠ i) → oi.apart ops oj = true) →
      (pureOp oi.op = true ∨ ∀ j, j < ops.size → j ≠ i → listed.getD j true = false → d.getD j false = true ∨ qt ops j = true ∨ (al ops j = true ∧ steadyOp oi.op = true)) →
      i ∈ Region.ready md ops listed → YV P ops w oi v a → qt ops i = true →
      anyS P md ops Q f (listed.setIfInBounds i true) (a.put oi.dst v) w → anyS P md ops Q (f + 1) listed a w := by
  have self : ∀ {K : Act → World → Prop} {a : Act} {w : World}, YV P ops w oi v a → qt ops i = true → K (a.put oi.dst v) w → wpOpS P ops Q i K a w := fun hy hq hk => by
    unfold wpOpS qOp
    rw [if_pos hq]
    simp only [hi]
    exact ⟨v, hy, hk⟩
  intro f
  induction f with
  | zero =>
    intro listed a w inv _ _ hr hy hq H
    refine ⟨fun h => (by rw [h] at hr; cases hr), fun j hj => ?_⟩
    by_cases hji : j = i
    · subst hji; exact self hy hq H
    · have := ready_mono hj hji
      rw [H.1] at this; cases this
  | succ f ih =>
    intro listed a w inv hfree hcalm hr hy hq H
    have hun := (mem_ready.1 hr).1
    refine ⟨fun h => (by rw [h] at hr; cases hr), fun j hj => ?_⟩
    by_cases hji : j = i
    · subst hji; exact self hy hq H
    · have h1 := H.2 j (ready_mono hj hji)
      obtain ⟨hjun, oj, hoj, hall⟩ := mem_ready.1 hj
      have hjs : j < ops.size := (Array.getElem?_eq_some_iff.1 hoj).1
      have hnot : ∀ e ∈ oj.after, Region.binds md e = true → e.on ≠ i := fun e he hb heq => by
        have h1 := hall e he hb
        rw [heq, get_false hun] at h1
        cases h1
      have hap := hfree j oj hoj hji hjun hnot
      have hfree' : ∀ k ok, ops[k]? = some ok → k ≠ i → (listed.setIfInBounds j true).getD k true = false →
          (∀ e ∈ ok.after, Region.binds md e = true → e.on ≠ i) → oi.apart ops ok = true := fun k ok hk hki hun hno => by
        refine hfree k ok hk hki ?_ hno
        by_cases hjk : j = k
        · subst hjk; exact hjun
        · rw [getD_set_ne true hjk] at hun; exact hun
      have hcalm' : pureOp oi.op = true ∨ ∀ k, k < ops.size → k ≠ i → (listed.setIfInBounds j true).getD k true = false → d.getD k false = true ∨ qt ops k = true ∨ (al ops k = true ∧ steadyOp oi.op = true) := hcalm.imp id fun hc k hk hki hun => by
        refine hc k hk hki ?_
        by_cases hjk : j = k
        · subst hjk; exact hjun
        · rw [getD_set_ne true hjk] at hun; exact hun
      have next : ∀ a' w', YV P ops w' oi v a' ∧ anyS P md ops Q f ((listed.setIfInBounds i true).setIfInBounds j true) (a'.put oi.dst v) w' → anyS P md ops Q (f + 1) (listed.setIfInBounds j true) a' w' := fun a' w' h3 => by
        refine ih (listed.setIfInBounds j true) a' w' (inv.set hj) hfree' hcalm' (ready_mono hr (Ne.symm hji)) h3.1 hq ?_
        rw [Array.setIfInBounds_comm _ _ hji]
        exact h3.2
      unfold wpOpS at h1 ⊢
      split
      · rename_i hqj
        rw [if_pos hqj] at h1
        exact qOp_mono (fun a' => next a' w) (qOp_put hoj hap (fun cs b => hsel i oi cs b hi) (fun cs b => hsel j oj cs b hoj) hy h1)
      · rename_i hqj
        rw [if_neg hqj] at h1
        by_cases hp : pureOp oi.op = true
        · exact wpOp_mono (fun a' w' h => next a' w' ⟨YV.of_yields h.1, h.2⟩) (wpOp_put hoj hap (fun cs b => hsel i oi cs b hi) (fun cs b => hsel j oj cs b hoj) hQ (hy.yields hp) h1)
        · rcases (hcalm.resolve_left hp) j hjs hji hjun with h2 | h2 | ⟨h2, h2'⟩
          · -- j waits for i, and is ready
            exfalso
            have hds := hd.resolve_left hp
            have h3 := List.all_eq_true.1 hds j (List.mem_range.2 hjs)
            rw [h2] at h3
            simp only [Bool.not_true, Bool.false_or, Bool.or_eq_true, beq_iff_eq, hji, false_or, hoj] at h3
            obtain ⟨e, he, hb⟩ := Array.any_eq_true'.1 h3
            simp only [Bool.and_eq_true, decide_eq_true_eq] at hb
            have h4 := hall e he hb.1
            have h5 := dep_not hds inv hun e.on (by omega) hb.2.2
            rw [h5] at h4; cases h4
          · exact absurd h2 hqj
          · have hal : allocOp oj.op = true := by unfold al at h2; rw [hoj] at h2; exact h2
            exact wpOp_mono next (alloc_put hoj hal h2' hap (fun cs b => hsel i oi cs b hi) (fun cs b => hsel j oj cs b hoj) hQ hy h1)
def brs : Tr → List (Nat × Tr)
  | .nil => []
  | .one k t => [(k, t)]
  | .alt s t => brs s ++ brs t
def chainT : Nat → Nat → Tr
  | 0, _ => .nil
  | f + 1, k => .one k (chainT f (k + 1))
def wpT (P : Program) (ops : Array Oper) (Q : Exit → Act → World → Prop) : Tr → Act → World → Prop
  | .nil, a, w => Q .normal a w
  | .one k t, a, w => wpOpS P ops Q k (wpT P ops Q t) a w
  | .alt s t, a, w => wpT P ops Q s a w ∧ wpT P ops Q t a w
theorem wpT_brs : ∀ {t : Tr} {a : Act} {w : World}, wpT P ops Q t a w → ∀ q ∈ brs t, wpOpS P ops Q q.1 (wpT P ops Q q.2) a w
  | .nil, _, _, _, q, hq => by cases hq
  | .one k t, _, _, h, q, hq => by
    rw [brs, List.mem_singleton] at hq; subst hq; exact h
  | .alt s t, _, _, h, q, hq => by
    rcases List.mem_append.1 hq with hq | hq
    · exact wpT_brs h.1 q hq
    · exact wpT_brs h.2 q hq
def takes (md : Region.Mode) (ops : Array Oper) (listed : Array Bool) (k : Nat) : Bool :=
  (Region.ready md ops listed).contains k && (qt ops k && (Region.free md ops listed k && ((match ops[k]? with | some o => pureOp o.op | none => false) || (calm md ops listed k || steady md ops listed k))))
def branch (f : Tr → Bool) (i : Nat) : List (Nat × Tr) → Bool
  | [] => false
  | (k, t) :: l => if k = i then f t else branch f i l
theorem branch_spec {f : Tr → Bool} {i : Nat} : ∀ {l : List (Nat × Tr)}, branch f i l = true → ∃ t, (i, t) ∈ l ∧ f t = true
  | (k, t) :: l, h => by
    rw [branch] at h
    split at h
    · rename_i e; subst e; exact ⟨t, List.mem_cons_self, h⟩
    · obtain ⟨t', h1, h2⟩ := branch_spec h; exact ⟨t', List.mem_cons_of_mem _ h1, h2⟩
def forks (md : Region.Mode) (ops : Array Oper) (cov : Tr → Array Bool → Bool) (T : Tr) (listed : Array Bool) : Bool :=
  !(Region.ready md ops listed).isEmpty && (Region.ready md ops listed).all fun i => branch (fun t => cov t (listed.setIfInBounds i true)) i (brs T)
def cover (md : Region.Mode) (ops : Array Oper) : Nat → Tr → Array Bool → Bool
  | 0, .nil, listed => (Region.ready md ops listed).isEmpty
  | 0, _, _ => false
  | f + 1, .one k t, listed => if takes md ops listed k = true then cover md ops f t (listed.setIfInBounds k true) else forks md ops (cover md ops f) (.one k t) listed
  | f + 1, T, listed => forks md ops (cover md ops f) T listed
theorem forks_any {f : Nat} {T : Tr} {listed : Array Bool} {a : Act} {w : World} (ih : ∀ (T : Tr) (listed : Array Bool) (a : Act) (w : World), Cl md ops listed → cover md ops f T listed = true → wpT P ops Q T a w → anyS P md ops Q f listed a w)
    (inv : Cl md ops listed) (hc : forks md ops (cover md ops f) T listed = true) (h : wpT P ops Q T a w) : anyS P md ops Q (f + 1) listed a w := by
  simp only [forks, Bool.and_eq_true, Bool.not_eq_true'] at hc
  refine ⟨fun e => (by rw [e] at hc; exact absurd hc.1 (by simp)), fun i hi => ?_⟩
  obtain ⟨t, h1, h2⟩ := branch_spec (List.all_eq_true.1 hc.2 i hi)
  exact wpOpS_mono (fun a w hT => ih t _ a w (inv.set hi) h2 hT) (wpT_brs h _ h1)
theorem cover_any (hsel : Region.noSelect ops = true) (hQ : ∀ (i : Nat) (o : Oper) (v : Value) c a w, ops[i]? = some o → Q (.panic c) (a.put o.dst v) w → Q (.panic c) a w) : ∀ (f : Nat) (T : Tr) (listed : Array Bool) (a : Act) (w : World), Cl md ops listed → cover md ops f T listed = true → wpT P ops Q T a w → anyS P md ops Q f listed a w
  | 0, .nil, listed, a, w, inv, hc, h => ⟨by simpa [cover] using hc, h⟩
  | 0, .one k t, listed, a, w, inv, hc, h => by simp [cover] at hc
  | 0, .alt s t, listed, a, w, inv, hc, h => by simp [cover] at hc
  | f + 1, .nil, listed, a, w, inv, hc, h => forks_any (cover_any hsel hQ f) inv (by simpa only [cover] using hc) h
  | f + 1, .alt s t, listed, a, w, inv, hc, h => forks_any (cover_any hsel hQ f) inv (by simpa only [cover] using hc) h
  | f + 1, .one k t, listed, a, w, inv, hc, h => by
    rw [cover] at hc
    split at hc
    · rename_i ht
      simp only [takes, Bool.and_eq_true, Bool.or_eq_true] at ht
      obtain ⟨hr, hq, hf, hp⟩ := ht
      have hr' : k ∈ Region.ready md ops listed := by simpa using hr
      obtain ⟨_, ok, hok, _⟩ := mem_ready.1 hr'
      have hw : wpOpS P ops Q k (wpT P ops Q t) a w := h
      unfold wpOpS qOp at hw
      rw [if_pos hq] at hw
      simp only [hok] at hw
      obtain ⟨v, hy, hk⟩ := hw
      have hp' : pureOp ok.op = true ∨ (calm md ops listed k = true ∨ steady md ops listed k = true) := by
        rcases hp with hp | hp
        · rw [hok] at hp; exact .inl hp
        · exact .inr hp
      refine anyS_first (P := P) (d := depL md ops k) hok (Region.noSelect_spec hsel) (fun c a w => hQ k ok v c a w hok) (hp'.imp id fun hc => ?_) f listed a w inv (Region.free_spec hok hf) (hp'.imp id fun hc j hj hji hun => ?_) hr' hy hq (cover_any hsel hQ f t _ _ w (inv.set hr') hc hk)
      · rcases hc with hc | hc
        · simp only [calm, Bool.and_eq_true] at hc; exact hc.1
        · simp only [steady, Bool.and_eq_true] at hc; exact hc.2.1
      · rcases hc with hc | hc
        · simp only [calm, Bool.and_eq_true] at hc
          have h1 := List.all_eq_true.1 hc.2 j (List.mem_range.2 hj)
          simp only [Bool.or_eq_true, beq_iff_eq, hji, false_or, hun, Bool.false_eq_true] at h1
          exact h1.imp id fun h => .inl h
        · simp only [steady, Bool.and_eq_true] at hc
          have h1 := List.all_eq_true.1 hc.2.2 j (List.mem_range.2 hj)
          simp only [Bool.or_eq_true, beq_iff_eq, hji, false_or, hun, Bool.false_eq_true] at h1
          rw [hok] at hc
          exact h1.imp id fun h => h.imp id fun h => ⟨h, hc.1⟩
    · exact forks_any (cover_any hsel hQ f) inv hc h
theorem Cl.start : Cl md ops (Array.replicate ops.size false) := ⟨by simp, fun j oj hj hl => by
  have h2 : j < ops.size := (Array.getElem?_eq_some_iff.1 hj).1
  simp [h2] at hl⟩
end
end Go.V
set_option linter.unusedVariables false
set_option linter.unusedSimpArgs false
namespace Go.V
open Go
def okOps (N : Nat) : List Oper → Bool
  | [] => true
  | o :: l => (match o.dst with | some t => decide (t < N) | none => true) && okOps N l
def drawOk (ops : Array Oper) (t : Option (Tr × List Nat)) : Bool := Region.noSelect ops && cover .any ops ops.size ((t.map (·.1)).getD (chainT ops.size 0)) (Array.replicate ops.size false)
def callOp : Op → Bool
  | .call { callee := .value _, .. } => true
  | _ => false
def noCalls (ops : Array Oper) : Bool := ops.toList.all fun o => !callOp o.op
def okCode (N : Nat) (kd : Nat → Bool) (tr : Nat → Option (Tr × List Nat)) : Code → Bool
  | .region id ops draw => okOps N ops.toList && (!draw || ((noCalls ops || ops.toList.all (fun o => match o.dst with | some d => kd d | none => true)) && drawOk ops (tr id)))
  | .seq a b => okCode N kd tr a && okCode N kd tr b
  | .cond _ a b => okCode N kd tr a && okCode N kd tr b
  | .block _ a => okCode N kd tr a
  | .loop a => okCode N kd tr a
  | .scope a => okCode N kd tr a
  | _ => true
section
variable {c : Cx} {P : Program} {M M' M2 : Nat → Prop} {w0 w w' : World} {S : Nat → Prop} {N : Nat} {tm : Tm} {m m' m2 : Mem} {ρ ρ' ρ2 : Nat → Value} {a : Act}
variable {lent : FuncId → Bool} {kp : Value → Tm → Mem → Prop} {d : Option Tmp} {ty : TypeId} {pos : String} {af : Array Edge} {g : Option (Nat × Bool)} {k : Tm → Mem → Prop} {Q : Exit → Act → World → Prop}
theorem step_sound (hP : ∀ v a w, Then c (kp v) a w → Q (.panic [{ v := v, recovered := false }]) a w) (h : Inv c tm m ρ a w) (hd : ∀ t, d = some t → t < c.N) {op : Op} (hs : step c.P c.np lent kp tm m d ty k op) : Oper.wp c.P ⟨d, op, ty, pos, af, g⟩ a w (Then c k) Q := by
  have hs0 := hs
  unfold step at hs
  split at hs
  · exact (s_move h hd hs0).wp
  · exact (s_assign h hd hs0).wp
  · exact (s_assign h hd hs0).wp
  · exact (s_pick h hd hs0).wp
  · exact s_box h hd hs0
  · exact s_alloc h hd hs0
  · exact (s_nilCheck h hd hs0).wp
  · exact (s_load h hd hs0).wp
  · exact s_store h hd hs0
  · exact (s_fieldAddr h hd hs0).wp
  · exact (s_indexAddr h hd hs0).wp
  · exact (s_extract h hd hs0).wp
  · exact (s_binOp h hd hs0).wp
  · exact (s_binOp h hd hs0).wp
  · exact (s_unOp h hd hs0).wp
  · exact (s_convert h hd hs0).wp
  · exact (s_makeFunc h hd hs0).wp
  · exact s_makeSlice h hd hs0
  · exact (s_slice h hd hs0).wp
  · exact (s_slice3 h hd hs0).wp
  · exact s_clear h hd hs0
  · exact (s_build h hd hs0).wp
  · exact s_buildSlice h hd hs0
  · exact (s_len h hd hs0).wp
  · exact (s_min h hd hs0).wp
  · exact (s_cap h hd hs0).wp
  · exact s_append h hd hs0
  · obtain ⟨g, caps, he, hs⟩ := onFn_e hs
    unfold ifB at hs
    split at hs
    · exact s_callM h hd he hs
    · exact s_callV hP h hd he hs
  · cases hs
theorem quiet_sound (h : Inv c tm m ρ a w) (hd : ∀ t, d = some t → t < c.N) {op : Op} (hq : quietOp op = true) (hs : step c.P c.np lent kp tm m d ty k op) : Quiet c.P ⟨d, op, ty, pos, af, g⟩ a w (Then c k) := by
  unfold quietOp at hq
  split at hq
  · exact s_move h hd hs
  · exact s_pick h hd hs
  · exact s_load h hd hs
  · exact s_fieldAddr h hd hs
  · exact s_indexAddr h hd hs
  · exact s_extract h hd hs
  · exact s_binOp h hd hs
  · exact s_unOp h hd hs
  · exact s_assign h hd hs
  · exact s_build h hd hs
  · exact s_nilCheck h hd hs
  · exact s_slice h hd hs
  · exact s_convert h hd hs
  · exact s_makeFunc h hd hs
  · exact s_len h hd hs
  · cases hq
theorem getD_get {t : Nat} {v : Value} (h : a.tmps.getD t undef = v) (hv : v ≠ undef) : a.tmps[t]? = some v := by
  rw [Array.getD_eq_getD_getElem?] at h
  cases hx : a.tmps[t]? with
  | none => rw [hx] at h; exact absurd h.symm hv
  | some y => rw [hx] at h; rw [← h]; rfl
theorem dstAt_eq : ∀ (l : List Oper) (j : Nat), dstAt l j = (l[j]?).bind (·.dst)
  | [], j => by simp [dstAt]
  | o :: l, 0 => by simp [dstAt]
  | o :: l, j + 1 => by simp [dstAt, dstAt_eq l j]
theorem told_sound (h : Inv c tm m ρ a w) {ops : Array Oper} {o : Oper} {j : Nat} {want b : Bool} (hg : o.guard = some (j, want)) (ht : told ops tm j want = some b) : Region.wanted o (yielded ops a.tmps) = b := by
  unfold told at ht
  rw [dstAt_eq, Array.getElem?_toList] at ht
  unfold toldAt at ht
  split at ht
  · rename_i t hd
    have hv := h.tm t
    unfold boolOf at ht
    split at ht
    · rename_i b' hg'
      cases ht
      rw [hg'] at hv
      have := getD_get hv.val_eq (by simp [undef])
      simp [Region.wanted, hg, yielded, hd, this]
    · rename_i l hg'
      cases ht
      rw [hg'] at hv
      have := hv.val_eq
      rw [Array.getD_eq_getD_getElem?] at this
      cases hx : a.tmps[t]? with
      | none => simp [Region.wanted, hg, yielded, hd, hx]
      | some y => rw [hx] at this; simp at this; subst this; simp [Region.wanted, hg, yielded, hd, hx]
    · cases ht
  · cases ht
theorem execOps_sound {ops : Array Oper} {k : Tm → Mem → Prop} (hP : ∀ v a w, Then c (kp v) a w → Q (.panic [{ v := v, recovered := false }]) a w) (hQ : ∀ a w, Then c k a w → Q .normal a w) : ∀ (l : List Oper) (tm : Tm) (m : Mem) (ρ : Nat → Value) (a : Act) (w : World), okOps c.N l = true → execOps c.P c.np lent kp ops k l tm m → Inv c tm m ρ a w → wpList c.P ops Q l a w
  | [], tm, m, ρ, a, w, _, hs, h => hQ a w ⟨tm, m, ρ, hs, h⟩
  | o :: l, tm, m, ρ, a, w, hN, hs, h => by
    rw [okOps, Bool.and_eq_true] at hN
    have hd : ∀ t, o.dst = some t → t < c.N := by
      intro t ht
      have := hN.1
      rw [ht] at this
      exact of_decide_eq_true this
    have next : ∀ a w, Then c (execOps c.P c.np lent kp ops k l) a w → wpList c.P ops Q l a w := fun a w ⟨tm, m, ρ, hs, h⟩ => execOps_sound hP hQ l tm m ρ a w hN.2 hs h
    have run : step c.P c.np lent kp tm m o.dst o.type (execOps c.P c.np lent kp ops k l) o.op → o.wp c.P a w (wpList c.P ops Q l) Q := fun hst => by
      have := step_sound (Q := Q) hP (pos := o.pos) (af := o.after) (g := o.guard) h hd hst
      exact Oper.wp_mono next this
    rw [execOps] at hs
    simp only [ifB] at hs
    unfold wpList
    split at hs
    · rename_i hg
      rw [if_pos (by simp [Region.wanted, hg])]
      exact .inl (run hs)
    · rename_i j want hg
      obtain ⟨b, hb, hs⟩ := onS_e hs
      · have hy := told_sound h hg hb
        split at hs
        · rename_i e
          rw [if_pos (by rw [hy]; exact e)]
          exact .inl (run hs)
        · rename_i e
          rw [if_neg (by rw [hy]; exact e)]
          exact execOps_sound hP hQ l _ m ρ _ w hN.2 hs (h.put hd (.im (.val okB_undef)))
theorem Inv.drew (h : Inv c tm m ρ a w) : Inv c tm m ρ a { w with drawn := w.drawn + 1 } := by
  have hmv : Mv (Own m ρ) w { w with drawn := w.drawn + 1 } := ⟨Nat.le_refl _, fun _ _ _ => rfl⟩
  have hr : ∀ b e es, m[b]? = some (.row e es) → ρ b = ρ b ∧ ∃ e' es', m[b]? = some (.row e' es') ∧ es'.length = es.length ∧ ∀ sz, (∀ x ∈ es, x.length = sz) → ∀ x ∈ es', x.length = sz := fun b e es hb => ⟨rfl, e, es, hb, rfl, fun _ h => h⟩
  have hv : ∀ b cs, m[b]? = some (.var cs) → ρ b = ρ b ∧ ∃ cs', m[b]? = some (.var cs') := fun b cs hb => ⟨rfl, cs, hb⟩
  exact ⟨h.sz, h.df, fun t => (h.tm t).move hmv (fun _ _ h => h) (fun _ _ h => h) hr hv, fun b x hx => (h.blk b x hx).move (fun k _ hk => rfl) hmv (fun _ _ h => h) (fun _ _ h => h) hr hv, h.sep, h.new,
    h.fr.step rfl rfl rfl (Nat.le_refl _) (fun _ _ _ => rfl), h.old, h.dis, h.ft⟩
def kdOps (kd : Nat → Bool) (ops : Array Oper) : Bool := ops.toList.all fun o => match o.dst with | some d => kd d | none => true
theorem kdOps_get {kd : Nat → Bool} {ops : Array Oper} {i d : Nat} {o : Oper} (h : kdOps kd ops = true) (ho : ops[i]? = some o) (hd : o.dst = some d) : kd d = true := by
  have := List.all_eq_true.1 h o (by rw [Array.mem_toList_iff]; exact Array.mem_of_getElem? ho)
  rw [hd] at this; exact this
theorem stepO_sound (hP : ∀ v a w, Then c (kp v) a w → Q (.panic [{ v := v, recovered := false }]) a w) {ops : Array Oper} {K : Tm → Mem → Prop} {K' : Act → World → Prop} {n : Nat} {o : Oper} (ho : ops[n]? = some o) (hN : okOps c.N [o] = true)
    (next : ∀ a w, Then c K a w → K' a w) (hs : stepO c.P c.np lent kp ops K o tm m) (h : Inv c tm m ρ a w) : wpOpS c.P ops Q n K' a w := by
  rw [okOps, Bool.and_eq_true] at hN
  have hd : ∀ t, o.dst = some t → t < c.N := by
    intro t ht
    have := hN.1
    rw [ht] at this
    exact of_decide_eq_true this
  unfold wpOpS qOp wpOp
  simp only [ho]
  unfold stepO at hs
  simp only [ifB] at hs
  have qtq : qt ops n = quietOp o.op := by unfold qt; rw [ho]
  rw [qtq]
  have run : Region.wanted o (yielded ops a.tmps) = true → step c.P c.np lent kp tm m o.dst o.type K o.op → if quietOp o.op = true then ∃ v, YV c.P ops w o v a ∧ K' (a.put o.dst v) w else if Region.wanted o (yielded ops a.tmps) = true then o.wp c.P a w K' Q ∨ o.asks c.P a w ∧ LetsOut Q else K' (a.put o.dst undef) w := fun hw hst => by
    split
    · rename_i hq
      obtain ⟨v, h1, h2⟩ := quiet_sound (pos := o.pos) (af := o.after) (g := o.guard) h hd hq hst
      exact ⟨v, .inl ⟨hw, h1⟩, next _ _ h2⟩
    · try rw [if_pos hw]
      have := step_sound (Q := Q) hP (pos := o.pos) (af := o.after) (g := o.guard) h hd hst
      exact .inl (Oper.wp_mono next this)
  split at hs
  · rename_i hg
    exact run (by simp [Region.wanted, hg]) hs
  · rename_i j want hg
    obtain ⟨b, hb, hs⟩ := onS_e hs
    have hy := told_sound h hg hb
    split at hs
    · rename_i e
      exact run (by rw [hy]; exact e) hs
    · rename_i e
      have hw : Region.wanted o (yielded ops a.tmps) = false := by rw [hy]; simpa using e
      have hn := next _ _ ⟨_, m, ρ, hs, h.put hd (.im (.val okB_undef))⟩
      split
      · exact ⟨undef, .inr ⟨hw, rfl⟩, hn⟩
      · rw [if_neg (by rw [hw]; exact Bool.false_ne_true)]; exact hn
theorem okOps_get {N : Nat} {o : Oper} : ∀ (l : List Oper) (i : Nat), okOps N l = true → l[i]? = some o → okOps N [o] = true := by
  intro l
  induction l with
  | nil => intro i h ho; rw [List.getElem?_nil] at ho; cases ho
  | cons p l ih =>
    intro i h ho
    rw [okOps, Bool.and_eq_true] at h
    cases i with
    | zero =>
      rw [List.getElem?_cons_zero] at ho; cases ho
      rw [okOps, Bool.and_eq_true]; exact ⟨h.1, rfl⟩
    | succ i => rw [List.getElem?_cons_succ] at ho; exact ih i h.2 ho
theorem execT_sound {ops : Array Oper} {k : Tm → Mem → Prop} (hP : ∀ v a w, Then c (kp v) a w → Q (.panic [{ v := v, recovered := false }]) a w) (hQ : ∀ a w, Then c k a w → Q .normal a w) (hN : okOps c.N ops.toList = true) : ∀ (T : Tr) (tm : Tm) (m : Mem) (ρ : Nat → Value) (a : Act) (w : World), execT c.P c.np lent kp ops ops.toList k T tm m → Inv c tm m ρ a w → wpT c.P ops Q T a w
  | .nil, tm, m, ρ, a, w, hs, h => hQ a w ⟨tm, m, ρ, hs, h⟩
  | .alt s t, tm, m, ρ, a, w, hs, h => ⟨execT_sound hP hQ hN s tm m ρ a w hs.1 h, execT_sound hP hQ hN t tm m ρ a w hs.2 h⟩
  | .one i t, tm, m, ρ, a, w, hs, h => by
    rw [execT] at hs
    obtain ⟨o, ho, hs⟩ := onS_e hs
    exact stepO_sound hP (by rw [← Array.getElem?_toList]; exact ho) (okOps_get _ _ hN ho) (fun a w ⟨tm, m, ρ, h1, h2⟩ => execT_sound hP hQ hN t tm m ρ a w h1 h2) hs h
theorem chain_sound {ops : Array Oper} {k : Tm → Mem → Prop} (hP : ∀ v a w, Then c (kp v) a w → Q (.panic [{ v := v, recovered := false }]) a w) (hQ : ∀ a w, Then c k a w → Q .normal a w) (hN : okOps c.N ops.toList = true) : ∀ (f i : Nat) (l : List Oper) (tm : Tm) (m : Mem) (ρ : Nat → Value) (a : Act) (w : World), ops.toList.drop i = l → l.length = f → execOps c.P c.np lent kp ops k l tm m → Inv c tm m ρ a w → wpT c.P ops Q (chainT f i) a w
  | 0, i, [], tm, m, ρ, a, w, _, _, hs, h => hQ a w ⟨tm, m, ρ, hs, h⟩
  | f + 1, i, o :: l, tm, m, ρ, a, w, hl, hf, hs, h => by
    have ho : ops.toList[i]? = some o := by
      have := congrArg (fun l => l[0]?) hl
      simpa [List.getElem?_drop] using this
    have hs' : stepO c.P c.np lent kp ops (execOps c.P c.np lent kp ops k l) o tm m := hs
    exact stepO_sound hP (by rw [← Array.getElem?_toList]; exact ho) (okOps_get _ _ hN ho) (fun a w ⟨tm, m, ρ, h1, h2⟩ => chain_sound hP hQ hN f (i + 1) l tm m ρ a w (by rw [← List.drop_drop, hl]; rfl) (by simpa using hf) h1 h2) hs' h
  | 0, i, o :: l, tm, m, ρ, a, w, _, hf, _, _ => by simp at hf
  | f + 1, i, [], tm, m, ρ, a, w, _, hf, _, _ => by simp at hf
theorem draw_sound (hm : c.P.follows .mixedOrders = true) (hQn : ∀ (d : Nat) (v : Value) ch a w, c.kd d = true → Q (.panic ch) (a.put (some d) v) w → Q (.panic ch) a w) (hP : ∀ v a w, Then c (kp v) a w → Q (.panic [{ v := v, recovered := false }]) a w) {id : Nat} {ops : Array Oper} {k : Tm → Mem → Prop} (hQ : ∀ a w, Then c k a w → Q .normal a w) (hN : okOps c.N ops.toList = true) {t : Option (Tr × List Nat)} (hkd : kdOps c.kd ops = true) (hdr : drawOk ops t = true) (hs : execR c.P c.np lent kp c.n ops k ops.toList tm m t) (h : Inv c tm m ρ a w) : (Code.region id ops true).wp c.P Q a w := by
  rw [drawOk, Bool.and_eq_true] at hdr
  refine wp_region_any hm (anyS_any _ _ _ _ (cover_any hdr.1 (fun i o v ch a w ho hq => ?_) _ _ _ a _ Cl.start hdr.2 ?_))
  · cases hd : o.dst with
    | none => rw [hd] at hq; exact hq
    | some d => rw [hd] at hq; exact hQn d v ch a w (kdOps_get hkd ho hd) hq
  cases t with
  | none => exact chain_sound hP hQ hN _ 0 _ tm m ρ a _ rfl (by simp) hs h.drew
  | some T =>
    obtain ⟨X, hX, hs⟩ := hs
    refine execT_sound (k := fun tm m => head c.n T.2 tm m X) hP (fun a w hT => ?_) hN T.1 tm m ρ a _ hs h.drew
    obtain ⟨tm1, m1, ρ1, h1, h2⟩ := hT
    obtain ⟨tm2, m2, ρ2, h3, h4⟩ := head_sound h2 h1
    exact hQ _ _ ⟨tm2, m2, ρ2, hX _ _ h3, h4⟩
theorem step_kp {P : Program} {np : Nat} {kp kp' : Value → Tm → Mem → Prop} {op : Op} (hc : callOp op = false) : step P np lent kp tm m d ty k op = step P np lent kp' tm m d ty k op := by
  unfold step
  split <;> first | rfl | (simp [callOp] at hc; done) | (split <;> first | rfl | (exfalso; simp_all; done))
theorem stepO_kp {P : Program} {np : Nat} {kp kp' : Value → Tm → Mem → Prop} {ops : Array Oper} {o : Oper} (hc : callOp o.op = false) : stepO P np lent kp ops k o tm m = stepO P np lent kp' ops k o tm m := by
  unfold stepO
  rw [step_kp (kp := kp) (kp' := kp') hc]
theorem execOps_kp {P : Program} {np : Nat} {kp kp' : Value → Tm → Mem → Prop} {ops : Array Oper} : ∀ (l : List Oper) (tm : Tm) (m : Mem), (∀ o ∈ l, callOp o.op = false) → execOps P np lent kp ops k l tm m = execOps P np lent kp' ops k l tm m
  | [], tm, m, _ => rfl
  | o :: l, tm, m, h => by
    have ih : execOps P np lent kp ops k l = execOps P np lent kp' ops k l := funext fun tm => funext fun m => execOps_kp l tm m fun o ho => h o (List.mem_cons_of_mem _ ho)
    rw [execOps, execOps, ih, step_kp (kp := kp) (kp' := kp') (h o List.mem_cons_self)]
theorem execT_kp {P : Program} {np : Nat} {kp kp' : Value → Tm → Mem → Prop} {ops : Array Oper} {l : List Oper} (h : ∀ o ∈ l, callOp o.op = false) : ∀ (T : Tr) (tm : Tm) (m : Mem), execT P np lent kp ops l k T tm m = execT P np lent kp' ops l k T tm m
  | .nil, tm, m => rfl
  | .alt s t, tm, m => by rw [execT, execT, execT_kp h s, execT_kp h t]
  | .one i t, tm, m => by
    have ih : execT P np lent kp ops l k t = execT P np lent kp' ops l k t := funext fun tm => funext fun m => execT_kp h t tm m
    rw [execT, execT, ih]
    cases ho : l[i]? with
    | none => rfl
    | some o => exact stepO_kp (h o (List.mem_of_getElem? ho))
theorem execR_kp {P : Program} {np n : Nat} {kp kp' : Value → Tm → Mem → Prop} {ops : Array Oper} {l : List Oper} (h : ∀ o ∈ l, callOp o.op = false) : ∀ t, execR P np lent kp n ops k l tm m t = execR P np lent kp' n ops k l tm m t
  | none => execOps_kp l tm m h
  | some T => by
    rw [execR, execR]
    have : (fun X : Tm → Mem → Prop => execT P np lent kp ops l (fun tm m => head n T.2 tm m X) T.1 tm m) = fun X => execT P np lent kp' ops l (fun tm m => head n T.2 tm m X) T.1 tm m := funext fun X => execT_kp h _ _ _
    show joinP k _ = joinP k _
    rw [this]
def quietE (Q : Exit → Act → World → Prop) : Exit → Act → World → Prop
  | .panic _ => fun _ _ => False
  | e => Q e
theorem draw_quiet (hm : c.P.follows .mixedOrders = true) {id : Nat} {ops : Array Oper} {k : Tm → Mem → Prop} (hQ : ∀ a w, Then c k a w → Q .normal a w) (hN : okOps c.N ops.toList = true) {t : Option (Tr × List Nat)} (hnc : noCalls ops = true) (hdr : drawOk ops t = true) (hs : execR c.P c.np lent kp c.n ops k ops.toList tm m t) (h : Inv c tm m ρ a w) : (Code.region id ops true).wp c.P Q a w := by
  have h0 : ∀ o ∈ ops.toList, callOp o.op = false := fun o ho => by
    have := List.all_eq_true.1 hnc o ho
    simpa using this
  rw [execR_kp (kp' := fun _ _ _ => False) h0] at hs
  have h1 : Inv ⟨c.P, c.M, c.w0, c.S, c.N, c.n, c.np, c.m0, c.ρ0, c.D, fun _ => true⟩ tm m ρ a w := ⟨h.sz, h.df, h.tm, h.blk, h.sep, h.new, h.fr, h.old, h.dis, ⟨h.ft.len, h.ft.var, h.ft.row, h.ft.dead⟩⟩
  refine wp_mono (draw_sound (c := ⟨c.P, c.M, c.w0, c.S, c.N, c.n, c.np, c.m0, c.ρ0, c.D, fun _ => true⟩) (Q := quietE Q) (kp := fun _ _ _ => False) hm (fun d v ch a w hd h => h) (fun v a w ⟨_, _, _, h, _⟩ => h.elim) (fun a w ⟨tm, m, ρ, h1, h2⟩ => hQ a w ⟨tm, m, ρ, h1, ⟨h2.sz, h2.df, h2.tm, h2.blk, h2.sep, h2.new, h2.fr, h2.old, h2.dis, ⟨h2.ft.len, h2.ft.var, h2.ft.row, h2.ft.dead⟩⟩⟩) hN (List.all_eq_true.2 fun o _ => by cases o.dst <;> rfl) hdr hs h1) fun e a w hq => ?_
  cases e with
  | panic ch => exact hq.elim
  | _ => exact hq
/-- What holds where the code ends, by what follows it. -/
def Post (c : Cx) (K : KF) : Exit → Act → World → Prop
  | .normal => Then c (K .normal)
  | .exit i => Then c (K (.exit i))
  | .ret => Then c (K .ret)
  | .panic ch => fun a w => ∃ v, ch = [{ v := v, recovered := false }] ∧ Then c (K (.pan v)) a w
  | _ => fun _ _ => False
/-- What a panic asks of does not hang on most slots. -/
def PanK (kd : Nat → Bool) (K : KF) : Prop := ∀ v tm m d, kd d = true → K (.pan v) tm m → K (.pan v) (put tm (some d) .any) m
theorem Inv.unput {d : Nat} {v : Value} (h : Inv c tm m ρ (a.put (some d) v) w) : Inv c (V.put tm (some d) .any) m ρ a w := by
  refine ⟨by have := h.sz; simpa [Act.put] using this, h.df, fun t => ?_, h.blk, h.sep, h.new, h.fr, h.old, h.dis, h.ft⟩
  rw [get_put]
  split
  · exact .im .any
  · rename_i hne
    have h1 := h.tm t
    rw [Array.getD_eq_getD_getElem?] at h1 ⊢
    simp only [Act.put] at h1
    rw [Array.getElem?_setIfInBounds_ne hne] at h1
    exact h1
theorem post_unput {K : KF} (hK : PanK c.kd K) (d : Nat) (v : Value) (ch : List PanicEntry) (a : Act) (w : World) (hd : c.kd d = true) (h : Post c K (.panic ch) (a.put (some d) v) w) : Post c K (.panic ch) a w := by
  obtain ⟨x, rfl, tm, m, ρ, h1, h2⟩ := h
  exact ⟨x, rfl, _, _, _, hK x tm m d hd h1, h2.unput⟩
theorem post_leave {id : Nat} {K : KF} : ∀ e a w, Post c (leave id K) e a w → Exit.inBlock id (Post c K) e a w
  | .normal, a, w, h => h
  | .ret, a, w, h => h
  | .exit i, a, w, h => by
    obtain ⟨tm, m, ρ, h1, h2⟩ := h
    rw [Exit.inBlock]
    rw [leave] at h1
    split
    · rename_i e; rw [if_pos e] at h1; exact ⟨tm, m, ρ, h1, h2⟩
    · rename_i e; rw [if_neg e] at h1; exact ⟨tm, m, ρ, h1, h2⟩
  | .goto _, a, w, h => h.elim
  | .panic _, a, w, h => h
  | .outgrown, a, w, h => h.elim
theorem post_scope {K : KF} : ∀ e a w, Post c K e a w → Exit.noGoto (Post c K) e a w
  | .normal, a, w, h => h
  | .ret, a, w, h => h
  | .exit i, a, w, h => h
  | .goto _, a, w, h => h.elim
  | .panic _, a, w, h => h
  | .outgrown, a, w, h => h.elim
variable {live : Nat → List Nat} {tr : Nat → Option (Tr × List Nat)}
theorem loop_sound {co : Code} (hc : ∀ (K : KF) (tm : Tm) (m : Mem) (ρ : Nat → Value) (a : Act) (w : World), PanK c.kd K → execC c.P c.np lent c.n live tr co K tm m → Inv c tm m ρ a w → co.wp c.P (Post c K) a w) {lv : List Nat} {K : KF} (hK : PanK c.kd K) :
    ∀ (tm : Tm) (m : Mem), LoopP c.n (execC c.P c.np lent c.n live tr co) lv K tm m → ∀ (ρ : Nat → Value) (a : Act) (w : World), Inv c tm m ρ a w → ∀ (b : Frame) (kk : List Item) (cs : List Frame),
      ∃ e a' w', Post c K e a' w' ∧ Arrives c.P (lone (b.at a (.code co :: .inLoop co :: kk)) cs w) b kk cs e a' w' := by
  intro tm m hl
  induction hl with
  | mk X hX hb ih =>
    intro ρ a w h b kk cs
    obtain ⟨e, a₁, w₁, hq, harr⟩ := hc (fun e tm' m' => match e with | .normal => head c.n lv tm' m' X | e => K e tm' m') _ _ ρ a w (fun v tm m d hd h => hK v tm m d hd h) hb h b (.inLoop co :: kk) cs
    cases e with
    | normal =>
      obtain ⟨tm1, m1, ρ1, h1, h2⟩ := hq
      obtain ⟨tm2, m2, ρ2, h3, h4⟩ := head_sound h2 h1
      obtain ⟨e₂, a₂, w₂, hq₂, harr₂⟩ := ih tm2 m2 h3 ρ2 a₁ w₁ h4 b kk cs
      exact ⟨e₂, a₂, w₂, hq₂, .of_steps (Steps.trans harr (.one step_inLoop)) harr₂⟩
    | exit id => exact ⟨.exit id, a₁, w₁, hq, .pass (x := .inLoop co) rfl (fun _ _ => .inl (by simp)) harr⟩
    | ret => exact ⟨.ret, a₁, w₁, hq, .pass (x := .inLoop co) rfl (fun _ _ => .inl (by simp)) harr⟩
    | goto l => exact hq.elim
    | panic ch => exact ⟨.panic ch, a₁, w₁, hq, .pass (x := .inLoop co) rfl (fun _ _ => .inl (by simp)) harr⟩
    | outgrown => exact hq.elim
theorem execC_sound' (hm : c.P.follows .mixedOrders = true) : ∀ (co : Code), (∀ (K : KF) (tm : Tm) (m : Mem) (ρ : Nat → Value) (a : Act) (w : World), PanK c.kd K → okCode c.N c.kd tr co = true → execC c.P c.np lent c.n live tr co K tm m → Inv c tm m ρ a w → co.wp c.P (Post c K) a w) ∧
    ∀ c', co = .loop c' → ∀ (K : KF) (tm : Tm) (m : Mem) (ρ : Nat → Value) (a : Act) (w : World), PanK c.kd K → okCode c.N c.kd tr c' = true → execC c.P c.np lent c.n live tr c' K tm m → Inv c tm m ρ a w → c'.wp c.P (Post c K) a w := by
  intro co
  induction co with
  | skip => exact ⟨fun K tm m ρ a w hK hN hs h => Go.wp_skip (show Then c (K .normal) a w from ⟨tm, m, ρ, by simpa only [execC] using hs, h⟩), fun c' e => by cases e⟩
  | label l => exact ⟨fun K tm m ρ a w hK hN hs h => Go.wp_label (show Then c (K .normal) a w from ⟨tm, m, ρ, by simpa only [execC] using hs, h⟩), fun c' e => by cases e⟩
  | region id ops draw =>
    refine ⟨fun K tm m ρ a w hK hN hs h => ?_, fun c' e => by cases e⟩
    rw [okCode, Bool.and_eq_true] at hN
    cases draw with
    | true => 
      have h3 := hN.2
      rw [Bool.not_true, Bool.false_or, Bool.and_eq_true, Bool.or_eq_true] at h3
      rcases h3 with ⟨hnc | hkd, hdr⟩
      · exact draw_quiet (k := K .normal) (kp := fun v => K (.pan v)) (Q := Post c K) hm (fun a w h => h) hN.1 hnc hdr (by simpa only [execC] using hs) h
      have h2 : kdOps c.kd ops = true ∧ drawOk ops (tr id) = true := ⟨hkd, hdr⟩
      exact draw_sound (k := K .normal) (kp := fun v => K (.pan v)) (Q := Post c K) hm (fun d v ch a w hd h => post_unput hK d v ch a w hd h) (fun v a w h => ⟨v, rfl, h⟩) (fun a w h => h) hN.1 h2.1 h2.2 (by simpa only [execC] using hs) h
    | false =>
      have hs : execOps c.P c.np lent (fun v => K (.pan v)) ops (K .normal) ops.toList tm m := by simpa only [execC] using hs
      exact wp_region_list (execOps_sound (k := K .normal) (kp := fun v => K (.pan v)) (Q := Post c K) (fun v a w h => ⟨v, rfl, h⟩) (fun a w h => h) ops.toList tm m ρ a w hN.1 hs h)
  | seq x y ihx ihy =>
    refine ⟨fun K tm m ρ a w hK hN hs h => ?_, fun c' e => by cases e⟩
    rw [okCode, Bool.and_eq_true] at hN
    simp only [execC] at hs
    refine wp_seq (wp_mono (ihx.1 (andThen (execC c.P c.np lent c.n live tr y K) K) tm m ρ a w (fun v tm m d hd h => hK v tm m d hd h) hN.1 hs h) fun e a w hq => ?_)
    cases e with
    | normal => obtain ⟨tm1, m1, ρ1, h1, h2⟩ := hq; exact ihy.1 _ tm1 m1 ρ1 a w hK hN.2 h1 h2
    | exit id => exact hq
    | ret => exact hq
    | goto l => exact hq.elim
    | panic ch => exact hq
    | outgrown => exact hq.elim
  | cond x0 x y ihx ihy =>
    refine ⟨fun K tm m ρ a w hK hN hs h => ?_, fun c' e => by cases e⟩
    rw [okCode, Bool.and_eq_true] at hN
    simp only [execC, ifB] at hs
    obtain ⟨b, hc, hs⟩ := onBool_e hs
    · have hv := (hc ▸ h.ev x0 : Rep c.M w m ρ (.val (.bool b)) (a.eval x0)).val_eq
      refine wp_cond hv ?_
      split at hs
      · rename_i e; rw [if_pos e]; exact ihx.1 _ tm m ρ a w hK hN.1 hs h
      · rename_i e; rw [if_neg e]; exact ihy.1 _ tm m ρ a w hK hN.2 hs h
  | scope x ih =>
    refine ⟨fun K tm m ρ a w hK hN hs h => ?_, fun c' e => by cases e⟩
    rw [okCode] at hN
    simp only [execC] at hs
    exact wp_scope_straight (wp_mono (ih.1 K tm m ρ a w hK hN hs h) post_scope)
  | block id x ih =>
    refine ⟨fun K tm m ρ a w hK hN hs h => ?_, fun c' e => by cases e⟩
    rw [okCode] at hN
    by_cases hl : ∃ c', x = .loop c'
    · obtain ⟨c', rfl⟩ := hl
      rw [okCode] at hN
      simp only [execC] at hs
      refine wp_block (wp_mono (Q := Post c (leave id K)) ?_ post_leave)
      intro b kk cs
      obtain ⟨tm2, m2, ρ2, h3, h4⟩ := head_sound h hs
      obtain ⟨e, a', w', hq, harr⟩ := loop_sound (K := leave id K) (fun K tm m ρ a w hK hs h => ih.2 c' rfl K tm m ρ a w hK hN hs h) (fun v tm m d hd h => hK v tm m d hd h) _ _ h3 ρ2 a w h4 b kk cs
      exact ⟨e, a', w', hq, .of_steps (.one step_loop) harr⟩
    · have hs' : execC c.P c.np lent c.n live tr x (leave id K) tm m := by
        cases x <;> first | (simp only [execC] at hs; done) | (simp only [execC] at hs ⊢; exact hs) | exact absurd ⟨_, rfl⟩ hl
      exact wp_block (wp_mono (ih.1 (leave id K) tm m ρ a w (fun v tm m d hd h => hK v tm m d hd h) hN hs' h) post_leave)
  | loop x ih => exact ⟨fun K tm m ρ a w hK hN hs h => by simp [execC] at hs, fun c' e => by cases e; exact ih.1⟩
  | exit id => exact ⟨fun K tm m ρ a w hK hN hs h => wp_exit (show Then c (K (.exit id)) a w from ⟨tm, m, ρ, by simpa only [execC] using hs, h⟩), fun c' e => by cases e⟩
  | ret => exact ⟨fun K tm m ρ a w hK hN hs h => wp_ret (show Then c (K .ret) a w from ⟨tm, m, ρ, by simpa only [execC] using hs, h⟩), fun c' e => by cases e⟩
  | _ => exact ⟨fun K tm m ρ a w hK hN hs h => by simp [execC] at hs, fun c' e => by cases e⟩
theorem execC_sound (hm : c.P.follows .mixedOrders = true) {co : Code} {K : KF} (hK : PanK c.kd K) (hN : okCode c.N c.kd tr co = true) (hs : execC c.P c.np lent c.n live tr co K tm m) (h : Inv c tm m ρ a w) : co.wp c.P (Post c K) a w := (execC_sound' hm co).1 K tm m ρ a w hK hN hs h
theorem okOps_mono {n N : Nat} (hn : n ≤ N) : ∀ l : List Oper, okOps n l = true → okOps N l = true
  | [], _ => rfl
  | o :: l, h => by
    rw [okOps, Bool.and_eq_true] at h ⊢
    refine ⟨?_, okOps_mono hn l h.2⟩
    have := h.1
    split at this
    · rename_i t _; have := of_decide_eq_true this; exact decide_eq_true (Nat.lt_of_lt_of_le this hn)
    · rfl
theorem okCode_mono {n N : Nat} {kd : Nat → Bool} {tr : Nat → Option (Tr × List Nat)} (hn : n ≤ N) : ∀ c : Code, okCode n kd tr c = true → okCode N kd tr c = true
  | .region _ ops _, h => by rw [okCode, Bool.and_eq_true] at h ⊢; exact ⟨okOps_mono hn _ h.1, h.2⟩
  | .seq a b, h => by rw [okCode, Bool.and_eq_true] at h ⊢; exact ⟨okCode_mono hn a h.1, okCode_mono hn b h.2⟩
  | .cond _ a b, h => by rw [okCode, Bool.and_eq_true] at h ⊢; exact ⟨okCode_mono hn a h.1, okCode_mono hn b h.2⟩
  | .block _ a, h => by rw [okCode] at h ⊢; exact okCode_mono hn a h
  | .loop a, h => by rw [okCode] at h ⊢; exact okCode_mono hn a h
  | .scope a, h => by rw [okCode] at h ⊢; exact okCode_mono hn a h
  | .skip, _ => rfl
  | .rangeFunc .., _ => rfl
  | .exit _, _ => rfl
  | .label _, _ => rfl
  | .goto _, _ => rfl
  | .ret, _ => rfl
  | .refuse _, _ => rfl
def goodK (kd : Nat → Bool) (tr : Nat → Option (Tr × List Nat)) (fn : Func) : Bool := match fn.body with
  | some c => !(fn.name == "runtime.NumGoroutine") && okCode fn.ntmps kd tr c
  | none => false
def goodT (tr : Nat → Option (Tr × List Nat)) (fn : Func) : Bool := goodK (fun _ => true) tr fn
theorem get_number : ∀ (l : List PV) (k t : Nat), get (number k l) t = if k ≤ t then (l[t - k]?).getD .any else .any
  | [], k, t => by simp [number, get]
  | p :: l, k, t => by
    rw [number, get, get_number l]
    by_cases h : k = t
    · subst h; simp
    · rw [if_neg h]
      by_cases h2 : k ≤ t
      · rw [if_pos (by omega), if_pos h2, show t - k = (t - (k + 1)) + 1 by omega, List.getElem?_cons_succ]
      · rw [if_neg (by omega), if_neg h2]
theorem Inv.start {args : List PV} {vs : Array Value} {np : Nat} {kd : Nat → Bool} (hM : ∀ k, M k → k < w.heap.size) (hmem : MemOk P M w m ρ) (hl : args.length = vs.size) (hr : ∀ (i : Nat) (p : PV) (v : Value), args[i]? = some p → vs[i]? = some v → Rep M w m ρ p v) (n : Nat) :
    Inv ⟨P, M, w, Own m ρ, vs.size + n, m.length, np, m, ρ, [], kd⟩ (number 0 args) m ρ { tmps := vs ++ Array.replicate n undef, defers := [] } w := by
  refine ⟨by simp, rfl, fun t => ?_, hmem.blk, hmem.sep, fun b k hb hk => .inr ⟨b, hb, hk⟩, ⟨rfl, rfl, rfl, Nat.le_refl _, fun _ _ _ => rfl⟩, hM, fun k ⟨b, hb, hk⟩ => hmem.out b k hb hk, Nat.le_refl _, fun b cs _ hm => ⟨rfl, cs, hm⟩, fun b e es _ hm => .inr ⟨fun _ => rfl, e, es, hm⟩, fun b _ hm => hm⟩
  rw [get_number, if_pos (Nat.zero_le _), Nat.sub_zero]
  cases ha : args[t]? with
  | none => exact .im .any
  | some p =>
    have hlt := lt_of_get ha
    have hv : vs[t]? = some (vs[t]'(by omega)) := Array.getElem?_eq_getElem (by omega)
    have : (vs ++ Array.replicate n undef).getD t undef = vs[t]'(by omega) := by
      rw [Array.getD_eq_getD_getElem?, Array.getElem?_append_left (by omega), hv]; rfl
    simp only [this]
    exact hr t p _ ha hv
def resOne (tmps : Array Value) : ResultVar → Sem Value
  | .tmp t => Pure.pure (tmps.getD t undef)
  | .cell x t => do loadVar t (← asAddr (tmps.getD x undef))
theorem resB_sound (h : Inv c tm m ρ a w) : ∀ (rs : List ResultVar) (K : List PV → Prop), resB c.P tm m rs K → ∃ ps vs, K ps ∧ ps.length = vs.length ∧ (rs.mapM (resOne a.tmps)).run c.P w = .ok vs w ∧ ∀ (i : Nat) (p : PV) (v : Value), ps[i]? = some p → vs[i]? = some v → Rep c.M w m ρ p v
  | [], K, hs => ⟨[], [], hs, rfl, by simp, fun i p v hp => by simp at hp⟩
  | .tmp t :: l, K, hs => by
    rw [resB] at hs
    obtain ⟨ps, vs, h1, h2, h3, h4⟩ := resB_sound h l _ hs
    refine ⟨_, a.tmps.getD t undef :: vs, h1, by simp [h2], by rw [List.mapM_cons]; simp only [resOne, Sem.run_bind, Sem.run_pure, Result.andThen_ok, h3], fun i p v hp hv => ?_⟩
    cases i with
    | zero => rw [List.getElem?_cons_zero] at hp hv; cases hp; cases hv; exact h.tm t
    | succ i => simp at hp hv; exact h4 i p v hp hv
  | .cell x t :: l, K, hs => by
    rw [resB] at hs
    obtain ⟨cs, A, hs, hA, hc⟩ := at1_sound h.blk (h.tm x) hs
    obtain ⟨q, hq, hs⟩ := onS_e hs
    · obtain ⟨v0, _, hv0, hr0⟩ := load_sound hc hq
      obtain ⟨ps, vs, h1, h2, h3, h4⟩ := resB_sound h l _ hs
      refine ⟨_, v0 :: vs, h1, by simp [h2], by rw [List.mapM_cons]; simp only [resOne, hA, show asAddr (.pointer (some A)) = Pure.pure A from rfl, Sem.run_bind, Sem.run_pure, Result.andThen_ok, hv0, h3], fun i p v hp hv => ?_⟩
      cases i with
      | zero => simp at hp hv; subst hp; subst hv; exact hr0
      | succ i => simp at hp hv; exact h4 i p v hp hv
theorem results_sound (h : Inv c tm m ρ a w) {fn : Func} {K : List PV → Prop} (hs : resB c.P tm m fn.results.toList K) : ∃ ps v, K ps ∧ (results fn a.tmps).run c.P w = .ok v w ∧ Rep c.M w m ρ (oneB ps) v := by
  obtain ⟨ps, vs, h1, h2, h3, h4⟩ := resB_sound h _ _ hs
  have hrun : (results fn a.tmps).run c.P w = .ok (if hh : vs.toArray.size = 1 then vs.toArray[0] else .tuple vs.toArray) w := by
    have e : results fn a.tmps = (do
        let vs ← fn.results.mapM (resOne a.tmps)
        Pure.pure (if h : vs.size = 1 then vs[0] else .tuple vs)) := by
      unfold results
      congr
    rw [e, Array.mapM_eq_mapM_toList]
    simp only [Sem.run_bind, Sem.run_map, h3, Result.andThen_ok, Sem.run_pure]
  refine ⟨ps, _, h1, hrun, ?_⟩
  clear h1 hrun h3
  match ps, vs, h2, h4 with
  | [], [], _, _ => exact .tup rfl (fun i p v hp => by simp at hp)
  | [p], [v], _, h4 => exact h4 0 p v rfl rfl
  | p :: q :: ps, v :: u :: vs, h2, h4 =>
    rw [dif_neg (by simp)]
    exact .tup (by simpa using h2) (fun i p v hp hv => h4 i p v hp (by simpa using hv))
theorem fin_sound (h : Inv c tm m ρ a w) {p : PV} {v : Value} {Q : PV → Mem → Prop} (hp : Rep c.M w m ρ p v) (hf : fin c.n m p Q) : ∃ r m' ρ', Q r m' ∧ Rep c.M w m' ρ' r v ∧ Inv c [] m' ρ' { a with tmps := a.tmps } w := by
  obtain ⟨h1, h2⟩ := reach_spec c.n m [p]
  obtain ⟨h3, h4⟩ := h.canon h1 h2 false
  exact ⟨_, _, _, hf, h4 p v hp, ⟨h3.sz, h3.df, fun t => .im .any, h3.blk, h3.sep, h3.new, h3.fr, h3.old, h3.dis, h3.ft⟩⟩
/-- What the evaluation of its code tells, a function does. -/
theorem does_ofRT {f : FuncId} {fn : Func} {co : Code} {args : List PV} {m : Mem} {np : Nat} {Q : PV → Mem → Prop} {R : Value → Prop} (hm : P.follows .mixedOrders = true) (hf : P.funcs[f]? = some fn) (hb : fn.body = some co) (tr : Nat → Option (Tr × List Nat)) (hg : goodT tr fn = true) (lent : FuncId → Bool) (live : Nat → List Nat)
    (hs : execC P np lent m.length live tr co (doneR P m.length fn.results.toList Q R) (number 0 args) m) : DoesR P f args m np Q R := by
  rw [goodT, goodK, hb] at hg
  simp only [Bool.and_eq_true, Bool.not_eq_true'] at hg
  refine ⟨⟨fn, co, hf, hb, hg.1⟩, fun M w vs ρ hM hmem hl hr => ?_⟩
  have h0 := Inv.start (P := P) (np := np) (kd := fun _ => true) hM hmem hl hr (fn.ntmps - vs.size)
  refine calls_of_wp hf hb (wp_mono (execC_sound (c := ⟨P, M, w, Own m ρ, vs.size + (fn.ntmps - vs.size), m.length, np, m, ρ, [], fun _ => true⟩) hm (K := doneR P m.length fn.results.toList Q R) (fun v tm m d hd h => h) (okCode_mono (by simp only; omega) co hg.2) hs h0) fun e a w' hq => ?_)
  have fin' : ∀ (tm : Tm) (m' : Mem) (ρ' : Nat → Value), resB P tm m' fn.results.toList (fun ps => fin m.length m' (oneB ps) Q) → Inv ⟨P, M, w, Own m ρ, vs.size + (fn.ntmps - vs.size), m.length, np, m, ρ, [], fun _ => true⟩ tm m' ρ' a w' → a.defers = [] ∧ ∃ v, (results fn a.tmps).run P w' = .ok v w' ∧ ((∃ v' r m' ρ', Ending.returned v = .returned v' ∧ Q r m' ∧ Fr (Own m ρ) w w' ∧ Rep M w' m' ρ' r v' ∧ MemOk P M w' m' ρ' ∧ Foot ⟨P, M, w, Own m ρ, 0, m.length, np, m, ρ, [], fun _ => true⟩ m' ρ' ∧ ∀ b k, Live m' b → own1 (ρ' b) = some k → w.heap.size ≤ k ∨ Own m ρ k) ∨
      ∃ x, Ending.returned v = .panicked [{ v := x, recovered := false }] ∧ R x ∧ Fr (Own m ρ) w w') := by
    intro tm m1 ρ1 h1 h2
    obtain ⟨ps, v, h3, h4, h5⟩ := results_sound (c := ⟨P, M, w, Own m ρ, vs.size + (fn.ntmps - vs.size), m.length, np, m, ρ, [], fun _ => true⟩) h2 h1
    obtain ⟨r, m', ρ', h6, h7, h8⟩ := fin_sound h2 h5 h3
    exact ⟨h2.df, v, h4, .inl ⟨v, r, m', ρ', rfl, h6, h2.fr, h7, ⟨h8.blk, h8.sep, fun b k hb hk => h8.out hb hk⟩, ⟨h8.ft.len, h8.ft.var, h8.ft.row, h8.ft.dead⟩, h8.new⟩⟩
  cases e with
  | normal => obtain ⟨tm, m', ρ', h1, h2⟩ := hq; exact fin' tm m' ρ' h1 h2
  | ret => obtain ⟨tm, m', ρ', h1, h2⟩ := hq; exact fin' tm m' ρ' h1 h2
  | exit id => obtain ⟨tm, m', ρ', h1, h2⟩ := hq; exact h1.elim
  | goto l => exact hq.elim
  | panic ch =>
    obtain ⟨v, rfl, tm, m', ρ', h1, h2⟩ := hq
    exact ⟨h2.df, .inr ⟨v, rfl, h1, h2.fr⟩⟩
  | outgrown => exact hq.elim
theorem does_ofT {f : FuncId} {fn : Func} {co : Code} {args : List PV} {m : Mem} {np : Nat} {Q : PV → Mem → Prop} (hm : P.follows .mixedOrders = true) (hf : P.funcs[f]? = some fn) (hb : fn.body = some co) (tr : Nat → Option (Tr × List Nat)) (hg : goodT tr fn = true) (lent : FuncId → Bool) (live : Nat → List Nat)
    (hs : execC P np lent m.length live tr co (done P m.length fn.results.toList Q) (number 0 args) m) : Does P f args m np Q := does_ofRT hm hf hb tr hg lent live hs
end
def noT : Nat → Option (Tr × List Nat) := fun _ => none
def good (fn : Func) : Bool := goodT noT fn
theorem does_of {P : Program} {f : FuncId} {fn : Func} {co : Code} {args : List PV} {m : Mem} {np : Nat} {Q : PV → Mem → Prop} (hm : P.follows .mixedOrders = true) (hf : P.funcs[f]? = some fn) (hb : fn.body = some co) (hg : good fn = true) (lent : FuncId → Bool) (live : Nat → List Nat)
    (hs : execC P np lent m.length live noT co (done P m.length fn.results.toList Q) (number 0 args) m) : Does P f args m np Q := does_ofT hm hf hb noT hg lent live hs
theorem does_ofR {P : Program} {f : FuncId} {fn : Func} {co : Code} {args : List PV} {m : Mem} {np : Nat} {Q : PV → Mem → Prop} {R : Value → Prop} (hm : P.follows .mixedOrders = true) (hf : P.funcs[f]? = some fn) (hb : fn.body = some co) (hg : good fn = true) (lent : FuncId → Bool) (live : Nat → List Nat)
    (hs : execC P np lent m.length live noT co (doneR P m.length fn.results.toList Q R) (number 0 args) m) : DoesR P f args m np Q R := does_ofRT hm hf hb noT hg lent live hs
end Go.V
#print axioms Go.V.does_ofR
set_option linter.unusedVariables false
set_option linter.unusedSimpArgs false
namespace Go.V
open Go Go.RowKit
/-! the words of evaluation -/
def treesT : List (Nat × (Tr × List Nat)) → Nat → Option (Tr × List Nat)
  | [], _ => none
  | (k, x) :: l, f => if k = f then some x else treesT l f
section
variable {P : Program} {np n : Nat} {lent : FuncId → Bool} {kp : Value → Tm → Mem → Prop} {live : Nat → List Nat} {tr : Nat → Option (Tr × List Nat)} {K : KF} {k : Tm → Mem → Prop} {tm : Tm} {m : Mem} {ops : Array Oper}
theorem x_skip : execC P np lent n live tr .skip K tm m = K .normal tm m := by simp only [execC]
theorem x_label {l : Nat} : execC P np lent n live tr (.label l) K tm m = K .normal tm m := by simp only [execC]
theorem x_scope {c : Code} : execC P np lent n live tr (.scope c) K tm m = execC P np lent n live tr c K tm m := by simp only [execC]
theorem x_region0 {id : Nat} {l : List Oper} : execC P np lent n live tr (.region id l.toArray false) K tm m = execOps P np lent (fun v => K (.pan v)) l.toArray (K .normal) l tm m := by simp only [execC]
theorem x_region1 {id : Nat} {l : List Oper} : execC P np lent n live tr (.region id l.toArray true) K tm m = execR P np lent (fun v => K (.pan v)) n l.toArray (K .normal) l tm m (tr id) := by simp only [execC]
theorem noT_eq {i : Nat} : noT i = none := rfl
theorem r_none {l : List Oper} : execR P np lent kp n ops k l tm m none = execOps P np lent kp ops k l tm m := rfl
theorem r_some {l : List Oper} {T : Tr} {lv : List Nat} : execR P np lent kp n ops k l tm m (some (T, lv)) = joinP k fun X => execT P np lent kp ops l (fun tm m => head n lv tm m X) T tm m := rfl
theorem t_nil {l : List Oper} : execT P np lent kp ops l k .nil tm m = k tm m := rfl
theorem t_one {l : List Oper} {i : Nat} {t : Tr} : execT P np lent kp ops l k (.one i t) tm m = onS l[i]? fun o => stepO P np lent kp ops (execT P np lent kp ops l k t) o tm m := rfl
theorem t_op {dst : Option Tmp} {op : Op} {ty : TypeId} {pos : String} {af : Array Edge} : stepO P np lent kp ops k ⟨dst, op, ty, pos, af, none⟩ tm m = step P np lent kp tm m dst ty k op := rfl
theorem t_guard {dst : Option Tmp} {op : Op} {ty : TypeId} {pos : String} {af : Array Edge} {j : Nat} {want : Bool} : stepO P np lent kp ops k ⟨dst, op, ty, pos, af, some (j, want)⟩ tm m = onS (told ops tm j want) fun b => ifB b (step P np lent kp tm m dst ty k op) (k (put tm dst (.val undef)) m) := rfl
theorem x_seq {a b : Code} : execC P np lent n live tr (.seq a b) K tm m = execC P np lent n live tr a (andThen (execC P np lent n live tr b K) K) tm m := by simp only [execC]
theorem x_cond {c : Operand} {x y : Code} : execC P np lent n live tr (.cond c x y) K tm m = onBool (ev tm c) fun b => ifB b (execC P np lent n live tr x K tm m) (execC P np lent n live tr y K tm m) := by rw [execC]
theorem x_loop {id : Nat} {c : Code} : execC P np lent n live tr (.block id (.loop c)) K tm m = head n (live id) tm m (LoopP n (execC P np lent n live tr c) (live id) (leave id K)) := by simp only [execC]
theorem x_block_seq {id : Nat} {a b : Code} : execC P np lent n live tr (.block id (.seq a b)) K tm m = execC P np lent n live tr (.seq a b) (leave id K) tm m := by simp only [execC]
theorem x_block_region {id i : Nat} {o : Array Oper} {d : Bool} : execC P np lent n live tr (.block id (.region i o d)) K tm m = execC P np lent n live tr (.region i o d) (leave id K) tm m := by simp only [execC]
theorem x_block_cond {id : Nat} {c : Operand} {a b : Code} : execC P np lent n live tr (.block id (.cond c a b)) K tm m = execC P np lent n live tr (.cond c a b) (leave id K) tm m := by simp only [execC]
theorem x_block_block {id i : Nat} {a : Code} : execC P np lent n live tr (.block id (.block i a)) K tm m = execC P np lent n live tr (.block i a) (leave id K) tm m := by simp only [execC]
theorem x_exit {id : Nat} : execC P np lent n live tr (.exit id) K tm m = K (.exit id) tm m := by simp only [execC]
theorem x_ret : execC P np lent n live tr .ret K tm m = K .ret tm m := by simp only [execC]
theorem k_then {K1 : Tm → Mem → Prop} : andThen K1 K .normal tm m = K1 tm m := rfl
theorem k_then_exit {K1 : Tm → Mem → Prop} {i : Nat} : andThen K1 K (.exit i) tm m = K (.exit i) tm m := rfl
theorem k_then_ret {K1 : Tm → Mem → Prop} : andThen K1 K .ret tm m = K .ret tm m := rfl
theorem k_then_pan {K1 : Tm → Mem → Prop} {v : Value} : andThen K1 K (.pan v) tm m = K (.pan v) tm m := rfl
theorem k_leave_pan {id : Nat} {v : Value} : leave id K (.pan v) tm m = K (.pan v) tm m := rfl
theorem dR_normal {rs : List ResultVar} {Q : PV → Mem → Prop} {R : Value → Prop} : doneR P n rs Q R .normal tm m = resB P tm m rs fun ps => fin n m (oneB ps) Q := rfl
theorem dR_ret {rs : List ResultVar} {Q : PV → Mem → Prop} {R : Value → Prop} : doneR P n rs Q R .ret tm m = resB P tm m rs fun ps => fin n m (oneB ps) Q := rfl
theorem dR_pan {rs : List ResultVar} {Q : PV → Mem → Prop} {R : Value → Prop} {v : Value} : doneR P n rs Q R (.pan v) tm m = R v := rfl
theorem k_leave {id : Nat} : leave id K .normal tm m = K .normal tm m := rfl
theorem k_leave_exit {id i : Nat} : leave id K (.exit i) tm m = if i = id then K .normal tm m else K (.exit i) tm m := rfl
theorem k_leave_ret {id : Nat} : leave id K .ret tm m = K .ret tm m := rfl
theorem o_nil : execOps P np lent kp ops k [] tm m = k tm m := rfl
theorem o_cons {dst : Option Tmp} {op : Op} {ty : TypeId} {pos : String} {af : Array Edge} {rest : List Oper} : execOps P np lent kp ops k (⟨dst, op, ty, pos, af, none⟩ :: rest) tm m = step P np lent kp tm m dst ty (execOps P np lent kp ops k rest) op := rfl
theorem o_guard {dst : Option Tmp} {op : Op} {ty : TypeId} {pos : String} {af : Array Edge} {rest : List Oper} {j : Nat} {want : Bool} : execOps P np lent kp ops k (⟨dst, op, ty, pos, af, some (j, want)⟩ :: rest) tm m = onS (told ops tm j want) fun b => ifB b (step P np lent kp tm m dst ty (execOps P np lent kp ops k rest) op) (execOps P np lent kp ops k rest (put tm dst (.val undef)) m) := rfl
theorem d_normal {rs : List ResultVar} {Q : PV → Mem → Prop} : done P n rs Q .normal tm m = resB P tm m rs fun ps => fin n m (oneB ps) Q := rfl
theorem d_ret {rs : List ResultVar} {Q : PV → Mem → Prop} : done P n rs Q .ret tm m = resB P tm m rs fun ps => fin n m (oneB ps) Q := rfl
end
theorem zr_int {k : IntKind} {n : Int} : zrP (.int k n) = .val (.int k n) := rfl
theorem zr_bool {b : Bool} : zrP (.bool b) = .val (.bool b) := rfl
theorem zr_str {s : ByteArray} : zrP (.string s) = .val (.string s) := rfl
theorem zr_nil : zrP (.slice none 0 0) = .sl [] := rfl
attribute [go_sem] zr_int zr_bool zr_str zr_nil
@[irreducible] def w64 (n : Int) : Int := wrap64 n
theorem i64w (n : Int) : IntKind.i64.wrap n = w64 n := by unfold w64 wrap64; exact IntKind.wrap_i64 n
@[irreducible] def wu (n : Int) : Int := n % 18446744073709551616
theorem u64w (n : Int) : IntKind.u64.wrap n = wu n := by unfold wu; simp [IntKind.wrap, IntKind.bits, IntKind.signed]
theorem wu_of (n : Int) (h : 0 ≤ n ∧ n ≤ 18446744073709551615) : wu n = n := by unfold wu; omega
theorem wu_eq (n : Int) : wu n = n % 18446744073709551616 := by unfold wu; rfl
theorem w64_eq (n : Int) : w64 n = (n + 9223372036854775808) % 18446744073709551616 - 9223372036854775808 := by unfold w64 wrap64; rfl
theorem w64_of (n : Int) (h : -9223372036854775808 ≤ n ∧ n ≤ 9223372036854775807) : w64 n = n := by unfold w64; exact Go.IntWalk.wrap64_in n h
attribute [go_sem] x_skip x_label x_scope x_region0 x_region1 noT_eq r_none r_some t_nil t_one t_op t_guard treesT x_seq x_cond x_loop x_block_seq x_block_region x_block_cond x_block_block x_exit x_ret k_then k_then_exit k_then_ret k_then_pan k_leave_pan dR_normal dR_ret dR_pan k_leave k_leave_exit k_leave_ret o_nil o_cons o_guard d_normal d_ret
attribute [go_sem] step.eq_1 step.eq_2 step.eq_3 step.eq_4 step.eq_5 step.eq_6 step.eq_7 step.eq_8 step.eq_9 step.eq_10 step.eq_11 step.eq_12 step.eq_13 step.eq_14 step.eq_15 step.eq_16 step.eq_17 step.eq_18 step.eq_19 step.eq_20 step.eq_21 step.eq_22 step.eq_23 step.eq_24 step.eq_25 step.eq_26 step.eq_27 step.eq_28
attribute [go_sem] decide_true decide_false not_false_eq_true not_true_eq_false List.length_map Nat.not_lt_zero and_self if_true if_false Bool.false_eq_true List.length_nil List.length_cons List.length_append List.map_nil List.map_cons List.append_nil List.nil_append List.cons_append List.getElem?_nil List.getElem?_cons_zero List.getElem?_cons_succ List.set_cons_zero List.set_cons_succ List.contains_nil List.contains_cons List.take_zero List.take_succ_cons List.drop_zero List.drop_succ_cons List.drop_nil List.take_nil List.idxOf?_nil List.idxOf?_cons Option.map_some Option.map_none Option.getD_some Option.bind_some Option.some.injEq decide_eq_true_eq beq_iff_eq Bool.and_true Bool.true_and Bool.and_false Bool.false_and Bool.not_true Bool.not_false and_true true_and beq_self_eq_true Bool.or_true Bool.true_or Bool.or_false Bool.false_or
attribute [go_sem] ev get put cut binV unV number resB oneB fin canonM reach dd above cellIds fore head keep vals renT renB alive backN setAll wipeAllT wipeAllM landM callM Value.oneCell' ren tr trs pos orig ids idss pure pures closed closeds closedM flatP wipe1 wipeT wipeM frz1 frzT frzM seen seen0 deep deepGo storeP isEad none0 nilP nilV splice bound seqFrom boolOf dstAt toldAt told landV shift slots i64w callV
/-! where the evaluation waits: what follows is kept from sight till it is known -/
class Th where
  run : Prop
def bAlt [x : Th] [y : Th] : Prop := x.run ∧ y.run
theorem t_alt {P : Program} {np : Nat} {lent : FuncId → Bool} {kp : Value → Tm → Mem → Prop} {k : Tm → Mem → Prop} {tm : Tm} {m : Mem} {ops : Array Oper} {l : List Oper} {s t : Tr} : execT P np lent kp ops l k (.alt s t) tm m = @bAlt ⟨execT P np lent kp ops l k s tm m⟩ ⟨execT P np lent kp ops l k t tm m⟩ := rfl
theorem alt_of {x y : Prop} (h1 : x) (h2 : y) : @bAlt ⟨x⟩ ⟨y⟩ := ⟨h1, h2⟩
attribute [go_sem] t_alt
class K1 (α : Type) where
  run : α → Prop
class K2 (α β : Type) where
  run : α → β → Prop
class K3 (α β γ : Type) where
  run : α → β → γ → Prop
section
variable {α : Type}
def bS (o : Option α) [k : K1 α] : Prop := onS o k.run
def bInt (p : PV) [k : K2 IntKind Int] : Prop := onInt p k.run
def bBool (p : PV) [k : K1 Bool] : Prop := onBool p k.run
def bStr (p : PV) [k : K1 ByteArray] : Prop := onStr p k.run
def bVal (p : PV) [k : K1 Value] : Prop := onVal p k.run
def bValA (p : PV) [k : K1 Value] [a : K1 (List PV)] : Prop := onValA p k.run a.run
def bAgg (p : PV) [a : K1 (List PV)] : Prop := onAgg p a.run
def bTup (p : PV) [k : K1 (List PV)] : Prop := onTup p k.run
def bFn (p : PV) [k : K2 FuncId (List PV)] : Prop := onFn p k.run
def bPtr (p : PV) [a : K2 Nat Nat] [e : K3 Nat Nat Nat] [c : K1 (List PV)] : Prop := onPtr p a.run e.run c.run
def bRow (p : PV) [s : K1 (List (List PV))] [o : K1 Nat] [l : K3 Nat Nat Nat] : Prop := onRow p s.run o.run l.run
def bApp (p : PV) [o : K1 Nat] [l : K2 Nat Nat] [n : Th] [q : K3 Nat Nat Nat] : Prop := onApp p o.run l.run n.run q.run
def bRowB (o : Option Blk) [k : K2 TypeId (List (List PV))] : Prop := onRowB o k.run
def bVarB (o : Option Blk) [k : K1 (List PV)] : Prop := onVarB o k.run
def bOne (l : List α) [k : K1 α] : Prop := onOne l k.run
def bTwo (l : List α) [k : K2 α α] : Prop := onTwo l k.run
def bIf (b : Bool) [x : Th] [y : Th] : Prop := ifB b x.run y.run
def bNeed (p : Prop) [k : Th] : Prop := need p k.run
def bKnow (p : Prop) [k : Th] : Prop := know p k.run
def bNil (es : List (List PV)) [k : K1 Bool] : Prop := nilQ es k.run
def bAt (m : Mem) (p : PV) [k : K1 (List PV)] : Prop := at1 m p k.run
def bRow1 (m : Mem) (p : PV) [k : K1 (List (List PV))] : Prop := row1 m p k.run
def bCells (p : PV) [k : K1 (List PV)] : Prop := cells p k.run
def bPart (p : List PV) [k : K1 (List (List PV))] : Prop := partCells p k.run
def bFill (pl : List (Nat × Nat)) (cs : List PV) (l : List (Nat × PV)) [k : K1 (List PV)] : Prop := fillB pl cs l k.run
def bDoes (P : Program) (f : FuncId) (args : List PV) (m : Mem) (np : Nat) [k : K2 PV Mem] [R : K1 Value] : Prop := DoesR P f args m np k.run R.run
class KJ where
  run : (Tm → Mem → Prop) → Prop
def bJoin [k : K2 Tm Mem] [A : KJ] : Prop := joinP k.run A.run
theorem w_Join {k : Tm → Mem → Prop} {A : (Tm → Mem → Prop) → Prop} : joinP k A = @bJoin ⟨k⟩ ⟨A⟩ := rfl
theorem join_of {k : Tm → Mem → Prop} {A : (Tm → Mem → Prop) → Prop} {st : Tm} {mm : Mem} (hA : ∀ X : Tm → Mem → Prop, X st mm → A X) (hk : k st mm) : @bJoin ⟨k⟩ ⟨A⟩ := ⟨fun tm m => tm = st ∧ m = mm, fun tm m ⟨h1, h2⟩ => by subst h1; subst h2; exact hk, hA _ ⟨rfl, rfl⟩⟩
class KB where
  run : KF → Tm → Mem → Prop
class KK where
  run : KF
def bLoop (n : Nat) [body : KB] (live : List Nat) [K : KK] (tm : Tm) (m : Mem) : Prop := LoopP n body.run live K.run tm m
end
section
variable {α : Type} {a : α} {o : Option α} {p : PV} {m : Mem} {es : List (List PV)}
theorem w_S {k : α → Prop} : onS o k = @bS α o ⟨k⟩ := rfl
theorem w_Int {k : IntKind → Int → Prop} : onInt p k = @bInt p ⟨k⟩ := rfl
theorem w_Bool {k : Bool → Prop} : onBool p k = @bBool p ⟨k⟩ := rfl
theorem w_Str {k : ByteArray → Prop} : onStr p k = @bStr p ⟨k⟩ := rfl
theorem w_Val {k : Value → Prop} : onVal p k = @bVal p ⟨k⟩ := rfl
theorem w_ValA {k : Value → Prop} {ka : List PV → Prop} : onValA p k ka = @bValA p ⟨k⟩ ⟨ka⟩ := rfl
theorem w_Agg {k : List PV → Prop} : onAgg p k = @bAgg p ⟨k⟩ := rfl
theorem w_Tup {k : List PV → Prop} : onTup p k = @bTup p ⟨k⟩ := rfl
theorem w_Fn {k : FuncId → List PV → Prop} : onFn p k = @bFn p ⟨k⟩ := rfl
theorem w_Ptr {ka : Nat → Nat → Prop} {ke : Nat → Nat → Nat → Prop} {kc : List PV → Prop} : onPtr p ka ke kc = @bPtr p ⟨ka⟩ ⟨ke⟩ ⟨kc⟩ := rfl
theorem w_Row {ks : List (List PV) → Prop} {ko : Nat → Prop} {kl : Nat → Nat → Nat → Prop} : onRow p ks ko kl = @bRow p ⟨ks⟩ ⟨ko⟩ ⟨kl⟩ := rfl
theorem w_App {ko : Nat → Prop} {kl : Nat → Nat → Prop} {kn : Prop} {kq : Nat → Nat → Nat → Prop} : onApp p ko kl kn kq = @bApp p ⟨ko⟩ ⟨kl⟩ ⟨kn⟩ ⟨kq⟩ := rfl
theorem w_both {x y : Prop} : both x y = @bAlt ⟨x⟩ ⟨y⟩ := rfl
theorem w_RowB {o : Option Blk} {k : TypeId → List (List PV) → Prop} : onRowB o k = @bRowB o ⟨k⟩ := rfl
theorem w_VarB {o : Option Blk} {k : List PV → Prop} : onVarB o k = @bVarB o ⟨k⟩ := rfl
theorem w_One {l : List α} {k : α → Prop} : onOne l k = @bOne α l ⟨k⟩ := rfl
theorem w_Two {l : List α} {k : α → α → Prop} : onTwo l k = @bTwo α l ⟨k⟩ := rfl
theorem w_If {b : Bool} {x y : Prop} : ifB b x y = @bIf b ⟨x⟩ ⟨y⟩ := rfl
theorem w_Need {p x : Prop} : need p x = @bNeed p ⟨x⟩ := rfl
theorem w_Know {p x : Prop} : know p x = @bKnow p ⟨x⟩ := rfl
theorem w_Nil {k : Bool → Prop} : nilQ es k = @bNil es ⟨k⟩ := rfl
theorem w_At {k : List PV → Prop} : at1 m p k = @bAt m p ⟨k⟩ := rfl
theorem w_Row1 {k : List (List PV) → Prop} : row1 m p k = @bRow1 m p ⟨k⟩ := rfl
theorem w_Cells {k : List PV → Prop} : cells p k = @bCells p ⟨k⟩ := rfl
theorem w_Part {l : List PV} {k : List (List PV) → Prop} : partCells l k = @bPart l ⟨k⟩ := rfl
theorem w_Fill {pl : List (Nat × Nat)} {cs : List PV} {l : List (Nat × PV)} {k : List PV → Prop} : fillB pl cs l k = @bFill pl cs l ⟨k⟩ := rfl
theorem w_Does {P : Program} {f : FuncId} {args : List PV} {np : Nat} {k : PV → Mem → Prop} : Does P f args m np k = @bDoes P f args m np ⟨k⟩ ⟨fun _ => False⟩ := rfl
theorem w_DoesR {P : Program} {f : FuncId} {args : List PV} {np : Nat} {k : PV → Mem → Prop} {R : Value → Prop} : DoesR P f args m np k R = @bDoes P f args m np ⟨k⟩ ⟨R⟩ := rfl
theorem w_Loop {n : Nat} {body : KF → Tm → Mem → Prop} {live : List Nat} {K : KF} {tm : Tm} : LoopP n body live K tm m = @bLoop n ⟨body⟩ live ⟨K⟩ tm m := rfl
theorem e_S {k : α → Prop} : @bS α (some a) ⟨k⟩ = k a := rfl
theorem e_S0 {k : K1 α} : @bS α none k = False := rfl
theorem e_Int {kd : IntKind} {n : Int} {k : IntKind → Int → Prop} : @bInt (.val (.int kd n)) ⟨k⟩ = k kd n := rfl
theorem e_Bool {b : Bool} {k : Bool → Prop} : @bBool (.val (.bool b)) ⟨k⟩ = k b := rfl
theorem e_Str {s : ByteArray} {k : ByteArray → Prop} : @bStr (.val (.string s)) ⟨k⟩ = k s := rfl
theorem e_Val {x : Value} {k : Value → Prop} : @bVal (.val x) ⟨k⟩ = k x := rfl
theorem e_ValA1 {x : Value} {k : Value → Prop} {ka : K1 (List PV)} : @bValA (.val x) ⟨k⟩ ka = k x := rfl
theorem e_ValA2 {cs : List PV} {k : K1 Value} {ka : List PV → Prop} : @bValA (.agg cs) k ⟨ka⟩ = ka cs := rfl
theorem e_Agg {cs : List PV} {k : List PV → Prop} : @bAgg (.agg cs) ⟨k⟩ = k cs := rfl
theorem e_Tup {l : List PV} {k : List PV → Prop} : @bTup (.tup l) ⟨k⟩ = k l := rfl
theorem e_Fn {g : FuncId} {l : List PV} {k : FuncId → List PV → Prop} : @bFn (.fn g l) ⟨k⟩ = k g l := rfl
section
variable {ka : Nat → Nat → Prop} {ke : Nat → Nat → Nat → Prop} {kc : List PV → Prop} {i j b h l : Nat} {cs : List PV}
theorem e_Ptr1 : @bPtr (.adr i j) ⟨ka⟩ ⟨ke⟩ ⟨kc⟩ = ka i j := rfl
theorem e_Ptr2 : @bPtr (.ead b i j) ⟨ka⟩ ⟨ke⟩ ⟨kc⟩ = ke b i j := rfl
theorem e_Ptr3 : @bPtr (.cad cs) ⟨ka⟩ ⟨ke⟩ ⟨kc⟩ = kc cs := rfl
variable {ks : List (List PV) → Prop} {ko : Nat → Prop} {kn : Prop}
theorem e_Row1 : @bRow (.sl es) ⟨ks⟩ ⟨ko⟩ ⟨ke⟩ = ks es := rfl
theorem e_Row2 : @bRow (.own b) ⟨ks⟩ ⟨ko⟩ ⟨ke⟩ = ko b := rfl
theorem e_Row3 : @bRow (.osl b l h) ⟨ks⟩ ⟨ko⟩ ⟨ke⟩ = ke b l h := rfl
theorem e_App1 {kq : Nat → Nat → Nat → Prop} : @bApp (.own b) ⟨ko⟩ ⟨ka⟩ ⟨kn⟩ ⟨kq⟩ = ko b := rfl
theorem e_App2 {kq : Nat → Nat → Nat → Prop} : @bApp (.osl b 0 h) ⟨ko⟩ ⟨ka⟩ ⟨kn⟩ ⟨kq⟩ = ka b h := rfl
theorem e_App3 {kq : Nat → Nat → Nat → Prop} : @bApp (.val (.slice none 0 0)) ⟨ko⟩ ⟨ka⟩ ⟨kn⟩ ⟨kq⟩ = kn := rfl
theorem e_App4 {l : Nat} {kq : Nat → Nat → Nat → Prop} : @bApp (.osl b (l + 1) h) ⟨ko⟩ ⟨ka⟩ ⟨kn⟩ ⟨kq⟩ = kq b (l + 1) h := rfl
theorem e_At1 : @bAt m (.adr b i) ⟨kc⟩ = onVarB m[b]? fun cs => kc (cs.drop i) := rfl
theorem e_At2 : @bAt m (.ead b i j) ⟨kc⟩ = onRowB m[b]? fun _ es => onS es[i]? fun e => kc (e.drop j) := rfl
theorem e_At3 : @bAt m (.cad cs) ⟨kc⟩ = kc cs := rfl
theorem e_Rw1 : @bRow1 m (.sl es) ⟨ks⟩ = ks es := rfl
theorem e_Rw2 : @bRow1 m (.own b) ⟨ks⟩ = onRowB m[b]? fun _ es => ks es := rfl
theorem e_Rw3 : @bRow1 m (.osl b l h) ⟨ks⟩ = onRowB m[b]? fun _ es => ks ((es.take h).drop l) := rfl
theorem e_Rw4 : @bRow1 m (.val (.slice none 0 0)) ⟨ks⟩ = ks [] := rfl
theorem e_Ce1 : @bCells (.agg cs) ⟨kc⟩ = kc cs := rfl
theorem e_Ce2 {x : Value} : @bCells (.val x) ⟨kc⟩ = need (x.oneCell' = true) (kc [.val x]) := rfl
theorem e_Ce3 : @bCells (.sl es) ⟨kc⟩ = kc [.sl es] := rfl
theorem e_Ce4 : @bCells (.own b) ⟨kc⟩ = kc [.own b] := rfl
theorem e_Ce5 : @bCells (.osl b l h) ⟨kc⟩ = kc [.osl b l h] := rfl
theorem e_Ce6 : @bCells (.adr b i) ⟨kc⟩ = kc [.adr b i] := rfl
theorem e_Ce7 {f : FuncId} : @bCells (.fn f cs) ⟨kc⟩ = kc [.fn f cs] := rfl
theorem e_Pt1 : @bPart [] ⟨ks⟩ = ks [] := rfl
theorem e_Pt2 : @bPart (p :: cs) ⟨ks⟩ = cells p fun c => partCells cs fun l => ks (c :: l) := rfl
theorem e_Fi1 {pl : List (Nat × Nat)} : @bFill pl cs [] ⟨kc⟩ = kc cs := rfl
theorem e_Fi2 {pl : List (Nat × Nat)} {q : List (Nat × PV)} : @bFill pl cs ((i, p) :: q) ⟨kc⟩ = onS pl[i]? fun x => cells p fun ns => need (ns.length = x.2 ∧ x.1 + ns.length ≤ cs.length) (fillB pl (splice cs x.1 ns) q kc) := rfl
end
theorem e_RowB {e : TypeId} {k : TypeId → List (List PV) → Prop} : @bRowB (some (.row e es)) ⟨k⟩ = k e es := rfl
theorem e_VarB {cs : List PV} {k : List PV → Prop} : @bVarB (some (.var cs)) ⟨k⟩ = k cs := rfl
theorem e_One {k : α → Prop} : @bOne α [a] ⟨k⟩ = k a := rfl
theorem e_Two {b : α} {k : α → α → Prop} : @bTwo α [a, b] ⟨k⟩ = k a b := rfl
variable {x y q : Prop} {b : Bool}
theorem e_If1 {y : Th} : @bIf true ⟨x⟩ y = x := by unfold bIf ifB; exact if_pos rfl
theorem e_If0 {x : Th} : @bIf false x ⟨y⟩ = y := by unfold bIf ifB; exact if_neg Bool.false_ne_true
theorem e_Need : @bNeed True ⟨x⟩ = x := true_and x
theorem if_of (h1 : b = true → x) (h0 : b = false → y) : @bIf b ⟨x⟩ ⟨y⟩ := by
  cases b
  · rw [e_If0]; exact h0 rfl
  · rw [e_If1]; exact h1 rfl
theorem ifD_of [Decidable q] (h1 : q → x) (h0 : ¬ q → y) : @bIf (decide q) ⟨x⟩ ⟨y⟩ := if_of (fun h => h1 (of_decide_eq_true h)) (fun h => h0 (of_decide_eq_false h))
theorem ifE_of {i j : Int} (h1 : i = j → x) (h0 : i ≠ j → y) : @bIf (i == j) ⟨x⟩ ⟨y⟩ := if_of (fun h => h1 (by simpa using h)) (fun h => h0 (by simpa using h))
theorem ifN_of {i j : Int} (h1 : i ≠ j → x) (h0 : i = j → y) : @bIf (i != j) ⟨x⟩ ⟨y⟩ := if_of (fun h => h1 (by simpa using h)) (fun h => h0 (by simpa using h))
theorem ifNot_of (h1 : b = false → x) (h0 : b = true → y) : @bIf (!b) ⟨x⟩ ⟨y⟩ := if_of (fun h => h1 (by simpa using h)) (fun h => h0 (by simpa using h))
theorem ifD1 [Decidable q] (h : q) (h1 : x) : @bIf (decide q) ⟨x⟩ ⟨y⟩ := ifD_of (fun _ => h1) (fun h0 => absurd h h0)
theorem ifD0 [Decidable q] (h : ¬ q) (h1 : y) : @bIf (decide q) ⟨x⟩ ⟨y⟩ := ifD_of (fun h0 => absurd h0 h) (fun _ => h1)
theorem ifE1 {i j : Int} (h : i = j) (h1 : x) : @bIf (i == j) ⟨x⟩ ⟨y⟩ := ifE_of (fun _ => h1) (fun h0 => absurd h h0)
theorem ifE0 {i j : Int} (h : i ≠ j) (h1 : y) : @bIf (i == j) ⟨x⟩ ⟨y⟩ := ifE_of (fun h0 => absurd h0 h) (fun _ => h1)
theorem ifN1 {i j : Int} (h : i ≠ j) (h1 : x) : @bIf (i != j) ⟨x⟩ ⟨y⟩ := ifN_of (fun _ => h1) (fun h0 => absurd h0 h)
theorem ifN0 {i j : Int} (h : i = j) (h1 : y) : @bIf (i != j) ⟨x⟩ ⟨y⟩ := ifN_of (fun h0 => absurd h h0) (fun _ => h1)
theorem idx_get {α : Type} [Inhabited α] (l : List α) (enc : α → List PV) (i : Int) (h0 : 0 ≤ i) (h : i < (l.length : Int)) : idx (l.map enc) i = some (enc (l.getD i.toNat default)) := by
  unfold idx
  rw [List.length_map, if_pos ⟨by omega, by omega⟩, List.getElem?_map, List.getElem?_eq_getElem (by omega), List.getD_eq_getElem?_getD, List.getElem?_eq_getElem (by omega)]; rfl
theorem drop_getD {α : Type} [Inhabited α] (l : List α) (i : Nat) (h : i < l.length) : l.drop i = l.getD i default :: l.drop (i + 1) := by
  rw [List.drop_eq_getElem_cons h, List.getD_eq_getElem?_getD, List.getElem?_eq_getElem h]; rfl
theorem s_of {k : α → Prop} (h : o = some a) (hk : k a) : @bS α o ⟨k⟩ := by subst h; exact hk
theorem need_of (h1 : q) (h2 : x) : @bNeed q ⟨x⟩ := ⟨h1, h2⟩
theorem know_of (h : q → x) : @bKnow q ⟨x⟩ := h
theorem nil_of {k : Bool → Prop} (h1 : es = [] → k true) (h0 : k false) : @bNil es ⟨k⟩ := fun b hb => by
  cases b
  · exact h0
  · exact h1 (hb rfl)
theorem does_then {P : Program} {f : FuncId} {args : List PV} {np : Nat} {k : PV → Mem → Prop} {R : K1 Value} (h : Does P f args m np k) : @bDoes P f args m np ⟨k⟩ R := DoesR.mono h (fun _ _ h => h) fun _ h => h.elim
theorem does_thenR {P : Program} {f : FuncId} {args : List PV} {np : Nat} {k : PV → Mem → Prop} {R : Value → Prop} (h : DoesR P f args m np k R) : @bDoes P f args m np ⟨k⟩ ⟨R⟩ := h
theorem loop_then {n : Nat} {body : KF → Tm → Mem → Prop} {live : List Nat} {K : KF} {tm : Tm} (h : LoopP n body live K tm m) : @bLoop n ⟨body⟩ live ⟨K⟩ tm m := h
end
attribute [go_sem ↓] w_S w_Int w_Bool w_Str w_Val w_ValA w_Agg w_Tup w_Fn w_Ptr w_Row w_App w_both w_RowB w_VarB w_One w_Two w_If w_Need w_Know w_Nil w_At w_Row1 w_Cells w_Part w_Fill w_Does w_DoesR w_Loop w_Join
attribute [go_sem] e_S e_S0 e_Int e_Bool e_Str e_Val e_ValA1 e_ValA2 e_Agg eqGo e_Tup e_Fn e_Ptr1 e_Ptr2 e_Ptr3 e_Row1 e_Row2 e_Row3 e_App1 e_App2 e_App3 e_App4 e_At1 e_At2 e_At3 e_Rw1 e_Rw2 e_Rw3 e_Rw4 e_Ce1 e_Ce2 e_Ce3 e_Ce4 e_Ce5 e_Ce6 e_Ce7 e_Pt1 e_Pt2 e_Fi1 e_Fi2 e_RowB e_VarB e_One e_Two e_If1 e_If0 e_Need
theorem fit_oneF {P : Program} {e : TypeId} {n : Nat} (h1 : rowSize P e = some n) (h2 : flatT P e = true) (c : List PV) : Fit P e [c] = ((c.length == n && pures c && c.all flatP) = true) := by
  simp only [Bool.and_eq_true, beq_iff_eq, List.all_eq_true, eq_iff_iff]
  constructor
  · intro h
    obtain ⟨h3, h4, h5⟩ := h c (List.mem_singleton.2 rfl)
    rw [h1] at h3
    exact ⟨⟨(Option.some.inj h3).symm, h4⟩, h5 h2⟩
  · rintro ⟨⟨h3, h4⟩, h5⟩ x hx
    obtain rfl := List.mem_singleton.1 hx
    exact ⟨by rw [h1, h3], h4, fun _ => h5⟩
theorem fit_one {P : Program} {e : TypeId} {n : Nat} (h1 : rowSize P e = some n) (h2 : flatT P e = false) (c : List PV) : Fit P e [c] = ((c.length == n && pures c) = true) := by
  simp only [Bool.and_eq_true, beq_iff_eq, eq_iff_iff]
  constructor
  · intro h
    obtain ⟨h3, h4, h5⟩ := h c (List.mem_singleton.2 rfl)
    rw [h1] at h3
    exact ⟨(Option.some.inj h3).symm, h4⟩
  · rintro ⟨h3, h4⟩ x hx
    obtain rfl := List.mem_singleton.1 hx
    exact ⟨by rw [h1, h3], h4, fun hf => by rw [h2] at hf; cases hf⟩
theorem fit_map {P : Program} {e : TypeId} {α : Type} (enc : α → List PV) (h : ∀ a, Fit P e [enc a]) (l : List α) : Fit P e (l.map enc) := by
  intro c hc
  obtain ⟨a, _, rfl⟩ := List.mem_map.1 hc
  exact h a _ (List.mem_singleton.2 rfl)
theorem bq1 (b : Bool) : (b == true) = b := by cases b <;> rfl
theorem bq2 (b : Bool) : (b == false) = !b := by cases b <;> rfl
theorem bq3 (b : Bool) (x y : Th) : @bIf (!b) x y = @bIf b y x := by cases b <;> rfl
theorem okB_l {n : Int} : okB (.int .i64 n) = decide (-9223372036854775808 ≤ n ∧ n ≤ 9223372036854775807) := by simp [okB, IntKind.min, IntKind.max, IntKind.bits, IntKind.signed]
theorem okB_lu {n : Int} : okB (.int .u64 n) = decide (0 ≤ n ∧ n ≤ 18446744073709551615) := by simp [okB, IntKind.min, IntKind.max, IntKind.bits, IntKind.signed]
theorem okB_b {b : Bool} : okB (.bool b) = true := rfl
theorem okB_n : okB (.slice none 0 0) = true := rfl
theorem okB_s {s : ByteArray} : okB (.string s) = decide (s.size ≤ 140737488355328) := rfl
section
variable {a b : Value} {k : Prop} {x y : Int}
theorem l_lss : learn .lss a b k = k := by unfold learn; split <;> first | rfl | contradiction
theorem l_leq : learn .leq a b k = k := by unfold learn; split <;> first | rfl | contradiction
theorem l_gtr : learn .gtr a b k = k := by unfold learn; split <;> first | rfl | contradiction
theorem l_geq : learn .geq a b k = k := by unfold learn; split <;> first | rfl | contradiction
theorem l_eql : learn .eql a b k = k := by unfold learn; split <;> first | rfl | contradiction
theorem l_neq : learn .neq a b k = k := by unfold learn; split <;> first | rfl | contradiction
theorem l_add : learn .add (.int .i64 x) (.int .i64 y) k = know (-9223372036854775808 ≤ x ∧ x ≤ 9223372036854775807 ∧ -9223372036854775808 ≤ y ∧ y ≤ 9223372036854775807) k := rfl
theorem l_sub : learn .sub (.int .i64 x) (.int .i64 y) k = know (-9223372036854775808 ≤ x ∧ x ≤ 9223372036854775807 ∧ -9223372036854775808 ≤ y ∧ y ≤ 9223372036854775807) k := rfl
theorem l_mul : learn .mul (.int .i64 x) (.int .i64 y) k = know (-9223372036854775808 ≤ x ∧ x ≤ 9223372036854775807 ∧ -9223372036854775808 ≤ y ∧ y ≤ 9223372036854775807) k := rfl
theorem l_quo : learn .quo (.int .i64 x) (.int .i64 y) k = know (-9223372036854775808 ≤ x ∧ x ≤ 9223372036854775807 ∧ -9223372036854775808 ≤ y ∧ y ≤ 9223372036854775807) k := rfl
theorem l_rem : learn .rem (.int .i64 x) (.int .i64 y) k = know (-9223372036854775808 ≤ x ∧ x ≤ 9223372036854775807 ∧ -9223372036854775808 ≤ y ∧ y ≤ 9223372036854775807) k := rfl
theorem l_addu : learn .add (.int .u64 x) (.int .u64 y) k = know (0 ≤ x ∧ x ≤ 18446744073709551615 ∧ 0 ≤ y ∧ y ≤ 18446744073709551615) k := rfl
theorem l_subu : learn .sub (.int .u64 x) (.int .u64 y) k = know (0 ≤ x ∧ x ≤ 18446744073709551615 ∧ 0 ≤ y ∧ y ≤ 18446744073709551615) k := rfl
theorem l_quou : learn .quo (.int .u64 x) (.int .u64 y) k = know (0 ≤ x ∧ x ≤ 18446744073709551615 ∧ 0 ≤ y ∧ y ≤ 18446744073709551615) k := rfl
theorem l_remu : learn .rem (.int .u64 x) (.int .u64 y) k = know (0 ≤ x ∧ x ≤ 18446744073709551615 ∧ 0 ≤ y ∧ y ≤ 18446744073709551615) k := rfl
theorem l_and : learn .and a b k = k := by unfold learn; split <;> first | rfl | contradiction
theorem l_shr : learn .shr a b k = k := by unfold learn; split <;> first | rfl | contradiction
theorem l_mulu : learn .mul (.int .u64 x) (.int .u64 y) k = k := rfl
theorem l_adds {s t : ByteArray} : learn .add (.string s) (.string t) k = k := rfl
theorem l1_i : learn1 (.int .i64 x) k = know (-9223372036854775808 ≤ x ∧ x ≤ 9223372036854775807) k := rfl
theorem l1_u : learn1 (.int .u64 x) k = know (0 ≤ x ∧ x ≤ 18446744073709551615) k := rfl
theorem l1_b {b : Bool} : learn1 (.bool b) k = k := rfl
end
attribute [go_sem] l_mulu u64w l_and l_shr l_adds l1_i l1_u l1_b l_lss l_leq l_gtr l_geq l_eql l_neq l_add l_sub l_mul l_quo l_rem l_addu l_subu l_quou l_remu
attribute [go_sem] okB_l okB_lu okB_b okB_n okB_s okC
attribute [go_sem] undef bq1 bq2 bq3
theorem bb1 : (true == false) = false := rfl
theorem bb2 : (false == true) = false := rfl
theorem bb3 : (true == true) = true := rfl
theorem bb4 : (false == false) = true := rfl
attribute [go_sem] List.all_nil List.all_cons bb1 bb2 bb3 bb4
theorem idx_of {α : Type} (l : List α) (enc : α → List PV) (i : Nat) (h : i < l.length) : idx (l.map enc) (i : Int) = some (enc l[i]) := by
  unfold idx
  rw [List.length_map, if_pos ⟨by omega, by omega⟩, List.getElem?_map, Int.toNat_natCast, List.getElem?_eq_getElem h]; rfl
theorem idx_at {α : Type} (l : List α) (enc : α → List PV) (i : Int) (h0 : 0 ≤ i) (h : i < (l.length : Int)) : idx (l.map enc) i = some (enc (l[i.toNat]'(by omega))) := by
  unfold idx
  rw [List.length_map, if_pos ⟨by omega, by omega⟩, List.getElem?_map, List.getElem?_eq_getElem (by omega)]; rfl
theorem wnat (i : Nat) (h : i < 9223372036854775807) : w64 ((i : Int) + 1) = ((i + 1 : Nat) : Int) := by
  rw [w64_of _ (by omega)]; omega
theorem map_get {α : Type} [Inhabited α] (l : List α) (enc : α → List PV) (i : Nat) (h : i < l.length) : (l.map enc)[i]? = some (enc (l.getD i default)) := by
  rw [List.getElem?_map, List.getElem?_eq_getElem h, List.getD_eq_getElem?_getD, List.getElem?_eq_getElem h]; rfl
theorem fit_nil {P : Program} {e : TypeId} : Fit P e [] = True := eq_true fun c hc => by cases hc
theorem fit_two {P : Program} {e : TypeId} {a b : List PV} : Fit P e [a, b] = (Fit P e [a] ∧ Fit P e [b]) := by
  apply propext; constructor
  · intro h; exact ⟨fun c hc => h c (by simp at hc; subst hc; simp), fun c hc => h c (by simp at hc; subst hc; simp)⟩
  · rintro ⟨h1, h2⟩ c hc
    simp at hc
    rcases hc with rfl | rfl
    · exact h1 _ (by simp)
    · exact h2 _ (by simp)
attribute [go_sem] fit_nil fit_two
end Go.V
