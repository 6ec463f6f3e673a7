-- Written by this session's own program (wip/tools/ownprint.sh)
import Derived.Test.YtmamkmolgbmmaaaRows
import Derived.Test.YtmamkmolgbmmaaaQExprColsx8
import Derived.Test.YtmamkmolgbmmaaaPureExprCols
import Derived.Test.YtmamkmolgbmmaaaOpen
import Derived.WalkKit
import Derived.ProofKit
import Derived.OpenShut
import Derived.ShutString
import Derived.ChangeOld
import Derived.Below
import Derived.SizedLaws
import Derived.Carry
namespace Go.Proofs.Ytmamkmolgbmmaaa.exprCols
open Go.ChangeShapes Go.WideShapes Go.ChangeAt Go.RowKit Go.Proofs.Ytmamkmolgbmmaaa.QExprCols Go.Proofs.YtmamkmolgbmmaaaW.PrintWords
set_option linter.unusedVariables false
theorem own : ownKnob Try.prog.godebug = none := by kernel_rfl
theorem laidOut : laidOutB Try.prog = true := by kernel_rfl
theorem opens41 : Open.Opens Try.prog 41 k41 wfS41 := Open.opens_struct (g := fun y => ⟨y.1, y.2.1, y.2.2⟩) Try.underlying41 (by kernel_rfl) (fun _ => rfl) (Open.opensF_cons (by kernel_rfl) (Open.opens_int Try.underlying3) (Open.opensF_cons (by kernel_rfl) (Open.opens_int Try.underlying3) (Open.opensF_one (by kernel_rfl) (Open.opens_string Try.underlying9))))
set_option maxRecDepth 100000 in
theorem lifted (os : Os) (started : os.Started) (H : Type) (enc : TypeId × Value → H) :
    ReturnsInHanded {} Try.checked os 6 .any (Rows.exprColsSpec.pre6 enc Try.prog Try.f6 Rows.exprColsRow.domain false) (Rows.exprColsSpec.post enc Try.prog Try.f6 false true false false) := by
  refine returnsInHanded_of_change_sized (C := Try.checked) own started (by kernel_rfl) Try.func6
    (ChangeSpec.witness6 (enc := enc) (C := Try.checked) false ⟨#[], #[.slice none 0 0], []⟩ 8 (by kernel_rfl) (by kernel_rfl) (by kernel_rfl) (by kernel_rfl)) ?_
  intro W base args ds gs before hval0 hW hcnd hsz0 _
  have hsz : (DataW.weightsEach Try.prog (Try.f6.params.toList ++ Rows.exprColsSpec.plain.varTypes Try.prog) (ds ++ gs)).all (· ≤ reachBytes) = true := hsz0
  have hval : ∀ (j : Nat) t v, Try.f6.params[j]? = some t → args[j]? = some v → Value.okWide Try.prog W .any base t v := hval0
  have hW' := hW
  obtain ⟨p, q, hA0, hV, rfl, hfz, hnd⟩ := hW
  have hA : DataW.TrodAll enc Try.prog W 0 (fun _ => true) true Try.f6.params.toList args.toList ds p := hA0
  rw [Try.params6] at hA hval hsz
  obtain ⟨v0, vs0, d0, ds0, p0, q0, hargs, rfl, rfl, h0, r0⟩ := trodAll_cons hA
  obtain ⟨rfl, rfl, rfl⟩ := trodAll_nil r0
  obtain rfl : args = #[v0] := by cases args; simp_all
  obtain ⟨rfl, rfl⟩ := trodVars_none hV
  obtain ⟨y0, K0, w0⟩ := Open.opens_arg (Open.opens_slice (B := 32) Try.underlying42 (by kernel_rfl) (by kernel_rfl) opens41) h0 hsz (j := 0) rfl rfl
  have k0 := h0
  have lt0 : ∀ x ∈ p0, x.block < W.heap.size := by obtain ⟨m, hm⟩ := k0; exact DataW.trod_lt m _ _ _ hm
  obtain ⟨a0, len0, cap0, rfl⟩ := okWide_slice Try.underlying42 (hval 0 42 v0 rfl rfl)
  obtain ⟨A0, c0, hcs0, hl0, hC0⟩ := K0
  obtain ⟨rfl, rfl, rfl⟩ : a0 = A0 ∧ len0 = y0.length ∧ cap0 = c0 := by simpa [Value.cells] using hcs0
  clear hA0 hval0 hsz0 hsz
  refine (QExprCols.runnellaw08_ExprCols.walk Pure.ExprCols _ _ y0 W hC0 hl0 w0).mono fun e W' ⟨he, bel⟩ => ?_
  subst he
  exact ⟨_, rfl, _, _, _, [], _, [], hW', trodAll_mk1 (shut_bool Try.underlying4 _), (trodAll_cons_mk (Below.trod laidOut (by kernel_rfl) (of_decide_eq_true (by kernel_rfl)) k0 bel lt0) trodAll_mk0), rfl, bel.frame _, fun h => by cases h⟩
theorem over : Rows.exprColsRow.holds Try.pinned (OpenSpec.ofChange Rows.exprColsSpec) :=
  OpenClaim.holds_of_wide 6 Try.f6 rfl rfl rfl rfl rfl rfl rfl ⟨rfl, rfl, rfl, rfl, rfl⟩ rfl rfl rfl rfl rfl (by kernel_rfl) Try.func6 (by kernel_rfl)
    (of_decide_eq_true (by kernel_rfl)) (by unfold Func.isWrapper; first | (rw [if_pos (by decide +kernel)]; kernel_rfl) | (rw [if_neg (by decide +kernel)]; exact ⟨rfl, rfl⟩))
    (fun os started H enc _ => lifted os started H enc)
theorem proved : Rows.ExprColsSaid := over
#print axioms proved
end Go.Proofs.Ytmamkmolgbmmaaa.exprCols
namespace Go.Proofs.Ytmamkmolgbmmaaa
/-- The row, under a short name, for the claim. -/
theorem exprCols_holds : Rows.ExprColsSaid := exprCols.proved
end Go.Proofs.Ytmamkmolgbmmaaa
