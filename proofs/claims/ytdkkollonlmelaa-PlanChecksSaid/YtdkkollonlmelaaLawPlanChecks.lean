-- Written by this session's own program (wip/tools/ownprint.sh)
import Derived.Test.YtdkkollonlmelaaRows
import Derived.Test.YtdkkollonlmelaaQPlanChecksx18
import Derived.Test.YtdkkollonlmelaaPurePlanChecks
import Derived.Test.YtdkkollonlmelaaRPlanChecksOpen
import Derived.WalkKit
import Derived.ProofKit
import Derived.OpenShut
import Derived.ShutString
import Derived.ChangeOld
import Derived.Below
import Derived.SizedLaws
import Derived.Carry
namespace Go.Proofs.Ytdkkollonlmelaa.planChecks
open Go.ChangeShapes Go.WideShapes Go.ChangeAt Go.RowKit Go.Proofs.Ytdkkollonlmelaa.QPlanChecks Go.Proofs.YtdkkollonlmelaaW.PrintWords
set_option linter.unusedVariables false
theorem own : ownKnob Try.prog.godebug = none := by kernel_rfl
theorem laidOut : laidOutB Try.prog = true := by kernel_rfl
theorem opens128 : Open.Opens Try.prog 128 k128 wfS128 := Open.opens_struct (g := fun y => ⟨y.1, y.2.1, y.2.2⟩) Try.underlying128 (by kernel_rfl) (fun _ => rfl) (Open.opensF_cons (by kernel_rfl) (Open.opens_int Try.underlying3) (Open.opensF_cons (by kernel_rfl) (Open.opens_int Try.underlying3) (Open.opensF_one (by kernel_rfl) (Open.opens_string Try.underlying9))))
theorem opens42 : Open.Opens Try.prog 42 k42 wfS42 := Open.opens_struct (g := fun y => ⟨y.1, y.2.1, y.2.2.1, y.2.2.2.1, y.2.2.2.2.1, y.2.2.2.2.2.1, y.2.2.2.2.2.2.1, y.2.2.2.2.2.2.2.1, y.2.2.2.2.2.2.2.2⟩) Try.underlying42 (by kernel_rfl) (fun _ => rfl) (Open.opensF_cons (by kernel_rfl) (Open.opens_int Try.underlying3) (Open.opensF_cons (by kernel_rfl) (Open.opens_slice (B := 8) Try.underlying23 (by kernel_rfl) (by kernel_rfl) (Open.opens_int Try.underlying3)) (Open.opensF_cons (by kernel_rfl) (Open.opens_slice (B := 8) Try.underlying23 (by kernel_rfl) (by kernel_rfl) (Open.opens_int Try.underlying3)) (Open.opensF_cons (by kernel_rfl) (Open.opens_slice (B := 24) Try.underlying40 (by kernel_rfl) (by kernel_rfl) (Open.opens_slice (B := 32) Try.underlying93 (by kernel_rfl) (by kernel_rfl) opens128)) (Open.opensF_cons (by kernel_rfl) (Open.opens_slice (B := 8) Try.underlying23 (by kernel_rfl) (by kernel_rfl) (Open.opens_int Try.underlying3)) (Open.opensF_cons (by kernel_rfl) (Open.opens_int Try.underlying3) (Open.opensF_cons (by kernel_rfl) (Open.opens_int Try.underlying3) (Open.opensF_cons (by kernel_rfl) (Open.opens_int Try.underlying3) (Open.opensF_one (by kernel_rfl) (Open.opens_int Try.underlying3))))))))))
theorem opens25 : Open.Opens Try.prog 25 k25 wfS25 := Open.opens_struct (g := fun y => ⟨y.1, y.2.1, y.2.2⟩) Try.underlying25 (by kernel_rfl) (fun _ => rfl) (Open.opensF_cons (by kernel_rfl) (Open.opens_slice (B := 136) Try.underlying22 (by kernel_rfl) (by kernel_rfl) opens42) (Open.opensF_cons (by kernel_rfl) (Open.opens_slice (B := 8) Try.underlying23 (by kernel_rfl) (by kernel_rfl) (Open.opens_int Try.underlying3)) (Open.opensF_one (by kernel_rfl) (Open.opens_int Try.underlying3))))
set_option maxRecDepth 100000 in
theorem lifted (os : Os) (started : os.Started) (H : Type) (enc : TypeId × Value → H) :
    ReturnsInHanded {} Try.checked os 3 .any (Rows.planChecksSpec.pre6 enc Try.prog Try.f3 Rows.planChecksRow.domain false) (Rows.planChecksSpec.post enc Try.prog Try.f3 false true false false) := by
  refine returnsInHanded_of_change_sized (C := Try.checked) own started (by kernel_rfl) Try.func3
    (ChangeSpec.witness6 (enc := enc) (C := Try.checked) false ⟨#[], #[.agg #[.slice none 0 0, .slice none 0 0, .int .i64 0]], []⟩ 8 (by kernel_rfl) (by kernel_rfl) (by kernel_rfl) (by kernel_rfl)) ?_
  intro W base args ds gs before hval0 hW hcnd hsz0 _
  have hsz : (DataW.weightsEach Try.prog (Try.f3.params.toList ++ Rows.planChecksSpec.plain.varTypes Try.prog) (ds ++ gs)).all (· ≤ reachBytes) = true := hsz0
  have hval : ∀ (j : Nat) t v, Try.f3.params[j]? = some t → args[j]? = some v → Value.okWide Try.prog W .any base t v := hval0
  have hW' := hW
  obtain ⟨p, q, hA0, hV, rfl, hfz, hnd⟩ := hW
  have hA : DataW.TrodAll enc Try.prog W 0 (fun _ => true) true Try.f3.params.toList args.toList ds p := hA0
  rw [Try.params3] at hA hval hsz
  obtain ⟨v0, vs0, d0, ds0, p0, q0, hargs, rfl, rfl, h0, r0⟩ := trodAll_cons hA
  obtain ⟨rfl, rfl, rfl⟩ := trodAll_nil r0
  obtain rfl : args = #[v0] := by cases args; simp_all
  obtain ⟨rfl, rfl⟩ := trodVars_none hV
  obtain ⟨y0, K0, w0⟩ := Open.opens_arg opens25 h0 hsz (j := 0) rfl rfl
  have k0 := h0
  have lt0 : ∀ x ∈ p0, x.block < W.heap.size := by obtain ⟨m, hm⟩ := k0; exact DataW.trod_lt m _ _ _ hm
  obtain ⟨cs0, rfl, _⟩ := okWide_struct Try.underlying25 (hval 0 25 v0 rfl rfl)
  obtain ⟨cs0⟩ := cs0
  obtain ⟨A0_0, c0_0, A0_1, c0_1, hcs0, hl0_0, hC0_0, hl0_1, hC0_1⟩ := k25_open K0
  replace hcs0 : cs0 = _ := hcs0
  subst hcs0
  clear hA0 hval0 hsz0 hsz
  refine (QPlanChecks.runnellaw16_PlanChecks.walk Pure.PlanChecks _ _ y0.f0 _ _ y0.f1 y0.f2 W hC0_0 hl0_0 hC0_1 hl0_1 w0).mono fun e W' ⟨he, bel⟩ => ?_
  subst he
  exact ⟨_, rfl, _, _, _, [], _, [], hW', trodAll_mk1 (shut_bool Try.underlying4 _), (trodAll_cons_mk (Below.trod laidOut (by kernel_rfl) (of_decide_eq_true (by kernel_rfl)) k0 bel lt0) trodAll_mk0), rfl, bel.frame _, fun h => by cases h⟩
theorem over : Rows.planChecksRow.holds Try.pinned (OpenSpec.ofChange Rows.planChecksSpec) :=
  OpenClaim.holds_of_wide 3 Try.f3 rfl rfl rfl rfl rfl rfl rfl ⟨rfl, rfl, rfl, rfl, rfl⟩ rfl rfl rfl rfl rfl (by kernel_rfl) Try.func3 (by kernel_rfl)
    (of_decide_eq_true (by kernel_rfl)) (by unfold Func.isWrapper; first | (rw [if_pos (by decide +kernel)]; kernel_rfl) | (rw [if_neg (by decide +kernel)]; exact ⟨rfl, rfl⟩))
    (fun os started H enc _ => lifted os started H enc)
theorem proved : Rows.PlanChecksSaid := over
#print axioms proved
end Go.Proofs.Ytdkkollonlmelaa.planChecks
namespace Go.Proofs.Ytdkkollonlmelaa
/-- The row, under a short name, for the claim. -/
theorem planChecks_holds : Rows.PlanChecksSaid := planChecks.proved
end Go.Proofs.Ytdkkollonlmelaa
