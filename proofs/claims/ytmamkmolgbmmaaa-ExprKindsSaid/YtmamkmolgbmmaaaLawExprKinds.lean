-- Written by this session's own program (wip/tools/ownprint.sh)
import Derived.Test.YtmamkmolgbmmaaaRows
import Derived.Test.YtmamkmolgbmmaaaQExprKindsx9
import Derived.Test.YtmamkmolgbmmaaaPureExprKinds
import Derived.Test.YtmamkmolgbmmaaaRExprKindsOpen
import Derived.WalkKit
import Derived.ProofKit
import Derived.OpenShut
import Derived.ShutString
import Derived.ChangeOld
import Derived.Below
import Derived.SizedLaws
import Derived.Carry
namespace Go.Proofs.Ytmamkmolgbmmaaa.exprKinds
open Go.ChangeShapes Go.WideShapes Go.ChangeAt Go.RowKit Go.Proofs.Ytmamkmolgbmmaaa.QExprKinds Go.Proofs.YtmamkmolgbmmaaaW.PrintWords
set_option linter.unusedVariables false
theorem own : ownKnob Try.prog.godebug = none := by kernel_rfl
theorem laidOut : laidOutB Try.prog = true := by kernel_rfl
theorem opens41 : Open.Opens Try.prog 41 k41 wfS41 := Open.opens_struct (g := fun y => ⟨y.1, y.2.1, y.2.2⟩) Try.underlying41 (by kernel_rfl) (fun _ => rfl) (Open.opensF_cons (by kernel_rfl) (Open.opens_int Try.underlying3) (Open.opensF_cons (by kernel_rfl) (Open.opens_int Try.underlying3) (Open.opensF_one (by kernel_rfl) (Open.opens_string Try.underlying9))))
theorem opens35 : Open.Opens Try.prog 35 k35 wfS35 := Open.opens_struct (g := fun y => ⟨y.1, y.2.1, y.2.2⟩) Try.underlying35 (by kernel_rfl) (fun _ => rfl) (Open.opensF_cons (by kernel_rfl) (Open.opens_int Try.underlying3) (Open.opensF_cons (by kernel_rfl) (Open.opens_int Try.underlying3) (Open.opensF_one (by kernel_rfl) (Open.opens_string Try.underlying9))))
set_option maxRecDepth 100000 in
theorem lifted (os : Os) (started : os.Started) (H : Type) (enc : TypeId × Value → H) :
    ReturnsInHanded {} Try.checked os 5 .any (Rows.exprKindsSpec.pre6 enc Try.prog Try.f5 Rows.exprKindsRow.domain false) (Rows.exprKindsSpec.post enc Try.prog Try.f5 false true false false) := by
  refine returnsInHanded_of_change_sized (C := Try.checked) own started (by kernel_rfl) Try.func5
    (ChangeSpec.witness6 (enc := enc) (C := Try.checked) false ⟨#[], #[.slice none 0 0, .slice none 0 0, .slice none 0 0], []⟩ 8 (by kernel_rfl) (by kernel_rfl) (by kernel_rfl) (by kernel_rfl)) ?_
  intro W base args ds gs before hval0 hW hcnd hsz0 _
  have hsz : (DataW.weightsEach Try.prog (Try.f5.params.toList ++ Rows.exprKindsSpec.plain.varTypes Try.prog) (ds ++ gs)).all (· ≤ reachBytes) = true := hsz0
  have hval : ∀ (j : Nat) t v, Try.f5.params[j]? = some t → args[j]? = some v → Value.okWide Try.prog W .any base t v := hval0
  have hW' := hW
  obtain ⟨p, q, hA0, hV, rfl, hfz, hnd⟩ := hW
  have hA : DataW.TrodAll enc Try.prog W 0 (fun _ => true) true Try.f5.params.toList args.toList ds p := hA0
  rw [Try.params5] at hA hval hsz
  obtain ⟨v0, vs0, d0, ds0, p0, q0, hargs, rfl, rfl, h0, r0⟩ := trodAll_cons hA
  obtain ⟨v1, vs1, d1, ds1, p1, q1, rfl, rfl, rfl, h1, r1⟩ := trodAll_cons r0
  obtain ⟨v2, vs2, d2, ds2, p2, q2, rfl, rfl, rfl, h2, r2⟩ := trodAll_cons r1
  obtain ⟨rfl, rfl, rfl⟩ := trodAll_nil r2
  obtain rfl : args = #[v0, v1, v2] := by cases args; simp_all
  obtain ⟨rfl, rfl⟩ := trodVars_none hV
  obtain ⟨y0, K0, w0⟩ := Open.opens_arg (Open.opens_slice (B := 32) Try.underlying42 (by kernel_rfl) (by kernel_rfl) opens41) h0 hsz (j := 0) rfl rfl
  have k0 := h0
  have lt0 : ∀ x ∈ p0, x.block < W.heap.size := by obtain ⟨m, hm⟩ := k0; exact DataW.trod_lt m _ _ _ hm
  obtain ⟨a0, len0, cap0, rfl⟩ := okWide_slice Try.underlying42 (hval 0 42 v0 rfl rfl)
  obtain ⟨A0, c0, hcs0, hl0, hC0⟩ := K0
  obtain ⟨rfl, rfl, rfl⟩ : a0 = A0 ∧ len0 = y0.length ∧ cap0 = c0 := by simpa [Value.cells] using hcs0
  obtain ⟨y1, K1, w1⟩ := Open.opens_arg (Open.opens_slice (B := 32) Try.underlying23 (by kernel_rfl) (by kernel_rfl) opens35) h1 hsz (j := 1) rfl rfl
  have k1 := h1
  have lt1 : ∀ x ∈ p1, x.block < W.heap.size := by obtain ⟨m, hm⟩ := k1; exact DataW.trod_lt m _ _ _ hm
  obtain ⟨a1, len1, cap1, rfl⟩ := okWide_slice Try.underlying23 (hval 1 23 v1 rfl rfl)
  obtain ⟨A1, c1, hcs1, hl1, hC1⟩ := K1
  obtain ⟨rfl, rfl, rfl⟩ : a1 = A1 ∧ len1 = y1.length ∧ cap1 = c1 := by simpa [Value.cells] using hcs1
  obtain ⟨y2, K2, w2⟩ := Open.opens_arg (Open.opens_slice (B := 32) Try.underlying23 (by kernel_rfl) (by kernel_rfl) opens35) h2 hsz (j := 2) rfl rfl
  have k2 := h2
  have lt2 : ∀ x ∈ p2, x.block < W.heap.size := by obtain ⟨m, hm⟩ := k2; exact DataW.trod_lt m _ _ _ hm
  obtain ⟨a2, len2, cap2, rfl⟩ := okWide_slice Try.underlying23 (hval 2 23 v2 rfl rfl)
  obtain ⟨A2, c2, hcs2, hl2, hC2⟩ := K2
  obtain ⟨rfl, rfl, rfl⟩ : a2 = A2 ∧ len2 = y2.length ∧ cap2 = c2 := by simpa [Value.cells] using hcs2
  clear hA0 hval0 hsz0 hsz
  refine (QExprKinds.runnellaw08_ExprKinds.walk Pure.ExprKinds _ _ y0 _ _ y1 _ _ y2 W hC0 hl0 hC1 hl1 hC2 hl2 w0 w1 w2).mono fun e W' ⟨he, bel⟩ => ?_
  subst he
  exact ⟨_, rfl, _, _, _, [], _, [], hW', trodAll_mk1 (shut_bool Try.underlying4 _), (trodAll_cons_mk (Below.trod laidOut (by kernel_rfl) (of_decide_eq_true (by kernel_rfl)) k0 bel lt0) (trodAll_cons_mk (Below.trod laidOut (by kernel_rfl) (of_decide_eq_true (by kernel_rfl)) k1 bel lt1) (trodAll_cons_mk (Below.trod laidOut (by kernel_rfl) (of_decide_eq_true (by kernel_rfl)) k2 bel lt2) trodAll_mk0))), rfl, bel.frame _, fun h => by cases h⟩
theorem over : Rows.exprKindsRow.holds Try.pinned (OpenSpec.ofChange Rows.exprKindsSpec) :=
  OpenClaim.holds_of_wide 5 Try.f5 rfl rfl rfl rfl rfl rfl rfl ⟨rfl, rfl, rfl, rfl, rfl⟩ rfl rfl rfl rfl rfl (by kernel_rfl) Try.func5 (by kernel_rfl)
    (of_decide_eq_true (by kernel_rfl)) (by unfold Func.isWrapper; first | (rw [if_pos (by decide +kernel)]; kernel_rfl) | (rw [if_neg (by decide +kernel)]; exact ⟨rfl, rfl⟩))
    (fun os started H enc _ => lifted os started H enc)
theorem proved : Rows.ExprKindsSaid := over
#print axioms proved
end Go.Proofs.Ytmamkmolgbmmaaa.exprKinds
namespace Go.Proofs.Ytmamkmolgbmmaaa
/-- The row, under a short name, for the claim. -/
theorem exprKinds_holds : Rows.ExprKindsSaid := exprKinds.proved
end Go.Proofs.Ytmamkmolgbmmaaa
