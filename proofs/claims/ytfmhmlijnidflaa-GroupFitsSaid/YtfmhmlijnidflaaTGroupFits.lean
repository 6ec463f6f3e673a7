/- Law GroupFits of layer 15 answers true for every kind, key and number, all kinds of columns and all counts, and its arguments read behind the call as before; conditions: none but the given row. -/
import Derived.Test.YtfmhmlijnidflaaRows
import Derived.Test.YtfmhmlijnidflaaO1
import Derived.Test.YtfmhmlijnidflaaGZ
import Derived.WalkKit
import Derived.ProofKit
import Derived.OpenShut
import Derived.ShutString
import Derived.ChangeOld
import Derived.Below
import Derived.SizedLaws
import Derived.Carry
namespace Go.V
def eTm (t : Time) : List PV := [vi t.epoch, vi t.round]
end Go.V
namespace Go.Proofs.Ytfmhmlijnidflaa.groupFits
set_option maxRecDepth 100000
open Go.ChangeShapes Go.WideShapes Go.ChangeAt Go.RowKit
set_option linter.unusedVariables false
theorem own : ownKnob Try.prog.godebug = none := by kernel_rfl
theorem laidOut : laidOutB Try.prog = true := by kernel_rfl
theorem opens47 : V.Opens Try.prog 47 3 V.eV (fun _ => True) := V.opens_struct (g := fun (y : (Int) × (Int) × (ByteArray)) => (⟨y.1, y.2.1, y.2.2⟩ : V.Val)) Try.underlying47 (by kernel_rfl) (V.opensF_cons (V.opens_int Try.underlying3 (by kernel_rfl)) (V.opensF_cons (V.opens_int Try.underlying3 (by kernel_rfl)) (V.opensF_one (V.opens_string Try.underlying9 (by kernel_rfl))) rfl) rfl) (fun _ => rfl) (fun _ => rfl) (fun _ _ => trivial)
theorem opens59 : V.Opens Try.prog 59 2 V.eC (fun _ => True) := V.opens_struct (g := fun (y : (List (V.Val)) × (Int)) => (⟨y.1, y.2⟩ : V.Count)) Try.underlying59 (by kernel_rfl) (V.opensF_cons (V.opens_slice (B := 32) Try.underlying39 (by kernel_rfl) (by kernel_rfl) opens47) (V.opensF_one (V.opens_int Try.underlying3 (by kernel_rfl))) rfl) (fun _ => rfl) (fun _ => rfl) (fun _ _ => trivial)
theorem lifted (os : Os) (started : os.Started) (H : Type) (enc : TypeId × Value → H) :
    ReturnsInHanded {} Try.checked os 6 .any (Rows.groupFitsSpec.pre6 enc Try.prog Try.f6 Rows.groupFitsRow.domain false) (Rows.groupFitsSpec.post enc Try.prog Try.f6 false true false false) := by
  refine returnsInHanded_of_change_sized (C := Try.checked) own started (by kernel_rfl) Try.func6
    (ChangeSpec.witness6 (enc := enc) (C := Try.checked) false ⟨#[], #[.int .i64 0, .int .i64 0, .int .i64 0, .slice none 0 0, .slice none 0 0], []⟩ 8 (by kernel_rfl) (by kernel_rfl) (by kernel_rfl) (by kernel_rfl)) ?_
  intro W base args ds gs before hval0 hW hcnd hsz0 _
  have hsz : (DataW.weightsEach Try.prog (Try.f6.params.toList ++ Rows.groupFitsSpec.plain.varTypes Try.prog) (ds ++ gs)).all (· ≤ reachBytes) = true := hsz0
  have hval : ∀ (j : Nat) t v, Try.f6.params[j]? = some t → args[j]? = some v → Value.okWide Try.prog W .any base t v := hval0
  have hW' := hW
  obtain ⟨p, q, hA0, hV, rfl, hfz, hnd⟩ := hW
  have hA : DataW.TrodAll enc Try.prog W 0 (fun _ => true) true Try.f6.params.toList args.toList ds p := hA0
  rw [Try.params6] at hA hval hsz
  obtain ⟨v0, vs0, d0, ds0, p0, q0, hargs, rfl, rfl, h0, r0⟩ := trodAll_cons hA
  obtain ⟨v1, vs1, d1, ds1, p1, q1, rfl, rfl, rfl, h1, r1⟩ := trodAll_cons r0
  obtain ⟨v2, vs2, d2, ds2, p2, q2, rfl, rfl, rfl, h2, r2⟩ := trodAll_cons r1
  obtain ⟨v3, vs3, d3, ds3, p3, q3, rfl, rfl, rfl, h3, r3⟩ := trodAll_cons r2
  obtain ⟨v4, vs4, d4, ds4, p4, q4, rfl, rfl, rfl, h4, r4⟩ := trodAll_cons r3
  obtain ⟨rfl, rfl, rfl⟩ := trodAll_nil r4
  obtain rfl : args = #[v0, v1, v2, v3, v4] := by cases args; simp_all
  obtain ⟨rfl, rfl⟩ := trodVars_none hV
  obtain ⟨y0, K0, w0⟩ := V.opens_arg (V.opens_int Try.underlying3 (by kernel_rfl)) h0 hsz (j := 0) rfl rfl
  have k0 := h0
  have lt0 : ∀ x ∈ p0, x.block < W.heap.size := by obtain ⟨m, hm⟩ := k0; exact DataW.trod_lt m _ _ _ hm
  obtain ⟨a0, rfl⟩ := okWide_int Try.underlying3 (hval 0 3 v0 rfl rfl)
  have A0 := fun ρ => V.arg_one (ρ := ρ) K0
  obtain ⟨y1, K1, w1⟩ := V.opens_arg (V.opens_int Try.underlying3 (by kernel_rfl)) h1 hsz (j := 1) rfl rfl
  have k1 := h1
  have lt1 : ∀ x ∈ p1, x.block < W.heap.size := by obtain ⟨m, hm⟩ := k1; exact DataW.trod_lt m _ _ _ hm
  obtain ⟨a1, rfl⟩ := okWide_int Try.underlying3 (hval 1 3 v1 rfl rfl)
  have A1 := fun ρ => V.arg_one (ρ := ρ) K1
  obtain ⟨y2, K2, w2⟩ := V.opens_arg (V.opens_int Try.underlying3 (by kernel_rfl)) h2 hsz (j := 2) rfl rfl
  have k2 := h2
  have lt2 : ∀ x ∈ p2, x.block < W.heap.size := by obtain ⟨m, hm⟩ := k2; exact DataW.trod_lt m _ _ _ hm
  obtain ⟨a2, rfl⟩ := okWide_int Try.underlying3 (hval 2 3 v2 rfl rfl)
  have A2 := fun ρ => V.arg_one (ρ := ρ) K2
  obtain ⟨y3, K3, w3⟩ := V.opens_arg (V.opens_slice (B := 8) Try.underlying22 (by kernel_rfl) (by kernel_rfl) (V.opens_int Try.underlying3 (by kernel_rfl))) h3 hsz (j := 3) rfl rfl
  have k3 := h3
  have lt3 : ∀ x ∈ p3, x.block < W.heap.size := by obtain ⟨m, hm⟩ := k3; exact DataW.trod_lt m _ _ _ hm
  obtain ⟨a3, len3, cap3, rfl⟩ := okWide_slice Try.underlying22 (hval 3 22 v3 rfl rfl)
  have A3 := fun ρ => V.arg_one (ρ := ρ) K3
  obtain ⟨y4, K4, w4⟩ := V.opens_arg (V.opens_slice (B := 32) Try.underlying50 (by kernel_rfl) (by kernel_rfl) opens59) h4 hsz (j := 4) rfl rfl
  have k4 := h4
  have lt4 : ∀ x ∈ p4, x.block < W.heap.size := by obtain ⟨m, hm⟩ := k4; exact DataW.trod_lt m _ _ _ hm
  obtain ⟨a4, len4, cap4, rfl⟩ := okWide_slice Try.underlying50 (hval 4 50 v4 rfl rfl)
  have A4 := fun ρ => V.arg_one (ρ := ρ) K4
  clear hA0 hval0 hsz0 hsz
  refine (V.law_of (fun Q h => V.law15_GroupFits y0 y1 y2 y3 y4 Q h) rfl (fun i p v hp hv => ?_)).mono fun e W' ⟨he, bel⟩ => ?_
  · match i, hp, hv with
    | 0, hp, hv => cases hp; cases hv; exact A0 _
    | 1, hp, hv => cases hp; cases hv; exact A1 _
    | 2, hp, hv => cases hp; cases hv; exact A2 _
    | 3, hp, hv => cases hp; cases hv; exact A3 _
    | 4, hp, hv => cases hp; cases hv; exact A4 _
    | i + 5, hp, _ => simp at hp
  subst he
  exact ⟨_, rfl, _, _, _, [], _, [], hW', trodAll_mk1 (shut_bool Try.underlying4 _), (trodAll_cons_mk (Below.trod laidOut (by kernel_rfl) (of_decide_eq_true (by kernel_rfl)) k0 bel lt0) (trodAll_cons_mk (Below.trod laidOut (by kernel_rfl) (of_decide_eq_true (by kernel_rfl)) k1 bel lt1) (trodAll_cons_mk (Below.trod laidOut (by kernel_rfl) (of_decide_eq_true (by kernel_rfl)) k2 bel lt2) (trodAll_cons_mk (Below.trod laidOut (by kernel_rfl) (of_decide_eq_true (by kernel_rfl)) k3 bel lt3) (trodAll_cons_mk (Below.trod laidOut (by kernel_rfl) (of_decide_eq_true (by kernel_rfl)) k4 bel lt4) trodAll_mk0))))), rfl, bel.frame _, fun h => by cases h⟩
theorem over : Rows.groupFitsRow.holds Try.pinned (OpenSpec.ofChange Rows.groupFitsSpec) :=
  OpenClaim.holds_of_wide 6 Try.f6 rfl rfl rfl rfl rfl rfl rfl ⟨rfl, rfl, rfl, rfl, rfl⟩ rfl rfl rfl rfl rfl (by kernel_rfl) Try.func6 (by kernel_rfl)
    (of_decide_eq_true (by kernel_rfl)) (by unfold Func.isWrapper; first | (rw [if_pos (by decide +kernel)]; kernel_rfl) | (rw [if_neg (by decide +kernel)]; exact ⟨rfl, rfl⟩))
    (fun os started H enc _ => lifted os started H enc)
theorem proved : Rows.GroupFitsSaid := over
#print axioms proved
end Go.Proofs.Ytfmhmlijnidflaa.groupFits
namespace Go.Proofs.Ytfmhmlijnidflaa
/-- The row, under a short name, for the claim. -/
theorem groupFits_holds : Rows.GroupFitsSaid := groupFits.proved
end Go.Proofs.Ytfmhmlijnidflaa
