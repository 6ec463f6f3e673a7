/- Law DenoLinear of layer 18 answers true for every node and all counts, and its arguments read behind the call as before; conditions: none but the given row. -/
import Derived.Test.YtbccejopeclhmaaGreatRows
import Derived.Test.YtbccejopeclhmaaGreatO1
import Derived.Test.YtbccejopeclhmaaGreatDE
import Derived.WalkKit
import Derived.ProofKit
import Derived.OpenShut
import Derived.ShutString
import Derived.ChangeOld
import Derived.Below
import Derived.SizedLaws
import Derived.Carry
namespace Go.V
def eTm (t : Time) : List PV := [vi t.epoch, vi t.round]
end Go.V
namespace Go.Proofs.YtbccejopeclhmaaGreat.denoLinear
set_option maxRecDepth 100000
open Go.ChangeShapes Go.WideShapes Go.ChangeAt Go.RowKit
set_option linter.unusedVariables false
theorem own : ownKnob Tryz.prog.godebug = none := by kernel_rfl
theorem laidOut : laidOutB Tryz.prog = true := by kernel_rfl
theorem opens132 : V.Opens Tryz.prog 132 3 V.eT (fun _ => True) := V.opens_struct (g := fun (y : (Int) × (Int) × (ByteArray)) => (⟨y.1, y.2.1, y.2.2⟩ : V.Term)) Tryz.underlying132 (by kernel_rfl) (V.opensF_cons (V.opens_int Tryz.underlying3 (by kernel_rfl)) (V.opensF_cons (V.opens_int Tryz.underlying3 (by kernel_rfl)) (V.opensF_one (V.opens_string Tryz.underlying9 (by kernel_rfl))) rfl) rfl) (fun _ => rfl) (fun _ => rfl) (fun _ _ => trivial)
theorem opens25 : V.Opens Tryz.prog 25 9 V.eN (fun _ => True) := V.opens_struct (g := fun (y : (Int) × (List (Int)) × (List (Int)) × (List (List (V.Term))) × (List (Int)) × (Int) × (Int) × (Int) × (Int)) => (⟨y.1, y.2.1, y.2.2.1, y.2.2.2.1, y.2.2.2.2.1, y.2.2.2.2.2.1, y.2.2.2.2.2.2.1, y.2.2.2.2.2.2.2.1, y.2.2.2.2.2.2.2.2⟩ : V.Node)) Tryz.underlying25 (by kernel_rfl) (V.opensF_cons (V.opens_int Tryz.underlying3 (by kernel_rfl)) (V.opensF_cons (V.opens_slice (B := 8) Tryz.underlying22 (by kernel_rfl) (by kernel_rfl) (V.opens_int Tryz.underlying3 (by kernel_rfl))) (V.opensF_cons (V.opens_slice (B := 8) Tryz.underlying22 (by kernel_rfl) (by kernel_rfl) (V.opens_int Tryz.underlying3 (by kernel_rfl))) (V.opensF_cons (V.opens_slice (B := 24) Tryz.underlying23 (by kernel_rfl) (by kernel_rfl) (V.opens_slice (B := 32) Tryz.underlying94 (by kernel_rfl) (by kernel_rfl) opens132)) (V.opensF_cons (V.opens_slice (B := 8) Tryz.underlying22 (by kernel_rfl) (by kernel_rfl) (V.opens_int Tryz.underlying3 (by kernel_rfl))) (V.opensF_cons (V.opens_int Tryz.underlying3 (by kernel_rfl)) (V.opensF_cons (V.opens_int Tryz.underlying3 (by kernel_rfl)) (V.opensF_cons (V.opens_int Tryz.underlying3 (by kernel_rfl)) (V.opensF_one (V.opens_int Tryz.underlying3 (by kernel_rfl))) rfl) rfl) rfl) rfl) rfl) rfl) rfl) rfl) (fun _ => rfl) (fun _ => rfl) (fun _ _ => trivial)
theorem opens83 : V.Opens Tryz.prog 83 3 V.eV (fun _ => True) := V.opens_struct (g := fun (y : (Int) × (Int) × (ByteArray)) => (⟨y.1, y.2.1, y.2.2⟩ : V.Val)) Tryz.underlying83 (by kernel_rfl) (V.opensF_cons (V.opens_int Tryz.underlying3 (by kernel_rfl)) (V.opensF_cons (V.opens_int Tryz.underlying3 (by kernel_rfl)) (V.opensF_one (V.opens_string Tryz.underlying9 (by kernel_rfl))) rfl) rfl) (fun _ => rfl) (fun _ => rfl) (fun _ _ => trivial)
theorem opens61 : V.Opens Tryz.prog 61 2 V.eC (fun _ => True) := V.opens_struct (g := fun (y : (List (V.Val)) × (Int)) => (⟨y.1, y.2⟩ : V.Count)) Tryz.underlying61 (by kernel_rfl) (V.opensF_cons (V.opens_slice (B := 32) Tryz.underlying59 (by kernel_rfl) (by kernel_rfl) opens83) (V.opensF_one (V.opens_int Tryz.underlying3 (by kernel_rfl))) rfl) (fun _ => rfl) (fun _ => rfl) (fun _ _ => trivial)
theorem lifted (os : Os) (started : os.Started) (H : Type) (enc : TypeId × Value → H) :
    ReturnsInHanded {} Tryz.checked os 3 .any (Rows.denoLinearSpec.pre6 enc Tryz.prog Tryz.f3 Rows.denoLinearRow.domain false) (Rows.denoLinearSpec.post enc Tryz.prog Tryz.f3 false true false false) := by
  refine returnsInHanded_of_change_sized (C := Tryz.checked) own started (by kernel_rfl) Tryz.func3
    (ChangeSpec.witness6 (enc := enc) (C := Tryz.checked) false ⟨#[], #[.agg #[.int .i64 0, .slice none 0 0, .slice none 0 0, .slice none 0 0, .slice none 0 0, .int .i64 0, .int .i64 0, .int .i64 0, .int .i64 0], .slice none 0 0, .slice none 0 0, .slice none 0 0], []⟩ 8 (by kernel_rfl) (by kernel_rfl) (by kernel_rfl) (by kernel_rfl)) ?_
  intro W base args ds gs before hval0 hW hcnd hsz0 _
  have hsz : (DataW.weightsEach Tryz.prog (Tryz.f3.params.toList ++ Rows.denoLinearSpec.plain.varTypes Tryz.prog) (ds ++ gs)).all (· ≤ reachBytes) = true := hsz0
  have hval : ∀ (j : Nat) t v, Tryz.f3.params[j]? = some t → args[j]? = some v → Value.okWide Tryz.prog W .any base t v := hval0
  have hW' := hW
  obtain ⟨p, q, hA0, hV, rfl, hfz, hnd⟩ := hW
  have hA : DataW.TrodAll enc Tryz.prog W 0 (fun _ => true) true Tryz.f3.params.toList args.toList ds p := hA0
  rw [Tryz.params3] at hA hval hsz
  obtain ⟨v0, vs0, d0, ds0, p0, q0, hargs, rfl, rfl, h0, r0⟩ := trodAll_cons hA
  obtain ⟨v1, vs1, d1, ds1, p1, q1, rfl, rfl, rfl, h1, r1⟩ := trodAll_cons r0
  obtain ⟨v2, vs2, d2, ds2, p2, q2, rfl, rfl, rfl, h2, r2⟩ := trodAll_cons r1
  obtain ⟨v3, vs3, d3, ds3, p3, q3, rfl, rfl, rfl, h3, r3⟩ := trodAll_cons r2
  obtain ⟨rfl, rfl, rfl⟩ := trodAll_nil r3
  obtain rfl : args = #[v0, v1, v2, v3] := by cases args; simp_all
  obtain ⟨rfl, rfl⟩ := trodVars_none hV
  obtain ⟨y0, K0, w0⟩ := V.opens_arg opens25 h0 hsz (j := 0) rfl rfl
  have k0 := h0
  have lt0 : ∀ x ∈ p0, x.block < W.heap.size := by obtain ⟨m, hm⟩ := k0; exact DataW.trod_lt m _ _ _ hm
  obtain ⟨cs0, rfl, _⟩ := okWide_struct Tryz.underlying25 (hval 0 25 v0 rfl rfl)
  have A0 := fun ρ => V.arg_agg (ρ := ρ) K0
  obtain ⟨y1, K1, w1⟩ := V.opens_arg (V.opens_slice (B := 32) Tryz.underlying26 (by kernel_rfl) (by kernel_rfl) opens61) h1 hsz (j := 1) rfl rfl
  have k1 := h1
  have lt1 : ∀ x ∈ p1, x.block < W.heap.size := by obtain ⟨m, hm⟩ := k1; exact DataW.trod_lt m _ _ _ hm
  obtain ⟨a1, len1, cap1, rfl⟩ := okWide_slice Tryz.underlying26 (hval 1 26 v1 rfl rfl)
  have A1 := fun ρ => V.arg_one (ρ := ρ) K1
  obtain ⟨y2, K2, w2⟩ := V.opens_arg (V.opens_slice (B := 32) Tryz.underlying26 (by kernel_rfl) (by kernel_rfl) opens61) h2 hsz (j := 2) rfl rfl
  have k2 := h2
  have lt2 : ∀ x ∈ p2, x.block < W.heap.size := by obtain ⟨m, hm⟩ := k2; exact DataW.trod_lt m _ _ _ hm
  obtain ⟨a2, len2, cap2, rfl⟩ := okWide_slice Tryz.underlying26 (hval 2 26 v2 rfl rfl)
  have A2 := fun ρ => V.arg_one (ρ := ρ) K2
  obtain ⟨y3, K3, w3⟩ := V.opens_arg (V.opens_slice (B := 32) Tryz.underlying26 (by kernel_rfl) (by kernel_rfl) opens61) h3 hsz (j := 3) rfl rfl
  have k3 := h3
  have lt3 : ∀ x ∈ p3, x.block < W.heap.size := by obtain ⟨m, hm⟩ := k3; exact DataW.trod_lt m _ _ _ hm
  obtain ⟨a3, len3, cap3, rfl⟩ := okWide_slice Tryz.underlying26 (hval 3 26 v3 rfl rfl)
  have A3 := fun ρ => V.arg_one (ρ := ρ) K3
  clear hA0 hval0 hsz0 hsz
  refine (V.law_of (fun Q h => V.law18_DenoLinear y0 y1 y2 y3 Q h) rfl (fun i p v hp hv => ?_)).mono fun e W' ⟨he, bel⟩ => ?_
  · match i, hp, hv with
    | 0, hp, hv => cases hp; cases hv; exact A0 _
    | 1, hp, hv => cases hp; cases hv; exact A1 _
    | 2, hp, hv => cases hp; cases hv; exact A2 _
    | 3, hp, hv => cases hp; cases hv; exact A3 _
    | i + 4, hp, _ => simp at hp
  subst he
  exact ⟨_, rfl, _, _, _, [], _, [], hW', trodAll_mk1 (shut_bool Tryz.underlying4 _), (trodAll_cons_mk (Below.trod laidOut (by kernel_rfl) (of_decide_eq_true (by kernel_rfl)) k0 bel lt0) (trodAll_cons_mk (Below.trod laidOut (by kernel_rfl) (of_decide_eq_true (by kernel_rfl)) k1 bel lt1) (trodAll_cons_mk (Below.trod laidOut (by kernel_rfl) (of_decide_eq_true (by kernel_rfl)) k2 bel lt2) (trodAll_cons_mk (Below.trod laidOut (by kernel_rfl) (of_decide_eq_true (by kernel_rfl)) k3 bel lt3) trodAll_mk0)))), rfl, bel.frame _, fun h => by cases h⟩
theorem over : Rows.denoLinearRow.holds Tryz.pinned (OpenSpec.ofChange Rows.denoLinearSpec) :=
  OpenClaim.holds_of_wide 3 Tryz.f3 rfl rfl rfl rfl rfl rfl rfl ⟨rfl, rfl, rfl, rfl, rfl⟩ rfl rfl rfl rfl rfl (by kernel_rfl) Tryz.func3 (by kernel_rfl)
    (of_decide_eq_true (by kernel_rfl)) (by unfold Func.isWrapper; first | (rw [if_pos (by decide +kernel)]; kernel_rfl) | (rw [if_neg (by decide +kernel)]; exact ⟨rfl, rfl⟩))
    (fun os started H enc _ => lifted os started H enc)
theorem proved : Rows.DenoLinearSaid := over
#print axioms proved
end Go.Proofs.YtbccejopeclhmaaGreat.denoLinear
namespace Go.Proofs.YtbccejopeclhmaaGreat
/-- The row, under a short name, for the claim. -/
theorem denoLinear_holds : Rows.DenoLinearSaid := denoLinear.proved
end Go.Proofs.YtbccejopeclhmaaGreat
