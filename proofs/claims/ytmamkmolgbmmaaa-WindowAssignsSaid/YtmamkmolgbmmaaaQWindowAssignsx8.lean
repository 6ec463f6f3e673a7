-- Written by this session's own program (wip/tools/ownprint.sh)
import Derived.Test.YtmamkmolgbmmaaaQWindowAssignsx0
import Derived.Test.YtmamkmolgbmmaaaQWindowAssignsx1
import Derived.Test.YtmamkmolgbmmaaaQWindowAssignsx2
import Derived.Test.YtmamkmolgbmmaaaQWindowAssignsx4
import Derived.Test.YtmamkmolgbmmaaaQWindowAssignsx6
import Derived.Test.YtmamkmolgbmmaaaQWindowAssignsx7
namespace Go.Proofs.Ytmamkmolgbmmaaa.QWindowAssigns
open Go.RowKit Go.Proofs.YtmamkmolgbmmaaaW.PrintWords Go.Proofs.YtmamkmolgbmmaaaW.PrintLast Go.Proofs.YtmamkmolgbmmaaaW.PrintMore
attribute [local go_sem] max2_int min2_int max_two min_two max_three min_three max_four min_four Go.Proofs.Ytmamkmolgbmmaaa.Hand.str_gtr Go.Proofs.Ytmamkmolgbmmaaa.Hand.str_leq Go.Proofs.Ytmamkmolgbmmaaa.Hand.str_geq   -- for this text's walks alone
set_option linter.unusedVariables false
set_option linter.unusedSimpArgs false

/-! ### runnellaw14_WindowAssigns: function 3 -/
mutual
def runnellaw14_WindowAssigns.j0 : Nat → List (S35) → List (S35) → List (List (S35)) → Bool → Option (Bool)
  | 0, _, _, _, _ => none
  | k + 1, x0, x9, x10, x47 => if x47 = true then (some false) else (runnellaw14_WindowAssigns.l0 k x0 x9 x10 0)
def runnellaw14_WindowAssigns.l0 : Nat → List (S35) → List (S35) → List (List (S35)) → Int → Option (Bool)
  | 0, _, _, _, _ => none
  | k + 1, x0, x9, x10, x14 => if x14 < (x10.length : Int) then (runnellaw14_WindowAssigns.l1 k x0 x9 x10 x14 0) else ((runnelref03_Same.f k x9 x0).bind fun t199 => (if t199 = true then ((runnellaw14_live.f k).bind fun t200 => (some t200)) else (some false)))
def runnellaw14_WindowAssigns.l1 : Nat → List (S35) → List (S35) → List (List (S35)) → Int → Int → Option (Bool)
  | 0, _, _, _, _, _ => none
  | k + 1, x0, x9, x10, x14, x15 => if 0 ≤ x14 then (if x14 < (x10.length : Int) then (if x15 < ((rd_L3 x10 x14).length : Int) then (if 0 ≤ x15 then (runnellaw14_WindowAssigns.l1 k x0 x9 (x10.set (x14 : Int).toNat ((rd_L3 x10 x14).set (x15 : Int).toNat (⟨(rd_T35 (rd_L3 x10 x14) x15).f0, wrap64 (((rd_T35 (rd_L3 x10 x14) x15).f1) + 1), (rd_T35 (rd_L3 x10 x14) x15).f2⟩ : S35))) x14 (wrap64 (x15 + 1))) else (none)) else (runnellaw14_WindowAssigns.l0 k x0 x9 x10 (wrap64 (x14 + 1)))) else (none)) else (none)
end
def runnellaw14_WindowAssigns.f (k : Nat) (l0 : List (S35)) (a1 : Int) (a2 : Int) (a3 : Int) : Option (Bool) := (runnelref03_Long.f k l0).bind fun t181 => (if t181 = true then ((runnellaw14_live.f k).bind fun t182 => (some t182)) else ((some (([] : List (S35)) : List (S35))).bind fun y183 => (if y183.length + l0.length < 4398046511104 then ((some (y183 ++ l0 : List (S35))).bind fun y186 => ((window_Assign.f k y186 a1 a2 a3).bind fun bt189 => ((runnelref14_Assign.f k l0 a1 a2 a3).bind fun bt193 => ((runnelref09_SameRows.f k bt189.1 bt193.1).bind fun t197 => (if t197 = true then ((runnellaw14_code.f bt189.2).bind fun t198 => (runnellaw14_WindowAssigns.j0 k l0 y186 bt189.1 (t198 != bt193.2))) else (runnellaw14_WindowAssigns.j0 k l0 y186 bt189.1 true)))))) else (none))))
theorem runnellaw14_WindowAssigns.mono_l : ∀ k, (∀ y0 y1 y2 y3, LeO (runnellaw14_WindowAssigns.j0 k y0 y1 y2 y3) (runnellaw14_WindowAssigns.j0 (k + 1) y0 y1 y2 y3)) ∧ (∀ y0 y1 y2 y3, LeO (runnellaw14_WindowAssigns.l0 k y0 y1 y2 y3) (runnellaw14_WindowAssigns.l0 (k + 1) y0 y1 y2 y3)) ∧ (∀ y0 y1 y2 y3 y4, LeO (runnellaw14_WindowAssigns.l1 k y0 y1 y2 y3 y4) (runnellaw14_WindowAssigns.l1 (k + 1) y0 y1 y2 y3 y4))
  | 0 => ⟨fun _ _ _ _ r h => by simp [runnellaw14_WindowAssigns.j0] at h, fun _ _ _ _ r h => by simp [runnellaw14_WindowAssigns.l0] at h, fun _ _ _ _ _ r h => by simp [runnellaw14_WindowAssigns.l1] at h⟩
  | k + 1 => by
    obtain ⟨ih0, ih1, ih2⟩ := runnellaw14_WindowAssigns.mono_l k
    refine ⟨?_, ?_, ?_⟩
    · intro y0 y1 y2 y3
      unfold runnellaw14_WindowAssigns.j0
      repeat' first
      | (with_reducible exact ih0 _ _ _ _)
      | (with_reducible exact ih1 _ _ _ _)
      | (with_reducible exact ih2 _ _ _ _ _)
      | (with_reducible exact runnellaw14_live.mono _)
      | (with_reducible exact runnelref03_Long.mono _ _)
      | (with_reducible exact runnelref03_Same.mono _ _ _)
      | (with_reducible exact runnelref09_SameRows.mono _ _ _)
      | (with_reducible exact runnelref14_Assign.mono _ _ _ _ _)
      | (with_reducible exact window_Assign.mono _ _ _ _ _)
      | (with_reducible exact LeO.refl _)
      | (with_reducible exact LeO.none _)
      | (with_reducible refine LeO.ite ?_ ?_)
      | (with_reducible refine LeO.bind ?_ (fun _ => ?_))
      | exact ih0 _ _ _ _
      | exact ih1 _ _ _ _
      | exact ih2 _ _ _ _ _
      | exact runnellaw14_live.mono _
      | exact runnelref03_Long.mono _ _
      | exact runnelref03_Same.mono _ _ _
      | exact runnelref09_SameRows.mono _ _ _
      | exact runnelref14_Assign.mono _ _ _ _ _
      | exact window_Assign.mono _ _ _ _ _
      | exact LeO.none _
      | refine LeO.ite ?_ ?_
      | refine LeO.bind ?_ (fun _ => ?_)
    · intro y0 y1 y2 y3
      unfold runnellaw14_WindowAssigns.l0
      repeat' first
      | (with_reducible exact ih0 _ _ _ _)
      | (with_reducible exact ih1 _ _ _ _)
      | (with_reducible exact ih2 _ _ _ _ _)
      | (with_reducible exact runnellaw14_live.mono _)
      | (with_reducible exact runnelref03_Long.mono _ _)
      | (with_reducible exact runnelref03_Same.mono _ _ _)
      | (with_reducible exact runnelref09_SameRows.mono _ _ _)
      | (with_reducible exact runnelref14_Assign.mono _ _ _ _ _)
      | (with_reducible exact window_Assign.mono _ _ _ _ _)
      | (with_reducible exact LeO.refl _)
      | (with_reducible exact LeO.none _)
      | (with_reducible refine LeO.ite ?_ ?_)
      | (with_reducible refine LeO.bind ?_ (fun _ => ?_))
      | exact ih0 _ _ _ _
      | exact ih1 _ _ _ _
      | exact ih2 _ _ _ _ _
      | exact runnellaw14_live.mono _
      | exact runnelref03_Long.mono _ _
      | exact runnelref03_Same.mono _ _ _
      | exact runnelref09_SameRows.mono _ _ _
      | exact runnelref14_Assign.mono _ _ _ _ _
      | exact window_Assign.mono _ _ _ _ _
      | exact LeO.none _
      | refine LeO.ite ?_ ?_
      | refine LeO.bind ?_ (fun _ => ?_)
    · intro y0 y1 y2 y3 y4
      unfold runnellaw14_WindowAssigns.l1
      repeat' first
      | (with_reducible exact ih0 _ _ _ _)
      | (with_reducible exact ih1 _ _ _ _)
      | (with_reducible exact ih2 _ _ _ _ _)
      | (with_reducible exact runnellaw14_live.mono _)
      | (with_reducible exact runnelref03_Long.mono _ _)
      | (with_reducible exact runnelref03_Same.mono _ _ _)
      | (with_reducible exact runnelref09_SameRows.mono _ _ _)
      | (with_reducible exact runnelref14_Assign.mono _ _ _ _ _)
      | (with_reducible exact window_Assign.mono _ _ _ _ _)
      | (with_reducible exact LeO.refl _)
      | (with_reducible exact LeO.none _)
      | (with_reducible refine LeO.ite ?_ ?_)
      | (with_reducible refine LeO.bind ?_ (fun _ => ?_))
      | exact ih0 _ _ _ _
      | exact ih1 _ _ _ _
      | exact ih2 _ _ _ _ _
      | exact runnellaw14_live.mono _
      | exact runnelref03_Long.mono _ _
      | exact runnelref03_Same.mono _ _ _
      | exact runnelref09_SameRows.mono _ _ _
      | exact runnelref14_Assign.mono _ _ _ _ _
      | exact window_Assign.mono _ _ _ _ _
      | exact LeO.none _
      | refine LeO.ite ?_ ?_
      | refine LeO.bind ?_ (fun _ => ?_)
theorem runnellaw14_WindowAssigns.mono : ∀ a0 a1 a2 a3 k, LeO (runnellaw14_WindowAssigns.f k a0 a1 a2 a3) (runnellaw14_WindowAssigns.f (k + 1) a0 a1 a2 a3) := by
  intro a0 a1 a2 a3 k
  obtain ⟨ih0, ih1, ih2⟩ := runnellaw14_WindowAssigns.mono_l k
  unfold runnellaw14_WindowAssigns.f
  repeat' first
      | (with_reducible exact ih0 _ _ _ _)
      | (with_reducible exact ih1 _ _ _ _)
      | (with_reducible exact ih2 _ _ _ _ _)
      | (with_reducible exact runnellaw14_live.mono _)
      | (with_reducible exact runnelref03_Long.mono _ _)
      | (with_reducible exact runnelref03_Same.mono _ _ _)
      | (with_reducible exact runnelref09_SameRows.mono _ _ _)
      | (with_reducible exact runnelref14_Assign.mono _ _ _ _ _)
      | (with_reducible exact window_Assign.mono _ _ _ _ _)
      | (with_reducible exact LeO.refl _)
      | (with_reducible exact LeO.none _)
      | (with_reducible refine LeO.ite ?_ ?_)
      | (with_reducible refine LeO.bind ?_ (fun _ => ?_))
      | exact ih0 _ _ _ _
      | exact ih1 _ _ _ _
      | exact ih2 _ _ _ _ _
      | exact runnellaw14_live.mono _
      | exact runnelref03_Long.mono _ _
      | exact runnelref03_Same.mono _ _ _
      | exact runnelref09_SameRows.mono _ _ _
      | exact runnelref14_Assign.mono _ _ _ _ _
      | exact window_Assign.mono _ _ _ _ _
      | exact LeO.none _
      | refine LeO.ite ?_ ?_
      | refine LeO.bind ?_ (fun _ => ?_)
set_option maxHeartbeats 8000000 in
set_option maxRecDepth 100000 in
theorem runnellaw14_WindowAssigns.calls (k : Nat) (A0 : Option Addr) (c0 : Nat) (l0 : List (S35)) (a1 : Int) (a2 : Int) (a3 : Int) (r : Bool) (w : World) (hr0 : Kd.C k35 w A0 l0.length l0) (hc0 : l0.length ≤ c0) (h : runnellaw14_WindowAssigns.f k l0 a1 a2 a3 = some r) :
    Calls Try.prog 3 #[.slice A0 l0.length c0, .int .i64 a1, .int .i64 a2, .int .i64 a3] w fun e w' => e = .returned (.bool r) ∧ Below w.heap.size w w' := by
  have HR0 := Aside0.mk hr0
  have HC0 := Aside0.mk hc0
  clear hr0 hc0
  have HB := Aside0.mk (Below.refl w.heap.size w)
  have H : ((runnelref03_Long.f k l0).bind fun t181 => (if t181 = true then ((runnellaw14_live.f k).bind fun t182 => (some t182)) else ((some (([] : List (S35)) : List (S35))).bind fun y183 => (if y183.length + l0.length < 4398046511104 then ((some (y183 ++ l0 : List (S35))).bind fun y186 => ((window_Assign.f k y186 a1 a2 a3).bind fun bt189 => ((runnelref14_Assign.f k l0 a1 a2 a3).bind fun bt193 => ((runnelref09_SameRows.f k bt189.1 bt193.1).bind fun t197 => (if t197 = true then ((runnellaw14_code.f bt189.2).bind fun t198 => (runnellaw14_WindowAssigns.j0 k l0 y186 bt189.1 (t198 != bt193.2))) else (runnellaw14_WindowAssigns.j0 k l0 y186 bt189.1 true)))))) else (none))))) = some r := h
  clear h
  replace H := Option.bind_eq_some_iff.mp H
  obtain ⟨t181, A50, H⟩ := H
  replace H : (if t181 = true then ((runnellaw14_live.f k).bind fun t182 => (some t182)) else ((some (([] : List (S35)) : List (S35))).bind fun y183 => (if y183.length + l0.length < 4398046511104 then ((some (y183 ++ l0 : List (S35))).bind fun y186 => ((window_Assign.f k y186 a1 a2 a3).bind fun bt189 => ((runnelref14_Assign.f k l0 a1 a2 a3).bind fun bt193 => ((runnelref09_SameRows.f k bt189.1 bt193.1).bind fun t197 => (if t197 = true then ((runnellaw14_code.f bt189.2).bind fun t198 => (runnellaw14_WindowAssigns.j0 k l0 y186 bt189.1 (t198 != bt193.2))) else (runnellaw14_WindowAssigns.j0 k l0 y186 bt189.1 true)))))) else (none)))) = some r := H
  have A5 := Aside0.mk A50
  clear A50
  by_cases c6 : t181 = true
  · subst c6
    have H1 : ((runnellaw14_live.f k).bind fun t182 => (some t182)) = some r := by rw [if_pos rfl] at H; exact H
    clear H
    have H := H1
    clear H1
    replace H := Option.bind_eq_some_iff.mp H
    obtain ⟨t182, A70, H⟩ := H
    replace H : (some t182) = some r := H
    have A7 := Aside0.mk A70
    clear A70
    obtain rfl := Option.some.inj H
    go_enter Try.func3, Try.ntmps3
    go_wp2_with (first | ((with_reducible refine gate_callee (f := 7) rfl ?_); refine goesL_ (some 17) rfl rfl Try.func7 (by kernel_rfl) rfl #[.slice A0 l0.length c0] rfl (by (try simp only [List.map_toArray, List.map_cons, List.map_nil]); first | done | rfl | (simp only [List.length_drop, List.length_take]; rfl)) ?_; (with_reducible refine (runnelref03_Long.calls k _ _ l0 true _ ?side1 ?side2 A5.out).mono ?_); (case side1 => repeat (first | exact HR0.out | (with_reducible refine Kd.C_alloc ?_ _) | (with_reducible refine Kd.C_drewN ?_ _) | (with_reducible refine Kd.C_drew ?_))); (case side2 => exact HC0.out); rintro e w' ⟨rfl, ⟨nd, rfl⟩⟩; refine ⟨_, rfl, ?_⟩) | ((with_reducible refine gate_callee (f := 8) rfl ?_); refine goesL_ (some 18) rfl rfl Try.func8 (by kernel_rfl) rfl #[] rfl (by (try simp only [List.map_toArray, List.map_cons, List.map_nil]); first | done | rfl | (simp only [List.length_drop, List.length_take]; rfl)) ?_; (with_reducible refine (runnellaw14_live.calls k  t182 _ A7.out).mono ?_); rintro e w8 ⟨rfl, hb⟩; refine ⟨_, rfl, ?_⟩; have n0_ := Aside0.mk (below_step (by repeat (first | (with_reducible first | exact HB.out | apply below_alloc | apply pw_below_drewN | apply below_drew1) | exact HB.out)) hb); clear HB; have HB := n0_; clear n0_; (try clear hb); (try clear hb2); (try clear hk); (try clear hi)))
    go_ret
    exact ⟨by first | rfl | (simp [errW_none, errW_some] <;> rfl) | (simp [*, errW_none, errW_some] <;> rfl), by repeat (first | (with_reducible first | exact HB.out | apply below_alloc | apply pw_below_drewN | apply below_drew1) | exact HB.out)⟩
  · replace c6 := Bool.eq_false_iff.mpr c6
    subst c6
    have H1 : ((some (([] : List (S35)) : List (S35))).bind fun y183 => (if y183.length + l0.length < 4398046511104 then ((some (y183 ++ l0 : List (S35))).bind fun y186 => ((window_Assign.f k y186 a1 a2 a3).bind fun bt189 => ((runnelref14_Assign.f k l0 a1 a2 a3).bind fun bt193 => ((runnelref09_SameRows.f k bt189.1 bt193.1).bind fun t197 => (if t197 = true then ((runnellaw14_code.f bt189.2).bind fun t198 => (runnellaw14_WindowAssigns.j0 k l0 y186 bt189.1 (t198 != bt193.2))) else (runnellaw14_WindowAssigns.j0 k l0 y186 bt189.1 true)))))) else (none))) = some r := by rw [if_neg (show ¬ (false = true) by decide)] at H; exact H
    clear H
    have H := H1
    clear H1
    obtain ⟨y183, hy183⟩ : ∃ y_ : List (S35), y_ = (([] : List (S35))) := ⟨_, rfl⟩
    replace H : (if y183.length + l0.length < 4398046511104 then ((some (y183 ++ l0 : List (S35))).bind fun y186 => ((window_Assign.f k y186 a1 a2 a3).bind fun bt189 => ((runnelref14_Assign.f k l0 a1 a2 a3).bind fun bt193 => ((runnelref09_SameRows.f k bt189.1 bt193.1).bind fun t197 => (if t197 = true then ((runnellaw14_code.f bt189.2).bind fun t198 => (runnellaw14_WindowAssigns.j0 k l0 y186 bt189.1 (t198 != bt193.2))) else (runnellaw14_WindowAssigns.j0 k l0 y186 bt189.1 true)))))) else (none)) = some r := by first | (rw [hy183]; with_reducible exact H) | (have H2_ := (Option.bind_some _ _).symm.trans H; rw [hy183]; with_reducible exact H2_) | (have H2_ := (Option.bind_some _ _).symm.trans H; with_reducible exact H2_) | with_reducible exact H | (rw [hy183]; exact H) | exact H
    have Ny183 := Aside0.mk hy183
    clear hy183
    by_cases c9 : y183.length + l0.length < 4398046511104
    · rw [if_pos c9] at H
      have LMc9 := Aside0.mk c9
      clear c9
      obtain ⟨y186, hy186⟩ : ∃ y_ : List (S35), y_ = (y183 ++ l0) := ⟨_, rfl⟩
      replace H : ((window_Assign.f k y186 a1 a2 a3).bind fun bt189 => ((runnelref14_Assign.f k l0 a1 a2 a3).bind fun bt193 => ((runnelref09_SameRows.f k bt189.1 bt193.1).bind fun t197 => (if t197 = true then ((runnellaw14_code.f bt189.2).bind fun t198 => (runnellaw14_WindowAssigns.j0 k l0 y186 bt189.1 (t198 != bt193.2))) else (runnellaw14_WindowAssigns.j0 k l0 y186 bt189.1 true))))) = some r := by first | (rw [hy186]; with_reducible exact H) | (have H2_ := (Option.bind_some _ _).symm.trans H; rw [hy186]; with_reducible exact H2_) | (have H2_ := (Option.bind_some _ _).symm.trans H; with_reducible exact H2_) | with_reducible exact H | (rw [hy186]; exact H) | exact H
      have Ny186 := Aside0.mk hy186
      clear hy186
      replace H := Option.bind_eq_some_iff.mp H
      obtain ⟨⟨t189, t190⟩, A100, H⟩ := H
      replace H : ((runnelref14_Assign.f k l0 a1 a2 a3).bind fun bt193 => ((runnelref09_SameRows.f k t189 bt193.1).bind fun t197 => (if t197 = true then ((runnellaw14_code.f t190).bind fun t198 => (runnellaw14_WindowAssigns.j0 k l0 y186 t189 (t198 != bt193.2))) else (runnellaw14_WindowAssigns.j0 k l0 y186 t189 true)))) = some r := H
      have A10 := Aside0.mk A100
      clear A100
      replace H := Option.bind_eq_some_iff.mp H
      obtain ⟨⟨t193, t196⟩, A110, H⟩ := H
      replace H : ((runnelref09_SameRows.f k t189 t193).bind fun t197 => (if t197 = true then ((runnellaw14_code.f t190).bind fun t198 => (runnellaw14_WindowAssigns.j0 k l0 y186 t189 (t198 != t196))) else (runnellaw14_WindowAssigns.j0 k l0 y186 t189 true))) = some r := H
      have A11 := Aside0.mk A110
      clear A110
      have HC12 := Aside0.mk H
      clear H
      go_enter Try.func3, Try.ntmps3
      go_upto_region 6 with (first | ((with_reducible refine gate_callee (f := 7) rfl ?_); refine goesL_ (some 17) rfl rfl Try.func7 (by kernel_rfl) rfl #[.slice A0 l0.length c0] rfl (by (try simp only [List.map_toArray, List.map_cons, List.map_nil]); first | done | rfl | (simp only [List.length_drop, List.length_take]; rfl)) ?_; (with_reducible refine (runnelref03_Long.calls k _ _ l0 false _ ?side1 ?side2 A5.out).mono ?_); (case side1 => repeat (first | exact HR0.out | (with_reducible refine Kd.C_alloc ?_ _) | (with_reducible refine Kd.C_drewN ?_ _) | (with_reducible refine Kd.C_drew ?_))); (case side2 => exact HC0.out); rintro e w' ⟨rfl, ⟨nd, rfl⟩⟩; refine ⟨_, rfl, ?_⟩) | ((with_reducible refine gate_dst (N := 19) rfl ?_); refine Kd.R_lit k35 _ 35 ?hg (N := 19) ?hd (xs := ([] : List (S35))) (inner := []) (ok := fun _ => True) (okp := fun _ => True) ?hr ?hp (fun _ hk => hk) trivial (Below.refl _ _) (Nat.le_refl _) (by simp) ?_; (case hd => rfl); (case hg => rfl); (case hr => first | (go_simp; done) | (go_simp; rfl)); (case hp => exact (Reps.none _ _)); intro v184 w13 ho14 hb hg_ hnew_; clear hg_ hnew_; (first | rw [← Ny183.out] at ho14 | (simp only [Int.reduceToNat] at ho14; rw [← Ny183.out] at ho14)); have n0_ := Aside0.mk (Kd.R_lower ho14 (below_size (by repeat (first | (with_reducible first | exact HB.out | apply below_alloc | apply pw_below_drewN | apply below_drew1) | exact HB.out)))); have n1_ := Aside0.mk (below_step (by repeat (first | (with_reducible first | exact HB.out | apply below_alloc | apply pw_below_drewN | apply below_drew1) | exact HB.out)) hb); clear HB; have HO185 := n0_; have HB := n1_; clear n0_ n1_; clear hb ho14) | ((with_reducible refine gate_builtin (b := .append) (xs := #[.tmp 19, .tmp 20]) rfl ?_); at_builtin; refine Kd.R_append_rows k35 (w0 := w) w.heap.size rfl (.tmp 19) (.tmp 20) 23 35 (.agg #[(.int .i64 0), (.int .i64 0), (.string ⟨#[]⟩)]) 32 rfl Try.underlying23 info35 rfl (by decide) (by omega) v184 y183 l0 _ _ _ (fun _ => True) (fun _ => False) rfl rfl ?aO ?aR (fun _ _ h => h) (fun _ h => h.elim) ?aF ?aB ?aS ?aL ?_; (case aR => repeat (first | exact (Kd.C_below HR0.out HB.out) | (with_reducible refine Kd.C_alloc ?_ _) | (with_reducible refine Kd.C_drewN ?_ _) | (with_reducible refine Kd.C_drew ?_))); (case aB => exact (by repeat (first | (with_reducible first | exact HB.out | apply below_alloc | apply pw_below_drewN | apply below_drew1) | exact HB.out))); (case aF => exact (fun _ _ => trivial)); (case aO => exact (by (with_reducible repeat (first | apply Kd.R_alloc | apply Kd.R_drewN | apply Kd.R_drew)); exact HO185.out)); (case aS => exact (below_size (by repeat (first | (with_reducible first | exact HB.out | apply below_alloc | apply pw_below_drewN | apply below_drew1) | exact HB.out)))); (case aL => have := LMc9.out; omega); intro v187 w15 ho hb hg hat; rw [← Ny186.out] at ho; have n0_ := Aside0.mk (hb); have n1_ := Aside0.mk (ho); clear HB; clear HO185; have HB := n0_; have HO188 := n1_; clear n0_ n1_; clear ho hb hg hat; obtain ⟨Ao16, co16, eo16⟩ := Kd.R_slice HO188.out; subst eo16) | ((with_reducible refine gate_callee (f := 9) rfl ?_); refine goesL_ (some 27) rfl rfl Try.func9 (by kernel_rfl) rfl #[.slice Ao16 y186.length co16, .int .i64 a1, .int .i64 a2, .int .i64 a3] rfl (by (try simp only [List.map_toArray, List.map_cons, List.map_nil]); first | done | rfl | (simp only [List.length_drop, List.length_take]; rfl)) ?_; (with_reducible refine (window_Assign.calls k _ _ y186 a1 a2 a3 t189 t190 _ ?side1 ?side2 A10.out).mono ?_); (case side1 => repeat (first | exact (Kd.R_reads' HO188.out).2.2 | (with_reducible refine Kd.C_alloc ?_ _) | (with_reducible refine Kd.C_drewN ?_ _) | (with_reducible refine Kd.C_drew ?_))); (case side2 => exact (Kd.R_reads' HO188.out).2.1); rintro e w17 ⟨v191, rfl, ho0, hb⟩; refine ⟨_, rfl, ?_⟩; have n0_ := Aside0.mk (Kd.R_below (by (with_reducible repeat (first | apply Kd.R_alloc | apply Kd.R_drewN | apply Kd.R_drew)); exact HO188.out) hb); have n1_ := Aside0.mk (Kd.S_lower (Kd.S_new' ho0 (Kd.R_lt (by (with_reducible repeat (first | apply Kd.R_alloc | apply Kd.R_drewN | apply Kd.R_drew)); exact HO188.out))) (below_size (by repeat (first | (with_reducible first | exact HB.out | apply below_alloc | apply pw_below_drewN | apply below_drew1) | exact HB.out)))); have n2_ := Aside0.mk (below_step (by repeat (first | (with_reducible first | exact HB.out | apply below_alloc | apply pw_below_drewN | apply below_drew1) | exact HB.out)) hb); clear HO188; clear HB; have HO188 := n0_; have HO192 := n1_; have HB := n2_; clear n0_ n1_ n2_; (try clear hb); (try clear hb2); (try clear hk); (try clear hi); (try clear ho0)) | ((with_reducible refine gate_callee (f := 10) rfl ?_); refine goesL_ (some 35) rfl rfl Try.func10 (by kernel_rfl) rfl #[.slice A0 l0.length c0, .int .i64 a1, .int .i64 a2, .int .i64 a3] rfl (by (try simp only [List.map_toArray, List.map_cons, List.map_nil]); first | done | rfl | (simp only [List.length_drop, List.length_take]; rfl)) ?_; (with_reducible refine (runnelref14_Assign.calls k _ _ l0 a1 a2 a3 t193 t196 _ ?side1 ?side2 A11.out).mono ?_); (case side1 => repeat (first | exact (Kd.C_below HR0.out HB.out) | (with_reducible refine Kd.C_alloc ?_ _) | (with_reducible refine Kd.C_drewN ?_ _) | (with_reducible refine Kd.C_drew ?_))); (case side2 => exact HC0.out); rintro e w18 ⟨v194, rfl, ho0, hb⟩; refine ⟨_, rfl, ?_⟩; have n0_ := Aside0.mk (Kd.R_below (by (with_reducible repeat (first | apply Kd.R_alloc | apply Kd.R_drewN | apply Kd.R_drew)); exact HO188.out) hb); have n1_ := Aside0.mk (Kd.S_below (by (with_reducible repeat (first | apply Kd.S_alloc | apply Kd.S_drewN | apply Kd.S_drew)); exact HO192.out) hb); have n2_ := Aside0.mk (Kd.V_lower (Kd.V_mono (ok' := fun k_ => some k_ ≠ (.slice Ao16 y186.length co16 : Value).ownBlock ∧ some k_ ≠ (v191 : Value).ownBlock) ho0 (fun k_ hk_ => ⟨(Kd.fresh' (Kd.R_lt (by (with_reducible repeat (first | apply Kd.R_alloc | apply Kd.R_drewN | apply Kd.R_drew)); exact HO188.out)) k_ hk_), (Kd.fresh' (Kd.S_lt (by (with_reducible repeat (first | apply Kd.S_alloc | apply Kd.S_drewN | apply Kd.S_drew)); exact HO192.out)) k_ hk_)⟩)) (below_size (by repeat (first | (with_reducible first | exact HB.out | apply below_alloc | apply pw_below_drewN | apply below_drew1) | exact HB.out)))); have n3_ := Aside0.mk (below_step (by repeat (first | (with_reducible first | exact HB.out | apply below_alloc | apply pw_below_drewN | apply below_drew1) | exact HB.out)) hb); clear HO188; clear HO192; clear HB; have HO188 := n0_; have HO192 := n1_; have HO195 := n2_; have HB := n3_; clear n0_ n1_ n2_ n3_; (try clear hb); (try clear hb2); (try clear hk); (try clear hi); (try clear ho0)))
      (try simp only [Act.put, List.setIfInBounds_toArray, List.set_cons_zero, List.set_cons_succ])
      go_cut [47] (fun v47 wc => ∃ (kq : Nat) (x47_11 : Bool), v47 = .bool x47_11 ∧ Aside0 (runnellaw14_WindowAssigns.j0 kq l0 y186 t189 x47_11 = some r) ∧ Aside0 (kq ≤ k) ∧ Aside0 (Kd.R k35 35 wc w.heap.size (fun _ => True) (.slice Ao16 y186.length co16) y186) ∧ Aside0 (Kd.S (Kd.slice 35 k35) 23 wc w.heap.size (fun k_ => some k_ ≠ ((.slice Ao16 y186.length co16) : Value).ownBlock) v191 t189) ∧ Aside0 (Below w.heap.size w wc))
      case first =>
        have H := HC12.out
        clear HC12
        replace H := Option.bind_eq_some_iff.mp H
        obtain ⟨t197, A190, H⟩ := H
        replace H : (if t197 = true then ((runnellaw14_code.f t190).bind fun t198 => (runnellaw14_WindowAssigns.j0 k l0 y186 t189 (t198 != t196))) else (runnellaw14_WindowAssigns.j0 k l0 y186 t189 true)) = some r := H
        have A19 := Aside0.mk A190
        clear A190
        by_cases c20 : t197 = true
        · subst c20
          have H1 : ((runnellaw14_code.f t190).bind fun t198 => (runnellaw14_WindowAssigns.j0 k l0 y186 t189 (t198 != t196))) = some r := by rw [if_pos rfl] at H; exact H
          clear H
          have H := H1
          clear H1
          replace H := Option.bind_eq_some_iff.mp H
          obtain ⟨t198, A210, H⟩ := H
          replace H : (runnellaw14_WindowAssigns.j0 k l0 y186 t189 (t198 != t196)) = some r := H
          have A21 := Aside0.mk A210
          clear A210
          have H' := Aside0.mk H
          clear H
          obtain ⟨Ao22, co22, eo22⟩ := Kd.S_slice HO192.out
          subst eo22
          obtain ⟨Ao23, co23, eo23⟩ := Kd.V_slice HO195.out
          subst eo23
          go_wp2_with (first | ((with_reducible refine gate_callee (f := 11) rfl ?_); refine goesL_ (some 40) rfl rfl Try.func11 (by kernel_rfl) rfl #[.slice Ao22 t189.length co22, .slice Ao23 t193.length co23] rfl (by (try simp only [List.map_toArray, List.map_cons, List.map_nil]); first | done | rfl | (simp only [List.length_drop, List.length_take]; rfl)) ?_; (with_reducible refine (runnelref09_SameRows.calls k _ _ t189 _ _ t193 true _ ?side1 ?side2 ?side3 ?side4 A19.out).mono ?_); (case side1 => repeat (first | exact (Kd.S_reads' HO192.out).2.2 | (with_reducible refine Kd.C_alloc ?_ _) | (with_reducible refine Kd.C_drewN ?_ _) | (with_reducible refine Kd.C_drew ?_))); (case side2 => exact (Kd.S_reads' HO192.out).2.1); (case side3 => repeat (first | exact (Kd.V_reads' HO195.out).2.2 | (with_reducible refine Kd.C_alloc ?_ _) | (with_reducible refine Kd.C_drewN ?_ _) | (with_reducible refine Kd.C_drew ?_))); (case side4 => exact (Kd.V_reads' HO195.out).2.1); rintro e w24 ⟨rfl, hb⟩; refine ⟨_, rfl, ?_⟩; have n0_ := Aside0.mk (Kd.R_below (by (with_reducible repeat (first | apply Kd.R_alloc | apply Kd.R_drewN | apply Kd.R_drew)); exact HO188.out) hb); have n1_ := Aside0.mk (Kd.S_below (by (with_reducible repeat (first | apply Kd.S_alloc | apply Kd.S_drewN | apply Kd.S_drew)); exact HO192.out) hb); have n2_ := Aside0.mk (Kd.V_below (by (with_reducible repeat (first | apply Kd.V_alloc | apply Kd.V_drewN | apply Kd.V_drew)); exact HO195.out) hb); have n3_ := Aside0.mk (below_step (by repeat (first | (with_reducible first | exact HB.out | apply below_alloc | apply pw_below_drewN | apply below_drew1) | exact HB.out)) hb); clear HO188; clear HO192; clear HO195; clear HB; have HO188 := n0_; have HO192 := n1_; have HO195 := n2_; have HB := n3_; clear n0_ n1_ n2_ n3_; (try clear hb); (try clear hb2); (try clear hk); (try clear hi)) | (go_at_call 12; (with_reducible refine (runnellaw14_code.calls t190 t198 _ A21.out).mono ?_); rintro e w' ⟨rfl, ⟨nd, rfl⟩⟩))
          go_meet
          case rel => exact ⟨_, ((t198 != t196)), (by first | rfl | (simp; done) | (simp [*]; done)), H', ⟨by first | omega | exact Nat.le_refl _⟩, ⟨by (with_reducible repeat (first | apply Kd.R_alloc | apply Kd.R_drewN | apply Kd.R_drew)); exact HO188.out⟩, ⟨by (with_reducible repeat (first | apply Kd.S_alloc | apply Kd.S_drewN | apply Kd.S_drew)); exact Kd.S_mono HO192.out (fun _ hk => hk.2)⟩, ⟨by repeat (first | (with_reducible first | exact HB.out | apply below_alloc | apply pw_below_drewN | apply below_drew1) | exact HB.out)⟩⟩
        · replace c20 := Bool.eq_false_iff.mpr c20
          subst c20
          have H1 : (runnellaw14_WindowAssigns.j0 k l0 y186 t189 true) = some r := by rw [if_neg (show ¬ (false = true) by decide)] at H; exact H
          clear H
          have H := H1
          clear H1
          have H' := Aside0.mk H
          clear H
          obtain ⟨Ao25, co25, eo25⟩ := Kd.S_slice HO192.out
          subst eo25
          obtain ⟨Ao26, co26, eo26⟩ := Kd.V_slice HO195.out
          subst eo26
          go_wp2_with (first | ((with_reducible refine gate_callee (f := 11) rfl ?_); refine goesL_ (some 40) rfl rfl Try.func11 (by kernel_rfl) rfl #[.slice Ao25 t189.length co25, .slice Ao26 t193.length co26] rfl (by (try simp only [List.map_toArray, List.map_cons, List.map_nil]); first | done | rfl | (simp only [List.length_drop, List.length_take]; rfl)) ?_; (with_reducible refine (runnelref09_SameRows.calls k _ _ t189 _ _ t193 false _ ?side1 ?side2 ?side3 ?side4 A19.out).mono ?_); (case side1 => repeat (first | exact (Kd.S_reads' HO192.out).2.2 | (with_reducible refine Kd.C_alloc ?_ _) | (with_reducible refine Kd.C_drewN ?_ _) | (with_reducible refine Kd.C_drew ?_))); (case side2 => exact (Kd.S_reads' HO192.out).2.1); (case side3 => repeat (first | exact (Kd.V_reads' HO195.out).2.2 | (with_reducible refine Kd.C_alloc ?_ _) | (with_reducible refine Kd.C_drewN ?_ _) | (with_reducible refine Kd.C_drew ?_))); (case side4 => exact (Kd.V_reads' HO195.out).2.1); rintro e w27 ⟨rfl, hb⟩; refine ⟨_, rfl, ?_⟩; have n0_ := Aside0.mk (Kd.R_below (by (with_reducible repeat (first | apply Kd.R_alloc | apply Kd.R_drewN | apply Kd.R_drew)); exact HO188.out) hb); have n1_ := Aside0.mk (Kd.S_below (by (with_reducible repeat (first | apply Kd.S_alloc | apply Kd.S_drewN | apply Kd.S_drew)); exact HO192.out) hb); have n2_ := Aside0.mk (Kd.V_below (by (with_reducible repeat (first | apply Kd.V_alloc | apply Kd.V_drewN | apply Kd.V_drew)); exact HO195.out) hb); have n3_ := Aside0.mk (below_step (by repeat (first | (with_reducible first | exact HB.out | apply below_alloc | apply pw_below_drewN | apply below_drew1) | exact HB.out)) hb); clear HO188; clear HO192; clear HO195; clear HB; have HO188 := n0_; have HO192 := n1_; have HO195 := n2_; have HB := n3_; clear n0_ n1_ n2_ n3_; (try clear hb); (try clear hb2); (try clear hk); (try clear hi)))
          go_meet
          case rel => exact ⟨_, (true), (by first | rfl | (simp; done) | (simp [*]; done)), H', ⟨by first | omega | exact Nat.le_refl _⟩, ⟨by (with_reducible repeat (first | apply Kd.R_alloc | apply Kd.R_drewN | apply Kd.R_drew)); exact HO188.out⟩, ⟨by (with_reducible repeat (first | apply Kd.S_alloc | apply Kd.S_drewN | apply Kd.S_drew)); exact Kd.S_mono HO192.out (fun _ hk => hk.2)⟩, ⟨by repeat (first | (with_reducible first | exact HB.out | apply below_alloc | apply pw_below_drewN | apply below_drew1) | exact HB.out)⟩⟩
      case rest =>
        clear HC12
        try clear c1
        try clear c2
        try clear p2
        try clear c3
        try clear c6
        try clear c7
        try clear c8
        try clear c9
        try clear c10
        try clear c11
        try clear c20
        obtain ⟨kq, x47_11, rfl, HA, HJ11, HO_9, HO_10, HB⟩ := hcut
        cases kq with
        | zero => exact absurd HA.out (by simp [runnellaw14_WindowAssigns.j0])
        | succ kj11 =>
          have H := HA.out
          clear HA
          simp only [runnellaw14_WindowAssigns.j0] at H
          by_cases c28 : x47_11 = true
          · subst c28
            have H1 : (some false) = some r := by rw [if_pos rfl] at H; exact H
            clear H
            have H := H1
            clear H1
            obtain rfl := Option.some.inj H
            go_wp2
            go_ret
            exact ⟨by first | rfl | (simp [errW_none, errW_some] <;> rfl) | (simp [*, errW_none, errW_some] <;> rfl), by repeat (first | (with_reducible first | exact HB.out | apply below_alloc | apply pw_below_drewN | apply below_drew1) | exact HB.out)⟩
          · replace c28 := Bool.eq_false_iff.mpr c28
            subst c28
            have H1 : (runnellaw14_WindowAssigns.l0 kj11 l0 y186 t189 0) = some r := by rw [if_neg (show ¬ (false = true) by decide)] at H; exact H
            clear H
            have H := H1
            clear H1
            have H' := Aside0.mk H
            clear H
            go_wp2
            go_loopg [14] kj11 (fun kq v14 w' => ∃ (x9_2 : List (S35)) (x10_2 : List (List (S35))) (x14_2 : Int), v14 = .int .i64 x14_2 ∧ Aside0 (runnellaw14_WindowAssigns.l0 kq l0 x9_2 x10_2 x14_2 = some r) ∧ Aside0 (kq ≤ kj11) ∧ Aside0 (Kd.R k35 35 w' w.heap.size (fun _ => True) (.slice Ao16 y186.length co16) x9_2) ∧ Aside0 (Kd.S (Kd.slice 35 k35) 23 w' w.heap.size (fun k_ => some k_ ≠ ((.slice Ao16 y186.length co16) : Value).ownBlock) v191 x10_2) ∧ Aside0 (Below w.heap.size w w'))
            case atStart => exact ⟨(y186), (t189), (0), (by first | rfl | (simp; done) | (simp [*]; done)), H', ⟨Nat.le_refl _⟩, ⟨by (with_reducible repeat (first | apply Kd.R_alloc | apply Kd.R_drewN | apply Kd.R_drew)); exact HO_9.out⟩, ⟨by (with_reducible repeat (first | apply Kd.S_alloc | apply Kd.S_drewN | apply Kd.S_drew)); exact HO_10.out⟩, ⟨by repeat (first | (with_reducible first | exact HB.out | apply below_alloc | apply pw_below_drewN | apply below_drew1) | exact HB.out)⟩⟩
            case round =>
              clear H'
              try clear c1
              try clear c2
              try clear p2
              try clear c3
              try clear c6
              try clear c7
              try clear c8
              try clear c9
              try clear c10
              try clear c11
              try clear c20
              try clear c28
              try clear p2
              obtain ⟨x9_2, x10_2, x14_2, rfl, HA, HK2, HO_9, HO_10, HB⟩ := hrel
              have hl9_2 := (Kd.R_reads' HO_9.out).1
              rw [hl9_2] at HO_9
              (try simp only [hl9_2])
              (try simp only [hl9_2] at HO_10)
              cases gk with
              | zero => exact absurd HA.out (by simp [runnellaw14_WindowAssigns.l0])
              | succ k2 =>
                have H := HA.out
                clear HA
                simp only [runnellaw14_WindowAssigns.l0] at H
                by_cases c29 : x14_2 < (x10_2.length : Int)
                · rw [if_pos c29] at H
                  have c29b0 : decide (x14_2 < (x10_2.length : Int)) = true := decide_eq_true c29
                  clear c29
                  have H' := Aside0.mk H
                  clear H
                  obtain ⟨Ao30, co30, eo30⟩ := Kd.S_slice HO_10.out
                  subst eo30
                  go_wp2
                  go_loopg [15] k2 (fun kq v15 w' => ∃ (x9_3 : List (S35)) (x10_3 : List (List (S35))) (x15_3 : Int), v15 = .int .i64 x15_3 ∧ Aside0 (runnellaw14_WindowAssigns.l1 kq l0 x9_3 x10_3 x14_2 x15_3 = some r) ∧ Aside0 (kq ≤ k2) ∧ Aside0 (Kd.R k35 35 w' w.heap.size (fun _ => True) (.slice Ao16 x9_2.length co16) x9_3) ∧ Aside0 (Kd.S (Kd.slice 35 k35) 23 w' w.heap.size (fun k_ => some k_ ≠ ((.slice Ao16 x9_2.length co16) : Value).ownBlock) (.slice Ao30 x10_2.length co30) x10_3) ∧ Aside0 (Below w.heap.size w w'))
                  case atStart => exact ⟨(x9_2), (x10_2), (0), (by first | rfl | (simp; done) | (simp [*]; done)), H', ⟨Nat.le_refl _⟩, ⟨by (try simp only [hl9_2]); (with_reducible repeat (first | apply Kd.R_alloc | apply Kd.R_drewN | apply Kd.R_drew)); exact HO_9.out⟩, ⟨by (try simp only [hl9_2]); (with_reducible repeat (first | apply Kd.S_alloc | apply Kd.S_drewN | apply Kd.S_drew)); exact HO_10.out⟩, ⟨by repeat (first | (with_reducible first | exact HB.out | apply below_alloc | apply pw_below_drewN | apply below_drew1) | exact HB.out)⟩⟩
                  case round =>
                    clear H'
                    try clear c1
                    try clear c2
                    try clear p2
                    try clear c3
                    try clear c6
                    try clear c7
                    try clear c8
                    try clear c9
                    try clear c10
                    try clear c11
                    try clear c20
                    try clear c28
                    try clear c29
                    try clear c29b0
                    try clear p2
                    obtain ⟨x9_3, x10_3, x15_3, rfl, HA, HK3, HO_9, HO_10, HB⟩ := hrel
                    have hl9_3 := (Kd.R_reads' HO_9.out).1
                    rw [hl9_3] at HO_9
                    (try simp only [hl9_3])
                    (try simp only [hl9_3] at HO_10)
                    have hl10_3 := (Kd.S_reads' HO_10.out).1
                    rw [hl10_3] at HO_10
                    (try simp only [hl10_3])
                    (try simp only [hl10_3] at HO_9)
                    cases gk with
                    | zero => exact absurd HA.out (by simp [runnellaw14_WindowAssigns.l1])
                    | succ k3 =>
                      have H := HA.out
                      clear HA
                      simp only [runnellaw14_WindowAssigns.l1] at H
                      by_cases c31 : 0 ≤ x14_2
                      · rw [if_pos c31] at H
                        have c31b0 : decide (0 ≤ x14_2) = true := decide_eq_true c31
                        clear c31
                        by_cases c32 : x14_2 < (x10_3.length : Int)
                        · rw [if_pos c32] at H
                          have c32b0 : decide (x14_2 < (x10_3.length : Int)) = true := decide_eq_true c32
                          clear c32
                          by_cases c33 : x15_3 < ((rd_L3 x10_3 x14_2).length : Int)
                          · rw [if_pos c33] at H
                            have c33b0 : decide (x15_3 < ((rd_L3 x10_3 x14_2).length : Int)) = true := decide_eq_true c33
                            clear c33
                            by_cases c34 : 0 ≤ x15_3
                            · rw [if_pos c34] at H
                              have c34b0 : decide (0 ≤ x15_3) = true := decide_eq_true c34
                              clear c34
                              obtain ⟨y204, hy204⟩ : ∃ y_ : List (S35), y_ = ((rd_L3 x10_3 x14_2).set (x15_3 : Int).toNat (⟨(rd_T35 (rd_L3 x10_3 x14_2) x15_3).f0, wrap64 (((rd_T35 (rd_L3 x10_3 x14_2) x15_3).f1) + 1), (rd_T35 (rd_L3 x10_3 x14_2) x15_3).f2⟩ : S35)) := ⟨_, rfl⟩
                              replace H : (runnellaw14_WindowAssigns.l1 k3 l0 x9_3 (x10_3.set (x14_2 : Int).toNat y204) x14_2 (wrap64 (x15_3 + 1))) = some r := by first | (rw [hy204]; with_reducible exact H) | (have H2_ := (Option.bind_some _ _).symm.trans H; rw [hy204]; with_reducible exact H2_) | (have H2_ := (Option.bind_some _ _).symm.trans H; with_reducible exact H2_) | with_reducible exact H | (rw [hy204]; exact H) | exact H
                              have Ny204 := Aside0.mk hy204
                              clear hy204
                              obtain ⟨y206, hy206⟩ : ∃ y_ : List (List (S35)), y_ = (x10_3.set (x14_2 : Int).toNat y204) := ⟨_, rfl⟩
                              replace H : (runnellaw14_WindowAssigns.l1 k3 l0 x9_3 y206 x14_2 (wrap64 (x15_3 + 1))) = some r := by first | (rw [hy206]; with_reducible exact H) | (have H2_ := (Option.bind_some _ _).symm.trans H; rw [hy206]; with_reducible exact H2_) | (have H2_ := (Option.bind_some _ _).symm.trans H; with_reducible exact H2_) | with_reducible exact H | (rw [hy206]; exact H) | exact H
                              have Ny206 := Aside0.mk hy206
                              clear hy206
                              have H' := Aside0.mk H
                              clear H
                              have p201 : 0 ≤ (x14_2 : Int) := of_decide_eq_true (by first | (with_reducible assumption) | assumption)
                              have q201 : x14_2 < (x10_3.length : Int) := of_decide_eq_true (by first | (with_reducible assumption) | assumption)
                              obtain ⟨ad201, A201_0, c201_0, e201, hx201_0, hl201_0, hi201_0⟩ := at_L3 (Kd.S_reads' HO_10.out).2.2 x14_2 p201 q201
                              cases e201
                              obtain ⟨ce201, hce201, hMe201, hcc201⟩ := Kd.S_get HO_10.out [] x14_2 p201 (by first | exact q201 | exact of_decide_eq_true (by first | (with_reducible assumption) | assumption) | (have e_ := (Kd.S_reads' HO_10.out).1; omega))
                              obtain ⟨ve201_0, rfl, ge201_0⟩ := hMe201
                              have hv201_0 := hcc201 0 _ rfl
                              rw [Nat.add_zero, show ((Kd.slice 35 k35)).sz = 1 from rfl, Nat.mul_one] at hv201_0
                              replace hv201_0 := Option.some.inj (hv201_0.symm.trans hx201_0)
                              rw [hv201_0] at ge201_0
                              have HL201_0 := Aside0.mk (show Kd.R k35 35 _ _ _ _ (rd_L3 x10_3 x14_2) from ge201_0)
                              clear hv201_0 ge201_0
                              have HX201_0 := Aside0.mk hx201_0
                              clear hcc201 hce201
                              have HR201_0 := Aside0.mk hi201_0
                              have HC201_0 := Aside0.mk hl201_0
                              clear hi201_0 hl201_0
                              replace p201 := eq_true p201
                              replace q201 := eq_true q201
                              have p202 : 0 ≤ (x14_2 : Int) := of_decide_eq_true (by first | (with_reducible assumption) | assumption)
                              have q202 : x14_2 < (x10_3.length : Int) := of_decide_eq_true (by first | (with_reducible assumption) | assumption)
                              obtain ⟨ad202, A202_0, c202_0, e202, hx202_0, hl202_0, hi202_0⟩ := at_L3 (Kd.S_reads' HO_10.out).2.2 x14_2 p202 q202
                              obtain rfl : ad201 = ad202 := (by injection e202)
                              obtain ⟨ce202, hce202, hMe202, hcc202⟩ := Kd.S_get HO_10.out [] x14_2 p202 (by first | exact q202 | exact of_decide_eq_true (by first | (with_reducible assumption) | assumption) | (have e_ := (Kd.S_reads' HO_10.out).1; omega))
                              obtain ⟨ve202_0, rfl, ge202_0⟩ := hMe202
                              have hv202_0 := hcc202 0 _ rfl
                              rw [Nat.add_zero, show ((Kd.slice 35 k35)).sz = 1 from rfl, Nat.mul_one] at hv202_0
                              replace hv202_0 := Option.some.inj (hv202_0.symm.trans hx202_0)
                              rw [hv202_0] at ge202_0
                              have HL202_0 := Aside0.mk (show Kd.R k35 35 _ _ _ _ (rd_L3 x10_3 x14_2) from ge202_0)
                              clear hv202_0 ge202_0
                              have HX202_0 := Aside0.mk hx202_0
                              clear hcc202 hce202
                              have HR202_0 := Aside0.mk hi202_0
                              have HC202_0 := Aside0.mk hl202_0
                              clear hi202_0 hl202_0
                              replace p202 := eq_true p202
                              replace q202 := eq_true q202
                              have ea_ := Option.some.inj (hx201_0.symm.trans hx202_0)
                              injection ea_ with ea_ en_ ec_
                              subst ea_
                              subst ec_
                              clear en_
                              have p203 : 0 ≤ (x15_3 : Int) := of_decide_eq_true (by first | (with_reducible assumption) | assumption)
                              have q203 : x15_3 < ((rd_L3 x10_3 x14_2).length : Int) := of_decide_eq_true (by first | (with_reducible assumption) | assumption)
                              obtain ⟨ad203, e203, hx203_0, hx203_1, hx203_2⟩ := at_T35 (by repeat (first | (with_reducible exact HR202_0.out) | (with_reducible refine Kd.C_alloc ?_ _) | (with_reducible refine Kd.C_drewN ?_ _) | (with_reducible refine Kd.C_drew ?_) | exact HR202_0.out)) x15_3 p203 q203
                              cases e203
                              replace p203 := eq_true p203
                              replace q203 := eq_true q203
                              have p35 : 0 ≤ (x15_3 : Int) := of_decide_eq_true (by first | (with_reducible assumption) | assumption)
                              have q35 : (x15_3 : Int) < (((rd_L3 x10_3 x14_2).length : Int) : Int) := of_decide_eq_true (by first | (with_reducible assumption) | assumption)
                              obtain ⟨go35, co35, eo35, gb35, gl35, cl35, HG35⟩ := Kd.R_form HL202_0.out (by omega)
                              (first | cases eo35 | (injection eo35 with ea_ en_ ec_; (first | subst ea_ | (injection ea_ with ea_; subst ea_)); subst ec_; clear en_))
                              have GB35 := Aside0.mk gb35
                              have GG35 := Aside0.mk HG35
                              clear gb35 gl35 HG35
                              (first | simp only [add_plain] at hx203_0 | skip)
                              (first | simp only [add_plain] at hx203_1 | skip)
                              (first | simp only [add_plain] at hx203_2 | skip)
                              obtain ⟨ce35, hcl35, hM35, hcc35, hfr35⟩ := Kd.R_elem HL202_0.out z35 (x15_3 : Int) p35 q35
                              obtain rfl := k35_openM hM35
                              have hx35_0 : wr.cell? ⟨go35, (x15_3 : Int).toNat * 3, none⟩ = some (.int .i64 ((rd_T35 (rd_L3 x10_3 x14_2) x15_3).f0)) := hcc35 0 _ rfl
                              have hx35_1 : wr.cell? ⟨go35, (x15_3 : Int).toNat * 3 + 1, none⟩ = some (.int .i64 ((rd_T35 (rd_L3 x10_3 x14_2) x15_3).f1)) := hcc35 1 _ rfl
                              have hx35_2 : wr.cell? ⟨go35, (x15_3 : Int).toNat * 3 + 2, none⟩ = some (.string ((rd_T35 (rd_L3 x10_3 x14_2) x15_3).f2)) := hcc35 2 _ rfl
                              have hf35_0 : wr.frozen? ⟨go35, (x15_3 : Int).toNat * 3, none⟩ = false := hfr35 0
                              have hf35_1 : wr.frozen? ⟨go35, (x15_3 : Int).toNat * 3 + 1, none⟩ = false := hfr35 1
                              have hf35_2 : wr.frozen? ⟨go35, (x15_3 : Int).toNat * 3 + 2, none⟩ = false := hfr35 2
                              clear hcl35 hcc35 hfr35 hM35
                              replace p35 := eq_true p35
                              replace q35 := eq_true q35
                              have hq36 : (x14_2 : Int) < (x10_3.length : Int) := (by have h_ : (x14_2 : Int) < ((x10_3.length : Int) : Int) := of_decide_eq_true (by first | (with_reducible assumption) | assumption); first | exact h_ | (have e_ := (Kd.S_reads' HO_10.out).1; omega) | simpa only [List.length_set, List.length_set] using h_)
                              obtain ⟨oki36, ce36, hcl36, hM36, hcc36, hok36, hbk36⟩ := Kd.S_borrow HO_10.out [] (x14_2 : Int) (of_decide_eq_true (by first | (with_reducible assumption) | assumption)) hq36
                              obtain ⟨ve36_0, rfl, ge36_0⟩ := hM36
                              have hv36 := hcc36 0 _ rfl
                              rw [Nat.add_zero, show ((Kd.slice 35 k35)).sz = 1 from rfl, Nat.mul_one] at hv36
                              replace hv36 := Option.some.inj (hv36.symm.trans HX202_0.out)
                              subst hv36
                              clear hcc36 hcl36
                              replace ge36_0 := (show Kd.R k35 35 _ _ _ _ (rd_L3 x10_3 x14_2) from ge36_0)
                              obtain ⟨cf36, hcl36, hN36, hcc36, hfr36⟩ := Kd.R_elem ge36_0 z35 (x15_3 : Int) (of_decide_eq_true (by first | (with_reducible assumption) | assumption)) (by have h_ : (x15_3 : Int) < (((rd_L3 x10_3 x14_2).length : Int) : Int) := of_decide_eq_true (by first | (with_reducible assumption) | assumption); first | exact h_ | (have e_ := (Kd.R_reads' HR202_0.out).1; omega) | simpa using h_)
                              obtain rfl := k35_openM hN36
                              have HP36 := Kd.R_seg ge36_0 (x15_3 : Int) (of_decide_eq_true (by first | (with_reducible assumption) | assumption)) (by have h_ : (x15_3 : Int) < (((rd_L3 x10_3 x14_2).length : Int) : Int) := of_decide_eq_true (by first | (with_reducible assumption) | assumption); first | exact h_ | (have e_ := (Kd.R_reads' HR202_0.out).1; omega) | simpa using h_) (seg := [.int .i64 (wrap64 (((rd_T35 (rd_L3 x10_3 x14_2) x15_3).f1) + 1))]) (j := 1) hcl36 hcc36 (show 2 ≤ 3 from by decide) (x' := (⟨(rd_T35 (rd_L3 x10_3 x14_2) x15_3).f0, wrap64 (((rd_T35 (rd_L3 x10_3 x14_2) x15_3).f1) + 1), (rd_T35 (rd_L3 x10_3 x14_2) x15_3).f2⟩ : S35)) (k35_mkM _ _ _ (⟨(rd_T35 (rd_L3 x10_3 x14_2) x15_3).f0, wrap64 (((rd_T35 (rd_L3 x10_3 x14_2) x15_3).f1) + 1), (rd_T35 (rd_L3 x10_3 x14_2) x15_3).f2⟩ : S35)) (fun _ hk => hk)
                              clear hcl36 hcc36 hfr36 hN36
                              go_wp2_with (first | ((with_reducible refine gate_store (t := 3) (p := 73) rfl ?_); refine store_event (t := 3) (p := 73) (v := ?vo_w37) (w1 := (wr.setCell ⟨go35, (x15_3 : Int).toNat * 3 + 1, none⟩ (.int .i64 (wrap64 (((rd_T35 (rd_L3 x10_3 x14_2) x15_3).f1) + 1))))) ?hg ?ho ?hn ?hr ?_; (case ho => rfl); (case hg => rfl); (case hn => rfl); (case hr => first | (go_simp; done) | (go_simp; rfl)); intro w37 hw; have hg : wr.grownBy w37 (some go35) := (by rw [hw]; exact HP36.2); have hz_ : Kd.R k35 35 w37 w.heap.size oki36 (.slice (some ⟨go35, 0, none⟩) (rd_L3 x10_3 x14_2).length c201_0) y204 := (by rw [hw, Ny204.out]; exact HP36.1); have hp_ : Kd.S (Kd.slice 35 k35) 23 w37 w.heap.size (fun k_ => some k_ ≠ (.slice Ao16 x9_3.length co16 : Value).ownBlock) (.slice (some ad201) x10_3.length co30) y206 := (by rw [Ny206.out]; exact hbk36 hg (fun k_ e_ => by injection e_ with e_; subst e_; exact ge36_0.1 _ rfl) (Kd.M_row hz_)); have hm_ := Kd.R_mono hz_ hok36; clear HP36 hbk36; have n0_ := Aside0.mk (Kd.R_grown1 (by (with_reducible repeat (first | apply Kd.R_alloc | apply Kd.R_drewN | apply Kd.R_drew)); exact HO_9.out) rfl hg ((HL202_0.out.1 _ rfl).1)); have n1_ := Aside0.mk (hp_); have n2_ := Aside0.mk ((by rw [hw]; exact below_set (HB.out) GB35.out : Below w.heap.size w w37)); have n3_ := Aside0.mk (hm_); have n4_ := Aside0.mk ((Kd.R_reads' hm_).2.1); clear HO_9; clear HO_10; clear HB; clear HL201_0; clear HL202_0; have HO_9 := n0_; have HO_10 := n1_; have HB := n2_; have HL207 := n3_; have HC205 := n4_; clear n0_ n1_ n2_ n3_ n4_; clear hg hw hp_ hz_ hm_ hok36))
                              (try simp only [← hl9_3, ← hl10_3])
                              go_roundg k3
                              case measure => have := HJ11.out; have := HK2.out; have := HK3.out; omega
                              case rel => exact ⟨(x9_3), (y206), (wrap64 (x15_3 + 1)), (by first | rfl | (simp; done) | (simp [*]; done)), H', ⟨by have := HJ11.out; have := HK2.out; have := HK3.out; omega⟩, ⟨by (try simp only [hl9_2]); (try simp only [hl9_3]); (try simp only [hl10_3]); (with_reducible repeat (first | apply Kd.R_alloc | apply Kd.R_drewN | apply Kd.R_drew)); exact HO_9.out⟩, ⟨by (try simp only [hl9_2]); (try simp only [hl9_3]); (try simp only [hl10_3]); (with_reducible repeat (first | apply Kd.S_alloc | apply Kd.S_drewN | apply Kd.S_drew)); exact HO_10.out⟩, ⟨by repeat (first | (with_reducible first | exact HB.out | apply below_alloc | apply pw_below_drewN | apply below_drew1) | exact HB.out)⟩⟩
                            · rw [if_neg c34] at H
                              exact absurd H (by simp)
                          · rw [if_neg c33] at H
                            have c33b0 : decide (x15_3 < ((rd_L3 x10_3 x14_2).length : Int)) = false := decide_eq_false c33
                            clear c33
                            have H' := Aside0.mk H
                            clear H
                            have p201 : 0 ≤ (x14_2 : Int) := of_decide_eq_true (by first | (with_reducible assumption) | assumption)
                            have q201 : x14_2 < (x10_3.length : Int) := of_decide_eq_true (by first | (with_reducible assumption) | assumption)
                            obtain ⟨ad201, A201_0, c201_0, e201, hx201_0, hl201_0, hi201_0⟩ := at_L3 (Kd.S_reads' HO_10.out).2.2 x14_2 p201 q201
                            cases e201
                            obtain ⟨ce201, hce201, hMe201, hcc201⟩ := Kd.S_get HO_10.out [] x14_2 p201 (by first | exact q201 | exact of_decide_eq_true (by first | (with_reducible assumption) | assumption) | (have e_ := (Kd.S_reads' HO_10.out).1; omega))
                            obtain ⟨ve201_0, rfl, ge201_0⟩ := hMe201
                            have hv201_0 := hcc201 0 _ rfl
                            rw [Nat.add_zero, show ((Kd.slice 35 k35)).sz = 1 from rfl, Nat.mul_one] at hv201_0
                            replace hv201_0 := Option.some.inj (hv201_0.symm.trans hx201_0)
                            rw [hv201_0] at ge201_0
                            have HL201_0 := Aside0.mk (show Kd.R k35 35 _ _ _ _ (rd_L3 x10_3 x14_2) from ge201_0)
                            clear hv201_0 ge201_0
                            have HX201_0 := Aside0.mk hx201_0
                            clear hcc201 hce201
                            have HR201_0 := Aside0.mk hi201_0
                            have HC201_0 := Aside0.mk hl201_0
                            clear hi201_0 hl201_0
                            replace p201 := eq_true p201
                            replace q201 := eq_true q201
                            go_wp2
                            (try simp only [← hl9_2, ← hl9_3, ← hl10_3])
                            go_roundg k3
                            case measure => have := HJ11.out; have := HK2.out; have := HK3.out; omega
                            case rel => exact ⟨(x9_3), (x10_3), (wrap64 (x14_2 + 1)), (by first | rfl | (simp; done) | (simp [*]; done)), H', ⟨by have := HJ11.out; have := HK2.out; have := HK3.out; omega⟩, ⟨by (try simp only [hl9_2]); (try simp only [hl9_3]); (try simp only [hl10_3]); (with_reducible repeat (first | apply Kd.R_alloc | apply Kd.R_drewN | apply Kd.R_drew)); exact HO_9.out⟩, ⟨by (try simp only [hl9_2]); (try simp only [hl9_3]); (try simp only [hl10_3]); (with_reducible repeat (first | apply Kd.S_alloc | apply Kd.S_drewN | apply Kd.S_drew)); exact HO_10.out⟩, ⟨by repeat (first | (with_reducible first | exact HB.out | apply below_alloc | apply pw_below_drewN | apply below_drew1) | exact HB.out)⟩⟩
                        · rw [if_neg c32] at H
                          exact absurd H (by simp)
                      · rw [if_neg c31] at H
                        exact absurd H (by simp)
                · rw [if_neg c29] at H
                  have c29b0 : decide (x14_2 < (x10_2.length : Int)) = false := decide_eq_false c29
                  clear c29
                  replace H := Option.bind_eq_some_iff.mp H
                  obtain ⟨t199, A380, H⟩ := H
                  replace H : (if t199 = true then ((runnellaw14_live.f k2).bind fun t200 => (some t200)) else (some false)) = some r := H
                  have A38 := Aside0.mk A380
                  clear A380
                  by_cases c39 : t199 = true
                  · subst c39
                    have H1 : ((runnellaw14_live.f k2).bind fun t200 => (some t200)) = some r := by rw [if_pos rfl] at H; exact H
                    clear H
                    have H := H1
                    clear H1
                    replace H := Option.bind_eq_some_iff.mp H
                    obtain ⟨t200, A400, H⟩ := H
                    replace H : (some t200) = some r := H
                    have A40 := Aside0.mk A400
                    clear A400
                    obtain rfl := Option.some.inj H
                    obtain ⟨Ao41, co41, eo41⟩ := Kd.S_slice HO_10.out
                    subst eo41
                    go_wp2_with (first | ((with_reducible refine gate_callee (f := 13) rfl ?_); refine goesL_ (some 76) rfl rfl Try.func13 (by kernel_rfl) rfl #[.slice Ao16 x9_2.length co16, .slice A0 l0.length c0] rfl (by (try simp only [List.map_toArray, List.map_cons, List.map_nil]); first | done | rfl | (simp only [List.length_drop, List.length_take]; rfl)) ?_; (with_reducible refine (runnelref03_Same.calls k2 _ _ x9_2 _ _ l0 true _ ?side1 ?side2 ?side3 ?side4 A38.out).mono ?_); (case side1 => repeat (first | exact (Kd.R_reads' HO_9.out).2.2 | (with_reducible refine Kd.C_alloc ?_ _) | (with_reducible refine Kd.C_drewN ?_ _) | (with_reducible refine Kd.C_drew ?_))); (case side2 => exact (Kd.R_reads' HO_9.out).2.1); (case side3 => repeat (first | exact (Kd.C_below HR0.out HB.out) | (with_reducible refine Kd.C_alloc ?_ _) | (with_reducible refine Kd.C_drewN ?_ _) | (with_reducible refine Kd.C_drew ?_))); (case side4 => exact HC0.out); rintro e w42 ⟨rfl, hb⟩; refine ⟨_, rfl, ?_⟩; have n0_ := Aside0.mk (Kd.R_below (by (with_reducible repeat (first | apply Kd.R_alloc | apply Kd.R_drewN | apply Kd.R_drew)); exact HO_9.out) hb); have n1_ := Aside0.mk (Kd.S_below (by (with_reducible repeat (first | apply Kd.S_alloc | apply Kd.S_drewN | apply Kd.S_drew)); exact HO_10.out) hb); have n2_ := Aside0.mk (below_step (by repeat (first | (with_reducible first | exact HB.out | apply below_alloc | apply pw_below_drewN | apply below_drew1) | exact HB.out)) hb); clear HO_9; clear HO_10; clear HB; have HO_9 := n0_; have HO_10 := n1_; have HB := n2_; clear n0_ n1_ n2_; (try clear hb); (try clear hb2); (try clear hk); (try clear hi)) | (go_at_call 8; (with_reducible refine (runnellaw14_live.calls k2  t200 _ A40.out).mono ?_); rintro e w43 ⟨rfl, hb⟩; have n0_ := Aside0.mk (Kd.R_below (by (with_reducible repeat (first | apply Kd.R_alloc | apply Kd.R_drewN | apply Kd.R_drew)); exact HO_9.out) hb); have n1_ := Aside0.mk (Kd.S_below (by (with_reducible repeat (first | apply Kd.S_alloc | apply Kd.S_drewN | apply Kd.S_drew)); exact HO_10.out) hb); have n2_ := Aside0.mk (below_step (by repeat (first | (with_reducible first | exact HB.out | apply below_alloc | apply pw_below_drewN | apply below_drew1) | exact HB.out)) hb); clear HO_9; clear HO_10; clear HB; have HO_9 := n0_; have HO_10 := n1_; have HB := n2_; clear n0_ n1_ n2_; (try clear hb); (try clear hb2); (try clear hk); (try clear hi)))
                    go_ret
                    exact ⟨by first | rfl | (simp [errW_none, errW_some] <;> rfl) | (simp [*, errW_none, errW_some] <;> rfl), by repeat (first | (with_reducible first | exact HB.out | apply below_alloc | apply pw_below_drewN | apply below_drew1) | exact HB.out)⟩
                  · replace c39 := Bool.eq_false_iff.mpr c39
                    subst c39
                    have H1 : (some false) = some r := by rw [if_neg (show ¬ (false = true) by decide)] at H; exact H
                    clear H
                    have H := H1
                    clear H1
                    obtain rfl := Option.some.inj H
                    obtain ⟨Ao44, co44, eo44⟩ := Kd.S_slice HO_10.out
                    subst eo44
                    go_wp2_with (first | ((with_reducible refine gate_callee (f := 13) rfl ?_); refine goesL_ (some 76) rfl rfl Try.func13 (by kernel_rfl) rfl #[.slice Ao16 x9_2.length co16, .slice A0 l0.length c0] rfl (by (try simp only [List.map_toArray, List.map_cons, List.map_nil]); first | done | rfl | (simp only [List.length_drop, List.length_take]; rfl)) ?_; (with_reducible refine (runnelref03_Same.calls k2 _ _ x9_2 _ _ l0 false _ ?side1 ?side2 ?side3 ?side4 A38.out).mono ?_); (case side1 => repeat (first | exact (Kd.R_reads' HO_9.out).2.2 | (with_reducible refine Kd.C_alloc ?_ _) | (with_reducible refine Kd.C_drewN ?_ _) | (with_reducible refine Kd.C_drew ?_))); (case side2 => exact (Kd.R_reads' HO_9.out).2.1); (case side3 => repeat (first | exact (Kd.C_below HR0.out HB.out) | (with_reducible refine Kd.C_alloc ?_ _) | (with_reducible refine Kd.C_drewN ?_ _) | (with_reducible refine Kd.C_drew ?_))); (case side4 => exact HC0.out); rintro e w45 ⟨rfl, hb⟩; refine ⟨_, rfl, ?_⟩; have n0_ := Aside0.mk (Kd.R_below (by (with_reducible repeat (first | apply Kd.R_alloc | apply Kd.R_drewN | apply Kd.R_drew)); exact HO_9.out) hb); have n1_ := Aside0.mk (Kd.S_below (by (with_reducible repeat (first | apply Kd.S_alloc | apply Kd.S_drewN | apply Kd.S_drew)); exact HO_10.out) hb); have n2_ := Aside0.mk (below_step (by repeat (first | (with_reducible first | exact HB.out | apply below_alloc | apply pw_below_drewN | apply below_drew1) | exact HB.out)) hb); clear HO_9; clear HO_10; clear HB; have HO_9 := n0_; have HO_10 := n1_; have HB := n2_; clear n0_ n1_ n2_; (try clear hb); (try clear hb2); (try clear hk); (try clear hi)))
                    go_ret
                    exact ⟨by first | rfl | (simp [errW_none, errW_some] <;> rfl) | (simp [*, errW_none, errW_some] <;> rfl), by repeat (first | (with_reducible first | exact HB.out | apply below_alloc | apply pw_below_drewN | apply below_drew1) | exact HB.out)⟩
    · rw [if_neg c9] at H
      exact absurd H (by simp)

def wfS35 (x : S35) : Prop := ((Lit.int .i64 x.f0).wf = true) ∧ ((Lit.int .i64 x.f1).wf = true) ∧ (x.f2.size ≤ 140737488351232)

/-- THE ONE PURE STATEMENT of runnellaw14_WindowAssigns: yours. -/
def runnellaw14_WindowAssigns.Pure : Prop := ∀ (l0 : List (S35)) (a1 : Int) (a2 : Int) (a3 : Int), (l0.length ≤ 9223372036854775807 ∧ l0.length * 32 ≤ 140737488351232 ∧ ∀ y_ ∈ l0, wfS35 y_) → ((Lit.int .i64 a1).wf = true) → ((Lit.int .i64 a2).wf = true) → ((Lit.int .i64 a3).wf = true) → ∃ k, runnellaw14_WindowAssigns.f k l0 a1 a2 a3 = some true
theorem runnellaw14_WindowAssigns.walk (P : runnellaw14_WindowAssigns.Pure) (A0 : Option Addr) (c0 : Nat) (l0 : List (S35)) (a1 : Int) (a2 : Int) (a3 : Int) (w : World) (hr0 : Kd.C k35 w A0 l0.length l0) (hc0 : l0.length ≤ c0) (w0 : l0.length ≤ 9223372036854775807 ∧ l0.length * 32 ≤ 140737488351232 ∧ ∀ y_ ∈ l0, wfS35 y_) (w1 : (Lit.int .i64 a1).wf = true) (w2 : (Lit.int .i64 a2).wf = true) (w3 : (Lit.int .i64 a3).wf = true) :
    Calls Try.prog 3 #[.slice A0 l0.length c0, .int .i64 a1, .int .i64 a2, .int .i64 a3] w fun e w' => e = .returned (.bool true) ∧ Below w.heap.size w w' := by
  obtain ⟨k, h⟩ := P l0 a1 a2 a3 w0 w1 w2 w3
  refine (runnellaw14_WindowAssigns.calls k _ _ l0 a1 a2 a3 true w hr0 hc0 h).mono ?_
  rintro e w' ⟨rfl, hd⟩
  exact ⟨rfl, hd⟩

end Go.Proofs.Ytmamkmolgbmmaaa.QWindowAssigns
