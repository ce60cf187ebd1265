/- What this law reaches, as plain Lean functions, and the proofs that the machine's calls answer what they answer; laid by a program of this session over the kit's print, some functions by hand. Conditions: none beyond each theorem's own. -/
import Derived.Test.YthanecnkknimpaaPFnFoundx0
import Derived.Test.YthanecnkknimpaaPFnFoundx1
import Derived.Test.YthanecnkknimpaaPFnFoundx2
import Derived.Test.YthanecnkknimpaaPFnFoundx3
import Derived.Test.YthanecnkknimpaaPFnFoundx10
import Derived.Test.YthanecnkknimpaaPFnFoundx11
namespace Go.Proofs.Ythanecnkknimpaa.PFnFound
open Go.RowKit Go.Proofs.YthanecnkknimpaaW.PrintWords Go.Proofs.YthanecnkknimpaaW.PrintLast Go.Proofs.YthanecnkknimpaaW.PrintMore
attribute [local go_sem] max2_int min2_int max_two min_two max_three min_three max_four min_four   -- for this text's walks alone
set_option linter.unusedVariables false
set_option linter.unusedSimpArgs false

/-! ### laws_FnFound: function 5 -/
mutual
def laws_FnFound.j0 : Nat → List Int → List (S26) → Int → Int → Int → Int → Int → Bool → Option (Bool)
  | 0, _, _, _, _, _, _, _, _ => none
  | k + 1, x0, x3, x4, x5, x7, x8, x10, x88 => if x88 = true then (some false) else (if x10 ≥ 0 then ((impl_FindFact.f k x3 x4 x5 x10 x7 x8).bind fun t389 => (laws_FnFound.j1 k x0 (decide (t389 < 0)))) else (laws_FnFound.j1 k x0 false))
def laws_FnFound.j1 : Nat → List Int → Bool → Option (Bool)
  | 0, _, _ => none
  | k + 1, x0, x100 => if x100 = true then (some false) else ((spec_DrawDropPast.f k x0).bind fun bt390 => ((impl_DropPast.f bt390.1 bt390.2).bind fun t394 => (laws_FnFound.l0 k bt390.1 bt390.2 t394 0)))
def laws_FnFound.l0 : Nat → List (S26) → Int → List (S26) → Int → Option (Bool)
  | 0, _, _, _, _ => none
  | k + 1, x11, x12, x13, x14 => if x14 < (x13.length : Int) then (if 0 ≤ x14 then (if ((rd_T26 x13 x14).f5) < x12 then (some false) else (laws_FnFound.l0 k x11 x12 x13 (wrap64 (x14 + 1)))) else (none)) else (if (x13.length : Int) ≤ (x11.length : Int) then ((impl_IsStore.f k x11).bind fun t398 => (if t398 = true then ((impl_IsStore.f k x13).bind fun t399 => (some t399)) else (some true))) else (some false))
end
def laws_FnFound.f (k : Nat) (l0 : List Int) : Option (Bool) := (laws_big.f l0).bind fun t373 => (if t373 = true then (some true) else ((spec_DrawFindFact.f k l0).bind fun bt374 => ((impl_FindFact.f k bt374.1 bt374.2.1 bt374.2.2.1 bt374.2.2.2.1 bt374.2.2.2.2.1 bt374.2.2.2.2.2).bind fun t382 => ((impl_BestValue.f k bt374.1 bt374.2.1 bt374.2.2.1 bt374.2.2.2.2.1 bt374.2.2.2.2.2).bind fun t383 => (if t382 ≥ 0 then (if t382 ≥ (bt374.1.length : Int) then (laws_FnFound.j0 k l0 bt374.1 bt374.2.1 bt374.2.2.1 bt374.2.2.2.2.1 bt374.2.2.2.2.2 t383 true) else (if 0 ≤ t382 then (if t382 < (bt374.1.length : Int) then ((impl_HoldsAt.f ((rd_T26 bt374.1 t382).f0) ((rd_T26 bt374.1 t382).f1) ((rd_T26 bt374.1 t382).f2) ((rd_T26 bt374.1 t382).f3) ((rd_T26 bt374.1 t382).f4) ((rd_T26 bt374.1 t382).f5) bt374.2.2.2.2.1 bt374.2.2.2.2.2).bind fun t385 => (if t385 = true then (if ((rd_T26 bt374.1 t382).f0) = bt374.2.1 then (if ((rd_T26 bt374.1 t382).f1) = bt374.2.2.1 then (if ((rd_T26 bt374.1 t382).f2) = bt374.2.2.2.1 then (laws_FnFound.j0 k l0 bt374.1 bt374.2.1 bt374.2.2.1 bt374.2.2.2.2.1 bt374.2.2.2.2.2 t383 (decide (t383 < bt374.2.2.2.1))) else (laws_FnFound.j0 k l0 bt374.1 bt374.2.1 bt374.2.2.1 bt374.2.2.2.2.1 bt374.2.2.2.2.2 t383 true)) else (laws_FnFound.j0 k l0 bt374.1 bt374.2.1 bt374.2.2.1 bt374.2.2.2.2.1 bt374.2.2.2.2.2 t383 true)) else (laws_FnFound.j0 k l0 bt374.1 bt374.2.1 bt374.2.2.1 bt374.2.2.2.2.1 bt374.2.2.2.2.2 t383 true)) else (laws_FnFound.j0 k l0 bt374.1 bt374.2.1 bt374.2.2.1 bt374.2.2.2.2.1 bt374.2.2.2.2.2 t383 true))) else (none)) else (none))) else (laws_FnFound.j0 k l0 bt374.1 bt374.2.1 bt374.2.2.1 bt374.2.2.2.2.1 bt374.2.2.2.2.2 t383 false))))))
theorem laws_FnFound.mono_l : ∀ k, (∀ y0 y1 y2 y3 y4 y5 y6 y7, LeO (laws_FnFound.j0 k y0 y1 y2 y3 y4 y5 y6 y7) (laws_FnFound.j0 (k + 1) y0 y1 y2 y3 y4 y5 y6 y7)) ∧ (∀ y0 y1, LeO (laws_FnFound.j1 k y0 y1) (laws_FnFound.j1 (k + 1) y0 y1)) ∧ (∀ y0 y1 y2 y3, LeO (laws_FnFound.l0 k y0 y1 y2 y3) (laws_FnFound.l0 (k + 1) y0 y1 y2 y3))
  | 0 => ⟨fun _ _ _ _ _ _ _ _ r h => by simp [laws_FnFound.j0] at h, fun _ _ r h => by simp [laws_FnFound.j1] at h, fun _ _ _ _ r h => by simp [laws_FnFound.l0] at h⟩
  | k + 1 => by
    obtain ⟨ih0, ih1, ih2⟩ := laws_FnFound.mono_l k
    refine ⟨?_, ?_, ?_⟩
    · intro y0 y1 y2 y3 y4 y5 y6 y7
      unfold laws_FnFound.j0
      repeat' first
      | (with_reducible exact ih0 _ _ _ _ _ _ _ _)
      | (with_reducible exact ih1 _ _)
      | (with_reducible exact ih2 _ _ _ _)
      | (with_reducible exact impl_BestValue.mono _ _ _ _ _ _)
      | (with_reducible exact impl_FindFact.mono _ _ _ _ _ _ _)
      | (with_reducible exact impl_IsStore.mono _ _)
      | (with_reducible exact spec_DrawDropPast.mono _ _)
      | (with_reducible exact spec_DrawFindFact.mono _ _)
      | (with_reducible exact LeO.refl _)
      | (with_reducible exact LeO.none _)
      | (with_reducible refine LeO.ite ?_ ?_)
      | (with_reducible refine LeO.bind ?_ (fun _ => ?_))
      | exact ih0 _ _ _ _ _ _ _ _
      | exact ih1 _ _
      | exact ih2 _ _ _ _
      | exact impl_BestValue.mono _ _ _ _ _ _
      | exact impl_FindFact.mono _ _ _ _ _ _ _
      | exact impl_IsStore.mono _ _
      | exact spec_DrawDropPast.mono _ _
      | exact spec_DrawFindFact.mono _ _
      | exact LeO.none _
      | refine LeO.ite ?_ ?_
      | refine LeO.bind ?_ (fun _ => ?_)
    · intro y0 y1
      unfold laws_FnFound.j1
      repeat' first
      | (with_reducible exact ih0 _ _ _ _ _ _ _ _)
      | (with_reducible exact ih1 _ _)
      | (with_reducible exact ih2 _ _ _ _)
      | (with_reducible exact impl_BestValue.mono _ _ _ _ _ _)
      | (with_reducible exact impl_FindFact.mono _ _ _ _ _ _ _)
      | (with_reducible exact impl_IsStore.mono _ _)
      | (with_reducible exact spec_DrawDropPast.mono _ _)
      | (with_reducible exact spec_DrawFindFact.mono _ _)
      | (with_reducible exact LeO.refl _)
      | (with_reducible exact LeO.none _)
      | (with_reducible refine LeO.ite ?_ ?_)
      | (with_reducible refine LeO.bind ?_ (fun _ => ?_))
      | exact ih0 _ _ _ _ _ _ _ _
      | exact ih1 _ _
      | exact ih2 _ _ _ _
      | exact impl_BestValue.mono _ _ _ _ _ _
      | exact impl_FindFact.mono _ _ _ _ _ _ _
      | exact impl_IsStore.mono _ _
      | exact spec_DrawDropPast.mono _ _
      | exact spec_DrawFindFact.mono _ _
      | exact LeO.none _
      | refine LeO.ite ?_ ?_
      | refine LeO.bind ?_ (fun _ => ?_)
    · intro y0 y1 y2 y3
      unfold laws_FnFound.l0
      repeat' first
      | (with_reducible exact ih0 _ _ _ _ _ _ _ _)
      | (with_reducible exact ih1 _ _)
      | (with_reducible exact ih2 _ _ _ _)
      | (with_reducible exact impl_BestValue.mono _ _ _ _ _ _)
      | (with_reducible exact impl_FindFact.mono _ _ _ _ _ _ _)
      | (with_reducible exact impl_IsStore.mono _ _)
      | (with_reducible exact spec_DrawDropPast.mono _ _)
      | (with_reducible exact spec_DrawFindFact.mono _ _)
      | (with_reducible exact LeO.refl _)
      | (with_reducible exact LeO.none _)
      | (with_reducible refine LeO.ite ?_ ?_)
      | (with_reducible refine LeO.bind ?_ (fun _ => ?_))
      | exact ih0 _ _ _ _ _ _ _ _
      | exact ih1 _ _
      | exact ih2 _ _ _ _
      | exact impl_BestValue.mono _ _ _ _ _ _
      | exact impl_FindFact.mono _ _ _ _ _ _ _
      | exact impl_IsStore.mono _ _
      | exact spec_DrawDropPast.mono _ _
      | exact spec_DrawFindFact.mono _ _
      | exact LeO.none _
      | refine LeO.ite ?_ ?_
      | refine LeO.bind ?_ (fun _ => ?_)
theorem laws_FnFound.mono : ∀ a0 k, LeO (laws_FnFound.f k a0) (laws_FnFound.f (k + 1) a0) := by
  intro a0 k
  obtain ⟨ih0, ih1, ih2⟩ := laws_FnFound.mono_l k
  unfold laws_FnFound.f
  repeat' first
      | (with_reducible exact ih0 _ _ _ _ _ _ _ _)
      | (with_reducible exact ih1 _ _)
      | (with_reducible exact ih2 _ _ _ _)
      | (with_reducible exact impl_BestValue.mono _ _ _ _ _ _)
      | (with_reducible exact impl_FindFact.mono _ _ _ _ _ _ _)
      | (with_reducible exact impl_IsStore.mono _ _)
      | (with_reducible exact spec_DrawDropPast.mono _ _)
      | (with_reducible exact spec_DrawFindFact.mono _ _)
      | (with_reducible exact LeO.refl _)
      | (with_reducible exact LeO.none _)
      | (with_reducible refine LeO.ite ?_ ?_)
      | (with_reducible refine LeO.bind ?_ (fun _ => ?_))
      | exact ih0 _ _ _ _ _ _ _ _
      | exact ih1 _ _
      | exact ih2 _ _ _ _
      | exact impl_BestValue.mono _ _ _ _ _ _
      | exact impl_FindFact.mono _ _ _ _ _ _ _
      | exact impl_IsStore.mono _ _
      | exact spec_DrawDropPast.mono _ _
      | exact spec_DrawFindFact.mono _ _
      | exact LeO.none _
      | refine LeO.ite ?_ ?_
      | refine LeO.bind ?_ (fun _ => ?_)
set_option maxHeartbeats 8000000 in
set_option maxRecDepth 100000 in
theorem laws_FnFound.calls (k : Nat) (A0 : Option Addr) (c0 : Nat) (l0 : List Int) (r : Bool) (w : World) (hr0 : Kd.C (Kd.int .u8) w A0 l0.length l0) (hc0 : l0.length ≤ c0) (h : laws_FnFound.f k l0 = some r) :
    Calls Try.prog 5 #[.slice A0 l0.length c0] w fun e w' => e = .returned (.bool r) ∧ Below w.heap.size w w' := by
  have hu26 := Try.underlying26
  have HR0 := Aside0.mk hr0
  have HC0 := Aside0.mk hc0
  clear hr0 hc0
  have HB := Aside0.mk (Below.refl w.heap.size w)
  have H : ((laws_big.f l0).bind fun t373 => (if t373 = true then (some true) else ((spec_DrawFindFact.f k l0).bind fun bt374 => ((impl_FindFact.f k bt374.1 bt374.2.1 bt374.2.2.1 bt374.2.2.2.1 bt374.2.2.2.2.1 bt374.2.2.2.2.2).bind fun t382 => ((impl_BestValue.f k bt374.1 bt374.2.1 bt374.2.2.1 bt374.2.2.2.2.1 bt374.2.2.2.2.2).bind fun t383 => (if t382 ≥ 0 then (if t382 ≥ (bt374.1.length : Int) then (laws_FnFound.j0 k l0 bt374.1 bt374.2.1 bt374.2.2.1 bt374.2.2.2.2.1 bt374.2.2.2.2.2 t383 true) else (if 0 ≤ t382 then (if t382 < (bt374.1.length : Int) then ((impl_HoldsAt.f ((rd_T26 bt374.1 t382).f0) ((rd_T26 bt374.1 t382).f1) ((rd_T26 bt374.1 t382).f2) ((rd_T26 bt374.1 t382).f3) ((rd_T26 bt374.1 t382).f4) ((rd_T26 bt374.1 t382).f5) bt374.2.2.2.2.1 bt374.2.2.2.2.2).bind fun t385 => (if t385 = true then (if ((rd_T26 bt374.1 t382).f0) = bt374.2.1 then (if ((rd_T26 bt374.1 t382).f1) = bt374.2.2.1 then (if ((rd_T26 bt374.1 t382).f2) = bt374.2.2.2.1 then (laws_FnFound.j0 k l0 bt374.1 bt374.2.1 bt374.2.2.1 bt374.2.2.2.2.1 bt374.2.2.2.2.2 t383 (decide (t383 < bt374.2.2.2.1))) else (laws_FnFound.j0 k l0 bt374.1 bt374.2.1 bt374.2.2.1 bt374.2.2.2.2.1 bt374.2.2.2.2.2 t383 true)) else (laws_FnFound.j0 k l0 bt374.1 bt374.2.1 bt374.2.2.1 bt374.2.2.2.2.1 bt374.2.2.2.2.2 t383 true)) else (laws_FnFound.j0 k l0 bt374.1 bt374.2.1 bt374.2.2.1 bt374.2.2.2.2.1 bt374.2.2.2.2.2 t383 true)) else (laws_FnFound.j0 k l0 bt374.1 bt374.2.1 bt374.2.2.1 bt374.2.2.2.2.1 bt374.2.2.2.2.2 t383 true))) else (none)) else (none))) else (laws_FnFound.j0 k l0 bt374.1 bt374.2.1 bt374.2.2.1 bt374.2.2.2.2.1 bt374.2.2.2.2.2 t383 false))))))) = some r := h
  clear h
  replace H := Option.bind_eq_some_iff.mp H
  obtain ⟨t373, A20, H⟩ := H
  replace H : (if t373 = true then (some true) else ((spec_DrawFindFact.f k l0).bind fun bt374 => ((impl_FindFact.f k bt374.1 bt374.2.1 bt374.2.2.1 bt374.2.2.2.1 bt374.2.2.2.2.1 bt374.2.2.2.2.2).bind fun t382 => ((impl_BestValue.f k bt374.1 bt374.2.1 bt374.2.2.1 bt374.2.2.2.2.1 bt374.2.2.2.2.2).bind fun t383 => (if t382 ≥ 0 then (if t382 ≥ (bt374.1.length : Int) then (laws_FnFound.j0 k l0 bt374.1 bt374.2.1 bt374.2.2.1 bt374.2.2.2.2.1 bt374.2.2.2.2.2 t383 true) else (if 0 ≤ t382 then (if t382 < (bt374.1.length : Int) then ((impl_HoldsAt.f ((rd_T26 bt374.1 t382).f0) ((rd_T26 bt374.1 t382).f1) ((rd_T26 bt374.1 t382).f2) ((rd_T26 bt374.1 t382).f3) ((rd_T26 bt374.1 t382).f4) ((rd_T26 bt374.1 t382).f5) bt374.2.2.2.2.1 bt374.2.2.2.2.2).bind fun t385 => (if t385 = true then (if ((rd_T26 bt374.1 t382).f0) = bt374.2.1 then (if ((rd_T26 bt374.1 t382).f1) = bt374.2.2.1 then (if ((rd_T26 bt374.1 t382).f2) = bt374.2.2.2.1 then (laws_FnFound.j0 k l0 bt374.1 bt374.2.1 bt374.2.2.1 bt374.2.2.2.2.1 bt374.2.2.2.2.2 t383 (decide (t383 < bt374.2.2.2.1))) else (laws_FnFound.j0 k l0 bt374.1 bt374.2.1 bt374.2.2.1 bt374.2.2.2.2.1 bt374.2.2.2.2.2 t383 true)) else (laws_FnFound.j0 k l0 bt374.1 bt374.2.1 bt374.2.2.1 bt374.2.2.2.2.1 bt374.2.2.2.2.2 t383 true)) else (laws_FnFound.j0 k l0 bt374.1 bt374.2.1 bt374.2.2.1 bt374.2.2.2.2.1 bt374.2.2.2.2.2 t383 true)) else (laws_FnFound.j0 k l0 bt374.1 bt374.2.1 bt374.2.2.1 bt374.2.2.2.2.1 bt374.2.2.2.2.2 t383 true))) else (none)) else (none))) else (laws_FnFound.j0 k l0 bt374.1 bt374.2.1 bt374.2.2.1 bt374.2.2.2.2.1 bt374.2.2.2.2.2 t383 false)))))) = some r := H
  have A2 := Aside0.mk A20
  clear A20
  by_cases c3 : t373 = true
  · subst c3
    have H1 : (some true) = some r := by rw [if_pos rfl] at H; exact H
    clear H
    have H := H1
    clear H1
    obtain rfl := Option.some.inj H
    go_enter Try.func5, Try.ntmps5
    go_wp2_with (first | ((with_reducible refine gate_callee (f := 8) rfl ?_); refine goesL_ (some 16) rfl rfl Try.func8 (by kernel_rfl) rfl #[.slice A0 l0.length c0] rfl (by (try simp only [List.map_toArray, List.map_cons, List.map_nil]); first | done | rfl | (simp only [List.length_drop, List.length_take]; rfl)) ?_; (with_reducible refine (laws_big.calls _ _ l0 true _ ?side1 ?side2 A2.out).mono ?_); (case side1 => repeat (first | exact HR0.out | (with_reducible refine Kd.C_alloc ?_ _) | (with_reducible refine Kd.C_drewN ?_ _) | (with_reducible refine Kd.C_drew ?_))); (case side2 => exact HC0.out); rintro e w' ⟨rfl, ⟨nd, rfl⟩⟩; refine ⟨_, rfl, ?_⟩))
    go_ret
    exact ⟨by first | rfl | (simp [errW_none, errW_some] <;> rfl) | (simp [*, errW_none, errW_some] <;> rfl), by repeat (first | (with_reducible first | exact HB.out | apply below_alloc | apply pw_below_drewN | apply below_drew1) | exact HB.out)⟩
  · replace c3 := Bool.eq_false_iff.mpr c3
    subst c3
    have H1 : ((spec_DrawFindFact.f k l0).bind fun bt374 => ((impl_FindFact.f k bt374.1 bt374.2.1 bt374.2.2.1 bt374.2.2.2.1 bt374.2.2.2.2.1 bt374.2.2.2.2.2).bind fun t382 => ((impl_BestValue.f k bt374.1 bt374.2.1 bt374.2.2.1 bt374.2.2.2.2.1 bt374.2.2.2.2.2).bind fun t383 => (if t382 ≥ 0 then (if t382 ≥ (bt374.1.length : Int) then (laws_FnFound.j0 k l0 bt374.1 bt374.2.1 bt374.2.2.1 bt374.2.2.2.2.1 bt374.2.2.2.2.2 t383 true) else (if 0 ≤ t382 then (if t382 < (bt374.1.length : Int) then ((impl_HoldsAt.f ((rd_T26 bt374.1 t382).f0) ((rd_T26 bt374.1 t382).f1) ((rd_T26 bt374.1 t382).f2) ((rd_T26 bt374.1 t382).f3) ((rd_T26 bt374.1 t382).f4) ((rd_T26 bt374.1 t382).f5) bt374.2.2.2.2.1 bt374.2.2.2.2.2).bind fun t385 => (if t385 = true then (if ((rd_T26 bt374.1 t382).f0) = bt374.2.1 then (if ((rd_T26 bt374.1 t382).f1) = bt374.2.2.1 then (if ((rd_T26 bt374.1 t382).f2) = bt374.2.2.2.1 then (laws_FnFound.j0 k l0 bt374.1 bt374.2.1 bt374.2.2.1 bt374.2.2.2.2.1 bt374.2.2.2.2.2 t383 (decide (t383 < bt374.2.2.2.1))) else (laws_FnFound.j0 k l0 bt374.1 bt374.2.1 bt374.2.2.1 bt374.2.2.2.2.1 bt374.2.2.2.2.2 t383 true)) else (laws_FnFound.j0 k l0 bt374.1 bt374.2.1 bt374.2.2.1 bt374.2.2.2.2.1 bt374.2.2.2.2.2 t383 true)) else (laws_FnFound.j0 k l0 bt374.1 bt374.2.1 bt374.2.2.1 bt374.2.2.2.2.1 bt374.2.2.2.2.2 t383 true)) else (laws_FnFound.j0 k l0 bt374.1 bt374.2.1 bt374.2.2.1 bt374.2.2.2.2.1 bt374.2.2.2.2.2 t383 true))) else (none)) else (none))) else (laws_FnFound.j0 k l0 bt374.1 bt374.2.1 bt374.2.2.1 bt374.2.2.2.2.1 bt374.2.2.2.2.2 t383 false))))) = some r := by rw [if_neg (show ¬ (false = true) by decide)] at H; exact H
    clear H
    have H := H1
    clear H1
    replace H := Option.bind_eq_some_iff.mp H
    obtain ⟨⟨t374, t375, t376, t377, t378, t379⟩, A40, H⟩ := H
    replace H : ((impl_FindFact.f k t374 t375 t376 t377 t378 t379).bind fun t382 => ((impl_BestValue.f k t374 t375 t376 t378 t379).bind fun t383 => (if t382 ≥ 0 then (if t382 ≥ (t374.length : Int) then (laws_FnFound.j0 k l0 t374 t375 t376 t378 t379 t383 true) else (if 0 ≤ t382 then (if t382 < (t374.length : Int) then ((impl_HoldsAt.f ((rd_T26 t374 t382).f0) ((rd_T26 t374 t382).f1) ((rd_T26 t374 t382).f2) ((rd_T26 t374 t382).f3) ((rd_T26 t374 t382).f4) ((rd_T26 t374 t382).f5) t378 t379).bind fun t385 => (if t385 = true then (if ((rd_T26 t374 t382).f0) = t375 then (if ((rd_T26 t374 t382).f1) = t376 then (if ((rd_T26 t374 t382).f2) = t377 then (laws_FnFound.j0 k l0 t374 t375 t376 t378 t379 t383 (decide (t383 < t377))) else (laws_FnFound.j0 k l0 t374 t375 t376 t378 t379 t383 true)) else (laws_FnFound.j0 k l0 t374 t375 t376 t378 t379 t383 true)) else (laws_FnFound.j0 k l0 t374 t375 t376 t378 t379 t383 true)) else (laws_FnFound.j0 k l0 t374 t375 t376 t378 t379 t383 true))) else (none)) else (none))) else (laws_FnFound.j0 k l0 t374 t375 t376 t378 t379 t383 false)))) = some r := H
    have A4 := Aside0.mk A40
    clear A40
    replace H := Option.bind_eq_some_iff.mp H
    obtain ⟨t382, A50, H⟩ := H
    replace H : ((impl_BestValue.f k t374 t375 t376 t378 t379).bind fun t383 => (if t382 ≥ 0 then (if t382 ≥ (t374.length : Int) then (laws_FnFound.j0 k l0 t374 t375 t376 t378 t379 t383 true) else (if 0 ≤ t382 then (if t382 < (t374.length : Int) then ((impl_HoldsAt.f ((rd_T26 t374 t382).f0) ((rd_T26 t374 t382).f1) ((rd_T26 t374 t382).f2) ((rd_T26 t374 t382).f3) ((rd_T26 t374 t382).f4) ((rd_T26 t374 t382).f5) t378 t379).bind fun t385 => (if t385 = true then (if ((rd_T26 t374 t382).f0) = t375 then (if ((rd_T26 t374 t382).f1) = t376 then (if ((rd_T26 t374 t382).f2) = t377 then (laws_FnFound.j0 k l0 t374 t375 t376 t378 t379 t383 (decide (t383 < t377))) else (laws_FnFound.j0 k l0 t374 t375 t376 t378 t379 t383 true)) else (laws_FnFound.j0 k l0 t374 t375 t376 t378 t379 t383 true)) else (laws_FnFound.j0 k l0 t374 t375 t376 t378 t379 t383 true)) else (laws_FnFound.j0 k l0 t374 t375 t376 t378 t379 t383 true))) else (none)) else (none))) else (laws_FnFound.j0 k l0 t374 t375 t376 t378 t379 t383 false))) = some r := H
    have A5 := Aside0.mk A50
    clear A50
    replace H := Option.bind_eq_some_iff.mp H
    obtain ⟨t383, A60, H⟩ := H
    replace H : (if t382 ≥ 0 then (if t382 ≥ (t374.length : Int) then (laws_FnFound.j0 k l0 t374 t375 t376 t378 t379 t383 true) else (if 0 ≤ t382 then (if t382 < (t374.length : Int) then ((impl_HoldsAt.f ((rd_T26 t374 t382).f0) ((rd_T26 t374 t382).f1) ((rd_T26 t374 t382).f2) ((rd_T26 t374 t382).f3) ((rd_T26 t374 t382).f4) ((rd_T26 t374 t382).f5) t378 t379).bind fun t385 => (if t385 = true then (if ((rd_T26 t374 t382).f0) = t375 then (if ((rd_T26 t374 t382).f1) = t376 then (if ((rd_T26 t374 t382).f2) = t377 then (laws_FnFound.j0 k l0 t374 t375 t376 t378 t379 t383 (decide (t383 < t377))) else (laws_FnFound.j0 k l0 t374 t375 t376 t378 t379 t383 true)) else (laws_FnFound.j0 k l0 t374 t375 t376 t378 t379 t383 true)) else (laws_FnFound.j0 k l0 t374 t375 t376 t378 t379 t383 true)) else (laws_FnFound.j0 k l0 t374 t375 t376 t378 t379 t383 true))) else (none)) else (none))) else (laws_FnFound.j0 k l0 t374 t375 t376 t378 t379 t383 false)) = some r := H
    have A6 := Aside0.mk A60
    clear A60
    have HC7 := Aside0.mk H
    clear H
    go_enter Try.func5, Try.ntmps5
    go_upto_region 6 with (first | ((with_reducible refine gate_callee (f := 8) rfl ?_); refine goesL_ (some 16) rfl rfl Try.func8 (by kernel_rfl) rfl #[.slice A0 l0.length c0] rfl (by (try simp only [List.map_toArray, List.map_cons, List.map_nil]); first | done | rfl | (simp only [List.length_drop, List.length_take]; rfl)) ?_; (with_reducible refine (laws_big.calls _ _ l0 false _ ?side1 ?side2 A2.out).mono ?_); (case side1 => repeat (first | exact HR0.out | (with_reducible refine Kd.C_alloc ?_ _) | (with_reducible refine Kd.C_drewN ?_ _) | (with_reducible refine Kd.C_drew ?_))); (case side2 => exact HC0.out); rintro e w' ⟨rfl, ⟨nd, rfl⟩⟩; refine ⟨_, rfl, ?_⟩) | ((with_reducible refine gate_callee (f := 24) rfl ?_); refine goesL_ (some 19) rfl rfl Try.func24 (by kernel_rfl) rfl #[.slice A0 l0.length c0] rfl (by (try simp only [List.map_toArray, List.map_cons, List.map_nil]); first | done | rfl | (simp only [List.length_drop, List.length_take]; rfl)) ?_; (with_reducible refine (spec_DrawFindFact.calls k _ _ l0 t374 t375 t376 t377 t378 t379 _ ?side1 ?side2 A4.out).mono ?_); (case side1 => repeat (first | exact HR0.out | (with_reducible refine Kd.C_alloc ?_ _) | (with_reducible refine Kd.C_drewN ?_ _) | (with_reducible refine Kd.C_drew ?_))); (case side2 => exact HC0.out); rintro e w8 ⟨v380, rfl, ho0, hb⟩; refine ⟨_, rfl, ?_⟩; have n0_ := Aside0.mk (Kd.R_lower ho0 (below_size (by repeat (first | (with_reducible first | exact HB.out | apply below_alloc | apply pw_below_drewN | apply below_drew1) | exact HB.out)))); have n1_ := Aside0.mk (below_step (by repeat (first | (with_reducible first | exact HB.out | apply below_alloc | apply pw_below_drewN | apply below_drew1) | exact HB.out)) hb); clear HB; have HO381 := n0_; have HB := n1_; clear n0_ n1_; (try clear hb); (try clear hb2); (try clear hk); (try clear hi); (try clear ho0); obtain ⟨Ao9, co9, eo9⟩ := Kd.R_slice HO381.out; subst eo9) | ((with_reducible refine gate_callee (f := 25) rfl ?_); refine goesL_ (some 32) rfl rfl Try.func25 (by kernel_rfl) rfl #[.slice Ao9 t374.length co9, .int .i64 t375, .int .i64 t376, .int .i64 t377, .int .i64 t378, .int .i64 t379] rfl (by (try simp only [List.map_toArray, List.map_cons, List.map_nil]); first | done | rfl | (simp only [List.length_drop, List.length_take]; rfl)) ?_; (with_reducible refine (impl_FindFact.calls k _ _ t374 t375 t376 t377 t378 t379 t382 _ ?side1 ?side2 A5.out).mono ?_); (case side1 => repeat (first | exact (Kd.R_reads' HO381.out).2.2 | (with_reducible refine Kd.C_alloc ?_ _) | (with_reducible refine Kd.C_drewN ?_ _) | (with_reducible refine Kd.C_drew ?_))); (case side2 => exact (Kd.R_reads' HO381.out).2.1); rintro e w10 ⟨rfl, hb⟩; refine ⟨_, rfl, ?_⟩; have n0_ := Aside0.mk (Kd.R_below (by (with_reducible repeat (first | apply Kd.R_alloc | apply Kd.R_drewN | apply Kd.R_drew)); exact HO381.out) hb); have n1_ := Aside0.mk (below_step (by repeat (first | (with_reducible first | exact HB.out | apply below_alloc | apply pw_below_drewN | apply below_drew1) | exact HB.out)) hb); clear HO381; clear HB; have HO381 := n0_; have HB := n1_; clear n0_ n1_; (try clear hb); (try clear hb2); (try clear hk); (try clear hi)) | ((with_reducible refine gate_callee (f := 26) rfl ?_); refine goesL_ (some 38) rfl rfl Try.func26 (by kernel_rfl) rfl #[.slice Ao9 t374.length co9, .int .i64 t375, .int .i64 t376, .int .i64 t378, .int .i64 t379] rfl (by (try simp only [List.map_toArray, List.map_cons, List.map_nil]); first | done | rfl | (simp only [List.length_drop, List.length_take]; rfl)) ?_; (with_reducible refine (impl_BestValue.calls k _ _ t374 t375 t376 t378 t379 t383 _ ?side1 ?side2 A6.out).mono ?_); (case side1 => repeat (first | exact (Kd.R_reads' HO381.out).2.2 | (with_reducible refine Kd.C_alloc ?_ _) | (with_reducible refine Kd.C_drewN ?_ _) | (with_reducible refine Kd.C_drew ?_))); (case side2 => exact (Kd.R_reads' HO381.out).2.1); rintro e w11 ⟨rfl, hb⟩; refine ⟨_, rfl, ?_⟩; have n0_ := Aside0.mk (Kd.R_below (by (with_reducible repeat (first | apply Kd.R_alloc | apply Kd.R_drewN | apply Kd.R_drew)); exact HO381.out) hb); have n1_ := Aside0.mk (below_step (by repeat (first | (with_reducible first | exact HB.out | apply below_alloc | apply pw_below_drewN | apply below_drew1) | exact HB.out)) hb); clear HO381; clear HB; have HO381 := n0_; have HB := n1_; clear n0_ n1_; (try clear hb); (try clear hb2); (try clear hk); (try clear hi)))
    (try simp only [Act.put, List.setIfInBounds_toArray, List.set_cons_zero, List.set_cons_succ])
    go_cut [88] (fun v88 wc => ∃ (kq : Nat) (x88_6 : Bool), v88 = .bool x88_6 ∧ Aside0 (laws_FnFound.j0 kq l0 t374 t375 t376 t378 t379 t383 x88_6 = some r) ∧ Aside0 (kq ≤ k) ∧ Aside0 (Kd.R k26 26 wc w.heap.size (fun _ => True) (.slice Ao9 t374.length co9) t374) ∧ Aside0 (Below w.heap.size w wc))
    case first =>
      have H := HC7.out
      clear HC7
      by_cases c12 : t382 ≥ 0
      · rw [if_pos c12] at H
        have c12b0 : decide (0 ≤ t382) = true := decide_eq_true c12
        clear c12
        (first | rw [c12b0] | (simp only [i64_w, i32_w]; rw [c12b0]) | skip)
        by_cases c13 : t382 ≥ (t374.length : Int)
        · rw [if_pos c13] at H
          have c13b0 : decide ((t374.length : Int) ≤ t382) = true := decide_eq_true c13
          clear c13
          have H' := Aside0.mk H
          clear H
          go_wp2
          go_meet
          case rel => exact ⟨_, (true), (by first | rfl | (simp; done) | (simp [*]; done)), H', ⟨by first | omega | exact Nat.le_refl _⟩, ⟨by (with_reducible repeat (first | apply Kd.R_alloc | apply Kd.R_drewN | apply Kd.R_drew)); exact HO381.out⟩, ⟨by repeat (first | (with_reducible first | exact HB.out | apply below_alloc | apply pw_below_drewN | apply below_drew1) | exact HB.out)⟩⟩
        · rw [if_neg c13] at H
          have c13b0 : decide ((t374.length : Int) ≤ t382) = false := decide_eq_false c13
          clear c13
          by_cases c14 : 0 ≤ t382
          · rw [if_pos c14] at H
            have c14b0 : decide (0 ≤ t382) = true := decide_eq_true c14
            clear c14
            by_cases c15 : t382 < (t374.length : Int)
            · rw [if_pos c15] at H
              have c15b0 : decide (t382 < (t374.length : Int)) = true := decide_eq_true c15
              clear c15
              replace H := Option.bind_eq_some_iff.mp H
              obtain ⟨t385, A160, H⟩ := H
              replace H : (if t385 = true then (if ((rd_T26 t374 t382).f0) = t375 then (if ((rd_T26 t374 t382).f1) = t376 then (if ((rd_T26 t374 t382).f2) = t377 then (laws_FnFound.j0 k l0 t374 t375 t376 t378 t379 t383 (decide (t383 < t377))) else (laws_FnFound.j0 k l0 t374 t375 t376 t378 t379 t383 true)) else (laws_FnFound.j0 k l0 t374 t375 t376 t378 t379 t383 true)) else (laws_FnFound.j0 k l0 t374 t375 t376 t378 t379 t383 true)) else (laws_FnFound.j0 k l0 t374 t375 t376 t378 t379 t383 true)) = some r := H
              have A16 := Aside0.mk A160
              clear A160
              by_cases c17 : t385 = true
              · subst c17
                have H1 : (if ((rd_T26 t374 t382).f0) = t375 then (if ((rd_T26 t374 t382).f1) = t376 then (if ((rd_T26 t374 t382).f2) = t377 then (laws_FnFound.j0 k l0 t374 t375 t376 t378 t379 t383 (decide (t383 < t377))) else (laws_FnFound.j0 k l0 t374 t375 t376 t378 t379 t383 true)) else (laws_FnFound.j0 k l0 t374 t375 t376 t378 t379 t383 true)) else (laws_FnFound.j0 k l0 t374 t375 t376 t378 t379 t383 true)) = some r := by rw [if_pos rfl] at H; exact H
                clear H
                have H := H1
                clear H1
                by_cases c18 : ((rd_T26 t374 t382).f0) = t375
                · rw [if_pos c18] at H
                  have c18b0 : (((rd_T26 t374 t382).f0) == t375) = true := beq_iff_eq.mpr c18
                  have c18b1 : (((rd_T26 t374 t382).f0) != t375) = false := bne_eq_false_iff_eq.mpr c18
                  clear c18
                  by_cases c19 : ((rd_T26 t374 t382).f1) = t376
                  · rw [if_pos c19] at H
                    have c19b0 : (((rd_T26 t374 t382).f1) == t376) = true := beq_iff_eq.mpr c19
                    have c19b1 : (((rd_T26 t374 t382).f1) != t376) = false := bne_eq_false_iff_eq.mpr c19
                    clear c19
                    by_cases c20 : ((rd_T26 t374 t382).f2) = t377
                    · rw [if_pos c20] at H
                      have c20b0 : (((rd_T26 t374 t382).f2) == t377) = true := beq_iff_eq.mpr c20
                      have c20b1 : (((rd_T26 t374 t382).f2) != t377) = false := bne_eq_false_iff_eq.mpr c20
                      clear c20
                      have H' := Aside0.mk H
                      clear H
                      have p384 : 0 ≤ (t382 : Int) := of_decide_eq_true (by first | (with_reducible assumption) | assumption)
                      have q384 : t382 < (t374.length : Int) := of_decide_eq_true (by first | (with_reducible assumption) | assumption)
                      obtain ⟨ad384, e384, hx384_0, hx384_1, hx384_2, hx384_3, hx384_4, hx384_5⟩ := at_T26 (Kd.R_reads' HO381.out).2.2 t382 p384 q384
                      cases e384
                      replace p384 := eq_true p384
                      replace q384 := eq_true q384
                      go_wp2_with (first | (go_at_call 27; (with_reducible refine (impl_HoldsAt.calls ((rd_T26 t374 t382).f0) ((rd_T26 t374 t382).f1) ((rd_T26 t374 t382).f2) ((rd_T26 t374 t382).f3) ((rd_T26 t374 t382).f4) ((rd_T26 t374 t382).f5) t378 t379 true _ A16.out).mono ?_); rintro e w21 ⟨rfl, hb⟩; have n0_ := Aside0.mk (Kd.R_below (by (with_reducible repeat (first | apply Kd.R_alloc | apply Kd.R_drewN | apply Kd.R_drew)); exact HO381.out) hb); have n1_ := Aside0.mk (below_step (by repeat (first | (with_reducible first | exact HB.out | apply below_alloc | apply pw_below_drewN | apply below_drew1) | exact HB.out)) hb); clear HO381; clear HB; have HO381 := n0_; have HB := n1_; clear n0_ n1_; (try clear hb); (try clear hb2); (try clear hk); (try clear hi); have p386 : 0 ≤ (t382 : Int) := of_decide_eq_true (by first | (with_reducible assumption) | assumption); have q386 : t382 < (t374.length : Int) := of_decide_eq_true (by first | (with_reducible assumption) | assumption); obtain ⟨ad386, e386, hx386_0, hx386_1, hx386_2, hx386_3, hx386_4, hx386_5⟩ := at_T26 (Kd.R_reads' HO381.out).2.2 t382 p386 q386; obtain rfl : ad384 = ad386 := (by injection e386); replace p386 := eq_true p386; replace q386 := eq_true q386; have p387 : 0 ≤ (t382 : Int) := of_decide_eq_true (by first | (with_reducible assumption) | assumption); have q387 : t382 < (t374.length : Int) := of_decide_eq_true (by first | (with_reducible assumption) | assumption); obtain ⟨ad387, e387, hx387_0, hx387_1, hx387_2, hx387_3, hx387_4, hx387_5⟩ := at_T26 (Kd.R_reads' HO381.out).2.2 t382 p387 q387; obtain rfl : ad384 = ad387 := (by injection e387); replace p387 := eq_true p387; replace q387 := eq_true q387; have p388 : 0 ≤ (t382 : Int) := of_decide_eq_true (by first | (with_reducible assumption) | assumption); have q388 : t382 < (t374.length : Int) := of_decide_eq_true (by first | (with_reducible assumption) | assumption); obtain ⟨ad388, e388, hx388_0, hx388_1, hx388_2, hx388_3, hx388_4, hx388_5⟩ := at_T26 (Kd.R_reads' HO381.out).2.2 t382 p388 q388; obtain rfl : ad384 = ad388 := (by injection e388); replace p388 := eq_true p388; replace q388 := eq_true q388))
                      go_meet
                      case rel => exact ⟨_, (decide (t383 < t377)), (by first | rfl | (simp; done) | (simp [*]; done)), H', ⟨by first | omega | exact Nat.le_refl _⟩, ⟨by (with_reducible repeat (first | apply Kd.R_alloc | apply Kd.R_drewN | apply Kd.R_drew)); exact HO381.out⟩, ⟨by repeat (first | (with_reducible first | exact HB.out | apply below_alloc | apply pw_below_drewN | apply below_drew1) | exact HB.out)⟩⟩
                    · rw [if_neg c20] at H
                      have c20b0 : (((rd_T26 t374 t382).f2) == t377) = false := beq_eq_false_iff_ne.mpr c20
                      have c20b1 : (((rd_T26 t374 t382).f2) != t377) = true := bne_iff_ne.mpr c20
                      have H' := Aside0.mk H
                      clear H
                      have p384 : 0 ≤ (t382 : Int) := of_decide_eq_true (by first | (with_reducible assumption) | assumption)
                      have q384 : t382 < (t374.length : Int) := of_decide_eq_true (by first | (with_reducible assumption) | assumption)
                      obtain ⟨ad384, e384, hx384_0, hx384_1, hx384_2, hx384_3, hx384_4, hx384_5⟩ := at_T26 (Kd.R_reads' HO381.out).2.2 t382 p384 q384
                      cases e384
                      replace p384 := eq_true p384
                      replace q384 := eq_true q384
                      go_wp2_with (first | (go_at_call 27; (with_reducible refine (impl_HoldsAt.calls ((rd_T26 t374 t382).f0) ((rd_T26 t374 t382).f1) ((rd_T26 t374 t382).f2) ((rd_T26 t374 t382).f3) ((rd_T26 t374 t382).f4) ((rd_T26 t374 t382).f5) t378 t379 true _ A16.out).mono ?_); rintro e w22 ⟨rfl, hb⟩; have n0_ := Aside0.mk (Kd.R_below (by (with_reducible repeat (first | apply Kd.R_alloc | apply Kd.R_drewN | apply Kd.R_drew)); exact HO381.out) hb); have n1_ := Aside0.mk (below_step (by repeat (first | (with_reducible first | exact HB.out | apply below_alloc | apply pw_below_drewN | apply below_drew1) | exact HB.out)) hb); clear HO381; clear HB; have HO381 := n0_; have HB := n1_; clear n0_ n1_; (try clear hb); (try clear hb2); (try clear hk); (try clear hi); have p386 : 0 ≤ (t382 : Int) := of_decide_eq_true (by first | (with_reducible assumption) | assumption); have q386 : t382 < (t374.length : Int) := of_decide_eq_true (by first | (with_reducible assumption) | assumption); obtain ⟨ad386, e386, hx386_0, hx386_1, hx386_2, hx386_3, hx386_4, hx386_5⟩ := at_T26 (Kd.R_reads' HO381.out).2.2 t382 p386 q386; obtain rfl : ad384 = ad386 := (by injection e386); replace p386 := eq_true p386; replace q386 := eq_true q386; have p387 : 0 ≤ (t382 : Int) := of_decide_eq_true (by first | (with_reducible assumption) | assumption); have q387 : t382 < (t374.length : Int) := of_decide_eq_true (by first | (with_reducible assumption) | assumption); obtain ⟨ad387, e387, hx387_0, hx387_1, hx387_2, hx387_3, hx387_4, hx387_5⟩ := at_T26 (Kd.R_reads' HO381.out).2.2 t382 p387 q387; obtain rfl : ad384 = ad387 := (by injection e387); replace p387 := eq_true p387; replace q387 := eq_true q387; have p388 : 0 ≤ (t382 : Int) := of_decide_eq_true (by first | (with_reducible assumption) | assumption); have q388 : t382 < (t374.length : Int) := of_decide_eq_true (by first | (with_reducible assumption) | assumption); obtain ⟨ad388, e388, hx388_0, hx388_1, hx388_2, hx388_3, hx388_4, hx388_5⟩ := at_T26 (Kd.R_reads' HO381.out).2.2 t382 p388 q388; obtain rfl : ad384 = ad388 := (by injection e388); replace p388 := eq_true p388; replace q388 := eq_true q388))
                      go_meet
                      case rel => exact ⟨_, (true), (by first | rfl | (simp; done) | (simp [*]; done)), H', ⟨by first | omega | exact Nat.le_refl _⟩, ⟨by (with_reducible repeat (first | apply Kd.R_alloc | apply Kd.R_drewN | apply Kd.R_drew)); exact HO381.out⟩, ⟨by repeat (first | (with_reducible first | exact HB.out | apply below_alloc | apply pw_below_drewN | apply below_drew1) | exact HB.out)⟩⟩
                  · rw [if_neg c19] at H
                    have c19b0 : (((rd_T26 t374 t382).f1) == t376) = false := beq_eq_false_iff_ne.mpr c19
                    have c19b1 : (((rd_T26 t374 t382).f1) != t376) = true := bne_iff_ne.mpr c19
                    have H' := Aside0.mk H
                    clear H
                    have p384 : 0 ≤ (t382 : Int) := of_decide_eq_true (by first | (with_reducible assumption) | assumption)
                    have q384 : t382 < (t374.length : Int) := of_decide_eq_true (by first | (with_reducible assumption) | assumption)
                    obtain ⟨ad384, e384, hx384_0, hx384_1, hx384_2, hx384_3, hx384_4, hx384_5⟩ := at_T26 (Kd.R_reads' HO381.out).2.2 t382 p384 q384
                    cases e384
                    replace p384 := eq_true p384
                    replace q384 := eq_true q384
                    go_wp2_with (first | (go_at_call 27; (with_reducible refine (impl_HoldsAt.calls ((rd_T26 t374 t382).f0) ((rd_T26 t374 t382).f1) ((rd_T26 t374 t382).f2) ((rd_T26 t374 t382).f3) ((rd_T26 t374 t382).f4) ((rd_T26 t374 t382).f5) t378 t379 true _ A16.out).mono ?_); rintro e w23 ⟨rfl, hb⟩; have n0_ := Aside0.mk (Kd.R_below (by (with_reducible repeat (first | apply Kd.R_alloc | apply Kd.R_drewN | apply Kd.R_drew)); exact HO381.out) hb); have n1_ := Aside0.mk (below_step (by repeat (first | (with_reducible first | exact HB.out | apply below_alloc | apply pw_below_drewN | apply below_drew1) | exact HB.out)) hb); clear HO381; clear HB; have HO381 := n0_; have HB := n1_; clear n0_ n1_; (try clear hb); (try clear hb2); (try clear hk); (try clear hi); have p386 : 0 ≤ (t382 : Int) := of_decide_eq_true (by first | (with_reducible assumption) | assumption); have q386 : t382 < (t374.length : Int) := of_decide_eq_true (by first | (with_reducible assumption) | assumption); obtain ⟨ad386, e386, hx386_0, hx386_1, hx386_2, hx386_3, hx386_4, hx386_5⟩ := at_T26 (Kd.R_reads' HO381.out).2.2 t382 p386 q386; obtain rfl : ad384 = ad386 := (by injection e386); replace p386 := eq_true p386; replace q386 := eq_true q386; have p387 : 0 ≤ (t382 : Int) := of_decide_eq_true (by first | (with_reducible assumption) | assumption); have q387 : t382 < (t374.length : Int) := of_decide_eq_true (by first | (with_reducible assumption) | assumption); obtain ⟨ad387, e387, hx387_0, hx387_1, hx387_2, hx387_3, hx387_4, hx387_5⟩ := at_T26 (Kd.R_reads' HO381.out).2.2 t382 p387 q387; obtain rfl : ad384 = ad387 := (by injection e387); replace p387 := eq_true p387; replace q387 := eq_true q387))
                    go_meet
                    case rel => exact ⟨_, (true), (by first | rfl | (simp; done) | (simp [*]; done)), H', ⟨by first | omega | exact Nat.le_refl _⟩, ⟨by (with_reducible repeat (first | apply Kd.R_alloc | apply Kd.R_drewN | apply Kd.R_drew)); exact HO381.out⟩, ⟨by repeat (first | (with_reducible first | exact HB.out | apply below_alloc | apply pw_below_drewN | apply below_drew1) | exact HB.out)⟩⟩
                · rw [if_neg c18] at H
                  have c18b0 : (((rd_T26 t374 t382).f0) == t375) = false := beq_eq_false_iff_ne.mpr c18
                  have c18b1 : (((rd_T26 t374 t382).f0) != t375) = true := bne_iff_ne.mpr c18
                  have H' := Aside0.mk H
                  clear H
                  have p384 : 0 ≤ (t382 : Int) := of_decide_eq_true (by first | (with_reducible assumption) | assumption)
                  have q384 : t382 < (t374.length : Int) := of_decide_eq_true (by first | (with_reducible assumption) | assumption)
                  obtain ⟨ad384, e384, hx384_0, hx384_1, hx384_2, hx384_3, hx384_4, hx384_5⟩ := at_T26 (Kd.R_reads' HO381.out).2.2 t382 p384 q384
                  cases e384
                  replace p384 := eq_true p384
                  replace q384 := eq_true q384
                  go_wp2_with (first | (go_at_call 27; (with_reducible refine (impl_HoldsAt.calls ((rd_T26 t374 t382).f0) ((rd_T26 t374 t382).f1) ((rd_T26 t374 t382).f2) ((rd_T26 t374 t382).f3) ((rd_T26 t374 t382).f4) ((rd_T26 t374 t382).f5) t378 t379 true _ A16.out).mono ?_); rintro e w24 ⟨rfl, hb⟩; have n0_ := Aside0.mk (Kd.R_below (by (with_reducible repeat (first | apply Kd.R_alloc | apply Kd.R_drewN | apply Kd.R_drew)); exact HO381.out) hb); have n1_ := Aside0.mk (below_step (by repeat (first | (with_reducible first | exact HB.out | apply below_alloc | apply pw_below_drewN | apply below_drew1) | exact HB.out)) hb); clear HO381; clear HB; have HO381 := n0_; have HB := n1_; clear n0_ n1_; (try clear hb); (try clear hb2); (try clear hk); (try clear hi); have p386 : 0 ≤ (t382 : Int) := of_decide_eq_true (by first | (with_reducible assumption) | assumption); have q386 : t382 < (t374.length : Int) := of_decide_eq_true (by first | (with_reducible assumption) | assumption); obtain ⟨ad386, e386, hx386_0, hx386_1, hx386_2, hx386_3, hx386_4, hx386_5⟩ := at_T26 (Kd.R_reads' HO381.out).2.2 t382 p386 q386; obtain rfl : ad384 = ad386 := (by injection e386); replace p386 := eq_true p386; replace q386 := eq_true q386))
                  go_meet
                  case rel => exact ⟨_, (true), (by first | rfl | (simp; done) | (simp [*]; done)), H', ⟨by first | omega | exact Nat.le_refl _⟩, ⟨by (with_reducible repeat (first | apply Kd.R_alloc | apply Kd.R_drewN | apply Kd.R_drew)); exact HO381.out⟩, ⟨by repeat (first | (with_reducible first | exact HB.out | apply below_alloc | apply pw_below_drewN | apply below_drew1) | exact HB.out)⟩⟩
              · replace c17 := Bool.eq_false_iff.mpr c17
                subst c17
                have H1 : (laws_FnFound.j0 k l0 t374 t375 t376 t378 t379 t383 true) = some r := by rw [if_neg (show ¬ (false = true) by decide)] at H; exact H
                clear H
                have H := H1
                clear H1
                have H' := Aside0.mk H
                clear H
                have p384 : 0 ≤ (t382 : Int) := of_decide_eq_true (by first | (with_reducible assumption) | assumption)
                have q384 : t382 < (t374.length : Int) := of_decide_eq_true (by first | (with_reducible assumption) | assumption)
                obtain ⟨ad384, e384, hx384_0, hx384_1, hx384_2, hx384_3, hx384_4, hx384_5⟩ := at_T26 (Kd.R_reads' HO381.out).2.2 t382 p384 q384
                cases e384
                replace p384 := eq_true p384
                replace q384 := eq_true q384
                go_wp2_with (first | (go_at_call 27; (with_reducible refine (impl_HoldsAt.calls ((rd_T26 t374 t382).f0) ((rd_T26 t374 t382).f1) ((rd_T26 t374 t382).f2) ((rd_T26 t374 t382).f3) ((rd_T26 t374 t382).f4) ((rd_T26 t374 t382).f5) t378 t379 false _ A16.out).mono ?_); rintro e w25 ⟨rfl, hb⟩; have n0_ := Aside0.mk (Kd.R_below (by (with_reducible repeat (first | apply Kd.R_alloc | apply Kd.R_drewN | apply Kd.R_drew)); exact HO381.out) hb); have n1_ := Aside0.mk (below_step (by repeat (first | (with_reducible first | exact HB.out | apply below_alloc | apply pw_below_drewN | apply below_drew1) | exact HB.out)) hb); clear HO381; clear HB; have HO381 := n0_; have HB := n1_; clear n0_ n1_; (try clear hb); (try clear hb2); (try clear hk); (try clear hi)))
                go_meet
                case rel => exact ⟨_, (true), (by first | rfl | (simp; done) | (simp [*]; done)), H', ⟨by first | omega | exact Nat.le_refl _⟩, ⟨by (with_reducible repeat (first | apply Kd.R_alloc | apply Kd.R_drewN | apply Kd.R_drew)); exact HO381.out⟩, ⟨by repeat (first | (with_reducible first | exact HB.out | apply below_alloc | apply pw_below_drewN | apply below_drew1) | exact HB.out)⟩⟩
            · rw [if_neg c15] at H
              exact absurd H (by simp)
          · rw [if_neg c14] at H
            exact absurd H (by simp)
      · rw [if_neg c12] at H
        have c12b0 : decide (0 ≤ t382) = false := decide_eq_false c12
        clear c12
        (first | rw [c12b0] | (simp only [i64_w, i32_w]; rw [c12b0]) | skip)
        have H' := Aside0.mk H
        clear H
        go_wp2
        go_meet
        case rel => exact ⟨_, (false), (by first | rfl | (simp; done) | (simp [*]; done)), H', ⟨by first | omega | exact Nat.le_refl _⟩, ⟨by (with_reducible repeat (first | apply Kd.R_alloc | apply Kd.R_drewN | apply Kd.R_drew)); exact HO381.out⟩, ⟨by repeat (first | (with_reducible first | exact HB.out | apply below_alloc | apply pw_below_drewN | apply below_drew1) | exact HB.out)⟩⟩
    case rest =>
      clear HC7
      try clear c1
      try clear c2
      try clear p2
      try clear c3
      try clear p3
      try clear q3
      try clear hx3
      try clear c5
      try clear c8
      try clear c12
      try clear c12b0
      try clear c13
      try clear c13b0
      try clear c14
      try clear c14b0
      try clear c15
      try clear c15b0
      try clear c17
      try clear c18
      try clear c18b0
      try clear c18b1
      try clear c19
      try clear c19b0
      try clear c19b1
      try clear c20
      try clear c20b0
      try clear c20b1
      try clear c24
      try clear c25
      try clear hx384_0
      try clear hx384_1
      try clear hx384_2
      try clear hx384_3
      try clear hx384_4
      try clear hx384_5
      try clear hx386_0
      try clear hx386_1
      try clear hx386_2
      try clear hx386_3
      try clear hx386_4
      try clear hx386_5
      try clear hx387_0
      try clear hx387_1
      try clear hx387_2
      try clear hx387_3
      try clear hx387_4
      try clear hx387_5
      try clear hx388_0
      try clear hx388_1
      try clear hx388_2
      try clear hx388_3
      try clear hx388_4
      try clear hx388_5
      try clear p384
      try clear p386
      try clear p387
      try clear p388
      try clear q384
      try clear q386
      try clear q387
      try clear q388
      obtain ⟨kq, x88_6, rfl, HA, HJ6, HO_3, HB⟩ := hcut
      cases kq with
      | zero => exact absurd HA.out (by simp [laws_FnFound.j0])
      | succ kj6 =>
        have H := HA.out
        clear HA
        simp only [laws_FnFound.j0] at H
        by_cases c26 : x88_6 = true
        · subst c26
          have H1 : (some false) = some r := by rw [if_pos rfl] at H; exact H
          clear H
          have H := H1
          clear H1
          obtain rfl := Option.some.inj H
          go_wp2
          go_ret
          exact ⟨by first | rfl | (simp [errW_none, errW_some] <;> rfl) | (simp [*, errW_none, errW_some] <;> rfl), by repeat (first | (with_reducible first | exact HB.out | apply below_alloc | apply pw_below_drewN | apply below_drew1) | exact HB.out)⟩
        · replace c26 := Bool.eq_false_iff.mpr c26
          subst c26
          have H1 : (if t383 ≥ 0 then ((impl_FindFact.f kj6 t374 t375 t376 t383 t378 t379).bind fun t389 => (laws_FnFound.j1 kj6 l0 (decide (t389 < 0)))) else (laws_FnFound.j1 kj6 l0 false)) = some r := by rw [if_neg (show ¬ (false = true) by decide)] at H; exact H
          clear H
          have H := H1
          clear H1
          have HC27 := Aside0.mk H
          clear H
          go_upto_region 8 with (fail)
          go_cut [100] (fun v100 wc => ∃ (kq : Nat) (x100_26 : Bool), v100 = .bool x100_26 ∧ Aside0 (laws_FnFound.j1 kq l0 x100_26 = some r) ∧ Aside0 (kq ≤ kj6) ∧ Aside0 (Below w.heap.size w wc))
          case first =>
            have H := HC27.out
            clear HC27
            by_cases c28 : t383 ≥ 0
            · rw [if_pos c28] at H
              have c28b0 : decide (0 ≤ t383) = true := decide_eq_true c28
              clear c28
              (first | rw [c28b0] | (simp only [i64_w, i32_w]; rw [c28b0]) | skip)
              replace H := Option.bind_eq_some_iff.mp H
              obtain ⟨t389, A290, H⟩ := H
              replace H : (laws_FnFound.j1 kj6 l0 (decide (t389 < 0))) = some r := H
              have A29 := Aside0.mk A290
              clear A290
              have H' := Aside0.mk H
              clear H
              go_wp2_with (first | (go_at_call 25; (with_reducible refine (impl_FindFact.calls kj6 _ _ t374 t375 t376 t383 t378 t379 t389 _ ?side1 ?side2 A29.out).mono ?_); (case side1 => repeat (first | exact (Kd.R_reads' HO_3.out).2.2 | (with_reducible refine Kd.C_alloc ?_ _) | (with_reducible refine Kd.C_drewN ?_ _) | (with_reducible refine Kd.C_drew ?_))); (case side2 => exact (Kd.R_reads' HO_3.out).2.1); rintro e w30 ⟨rfl, hb⟩; have n0_ := Aside0.mk (Kd.R_below (by (with_reducible repeat (first | apply Kd.R_alloc | apply Kd.R_drewN | apply Kd.R_drew)); exact HO_3.out) hb); have n1_ := Aside0.mk (below_step (by repeat (first | (with_reducible first | exact HB.out | apply below_alloc | apply pw_below_drewN | apply below_drew1) | exact HB.out)) hb); clear HO_3; clear HB; have HO_3 := n0_; have HB := n1_; clear n0_ n1_; (try clear hb); (try clear hb2); (try clear hk); (try clear hi)))
              go_meet
              case rel => exact ⟨_, (decide (t389 < 0)), (by first | rfl | (simp; done) | (simp [*]; done)), H', ⟨by have := HJ6.out; first | omega | exact Nat.le_refl _⟩, ⟨by repeat (first | (with_reducible first | exact HB.out | apply below_alloc | apply pw_below_drewN | apply below_drew1) | exact HB.out)⟩⟩
            · rw [if_neg c28] at H
              have c28b0 : decide (0 ≤ t383) = false := decide_eq_false c28
              clear c28
              (first | rw [c28b0] | (simp only [i64_w, i32_w]; rw [c28b0]) | skip)
              have H' := Aside0.mk H
              clear H
              go_wp2
              go_meet
              case rel => exact ⟨_, (false), (by first | rfl | (simp; done) | (simp [*]; done)), H', ⟨by have := HJ6.out; first | omega | exact Nat.le_refl _⟩, ⟨by repeat (first | (with_reducible first | exact HB.out | apply below_alloc | apply pw_below_drewN | apply below_drew1) | exact HB.out)⟩⟩
          case rest =>
            clear HC27
            try clear c1
            try clear c2
            try clear p2
            try clear c3
            try clear p3
            try clear q3
            try clear hx3
            try clear c5
            try clear c8
            try clear c12
            try clear c12b0
            try clear c13
            try clear c13b0
            try clear c14
            try clear c14b0
            try clear c15
            try clear c15b0
            try clear c17
            try clear c18
            try clear c18b0
            try clear c18b1
            try clear c19
            try clear c19b0
            try clear c19b1
            try clear c20
            try clear c20b0
            try clear c20b1
            try clear c24
            try clear c25
            try clear c26
            try clear c28
            try clear c28b0
            try clear hx384_0
            try clear hx384_1
            try clear hx384_2
            try clear hx384_3
            try clear hx384_4
            try clear hx384_5
            try clear hx386_0
            try clear hx386_1
            try clear hx386_2
            try clear hx386_3
            try clear hx386_4
            try clear hx386_5
            try clear hx387_0
            try clear hx387_1
            try clear hx387_2
            try clear hx387_3
            try clear hx387_4
            try clear hx387_5
            try clear hx388_0
            try clear hx388_1
            try clear hx388_2
            try clear hx388_3
            try clear hx388_4
            try clear hx388_5
            try clear p2
            try clear p3
            try clear p384
            try clear p386
            try clear p387
            try clear p388
            try clear q3
            try clear q384
            try clear q386
            try clear q387
            try clear q388
            obtain ⟨kq, x100_26, rfl, HA, HJ26, HB⟩ := hcut
            cases kq with
            | zero => exact absurd HA.out (by simp [laws_FnFound.j1])
            | succ kj26 =>
              have H := HA.out
              clear HA
              simp only [laws_FnFound.j1] at H
              by_cases c31 : x100_26 = true
              · subst c31
                have H1 : (some false) = some r := by rw [if_pos rfl] at H; exact H
                clear H
                have H := H1
                clear H1
                obtain rfl := Option.some.inj H
                go_wp2
                go_ret
                exact ⟨by first | rfl | (simp [errW_none, errW_some] <;> rfl) | (simp [*, errW_none, errW_some] <;> rfl), by repeat (first | (with_reducible first | exact HB.out | apply below_alloc | apply pw_below_drewN | apply below_drew1) | exact HB.out)⟩
              · replace c31 := Bool.eq_false_iff.mpr c31
                subst c31
                have H1 : ((spec_DrawDropPast.f kj26 l0).bind fun bt390 => ((impl_DropPast.f bt390.1 bt390.2).bind fun t394 => (laws_FnFound.l0 kj26 bt390.1 bt390.2 t394 0))) = some r := by rw [if_neg (show ¬ (false = true) by decide)] at H; exact H
                clear H
                have H := H1
                clear H1
                replace H := Option.bind_eq_some_iff.mp H
                obtain ⟨⟨t390, t391⟩, A320, H⟩ := H
                replace H : ((impl_DropPast.f t390 t391).bind fun t394 => (laws_FnFound.l0 kj26 t390 t391 t394 0)) = some r := H
                have A32 := Aside0.mk A320
                clear A320
                replace H := Option.bind_eq_some_iff.mp H
                obtain ⟨t394, A330, H⟩ := H
                replace H : (laws_FnFound.l0 kj26 t390 t391 t394 0) = some r := H
                have A33 := Aside0.mk A330
                clear A330
                have H' := Aside0.mk H
                clear H
                go_wp2_with (first | ((with_reducible refine gate_callee (f := 28) rfl ?_); refine goesL_ (some 103) rfl rfl Try.func28 (by kernel_rfl) rfl #[.slice A0 l0.length c0] rfl (by (try simp only [List.map_toArray, List.map_cons, List.map_nil]); first | done | rfl | (simp only [List.length_drop, List.length_take]; rfl)) ?_; (with_reducible refine (spec_DrawDropPast.calls kj26 _ _ l0 t390 t391 _ ?side1 ?side2 A32.out).mono ?_); (case side1 => repeat (first | exact (Kd.C_below HR0.out HB.out) | (with_reducible refine Kd.C_alloc ?_ _) | (with_reducible refine Kd.C_drewN ?_ _) | (with_reducible refine Kd.C_drew ?_))); (case side2 => exact HC0.out); rintro e w34 ⟨v392, rfl, ho0, hb⟩; refine ⟨_, rfl, ?_⟩; have n0_ := Aside0.mk (Kd.R_lower ho0 (below_size (by repeat (first | (with_reducible first | exact HB.out | apply below_alloc | apply pw_below_drewN | apply below_drew1) | exact HB.out)))); have n1_ := Aside0.mk (below_step (by repeat (first | (with_reducible first | exact HB.out | apply below_alloc | apply pw_below_drewN | apply below_drew1) | exact HB.out)) hb); clear HB; have HO393 := n0_; have HB := n1_; clear n0_ n1_; (try clear hb); (try clear hb2); (try clear hk); (try clear hi); (try clear ho0); obtain ⟨Ao35, co35, eo35⟩ := Kd.R_slice HO393.out; subst eo35) | ((with_reducible refine gate_callee (f := 20) rfl ?_); refine goesL_ (some 108) rfl rfl Try.func20 (by kernel_rfl) rfl #[.slice Ao35 t390.length co35, .int .i64 t391] rfl (by (try simp only [List.map_toArray, List.map_cons, List.map_nil]); first | done | rfl | (simp only [List.length_drop, List.length_take]; rfl)) ?_; (with_reducible refine (impl_DropPast.calls _ _ t390 t391 t394 _ ?side1 ?side2 A33.out).mono ?_); (case side1 => repeat (first | exact (Kd.R_reads' HO393.out).2.2 | (with_reducible refine Kd.C_alloc ?_ _) | (with_reducible refine Kd.C_drewN ?_ _) | (with_reducible refine Kd.C_drew ?_))); (case side2 => exact (Kd.R_reads' HO393.out).2.1); rintro e w36 ⟨v395, rfl, ho0, hb⟩; refine ⟨_, rfl, ?_⟩; have n0_ := Aside0.mk (Kd.R_elder' (by (with_reducible repeat (first | apply Kd.R_alloc | apply Kd.R_drewN | apply Kd.R_drew)); exact HO393.out) (Kd.R_base ho0) hb); have n1_ := Aside0.mk (Kd.R_lower (Kd.R_new' ho0 (Kd.R_lt (by (with_reducible repeat (first | apply Kd.R_alloc | apply Kd.R_drewN | apply Kd.R_drew)); exact HO393.out))) (below_size (by repeat (first | (with_reducible first | exact HB.out | apply below_alloc | apply pw_below_drewN | apply below_drew1) | exact HB.out)))); have n2_ := Aside0.mk (below_step (by repeat (first | (with_reducible first | exact HB.out | apply below_alloc | apply pw_below_drewN | apply below_drew1) | exact HB.out)) hb); clear HO393; clear HB; have HO393 := n0_; have HO396 := n1_; have HB := n2_; clear n0_ n1_ n2_; (try clear hb); (try clear hb2); (try clear hk); (try clear hi); (try clear ho0)))
                go_loopg [14] kj26 (fun kq v14 w' => ∃ (x14_3 : Int), v14 = .int .i64 x14_3 ∧ Aside0 (laws_FnFound.l0 kq t390 t391 t394 x14_3 = some r) ∧ Aside0 (kq ≤ kj26) ∧ Aside0 (Kd.R k26 26 w' w.heap.size (fun k_ => some k_ ≠ (v395 : Value).ownBlock) (.slice Ao35 t390.length co35) t390) ∧ Aside0 (Kd.R k26 26 w' w.heap.size (fun k_ => some k_ ≠ ((.slice Ao35 t390.length co35) : Value).ownBlock) v395 t394) ∧ Aside0 (Below w.heap.size w w'))
                case atStart => exact ⟨(0), (by first | rfl | (simp; done) | (simp [*]; done)), H', ⟨Nat.le_refl _⟩, ⟨by (with_reducible repeat (first | apply Kd.R_alloc | apply Kd.R_drewN | apply Kd.R_drew)); exact Kd.R_mono HO393.out (fun _ hk => hk.2)⟩, ⟨by (with_reducible repeat (first | apply Kd.R_alloc | apply Kd.R_drewN | apply Kd.R_drew)); exact Kd.R_mono HO396.out (fun _ hk => hk.2)⟩, ⟨by repeat (first | (with_reducible first | exact HB.out | apply below_alloc | apply pw_below_drewN | apply below_drew1) | exact HB.out)⟩⟩
                case round =>
                  clear H'
                  try clear c1
                  try clear c2
                  try clear p2
                  try clear c3
                  try clear p3
                  try clear q3
                  try clear hx3
                  try clear c5
                  try clear c8
                  try clear c12
                  try clear c12b0
                  try clear c13
                  try clear c13b0
                  try clear c14
                  try clear c14b0
                  try clear c15
                  try clear c15b0
                  try clear c17
                  try clear c18
                  try clear c18b0
                  try clear c18b1
                  try clear c19
                  try clear c19b0
                  try clear c19b1
                  try clear c20
                  try clear c20b0
                  try clear c20b1
                  try clear c24
                  try clear c25
                  try clear c26
                  try clear c28
                  try clear c28b0
                  try clear c31
                  try clear hx384_0
                  try clear hx384_1
                  try clear hx384_2
                  try clear hx384_3
                  try clear hx384_4
                  try clear hx384_5
                  try clear hx386_0
                  try clear hx386_1
                  try clear hx386_2
                  try clear hx386_3
                  try clear hx386_4
                  try clear hx386_5
                  try clear hx387_0
                  try clear hx387_1
                  try clear hx387_2
                  try clear hx387_3
                  try clear hx387_4
                  try clear hx387_5
                  try clear hx388_0
                  try clear hx388_1
                  try clear hx388_2
                  try clear hx388_3
                  try clear hx388_4
                  try clear hx388_5
                  try clear p2
                  try clear p3
                  try clear p384
                  try clear p386
                  try clear p387
                  try clear p388
                  try clear q3
                  try clear q384
                  try clear q386
                  try clear q387
                  try clear q388
                  obtain ⟨x14_3, rfl, HA, HK3, HO_11, HO_13, HB⟩ := hrel
                  cases gk with
                  | zero => exact absurd HA.out (by simp [laws_FnFound.l0])
                  | succ k3 =>
                    have H := HA.out
                    clear HA
                    simp only [laws_FnFound.l0] at H
                    by_cases c37 : x14_3 < (t394.length : Int)
                    · rw [if_pos c37] at H
                      have c37b0 : decide (x14_3 < (t394.length : Int)) = true := decide_eq_true c37
                      clear c37
                      by_cases c38 : 0 ≤ x14_3
                      · rw [if_pos c38] at H
                        have c38b0 : decide (0 ≤ x14_3) = true := decide_eq_true c38
                        clear c38
                        by_cases c39 : ((rd_T26 t394 x14_3).f5) < t391
                        · rw [if_pos c39] at H
                          have c39b0 : decide (((rd_T26 t394 x14_3).f5) < t391) = true := decide_eq_true c39
                          clear c39
                          obtain rfl := Option.some.inj H
                          obtain ⟨Ao40, co40, eo40⟩ := Kd.R_slice HO_13.out
                          subst eo40
                          have p397 : 0 ≤ (x14_3 : Int) := of_decide_eq_true (by first | (with_reducible assumption) | assumption)
                          have q397 : x14_3 < (t394.length : Int) := of_decide_eq_true (by first | (with_reducible assumption) | assumption)
                          obtain ⟨ad397, e397, hx397_0, hx397_1, hx397_2, hx397_3, hx397_4, hx397_5⟩ := at_T26 (Kd.R_reads' HO_13.out).2.2 x14_3 p397 q397
                          cases e397
                          replace p397 := eq_true p397
                          replace q397 := eq_true q397
                          go_wp2
                          go_ret
                          exact ⟨by first | rfl | (simp [errW_none, errW_some] <;> rfl) | (simp [*, errW_none, errW_some] <;> rfl), by repeat (first | (with_reducible first | exact HB.out | apply below_alloc | apply pw_below_drewN | apply below_drew1) | exact HB.out)⟩
                        · rw [if_neg c39] at H
                          have c39b0 : decide (((rd_T26 t394 x14_3).f5) < t391) = false := decide_eq_false c39
                          clear c39
                          have H' := Aside0.mk H
                          clear H
                          obtain ⟨Ao41, co41, eo41⟩ := Kd.R_slice HO_13.out
                          subst eo41
                          have p397 : 0 ≤ (x14_3 : Int) := of_decide_eq_true (by first | (with_reducible assumption) | assumption)
                          have q397 : x14_3 < (t394.length : Int) := of_decide_eq_true (by first | (with_reducible assumption) | assumption)
                          obtain ⟨ad397, e397, hx397_0, hx397_1, hx397_2, hx397_3, hx397_4, hx397_5⟩ := at_T26 (Kd.R_reads' HO_13.out).2.2 x14_3 p397 q397
                          cases e397
                          replace p397 := eq_true p397
                          replace q397 := eq_true q397
                          go_wp2
                          go_roundg k3
                          case measure => have := HJ6.out; have := HJ26.out; have := HK3.out; omega
                          case rel => exact ⟨(wrap64 (x14_3 + 1)), (by first | rfl | (simp; done) | (simp [*]; done)), H', ⟨by have := HJ6.out; have := HJ26.out; have := HK3.out; omega⟩, ⟨by (with_reducible repeat (first | apply Kd.R_alloc | apply Kd.R_drewN | apply Kd.R_drew)); exact HO_11.out⟩, ⟨by (with_reducible repeat (first | apply Kd.R_alloc | apply Kd.R_drewN | apply Kd.R_drew)); exact HO_13.out⟩, ⟨by repeat (first | (with_reducible first | exact HB.out | apply below_alloc | apply pw_below_drewN | apply below_drew1) | exact HB.out)⟩⟩
                      · rw [if_neg c38] at H
                        exact absurd H (by simp)
                    · rw [if_neg c37] at H
                      have c37b0 : decide (x14_3 < (t394.length : Int)) = false := decide_eq_false c37
                      clear c37
                      by_cases c42 : (t394.length : Int) ≤ (t390.length : Int)
                      · rw [if_pos c42] at H
                        have c42b0 : decide ((t394.length : Int) ≤ (t390.length : Int)) = true := decide_eq_true c42
                        have c42b1 : decide (t394.length ≤ t390.length) = true := decide_eq_true (Int.ofNat_le.mp c42)
                        clear c42
                        replace H := Option.bind_eq_some_iff.mp H
                        obtain ⟨t398, A430, H⟩ := H
                        replace H : (if t398 = true then ((impl_IsStore.f k3 t394).bind fun t399 => (some t399)) else (some true)) = some r := H
                        have A43 := Aside0.mk A430
                        clear A430
                        by_cases c44 : t398 = true
                        · subst c44
                          have H1 : ((impl_IsStore.f k3 t394).bind fun t399 => (some t399)) = some r := by rw [if_pos rfl] at H; exact H
                          clear H
                          have H := H1
                          clear H1
                          replace H := Option.bind_eq_some_iff.mp H
                          obtain ⟨t399, A450, H⟩ := H
                          replace H : (some t399) = some r := H
                          have A45 := Aside0.mk A450
                          clear A450
                          obtain rfl := Option.some.inj H
                          obtain ⟨Ao46, co46, eo46⟩ := Kd.R_slice HO_13.out
                          subst eo46
                          go_wp2_with (first | (go_at_call 13; (with_reducible refine (impl_IsStore.calls k3 _ _ t390 true _ ?side1 ?side2 A43.out).mono ?_); (case side1 => repeat (first | exact (Kd.R_reads' HO_11.out).2.2 | (with_reducible refine Kd.C_alloc ?_ _) | (with_reducible refine Kd.C_drewN ?_ _) | (with_reducible refine Kd.C_drew ?_))); (case side2 => exact (Kd.R_reads' HO_11.out).2.1); rintro e w47 ⟨rfl, hb⟩; have n0_ := Aside0.mk (Kd.R_below (by (with_reducible repeat (first | apply Kd.R_alloc | apply Kd.R_drewN | apply Kd.R_drew)); exact HO_11.out) hb); have n1_ := Aside0.mk (Kd.R_below (by (with_reducible repeat (first | apply Kd.R_alloc | apply Kd.R_drewN | apply Kd.R_drew)); exact HO_13.out) hb); have n2_ := Aside0.mk (below_step (by repeat (first | (with_reducible first | exact HB.out | apply below_alloc | apply pw_below_drewN | apply below_drew1) | exact HB.out)) hb); clear HO_11; clear HO_13; clear HB; have HO_11 := n0_; have HO_13 := n1_; have HB := n2_; clear n0_ n1_ n2_; (try clear hb); (try clear hb2); (try clear hk); (try clear hi)) | (go_at_call 13; (with_reducible refine (impl_IsStore.calls k3 _ _ t394 t399 _ ?side1 ?side2 A45.out).mono ?_); (case side1 => repeat (first | exact (Kd.R_reads' HO_13.out).2.2 | (with_reducible refine Kd.C_alloc ?_ _) | (with_reducible refine Kd.C_drewN ?_ _) | (with_reducible refine Kd.C_drew ?_))); (case side2 => exact (Kd.R_reads' HO_13.out).2.1); rintro e w48 ⟨rfl, hb⟩; have n0_ := Aside0.mk (Kd.R_below (by (with_reducible repeat (first | apply Kd.R_alloc | apply Kd.R_drewN | apply Kd.R_drew)); exact HO_11.out) hb); have n1_ := Aside0.mk (Kd.R_below (by (with_reducible repeat (first | apply Kd.R_alloc | apply Kd.R_drewN | apply Kd.R_drew)); exact HO_13.out) hb); have n2_ := Aside0.mk (below_step (by repeat (first | (with_reducible first | exact HB.out | apply below_alloc | apply pw_below_drewN | apply below_drew1) | exact HB.out)) hb); clear HO_11; clear HO_13; clear HB; have HO_11 := n0_; have HO_13 := n1_; have HB := n2_; clear n0_ n1_ n2_; (try clear hb); (try clear hb2); (try clear hk); (try clear hi)))
                          go_ret
                          exact ⟨by first | rfl | (simp [errW_none, errW_some] <;> rfl) | (simp [*, errW_none, errW_some] <;> rfl), by repeat (first | (with_reducible first | exact HB.out | apply below_alloc | apply pw_below_drewN | apply below_drew1) | exact HB.out)⟩
                        · replace c44 := Bool.eq_false_iff.mpr c44
                          subst c44
                          have H1 : (some true) = some r := by rw [if_neg (show ¬ (false = true) by decide)] at H; exact H
                          clear H
                          have H := H1
                          clear H1
                          obtain rfl := Option.some.inj H
                          obtain ⟨Ao49, co49, eo49⟩ := Kd.R_slice HO_13.out
                          subst eo49
                          go_wp2_with (first | (go_at_call 13; (with_reducible refine (impl_IsStore.calls k3 _ _ t390 false _ ?side1 ?side2 A43.out).mono ?_); (case side1 => repeat (first | exact (Kd.R_reads' HO_11.out).2.2 | (with_reducible refine Kd.C_alloc ?_ _) | (with_reducible refine Kd.C_drewN ?_ _) | (with_reducible refine Kd.C_drew ?_))); (case side2 => exact (Kd.R_reads' HO_11.out).2.1); rintro e w50 ⟨rfl, hb⟩; have n0_ := Aside0.mk (Kd.R_below (by (with_reducible repeat (first | apply Kd.R_alloc | apply Kd.R_drewN | apply Kd.R_drew)); exact HO_11.out) hb); have n1_ := Aside0.mk (Kd.R_below (by (with_reducible repeat (first | apply Kd.R_alloc | apply Kd.R_drewN | apply Kd.R_drew)); exact HO_13.out) hb); have n2_ := Aside0.mk (below_step (by repeat (first | (with_reducible first | exact HB.out | apply below_alloc | apply pw_below_drewN | apply below_drew1) | exact HB.out)) hb); clear HO_11; clear HO_13; clear HB; have HO_11 := n0_; have HO_13 := n1_; have HB := n2_; clear n0_ n1_ n2_; (try clear hb); (try clear hb2); (try clear hk); (try clear hi)))
                          go_ret
                          exact ⟨by first | rfl | (simp [errW_none, errW_some] <;> rfl) | (simp [*, errW_none, errW_some] <;> rfl), by repeat (first | (with_reducible first | exact HB.out | apply below_alloc | apply pw_below_drewN | apply below_drew1) | exact HB.out)⟩
                      · rw [if_neg c42] at H
                        have c42b0 : decide ((t394.length : Int) ≤ (t390.length : Int)) = false := decide_eq_false c42
                        have c42b1 : decide (t394.length ≤ t390.length) = false := decide_eq_false (fun h => c42 (Int.ofNat_le.mpr h))
                        clear c42
                        obtain rfl := Option.some.inj H
                        obtain ⟨Ao51, co51, eo51⟩ := Kd.R_slice HO_13.out
                        subst eo51
                        go_wp2
                        go_ret
                        exact ⟨by first | rfl | (simp [errW_none, errW_some] <;> rfl) | (simp [*, errW_none, errW_some] <;> rfl), by repeat (first | (with_reducible first | exact HB.out | apply below_alloc | apply pw_below_drewN | apply below_drew1) | exact HB.out)⟩

/-- THE ONE PURE STATEMENT of laws_FnFound: yours. -/
def laws_FnFound.Pure : Prop := ∀ (l0 : List Int), l0.length ≤ maxLen → l0.length * 1 ≤ 140737488351232 → (∀ x ∈ l0, (Lit.int .u8 x).wf = true) → ∃ k, laws_FnFound.f k l0 = some true
theorem laws_FnFound.walk (P : laws_FnFound.Pure) (a0 : Option Addr) (len0 cap0 : Nat) (z0 : List Int) (w : World) (w0 : (a0 = none ∧ len0 = 0 ∧ cap0 = 0 ∧ z0 = []) ∨ ∃ x, a0 = some x ∧ len0 ≤ cap0 ∧ cap0 ≤ maxLen ∧ z0.length = cap0 ∧ (∀ i, i < z0.length → w.cell? (x.add i) = some (.int .u8 (z0.getD i 0))) ∧ ∀ n ∈ z0, (Lit.int .u8 n).wf = true) (y0 : len0 * 1 ≤ 140737488351232) :
    Calls Try.prog 5 #[.slice a0 len0 cap0] w fun e w' => e = .returned (.bool true) ∧ Below w.heap.size w w' := by
  obtain ⟨l0, rfl, hr0, hm0, hw0, hc0⟩ := ReadsInt.ofRowC w0
  obtain ⟨k, h⟩ := P l0 hm0 y0 hw0
  refine (laws_FnFound.calls k _ _ l0 true w (Kd.C_of_reads (d := (0 : Int)) (h1 := fun _ => rfl) hr0) hc0 h).mono ?_
  rintro e w' ⟨rfl, hd⟩
  exact ⟨rfl, hd⟩

end Go.Proofs.Ythanecnkknimpaa.PFnFound
