/- What this law reaches, as plain Lean functions, and the proofs that the machine's calls answer what they answer; laid by a program of this session over the kit's print, some functions by hand. Conditions: none beyond each theorem's own. -/
import Derived.Test.YtobpbnbjdpdfladDoorPFnNamesx0
import Derived.Test.YtobpbnbjdpdfladDoorPFnNamesx1
import Derived.Test.YtobpbnbjdpdfladDoorPFnNamesx2
namespace Go.Proofs.YtobpbnbjdpdfladDoor.PFnNames
open Go.RowKit Go.Proofs.YtobpbnbjdpdfladDoorW.PrintWords Go.Proofs.YtobpbnbjdpdfladDoorW.PrintLast Go.Proofs.YtobpbnbjdpdfladDoorW.PrintMore
attribute [local go_sem] max2_int min2_int max_two min_two max_three min_three max_four min_four   -- for this text's walks alone
set_option linter.unusedVariables false
set_option linter.unusedSimpArgs false

/-! ### laws_FnNames: function 6 -/
mutual
def laws_FnNames.j0 : Nat → Int → Int → Int → Int → Bool → Option (Bool)
  | 0, _, _, _, _, _ => none
  | k + 1, x6, x7, x8, x9, x62 => if x62 = true then (some false) else (if x8 ≥ 0 then ((impl_KindOf.f x8).bind fun t219 => (if t219 = x6 then (if (Int.tmod x8 10) = x7 then ((impl_HasKind.f x8 x6).bind fun t220 => (laws_FnNames.j1 k x9 (!t220))) else (laws_FnNames.j1 k x9 true)) else (laws_FnNames.j1 k x9 true))) else (laws_FnNames.j1 k x9 false))
def laws_FnNames.j1 : Nat → Int → Bool → Option (Bool)
  | 0, _, _ => none
  | k + 1, x9, x82 => if x82 = true then (some false) else ((impl_IsName.f x9).bind fun t221 => ((impl_KindOf.f x9).bind fun t222 => (some (t221 == (decide (t222 > 0))))))
end
def laws_FnNames.f (k : Nat) (l0 : List Int) : Option (Bool) := (laws_big.f l0).bind fun t204 => (if t204 = true then (some true) else ((spec_DrawParseName.f k l0).bind fun t205 => ((impl_ParseName.f k t205).bind fun bt206 => ((spec_DrawMakeName.f k l0).bind fun bt208 => ((impl_MakeName.f bt208.1 bt208.2).bind fun t210 => ((spec_DrawKindOf.f k l0).bind fun t211 => ((impl_FormatName.f t211).bind fun t212 => ((impl_ParseName.f k t212).bind fun bt213 => (if bt206.2 = true then ((impl_FormatName.f bt206.1).bind fun t215 => (if t215.toList = t205.toList then ((impl_IsName.f bt206.1).bind fun t216 => (if t216 = true then ((impl_IsName.f t211).bind fun t217 => (if (bt213.2 != t217) = true then (laws_FnNames.j0 k bt208.1 bt208.2 t210 t211 true) else (if bt213.2 = true then (laws_FnNames.j0 k bt208.1 bt208.2 t210 t211 (bt213.1 != t211)) else (laws_FnNames.j0 k bt208.1 bt208.2 t210 t211 false)))) else (laws_FnNames.j0 k bt208.1 bt208.2 t210 t211 true))) else (laws_FnNames.j0 k bt208.1 bt208.2 t210 t211 true))) else ((impl_IsName.f t211).bind fun t218 => (if (bt213.2 != t218) = true then (laws_FnNames.j0 k bt208.1 bt208.2 t210 t211 true) else (if bt213.2 = true then (laws_FnNames.j0 k bt208.1 bt208.2 t210 t211 (bt213.1 != t211)) else (laws_FnNames.j0 k bt208.1 bt208.2 t210 t211 false)))))))))))))
theorem laws_FnNames.mono_l : ∀ k, (∀ y0 y1 y2 y3 y4, LeO (laws_FnNames.j0 k y0 y1 y2 y3 y4) (laws_FnNames.j0 (k + 1) y0 y1 y2 y3 y4)) ∧ (∀ y0 y1, LeO (laws_FnNames.j1 k y0 y1) (laws_FnNames.j1 (k + 1) y0 y1))
  | 0 => ⟨fun _ _ _ _ _ r h => by simp [laws_FnNames.j0] at h, fun _ _ r h => by simp [laws_FnNames.j1] at h⟩
  | k + 1 => by
    obtain ⟨ih0, ih1⟩ := laws_FnNames.mono_l k
    refine ⟨?_, ?_⟩
    · intro y0 y1 y2 y3 y4
      unfold laws_FnNames.j0
      repeat' first
      | (with_reducible exact ih0 _ _ _ _ _)
      | (with_reducible exact ih1 _ _)
      | (with_reducible exact impl_ParseName.mono _ _)
      | (with_reducible exact spec_DrawKindOf.mono _ _)
      | (with_reducible exact spec_DrawMakeName.mono _ _)
      | (with_reducible exact spec_DrawParseName.mono _ _)
      | (with_reducible exact LeO.refl _)
      | (with_reducible exact LeO.none _)
      | (with_reducible refine LeO.ite ?_ ?_)
      | (with_reducible refine LeO.bind ?_ (fun _ => ?_))
      | exact ih0 _ _ _ _ _
      | exact ih1 _ _
      | exact impl_ParseName.mono _ _
      | exact spec_DrawKindOf.mono _ _
      | exact spec_DrawMakeName.mono _ _
      | exact spec_DrawParseName.mono _ _
      | exact LeO.none _
      | refine LeO.ite ?_ ?_
      | refine LeO.bind ?_ (fun _ => ?_)
    · intro y0 y1
      unfold laws_FnNames.j1
      repeat' first
      | (with_reducible exact ih0 _ _ _ _ _)
      | (with_reducible exact ih1 _ _)
      | (with_reducible exact impl_ParseName.mono _ _)
      | (with_reducible exact spec_DrawKindOf.mono _ _)
      | (with_reducible exact spec_DrawMakeName.mono _ _)
      | (with_reducible exact spec_DrawParseName.mono _ _)
      | (with_reducible exact LeO.refl _)
      | (with_reducible exact LeO.none _)
      | (with_reducible refine LeO.ite ?_ ?_)
      | (with_reducible refine LeO.bind ?_ (fun _ => ?_))
      | exact ih0 _ _ _ _ _
      | exact ih1 _ _
      | exact impl_ParseName.mono _ _
      | exact spec_DrawKindOf.mono _ _
      | exact spec_DrawMakeName.mono _ _
      | exact spec_DrawParseName.mono _ _
      | exact LeO.none _
      | refine LeO.ite ?_ ?_
      | refine LeO.bind ?_ (fun _ => ?_)
theorem laws_FnNames.mono : ∀ a0 k, LeO (laws_FnNames.f k a0) (laws_FnNames.f (k + 1) a0) := by
  intro a0 k
  obtain ⟨ih0, ih1⟩ := laws_FnNames.mono_l k
  unfold laws_FnNames.f
  repeat' first
      | (with_reducible exact ih0 _ _ _ _ _)
      | (with_reducible exact ih1 _ _)
      | (with_reducible exact impl_ParseName.mono _ _)
      | (with_reducible exact spec_DrawKindOf.mono _ _)
      | (with_reducible exact spec_DrawMakeName.mono _ _)
      | (with_reducible exact spec_DrawParseName.mono _ _)
      | (with_reducible exact LeO.refl _)
      | (with_reducible exact LeO.none _)
      | (with_reducible refine LeO.ite ?_ ?_)
      | (with_reducible refine LeO.bind ?_ (fun _ => ?_))
      | exact ih0 _ _ _ _ _
      | exact ih1 _ _
      | exact impl_ParseName.mono _ _
      | exact spec_DrawKindOf.mono _ _
      | exact spec_DrawMakeName.mono _ _
      | exact spec_DrawParseName.mono _ _
      | exact LeO.none _
      | refine LeO.ite ?_ ?_
      | refine LeO.bind ?_ (fun _ => ?_)
set_option maxHeartbeats 8000000 in
set_option maxRecDepth 100000 in
theorem laws_FnNames.calls (k : Nat) (A0 : Option Addr) (c0 : Nat) (l0 : List Int) (r : Bool) (w : World) (hr0 : Kd.C (Kd.int .u8) w A0 l0.length l0) (hc0 : l0.length ≤ c0) (h : laws_FnNames.f k l0 = some r) :
    Calls Tryd.prog 6 #[.slice A0 l0.length c0] w fun e w' => e = .returned (.bool r) ∧ Below w.heap.size w w' := by
  have HR0 := Aside0.mk hr0
  have HC0 := Aside0.mk hc0
  clear hr0 hc0
  have HB := Aside0.mk (Below.refl w.heap.size w)
  have H : ((laws_big.f l0).bind fun t204 => (if t204 = true then (some true) else ((spec_DrawParseName.f k l0).bind fun t205 => ((impl_ParseName.f k t205).bind fun bt206 => ((spec_DrawMakeName.f k l0).bind fun bt208 => ((impl_MakeName.f bt208.1 bt208.2).bind fun t210 => ((spec_DrawKindOf.f k l0).bind fun t211 => ((impl_FormatName.f t211).bind fun t212 => ((impl_ParseName.f k t212).bind fun bt213 => (if bt206.2 = true then ((impl_FormatName.f bt206.1).bind fun t215 => (if t215.toList = t205.toList then ((impl_IsName.f bt206.1).bind fun t216 => (if t216 = true then ((impl_IsName.f t211).bind fun t217 => (if (bt213.2 != t217) = true then (laws_FnNames.j0 k bt208.1 bt208.2 t210 t211 true) else (if bt213.2 = true then (laws_FnNames.j0 k bt208.1 bt208.2 t210 t211 (bt213.1 != t211)) else (laws_FnNames.j0 k bt208.1 bt208.2 t210 t211 false)))) else (laws_FnNames.j0 k bt208.1 bt208.2 t210 t211 true))) else (laws_FnNames.j0 k bt208.1 bt208.2 t210 t211 true))) else ((impl_IsName.f t211).bind fun t218 => (if (bt213.2 != t218) = true then (laws_FnNames.j0 k bt208.1 bt208.2 t210 t211 true) else (if bt213.2 = true then (laws_FnNames.j0 k bt208.1 bt208.2 t210 t211 (bt213.1 != t211)) else (laws_FnNames.j0 k bt208.1 bt208.2 t210 t211 false)))))))))))))) = some r := h
  clear h
  replace H := Option.bind_eq_some_iff.mp H
  obtain ⟨t204, A20, H⟩ := H
  replace H : (if t204 = true then (some true) else ((spec_DrawParseName.f k l0).bind fun t205 => ((impl_ParseName.f k t205).bind fun bt206 => ((spec_DrawMakeName.f k l0).bind fun bt208 => ((impl_MakeName.f bt208.1 bt208.2).bind fun t210 => ((spec_DrawKindOf.f k l0).bind fun t211 => ((impl_FormatName.f t211).bind fun t212 => ((impl_ParseName.f k t212).bind fun bt213 => (if bt206.2 = true then ((impl_FormatName.f bt206.1).bind fun t215 => (if t215.toList = t205.toList then ((impl_IsName.f bt206.1).bind fun t216 => (if t216 = true then ((impl_IsName.f t211).bind fun t217 => (if (bt213.2 != t217) = true then (laws_FnNames.j0 k bt208.1 bt208.2 t210 t211 true) else (if bt213.2 = true then (laws_FnNames.j0 k bt208.1 bt208.2 t210 t211 (bt213.1 != t211)) else (laws_FnNames.j0 k bt208.1 bt208.2 t210 t211 false)))) else (laws_FnNames.j0 k bt208.1 bt208.2 t210 t211 true))) else (laws_FnNames.j0 k bt208.1 bt208.2 t210 t211 true))) else ((impl_IsName.f t211).bind fun t218 => (if (bt213.2 != t218) = true then (laws_FnNames.j0 k bt208.1 bt208.2 t210 t211 true) else (if bt213.2 = true then (laws_FnNames.j0 k bt208.1 bt208.2 t210 t211 (bt213.1 != t211)) else (laws_FnNames.j0 k bt208.1 bt208.2 t210 t211 false))))))))))))) = some r := H
  have A2 := Aside0.mk A20
  clear A20
  by_cases c3 : t204 = true
  · subst c3
    have H1 : (some true) = some r := by rw [if_pos rfl] at H; exact H
    clear H
    have H := H1
    clear H1
    obtain rfl := Option.some.inj H
    go_enter Tryd.func6, Tryd.ntmps6
    go_wp2_with (first | ((with_reducible refine gate_callee (f := 15) rfl ?_); refine goesL_ (some 13) rfl rfl Tryd.func15 (by kernel_rfl) rfl #[.slice A0 l0.length c0] rfl (by (try simp only [List.map_toArray, List.map_cons, List.map_nil]); first | done | rfl | (simp only [List.length_drop, List.length_take]; rfl)) ?_; (with_reducible refine (laws_big.calls _ _ l0 true _ ?side1 ?side2 A2.out).mono ?_); (case side1 => repeat (first | exact HR0.out | (with_reducible refine Kd.C_alloc ?_ _) | (with_reducible refine Kd.C_drewN ?_ _) | (with_reducible refine Kd.C_drew ?_))); (case side2 => exact HC0.out); rintro e w' ⟨rfl, ⟨nd, rfl⟩⟩; refine ⟨_, rfl, ?_⟩))
    go_ret
    exact ⟨by first | rfl | (simp [errW_none, errW_some] <;> rfl) | (simp [*, errW_none, errW_some] <;> rfl), by repeat (first | (with_reducible first | exact HB.out | apply below_alloc | apply pw_below_drewN | apply below_drew1) | exact HB.out)⟩
  · replace c3 := Bool.eq_false_iff.mpr c3
    subst c3
    have H1 : ((spec_DrawParseName.f k l0).bind fun t205 => ((impl_ParseName.f k t205).bind fun bt206 => ((spec_DrawMakeName.f k l0).bind fun bt208 => ((impl_MakeName.f bt208.1 bt208.2).bind fun t210 => ((spec_DrawKindOf.f k l0).bind fun t211 => ((impl_FormatName.f t211).bind fun t212 => ((impl_ParseName.f k t212).bind fun bt213 => (if bt206.2 = true then ((impl_FormatName.f bt206.1).bind fun t215 => (if t215.toList = t205.toList then ((impl_IsName.f bt206.1).bind fun t216 => (if t216 = true then ((impl_IsName.f t211).bind fun t217 => (if (bt213.2 != t217) = true then (laws_FnNames.j0 k bt208.1 bt208.2 t210 t211 true) else (if bt213.2 = true then (laws_FnNames.j0 k bt208.1 bt208.2 t210 t211 (bt213.1 != t211)) else (laws_FnNames.j0 k bt208.1 bt208.2 t210 t211 false)))) else (laws_FnNames.j0 k bt208.1 bt208.2 t210 t211 true))) else (laws_FnNames.j0 k bt208.1 bt208.2 t210 t211 true))) else ((impl_IsName.f t211).bind fun t218 => (if (bt213.2 != t218) = true then (laws_FnNames.j0 k bt208.1 bt208.2 t210 t211 true) else (if bt213.2 = true then (laws_FnNames.j0 k bt208.1 bt208.2 t210 t211 (bt213.1 != t211)) else (laws_FnNames.j0 k bt208.1 bt208.2 t210 t211 false)))))))))))) = some r := by rw [if_neg (show ¬ (false = true) by decide)] at H; exact H
    clear H
    have H := H1
    clear H1
    replace H := Option.bind_eq_some_iff.mp H
    obtain ⟨t205, A40, H⟩ := H
    replace H : ((impl_ParseName.f k t205).bind fun bt206 => ((spec_DrawMakeName.f k l0).bind fun bt208 => ((impl_MakeName.f bt208.1 bt208.2).bind fun t210 => ((spec_DrawKindOf.f k l0).bind fun t211 => ((impl_FormatName.f t211).bind fun t212 => ((impl_ParseName.f k t212).bind fun bt213 => (if bt206.2 = true then ((impl_FormatName.f bt206.1).bind fun t215 => (if t215.toList = t205.toList then ((impl_IsName.f bt206.1).bind fun t216 => (if t216 = true then ((impl_IsName.f t211).bind fun t217 => (if (bt213.2 != t217) = true then (laws_FnNames.j0 k bt208.1 bt208.2 t210 t211 true) else (if bt213.2 = true then (laws_FnNames.j0 k bt208.1 bt208.2 t210 t211 (bt213.1 != t211)) else (laws_FnNames.j0 k bt208.1 bt208.2 t210 t211 false)))) else (laws_FnNames.j0 k bt208.1 bt208.2 t210 t211 true))) else (laws_FnNames.j0 k bt208.1 bt208.2 t210 t211 true))) else ((impl_IsName.f t211).bind fun t218 => (if (bt213.2 != t218) = true then (laws_FnNames.j0 k bt208.1 bt208.2 t210 t211 true) else (if bt213.2 = true then (laws_FnNames.j0 k bt208.1 bt208.2 t210 t211 (bt213.1 != t211)) else (laws_FnNames.j0 k bt208.1 bt208.2 t210 t211 false))))))))))) = some r := H
    have A4 := Aside0.mk A40
    clear A40
    replace H := Option.bind_eq_some_iff.mp H
    obtain ⟨⟨t206, t207⟩, A50, H⟩ := H
    replace H : ((spec_DrawMakeName.f k l0).bind fun bt208 => ((impl_MakeName.f bt208.1 bt208.2).bind fun t210 => ((spec_DrawKindOf.f k l0).bind fun t211 => ((impl_FormatName.f t211).bind fun t212 => ((impl_ParseName.f k t212).bind fun bt213 => (if t207 = true then ((impl_FormatName.f t206).bind fun t215 => (if t215.toList = t205.toList then ((impl_IsName.f t206).bind fun t216 => (if t216 = true then ((impl_IsName.f t211).bind fun t217 => (if (bt213.2 != t217) = true then (laws_FnNames.j0 k bt208.1 bt208.2 t210 t211 true) else (if bt213.2 = true then (laws_FnNames.j0 k bt208.1 bt208.2 t210 t211 (bt213.1 != t211)) else (laws_FnNames.j0 k bt208.1 bt208.2 t210 t211 false)))) else (laws_FnNames.j0 k bt208.1 bt208.2 t210 t211 true))) else (laws_FnNames.j0 k bt208.1 bt208.2 t210 t211 true))) else ((impl_IsName.f t211).bind fun t218 => (if (bt213.2 != t218) = true then (laws_FnNames.j0 k bt208.1 bt208.2 t210 t211 true) else (if bt213.2 = true then (laws_FnNames.j0 k bt208.1 bt208.2 t210 t211 (bt213.1 != t211)) else (laws_FnNames.j0 k bt208.1 bt208.2 t210 t211 false)))))))))) = some r := H
    have A5 := Aside0.mk A50
    clear A50
    replace H := Option.bind_eq_some_iff.mp H
    obtain ⟨⟨t208, t209⟩, A60, H⟩ := H
    replace H : ((impl_MakeName.f t208 t209).bind fun t210 => ((spec_DrawKindOf.f k l0).bind fun t211 => ((impl_FormatName.f t211).bind fun t212 => ((impl_ParseName.f k t212).bind fun bt213 => (if t207 = true then ((impl_FormatName.f t206).bind fun t215 => (if t215.toList = t205.toList then ((impl_IsName.f t206).bind fun t216 => (if t216 = true then ((impl_IsName.f t211).bind fun t217 => (if (bt213.2 != t217) = true then (laws_FnNames.j0 k t208 t209 t210 t211 true) else (if bt213.2 = true then (laws_FnNames.j0 k t208 t209 t210 t211 (bt213.1 != t211)) else (laws_FnNames.j0 k t208 t209 t210 t211 false)))) else (laws_FnNames.j0 k t208 t209 t210 t211 true))) else (laws_FnNames.j0 k t208 t209 t210 t211 true))) else ((impl_IsName.f t211).bind fun t218 => (if (bt213.2 != t218) = true then (laws_FnNames.j0 k t208 t209 t210 t211 true) else (if bt213.2 = true then (laws_FnNames.j0 k t208 t209 t210 t211 (bt213.1 != t211)) else (laws_FnNames.j0 k t208 t209 t210 t211 false))))))))) = some r := H
    have A6 := Aside0.mk A60
    clear A60
    replace H := Option.bind_eq_some_iff.mp H
    obtain ⟨t210, A70, H⟩ := H
    replace H : ((spec_DrawKindOf.f k l0).bind fun t211 => ((impl_FormatName.f t211).bind fun t212 => ((impl_ParseName.f k t212).bind fun bt213 => (if t207 = true then ((impl_FormatName.f t206).bind fun t215 => (if t215.toList = t205.toList then ((impl_IsName.f t206).bind fun t216 => (if t216 = true then ((impl_IsName.f t211).bind fun t217 => (if (bt213.2 != t217) = true then (laws_FnNames.j0 k t208 t209 t210 t211 true) else (if bt213.2 = true then (laws_FnNames.j0 k t208 t209 t210 t211 (bt213.1 != t211)) else (laws_FnNames.j0 k t208 t209 t210 t211 false)))) else (laws_FnNames.j0 k t208 t209 t210 t211 true))) else (laws_FnNames.j0 k t208 t209 t210 t211 true))) else ((impl_IsName.f t211).bind fun t218 => (if (bt213.2 != t218) = true then (laws_FnNames.j0 k t208 t209 t210 t211 true) else (if bt213.2 = true then (laws_FnNames.j0 k t208 t209 t210 t211 (bt213.1 != t211)) else (laws_FnNames.j0 k t208 t209 t210 t211 false)))))))) = some r := H
    have A7 := Aside0.mk A70
    clear A70
    replace H := Option.bind_eq_some_iff.mp H
    obtain ⟨t211, A80, H⟩ := H
    replace H : ((impl_FormatName.f t211).bind fun t212 => ((impl_ParseName.f k t212).bind fun bt213 => (if t207 = true then ((impl_FormatName.f t206).bind fun t215 => (if t215.toList = t205.toList then ((impl_IsName.f t206).bind fun t216 => (if t216 = true then ((impl_IsName.f t211).bind fun t217 => (if (bt213.2 != t217) = true then (laws_FnNames.j0 k t208 t209 t210 t211 true) else (if bt213.2 = true then (laws_FnNames.j0 k t208 t209 t210 t211 (bt213.1 != t211)) else (laws_FnNames.j0 k t208 t209 t210 t211 false)))) else (laws_FnNames.j0 k t208 t209 t210 t211 true))) else (laws_FnNames.j0 k t208 t209 t210 t211 true))) else ((impl_IsName.f t211).bind fun t218 => (if (bt213.2 != t218) = true then (laws_FnNames.j0 k t208 t209 t210 t211 true) else (if bt213.2 = true then (laws_FnNames.j0 k t208 t209 t210 t211 (bt213.1 != t211)) else (laws_FnNames.j0 k t208 t209 t210 t211 false))))))) = some r := H
    have A8 := Aside0.mk A80
    clear A80
    replace H := Option.bind_eq_some_iff.mp H
    obtain ⟨t212, A90, H⟩ := H
    replace H : ((impl_ParseName.f k t212).bind fun bt213 => (if t207 = true then ((impl_FormatName.f t206).bind fun t215 => (if t215.toList = t205.toList then ((impl_IsName.f t206).bind fun t216 => (if t216 = true then ((impl_IsName.f t211).bind fun t217 => (if (bt213.2 != t217) = true then (laws_FnNames.j0 k t208 t209 t210 t211 true) else (if bt213.2 = true then (laws_FnNames.j0 k t208 t209 t210 t211 (bt213.1 != t211)) else (laws_FnNames.j0 k t208 t209 t210 t211 false)))) else (laws_FnNames.j0 k t208 t209 t210 t211 true))) else (laws_FnNames.j0 k t208 t209 t210 t211 true))) else ((impl_IsName.f t211).bind fun t218 => (if (bt213.2 != t218) = true then (laws_FnNames.j0 k t208 t209 t210 t211 true) else (if bt213.2 = true then (laws_FnNames.j0 k t208 t209 t210 t211 (bt213.1 != t211)) else (laws_FnNames.j0 k t208 t209 t210 t211 false)))))) = some r := H
    have A9 := Aside0.mk A90
    clear A90
    replace H := Option.bind_eq_some_iff.mp H
    obtain ⟨⟨t213, t214⟩, A100, H⟩ := H
    replace H : (if t207 = true then ((impl_FormatName.f t206).bind fun t215 => (if t215.toList = t205.toList then ((impl_IsName.f t206).bind fun t216 => (if t216 = true then ((impl_IsName.f t211).bind fun t217 => (if (t214 != t217) = true then (laws_FnNames.j0 k t208 t209 t210 t211 true) else (if t214 = true then (laws_FnNames.j0 k t208 t209 t210 t211 (t213 != t211)) else (laws_FnNames.j0 k t208 t209 t210 t211 false)))) else (laws_FnNames.j0 k t208 t209 t210 t211 true))) else (laws_FnNames.j0 k t208 t209 t210 t211 true))) else ((impl_IsName.f t211).bind fun t218 => (if (t214 != t218) = true then (laws_FnNames.j0 k t208 t209 t210 t211 true) else (if t214 = true then (laws_FnNames.j0 k t208 t209 t210 t211 (t213 != t211)) else (laws_FnNames.j0 k t208 t209 t210 t211 false))))) = some r := H
    have A10 := Aside0.mk A100
    clear A100
    have HC11 := Aside0.mk H
    clear H
    go_enter Tryd.func6, Tryd.ntmps6
    go_upto_region 9 with (first | ((with_reducible refine gate_callee (f := 15) rfl ?_); refine goesL_ (some 13) rfl rfl Tryd.func15 (by kernel_rfl) rfl #[.slice A0 l0.length c0] rfl (by (try simp only [List.map_toArray, List.map_cons, List.map_nil]); first | done | rfl | (simp only [List.length_drop, List.length_take]; rfl)) ?_; (with_reducible refine (laws_big.calls _ _ l0 false _ ?side1 ?side2 A2.out).mono ?_); (case side1 => repeat (first | exact HR0.out | (with_reducible refine Kd.C_alloc ?_ _) | (with_reducible refine Kd.C_drewN ?_ _) | (with_reducible refine Kd.C_drew ?_))); (case side2 => exact HC0.out); rintro e w' ⟨rfl, ⟨nd, rfl⟩⟩; refine ⟨_, rfl, ?_⟩) | ((with_reducible refine gate_callee (f := 16) rfl ?_); refine goesL_ (some 15) rfl rfl Tryd.func16 (by kernel_rfl) rfl #[.slice A0 l0.length c0] rfl (by (try simp only [List.map_toArray, List.map_cons, List.map_nil]); first | done | rfl | (simp only [List.length_drop, List.length_take]; rfl)) ?_; (with_reducible refine (spec_DrawParseName.calls k _ _ l0 t205 _ ?side1 ?side2 A4.out).mono ?_); (case side1 => repeat (first | exact HR0.out | (with_reducible refine Kd.C_alloc ?_ _) | (with_reducible refine Kd.C_drewN ?_ _) | (with_reducible refine Kd.C_drew ?_))); (case side2 => exact HC0.out); rintro e w12 ⟨rfl, hb⟩; refine ⟨_, rfl, ?_⟩; have n0_ := Aside0.mk (below_step (by repeat (first | (with_reducible first | exact HB.out | apply below_alloc | apply pw_below_drewN | apply below_drew1) | exact HB.out)) hb); clear HB; have HB := n0_; clear n0_; (try clear hb); (try clear hb2); (try clear hk); (try clear hi)) | ((with_reducible refine gate_callee (f := 14) rfl ?_); refine goesL_ (some 18) rfl rfl Tryd.func14 (by kernel_rfl) rfl #[.string t205] rfl (by (try simp only [List.map_toArray, List.map_cons, List.map_nil]); first | done | rfl | (simp only [List.length_drop, List.length_take]; rfl)) ?_; (with_reducible refine (impl_ParseName.calls k t205 t206 t207 _ A5.out).mono ?_); rintro e w' ⟨rfl, ⟨nd, rfl⟩⟩; refine ⟨_, rfl, ?_⟩) | ((with_reducible refine gate_callee (f := 17) rfl ?_); refine goesL_ (some 23) rfl rfl Tryd.func17 (by kernel_rfl) rfl #[.slice A0 l0.length c0] rfl (by (try simp only [List.map_toArray, List.map_cons, List.map_nil]); first | done | rfl | (simp only [List.length_drop, List.length_take]; rfl)) ?_; (with_reducible refine (spec_DrawMakeName.calls k _ _ l0 t208 t209 _ ?side1 ?side2 A6.out).mono ?_); (case side1 => repeat (first | exact (Kd.C_below HR0.out (by repeat (first | (with_reducible first | exact HB.out | apply below_alloc | apply pw_below_drewN | apply below_drew1) | exact HB.out))) | (with_reducible refine Kd.C_alloc ?_ _) | (with_reducible refine Kd.C_drewN ?_ _) | (with_reducible refine Kd.C_drew ?_))); (case side2 => exact HC0.out); rintro e w13 ⟨rfl, hb⟩; refine ⟨_, rfl, ?_⟩; have n0_ := Aside0.mk (below_step (by repeat (first | (with_reducible first | exact HB.out | apply below_alloc | apply pw_below_drewN | apply below_drew1) | exact HB.out)) hb); clear HB; have HB := n0_; clear n0_; (try clear hb); (try clear hb2); (try clear hk); (try clear hi)) | ((with_reducible refine gate_callee (f := 18) rfl ?_); refine goesL_ (some 28) rfl rfl Tryd.func18 (by kernel_rfl) rfl #[.int .i64 t208, .int .i64 t209] rfl (by (try simp only [List.map_toArray, List.map_cons, List.map_nil]); first | done | rfl | (simp only [List.length_drop, List.length_take]; rfl)) ?_; (with_reducible refine (impl_MakeName.calls t208 t209 t210 _ A7.out).mono ?_); rintro e w' ⟨rfl, ⟨nd, rfl⟩⟩; refine ⟨_, rfl, ?_⟩) | ((with_reducible refine gate_callee (f := 19) rfl ?_); refine goesL_ (some 30) rfl rfl Tryd.func19 (by kernel_rfl) rfl #[.slice A0 l0.length c0] rfl (by (try simp only [List.map_toArray, List.map_cons, List.map_nil]); first | done | rfl | (simp only [List.length_drop, List.length_take]; rfl)) ?_; (with_reducible refine (spec_DrawKindOf.calls k _ _ l0 t211 _ ?side1 ?side2 A8.out).mono ?_); (case side1 => repeat (first | exact (Kd.C_below HR0.out (by repeat (first | (with_reducible first | exact HB.out | apply below_alloc | apply pw_below_drewN | apply below_drew1) | exact HB.out))) | (with_reducible refine Kd.C_alloc ?_ _) | (with_reducible refine Kd.C_drewN ?_ _) | (with_reducible refine Kd.C_drew ?_))); (case side2 => exact HC0.out); rintro e w14 ⟨rfl, hb⟩; refine ⟨_, rfl, ?_⟩; have n0_ := Aside0.mk (below_step (by repeat (first | (with_reducible first | exact HB.out | apply below_alloc | apply pw_below_drewN | apply below_drew1) | exact HB.out)) hb); clear HB; have HB := n0_; clear n0_; (try clear hb); (try clear hb2); (try clear hk); (try clear hi)) | ((with_reducible refine gate_callee (f := 12) rfl ?_); refine goesL_ (some 33) rfl rfl Tryd.func12 (by kernel_rfl) rfl #[.int .i64 t211] rfl (by (try simp only [List.map_toArray, List.map_cons, List.map_nil]); first | done | rfl | (simp only [List.length_drop, List.length_take]; rfl)) ?_; (with_reducible refine (impl_FormatName.calls t211 t212 _ A9.out).mono ?_); rintro e w' ⟨rfl, ⟨nd, rfl⟩⟩; refine ⟨_, rfl, ?_⟩) | ((with_reducible refine gate_callee (f := 14) rfl ?_); refine goesL_ (some 34) rfl rfl Tryd.func14 (by kernel_rfl) rfl #[.string t212] rfl (by (try simp only [List.map_toArray, List.map_cons, List.map_nil]); first | done | rfl | (simp only [List.length_drop, List.length_take]; rfl)) ?_; (with_reducible refine (impl_ParseName.calls k t212 t213 t214 _ A10.out).mono ?_); rintro e w' ⟨rfl, ⟨nd, rfl⟩⟩; refine ⟨_, rfl, ?_⟩))
    (try simp only [Act.put, List.setIfInBounds_toArray, List.set_cons_zero, List.set_cons_succ])
    go_cut [62] (fun v62 wc => ∃ (kq : Nat) (x62_10 : Bool), v62 = .bool x62_10 ∧ Aside0 (laws_FnNames.j0 kq t208 t209 t210 t211 x62_10 = some r) ∧ Aside0 (kq ≤ k) ∧ Aside0 (Below w.heap.size w wc))
    case first =>
      have H := HC11.out
      clear HC11
      by_cases c15 : t207 = true
      · subst c15
        have H1 : ((impl_FormatName.f t206).bind fun t215 => (if t215.toList = t205.toList then ((impl_IsName.f t206).bind fun t216 => (if t216 = true then ((impl_IsName.f t211).bind fun t217 => (if (t214 != t217) = true then (laws_FnNames.j0 k t208 t209 t210 t211 true) else (if t214 = true then (laws_FnNames.j0 k t208 t209 t210 t211 (t213 != t211)) else (laws_FnNames.j0 k t208 t209 t210 t211 false)))) else (laws_FnNames.j0 k t208 t209 t210 t211 true))) else (laws_FnNames.j0 k t208 t209 t210 t211 true))) = some r := by rw [if_pos rfl] at H; exact H
        clear H
        have H := H1
        clear H1
        replace H := Option.bind_eq_some_iff.mp H
        obtain ⟨t215, A160, H⟩ := H
        replace H : (if t215.toList = t205.toList then ((impl_IsName.f t206).bind fun t216 => (if t216 = true then ((impl_IsName.f t211).bind fun t217 => (if (t214 != t217) = true then (laws_FnNames.j0 k t208 t209 t210 t211 true) else (if t214 = true then (laws_FnNames.j0 k t208 t209 t210 t211 (t213 != t211)) else (laws_FnNames.j0 k t208 t209 t210 t211 false)))) else (laws_FnNames.j0 k t208 t209 t210 t211 true))) else (laws_FnNames.j0 k t208 t209 t210 t211 true)) = some r := H
        have A16 := Aside0.mk A160
        clear A160
        by_cases c17 : t215.toList = t205.toList
        · rw [if_pos c17] at H
          have c17b0 : (t215.toList == t205.toList) = true := beq_iff_eq.mpr c17
          have c17b1 : (t215.toList != t205.toList) = false := bne_eq_false_iff_eq.mpr c17
          clear c17
          (first | rw [c17b0] | (simp only [i64_w, i32_w]; rw [c17b0]) | skip)
          replace H := Option.bind_eq_some_iff.mp H
          obtain ⟨t216, A180, H⟩ := H
          replace H : (if t216 = true then ((impl_IsName.f t211).bind fun t217 => (if (t214 != t217) = true then (laws_FnNames.j0 k t208 t209 t210 t211 true) else (if t214 = true then (laws_FnNames.j0 k t208 t209 t210 t211 (t213 != t211)) else (laws_FnNames.j0 k t208 t209 t210 t211 false)))) else (laws_FnNames.j0 k t208 t209 t210 t211 true)) = some r := H
          have A18 := Aside0.mk A180
          clear A180
          by_cases c19 : t216 = true
          · subst c19
            have H1 : ((impl_IsName.f t211).bind fun t217 => (if (t214 != t217) = true then (laws_FnNames.j0 k t208 t209 t210 t211 true) else (if t214 = true then (laws_FnNames.j0 k t208 t209 t210 t211 (t213 != t211)) else (laws_FnNames.j0 k t208 t209 t210 t211 false)))) = some r := by rw [if_pos rfl] at H; exact H
            clear H
            have H := H1
            clear H1
            replace H := Option.bind_eq_some_iff.mp H
            obtain ⟨t217, A200, H⟩ := H
            replace H : (if (t214 != t217) = true then (laws_FnNames.j0 k t208 t209 t210 t211 true) else (if t214 = true then (laws_FnNames.j0 k t208 t209 t210 t211 (t213 != t211)) else (laws_FnNames.j0 k t208 t209 t210 t211 false))) = some r := H
            have A20 := Aside0.mk A200
            clear A200
            by_cases c21 : (t214 != t217) = true
            · rw [if_pos c21] at H
              have c21b0 : (t214 != t217) = true := c21
              (try (have c21b1 : decide (t214 = t217) = false := by simpa using c21))
              (try (have c21b2 : (t214 == t217) = false := by simpa using c21))
              (try (have c21b3 : ¬ (t214 = t217) := by simpa using c21))
              clear c21
              have H' := Aside0.mk H
              clear H
              go_wp2_with (first | (go_at_call 12; (with_reducible refine (impl_FormatName.calls t206 t215 _ A16.out).mono ?_); rintro e w' ⟨rfl, ⟨nd, rfl⟩⟩) | (go_at_call 20; (with_reducible refine (impl_IsName.calls t206 true _ A18.out).mono ?_); rintro e w' ⟨rfl, ⟨nd, rfl⟩⟩) | (go_at_call 20; (with_reducible refine (impl_IsName.calls t211 t217 _ A20.out).mono ?_); rintro e w' ⟨rfl, ⟨nd, rfl⟩⟩))
              go_meet
              case rel => exact ⟨_, (true), (by first | rfl | (simp; done) | (simp [*]; done)), H', ⟨by first | omega | exact Nat.le_refl _⟩, ⟨by repeat (first | (with_reducible first | exact HB.out | apply below_alloc | apply pw_below_drewN | apply below_drew1) | exact HB.out)⟩⟩
            · rw [if_neg c21] at H
              have c21b0 : (t214 != t217) = false := by simpa using c21
              (try (have c21b1 : decide (t214 = t217) = true := by simpa using c21))
              (try (have c21b2 : (t214 == t217) = true := by simpa using c21))
              clear c21
              by_cases c22 : t214 = true
              · subst c22
                have H1 : (laws_FnNames.j0 k t208 t209 t210 t211 (t213 != t211)) = some r := by rw [if_pos rfl] at H; exact H
                clear H
                have H := H1
                clear H1
                have H' := Aside0.mk H
                clear H
                go_wp2_with (first | (go_at_call 12; (with_reducible refine (impl_FormatName.calls t206 t215 _ A16.out).mono ?_); rintro e w' ⟨rfl, ⟨nd, rfl⟩⟩) | (go_at_call 20; (with_reducible refine (impl_IsName.calls t206 true _ A18.out).mono ?_); rintro e w' ⟨rfl, ⟨nd, rfl⟩⟩) | (go_at_call 20; (with_reducible refine (impl_IsName.calls t211 t217 _ A20.out).mono ?_); rintro e w' ⟨rfl, ⟨nd, rfl⟩⟩))
                go_meet
                case rel => exact ⟨_, ((t213 != t211)), (by first | rfl | (simp; done) | (simp [*]; done)), H', ⟨by first | omega | exact Nat.le_refl _⟩, ⟨by repeat (first | (with_reducible first | exact HB.out | apply below_alloc | apply pw_below_drewN | apply below_drew1) | exact HB.out)⟩⟩
              · replace c22 := Bool.eq_false_iff.mpr c22
                subst c22
                have H1 : (laws_FnNames.j0 k t208 t209 t210 t211 false) = some r := by rw [if_neg (show ¬ (false = true) by decide)] at H; exact H
                clear H
                have H := H1
                clear H1
                have H' := Aside0.mk H
                clear H
                go_wp2_with (first | (go_at_call 12; (with_reducible refine (impl_FormatName.calls t206 t215 _ A16.out).mono ?_); rintro e w' ⟨rfl, ⟨nd, rfl⟩⟩) | (go_at_call 20; (with_reducible refine (impl_IsName.calls t206 true _ A18.out).mono ?_); rintro e w' ⟨rfl, ⟨nd, rfl⟩⟩) | (go_at_call 20; (with_reducible refine (impl_IsName.calls t211 t217 _ A20.out).mono ?_); rintro e w' ⟨rfl, ⟨nd, rfl⟩⟩))
                go_meet
                case rel => exact ⟨_, (false), (by first | rfl | (simp; done) | (simp [*]; done)), H', ⟨by first | omega | exact Nat.le_refl _⟩, ⟨by repeat (first | (with_reducible first | exact HB.out | apply below_alloc | apply pw_below_drewN | apply below_drew1) | exact HB.out)⟩⟩
          · replace c19 := Bool.eq_false_iff.mpr c19
            subst c19
            have H1 : (laws_FnNames.j0 k t208 t209 t210 t211 true) = some r := by rw [if_neg (show ¬ (false = true) by decide)] at H; exact H
            clear H
            have H := H1
            clear H1
            have H' := Aside0.mk H
            clear H
            go_wp2_with (first | (go_at_call 12; (with_reducible refine (impl_FormatName.calls t206 t215 _ A16.out).mono ?_); rintro e w' ⟨rfl, ⟨nd, rfl⟩⟩) | (go_at_call 20; (with_reducible refine (impl_IsName.calls t206 false _ A18.out).mono ?_); rintro e w' ⟨rfl, ⟨nd, rfl⟩⟩))
            go_meet
            case rel => exact ⟨_, (true), (by first | rfl | (simp; done) | (simp [*]; done)), H', ⟨by first | omega | exact Nat.le_refl _⟩, ⟨by repeat (first | (with_reducible first | exact HB.out | apply below_alloc | apply pw_below_drewN | apply below_drew1) | exact HB.out)⟩⟩
        · rw [if_neg c17] at H
          have c17b0 : (t215.toList == t205.toList) = false := beq_eq_false_iff_ne.mpr c17
          have c17b1 : (t215.toList != t205.toList) = true := bne_iff_ne.mpr c17
          (first | rw [c17b0] | (simp only [i64_w, i32_w]; rw [c17b0]) | skip)
          have H' := Aside0.mk H
          clear H
          go_wp2_with (first | (go_at_call 12; (with_reducible refine (impl_FormatName.calls t206 t215 _ A16.out).mono ?_); rintro e w' ⟨rfl, ⟨nd, rfl⟩⟩))
          go_meet
          case rel => exact ⟨_, (true), (by first | rfl | (simp; done) | (simp [*]; done)), H', ⟨by first | omega | exact Nat.le_refl _⟩, ⟨by repeat (first | (with_reducible first | exact HB.out | apply below_alloc | apply pw_below_drewN | apply below_drew1) | exact HB.out)⟩⟩
      · replace c15 := Bool.eq_false_iff.mpr c15
        subst c15
        have H1 : ((impl_IsName.f t211).bind fun t218 => (if (t214 != t218) = true then (laws_FnNames.j0 k t208 t209 t210 t211 true) else (if t214 = true then (laws_FnNames.j0 k t208 t209 t210 t211 (t213 != t211)) else (laws_FnNames.j0 k t208 t209 t210 t211 false)))) = some r := by rw [if_neg (show ¬ (false = true) by decide)] at H; exact H
        clear H
        have H := H1
        clear H1
        replace H := Option.bind_eq_some_iff.mp H
        obtain ⟨t218, A230, H⟩ := H
        replace H : (if (t214 != t218) = true then (laws_FnNames.j0 k t208 t209 t210 t211 true) else (if t214 = true then (laws_FnNames.j0 k t208 t209 t210 t211 (t213 != t211)) else (laws_FnNames.j0 k t208 t209 t210 t211 false))) = some r := H
        have A23 := Aside0.mk A230
        clear A230
        by_cases c24 : (t214 != t218) = true
        · rw [if_pos c24] at H
          have c24b0 : (t214 != t218) = true := c24
          (try (have c24b1 : decide (t214 = t218) = false := by simpa using c24))
          (try (have c24b2 : (t214 == t218) = false := by simpa using c24))
          (try (have c24b3 : ¬ (t214 = t218) := by simpa using c24))
          clear c24
          have H' := Aside0.mk H
          clear H
          go_wp2_with (first | (go_at_call 20; (with_reducible refine (impl_IsName.calls t211 t218 _ A23.out).mono ?_); rintro e w' ⟨rfl, ⟨nd, rfl⟩⟩))
          go_meet
          case rel => exact ⟨_, (true), (by first | rfl | (simp; done) | (simp [*]; done)), H', ⟨by first | omega | exact Nat.le_refl _⟩, ⟨by repeat (first | (with_reducible first | exact HB.out | apply below_alloc | apply pw_below_drewN | apply below_drew1) | exact HB.out)⟩⟩
        · rw [if_neg c24] at H
          have c24b0 : (t214 != t218) = false := by simpa using c24
          (try (have c24b1 : decide (t214 = t218) = true := by simpa using c24))
          (try (have c24b2 : (t214 == t218) = true := by simpa using c24))
          clear c24
          by_cases c25 : t214 = true
          · subst c25
            have H1 : (laws_FnNames.j0 k t208 t209 t210 t211 (t213 != t211)) = some r := by rw [if_pos rfl] at H; exact H
            clear H
            have H := H1
            clear H1
            have H' := Aside0.mk H
            clear H
            go_wp2_with (first | (go_at_call 20; (with_reducible refine (impl_IsName.calls t211 t218 _ A23.out).mono ?_); rintro e w' ⟨rfl, ⟨nd, rfl⟩⟩))
            go_meet
            case rel => exact ⟨_, ((t213 != t211)), (by first | rfl | (simp; done) | (simp [*]; done)), H', ⟨by first | omega | exact Nat.le_refl _⟩, ⟨by repeat (first | (with_reducible first | exact HB.out | apply below_alloc | apply pw_below_drewN | apply below_drew1) | exact HB.out)⟩⟩
          · replace c25 := Bool.eq_false_iff.mpr c25
            subst c25
            have H1 : (laws_FnNames.j0 k t208 t209 t210 t211 false) = some r := by rw [if_neg (show ¬ (false = true) by decide)] at H; exact H
            clear H
            have H := H1
            clear H1
            have H' := Aside0.mk H
            clear H
            go_wp2_with (first | (go_at_call 20; (with_reducible refine (impl_IsName.calls t211 t218 _ A23.out).mono ?_); rintro e w' ⟨rfl, ⟨nd, rfl⟩⟩))
            go_meet
            case rel => exact ⟨_, (false), (by first | rfl | (simp; done) | (simp [*]; done)), H', ⟨by first | omega | exact Nat.le_refl _⟩, ⟨by repeat (first | (with_reducible first | exact HB.out | apply below_alloc | apply pw_below_drewN | apply below_drew1) | exact HB.out)⟩⟩
    case rest =>
      clear HC11
      try clear c1
      try clear c2
      try clear p2
      try clear c3
      try clear c6
      try clear c12
      try clear c14
      try clear c15
      try clear c16
      try clear c17
      try clear c17b0
      try clear c17b1
      try clear c18
      try clear c19
      try clear c21
      try clear c21b0
      try clear c21b1
      try clear c21b2
      try clear c22
      try clear c24
      try clear c24b0
      try clear c24b1
      try clear c24b2
      try clear c25
      obtain ⟨kq, x62_10, rfl, HA, HJ10, HB⟩ := hcut
      cases kq with
      | zero => exact absurd HA.out (by simp [laws_FnNames.j0])
      | succ kj10 =>
        have H := HA.out
        clear HA
        simp only [laws_FnNames.j0] at H
        by_cases c26 : x62_10 = true
        · subst c26
          have H1 : (some false) = some r := by rw [if_pos rfl] at H; exact H
          clear H
          have H := H1
          clear H1
          obtain rfl := Option.some.inj H
          go_wp2
          go_ret
          exact ⟨by first | rfl | (simp [errW_none, errW_some] <;> rfl) | (simp [*, errW_none, errW_some] <;> rfl), by repeat (first | (with_reducible first | exact HB.out | apply below_alloc | apply pw_below_drewN | apply below_drew1) | exact HB.out)⟩
        · replace c26 := Bool.eq_false_iff.mpr c26
          subst c26
          have H1 : (if t210 ≥ 0 then ((impl_KindOf.f t210).bind fun t219 => (if t219 = t208 then (if (Int.tmod t210 10) = t209 then ((impl_HasKind.f t210 t208).bind fun t220 => (laws_FnNames.j1 kj10 t211 (!t220))) else (laws_FnNames.j1 kj10 t211 true)) else (laws_FnNames.j1 kj10 t211 true))) else (laws_FnNames.j1 kj10 t211 false)) = some r := by rw [if_neg (show ¬ (false = true) by decide)] at H; exact H
          clear H
          have H := H1
          clear H1
          have HC27 := Aside0.mk H
          clear H
          go_upto_region 11 with (fail)
          go_cut [82] (fun v82 wc => ∃ (kq : Nat) (x82_26 : Bool), v82 = .bool x82_26 ∧ Aside0 (laws_FnNames.j1 kq t211 x82_26 = some r) ∧ Aside0 (kq ≤ kj10) ∧ Aside0 (Below w.heap.size w wc))
          case first =>
            have H := HC27.out
            clear HC27
            by_cases c28 : t210 ≥ 0
            · rw [if_pos c28] at H
              have c28b0 : decide (0 ≤ t210) = true := decide_eq_true c28
              clear c28
              (first | rw [c28b0] | (simp only [i64_w, i32_w]; rw [c28b0]) | skip)
              replace H := Option.bind_eq_some_iff.mp H
              obtain ⟨t219, A290, H⟩ := H
              replace H : (if t219 = t208 then (if (Int.tmod t210 10) = t209 then ((impl_HasKind.f t210 t208).bind fun t220 => (laws_FnNames.j1 kj10 t211 (!t220))) else (laws_FnNames.j1 kj10 t211 true)) else (laws_FnNames.j1 kj10 t211 true)) = some r := H
              have A29 := Aside0.mk A290
              clear A290
              by_cases c30 : t219 = t208
              · rw [if_pos c30] at H
                have c30b0 : (t219 == t208) = true := beq_iff_eq.mpr c30
                have c30b1 : (t219 != t208) = false := bne_eq_false_iff_eq.mpr c30
                clear c30
                by_cases c31 : (Int.tmod t210 10) = t209
                · rw [if_pos c31] at H
                  have c31b0 : ((Int.tmod t210 10) == t209) = true := beq_iff_eq.mpr c31
                  have c31b1 : ((Int.tmod t210 10) != t209) = false := bne_eq_false_iff_eq.mpr c31
                  clear c31
                  replace H := Option.bind_eq_some_iff.mp H
                  obtain ⟨t220, A320, H⟩ := H
                  replace H : (laws_FnNames.j1 kj10 t211 (!t220)) = some r := H
                  have A32 := Aside0.mk A320
                  clear A320
                  have H' := Aside0.mk H
                  clear H
                  go_wp2_with (first | (go_at_call 21; (with_reducible refine (impl_KindOf.calls t210 t219 _ A29.out).mono ?_); rintro e w' ⟨rfl, ⟨nd, rfl⟩⟩) | (go_at_call 22; (with_reducible refine (impl_HasKind.calls t210 t208 t220 _ A32.out).mono ?_); rintro e w' ⟨rfl, ⟨nd, rfl⟩⟩))
                  go_meet
                  case rel => exact ⟨_, (!t220), (by first | rfl | (simp; done) | (simp [*]; done)), H', ⟨by have := HJ10.out; first | omega | exact Nat.le_refl _⟩, ⟨by repeat (first | (with_reducible first | exact HB.out | apply below_alloc | apply pw_below_drewN | apply below_drew1) | exact HB.out)⟩⟩
                · rw [if_neg c31] at H
                  have c31b0 : ((Int.tmod t210 10) == t209) = false := beq_eq_false_iff_ne.mpr c31
                  have c31b1 : ((Int.tmod t210 10) != t209) = true := bne_iff_ne.mpr c31
                  have H' := Aside0.mk H
                  clear H
                  go_wp2_with (first | (go_at_call 21; (with_reducible refine (impl_KindOf.calls t210 t219 _ A29.out).mono ?_); rintro e w' ⟨rfl, ⟨nd, rfl⟩⟩))
                  go_meet
                  case rel => exact ⟨_, (true), (by first | rfl | (simp; done) | (simp [*]; done)), H', ⟨by have := HJ10.out; first | omega | exact Nat.le_refl _⟩, ⟨by repeat (first | (with_reducible first | exact HB.out | apply below_alloc | apply pw_below_drewN | apply below_drew1) | exact HB.out)⟩⟩
              · rw [if_neg c30] at H
                have c30b0 : (t219 == t208) = false := beq_eq_false_iff_ne.mpr c30
                have c30b1 : (t219 != t208) = true := bne_iff_ne.mpr c30
                have H' := Aside0.mk H
                clear H
                go_wp2_with (first | (go_at_call 21; (with_reducible refine (impl_KindOf.calls t210 t219 _ A29.out).mono ?_); rintro e w' ⟨rfl, ⟨nd, rfl⟩⟩))
                go_meet
                case rel => exact ⟨_, (true), (by first | rfl | (simp; done) | (simp [*]; done)), H', ⟨by have := HJ10.out; first | omega | exact Nat.le_refl _⟩, ⟨by repeat (first | (with_reducible first | exact HB.out | apply below_alloc | apply pw_below_drewN | apply below_drew1) | exact HB.out)⟩⟩
            · rw [if_neg c28] at H
              have c28b0 : decide (0 ≤ t210) = false := decide_eq_false c28
              clear c28
              (first | rw [c28b0] | (simp only [i64_w, i32_w]; rw [c28b0]) | skip)
              have H' := Aside0.mk H
              clear H
              go_wp2
              go_meet
              case rel => exact ⟨_, (false), (by first | rfl | (simp; done) | (simp [*]; done)), H', ⟨by have := HJ10.out; first | omega | exact Nat.le_refl _⟩, ⟨by repeat (first | (with_reducible first | exact HB.out | apply below_alloc | apply pw_below_drewN | apply below_drew1) | exact HB.out)⟩⟩
          case rest =>
            clear HC27
            try clear c1
            try clear c2
            try clear p2
            try clear c3
            try clear c6
            try clear c12
            try clear c14
            try clear c15
            try clear c16
            try clear c17
            try clear c17b0
            try clear c17b1
            try clear c18
            try clear c19
            try clear c21
            try clear c21b0
            try clear c21b1
            try clear c21b2
            try clear c22
            try clear c24
            try clear c24b0
            try clear c24b1
            try clear c24b2
            try clear c25
            try clear c26
            try clear c28
            try clear c28b0
            try clear c30
            try clear c30b0
            try clear c30b1
            try clear c31
            try clear c31b0
            try clear c31b1
            try clear p2
            obtain ⟨kq, x82_26, rfl, HA, HJ26, HB⟩ := hcut
            cases kq with
            | zero => exact absurd HA.out (by simp [laws_FnNames.j1])
            | succ kj26 =>
              have H := HA.out
              clear HA
              simp only [laws_FnNames.j1] at H
              by_cases c33 : x82_26 = true
              · subst c33
                have H1 : (some false) = some r := by rw [if_pos rfl] at H; exact H
                clear H
                have H := H1
                clear H1
                obtain rfl := Option.some.inj H
                go_wp2
                go_ret
                exact ⟨by first | rfl | (simp [errW_none, errW_some] <;> rfl) | (simp [*, errW_none, errW_some] <;> rfl), by repeat (first | (with_reducible first | exact HB.out | apply below_alloc | apply pw_below_drewN | apply below_drew1) | exact HB.out)⟩
              · replace c33 := Bool.eq_false_iff.mpr c33
                subst c33
                have H1 : ((impl_IsName.f t211).bind fun t221 => ((impl_KindOf.f t211).bind fun t222 => (some (t221 == (decide (t222 > 0)))))) = some r := by rw [if_neg (show ¬ (false = true) by decide)] at H; exact H
                clear H
                have H := H1
                clear H1
                replace H := Option.bind_eq_some_iff.mp H
                obtain ⟨t221, A340, H⟩ := H
                replace H : ((impl_KindOf.f t211).bind fun t222 => (some (t221 == (decide (t222 > 0))))) = some r := H
                have A34 := Aside0.mk A340
                clear A340
                replace H := Option.bind_eq_some_iff.mp H
                obtain ⟨t222, A350, H⟩ := H
                replace H : (some (t221 == (decide (t222 > 0)))) = some r := H
                have A35 := Aside0.mk A350
                clear A350
                obtain rfl := Option.some.inj H
                go_wp2_with (first | ((with_reducible refine gate_callee (f := 20) rfl ?_); refine goesL_ (some 84) rfl rfl Tryd.func20 (by kernel_rfl) rfl #[.int .i64 t211] rfl (by (try simp only [List.map_toArray, List.map_cons, List.map_nil]); first | done | rfl | (simp only [List.length_drop, List.length_take]; rfl)) ?_; (with_reducible refine (impl_IsName.calls t211 t221 _ A34.out).mono ?_); rintro e w' ⟨rfl, ⟨nd, rfl⟩⟩; refine ⟨_, rfl, ?_⟩) | ((with_reducible refine gate_callee (f := 21) rfl ?_); refine goesL_ (some 86) rfl rfl Tryd.func21 (by kernel_rfl) rfl #[.int .i64 t211] rfl (by (try simp only [List.map_toArray, List.map_cons, List.map_nil]); first | done | rfl | (simp only [List.length_drop, List.length_take]; rfl)) ?_; (with_reducible refine (impl_KindOf.calls t211 t222 _ A35.out).mono ?_); rintro e w' ⟨rfl, ⟨nd, rfl⟩⟩; refine ⟨_, rfl, ?_⟩))
                go_ret
                exact ⟨by first | rfl | (simp [errW_none, errW_some] <;> rfl) | (simp [*, errW_none, errW_some] <;> rfl), by repeat (first | (with_reducible first | exact HB.out | apply below_alloc | apply pw_below_drewN | apply below_drew1) | exact HB.out)⟩

/-- THE ONE PURE STATEMENT of laws_FnNames: yours. -/
def laws_FnNames.Pure : Prop := ∀ (l0 : List Int), l0.length ≤ maxLen → l0.length * 1 ≤ 140737488351232 → (∀ x ∈ l0, (Lit.int .u8 x).wf = true) → ∃ k, laws_FnNames.f k l0 = some true
theorem laws_FnNames.walk (P : laws_FnNames.Pure) (a0 : Option Addr) (len0 cap0 : Nat) (z0 : List Int) (w : World) (w0 : (a0 = none ∧ len0 = 0 ∧ cap0 = 0 ∧ z0 = []) ∨ ∃ x, a0 = some x ∧ len0 ≤ cap0 ∧ cap0 ≤ maxLen ∧ z0.length = cap0 ∧ (∀ i, i < z0.length → w.cell? (x.add i) = some (.int .u8 (z0.getD i 0))) ∧ ∀ n ∈ z0, (Lit.int .u8 n).wf = true) (y0 : len0 * 1 ≤ 140737488351232) :
    Calls Tryd.prog 6 #[.slice a0 len0 cap0] w fun e w' => e = .returned (.bool true) ∧ Below w.heap.size w w' := by
  obtain ⟨l0, rfl, hr0, hm0, hw0, hc0⟩ := ReadsInt.ofRowC w0
  obtain ⟨k, h⟩ := P l0 hm0 y0 hw0
  refine (laws_FnNames.calls k _ _ l0 true w (Kd.C_of_reads (d := (0 : Int)) (h1 := fun _ => rfl) hr0) hc0 h).mono ?_
  rintro e w' ⟨rfl, hd⟩
  exact ⟨rfl, hd⟩

end Go.Proofs.YtobpbnbjdpdfladDoor.PFnNames
