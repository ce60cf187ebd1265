/- What this law reaches, as plain Lean functions, and the proofs that the machine's calls answer what they answer; laid by a program of this session over the kit's print, some functions by hand. Conditions: none beyond each theorem's own. -/
import Derived.Test.YthanecnkknimpaaDoorPFnFactsx0
import Derived.Test.YthanecnkknimpaaDoorPFnFactsx1
import Derived.Test.YthanecnkknimpaaDoorPFnFactsx3
import Derived.Test.YthanecnkknimpaaDoorPFnFactsx4
import Derived.Test.YthanecnkknimpaaDoorPFnFactsx5
import Derived.Test.YthanecnkknimpaaDoorPFnFactsx6
namespace Go.Proofs.YthanecnkknimpaaDoor.PFnFacts
open Go.RowKit Go.Proofs.YthanecnkknimpaaDoorW.PrintWords Go.Proofs.YthanecnkknimpaaDoorW.PrintLast Go.Proofs.YthanecnkknimpaaDoorW.PrintMore
attribute [local go_sem] max2_int min2_int max_two min_two max_three min_three max_four min_four   -- for this text's walks alone
set_option linter.unusedVariables false
set_option linter.unusedSimpArgs false

/-! ### laws_FnFacts: function 5 -/
mutual
def laws_FnFacts.j0 : Nat → Bool → Int → Int → Int → Int → Int → Int → Int → Int → Int → Int → Int → Int → Int → Int → Int → Int → Int → Int → Option (Bool)
  | 0, _, _, _, _, _, _, _, _, _, _, _, _, _, _, _, _, _, _, _ => none
  | k + 1, x46, x348000, x348001, x348002, x348003, x348004, x348005, x361000, x361001, x361002, x361003, x361004, x361005, x362000, x362001, x362002, x362003, x362004, x362005 => if x46 = true then (some false) else ((impl_FactBefore.f x361000 x361001 x361002 x361003 x361004 x361005 x362000 x362001 x362002 x362003 x362004 x362005).bind fun t366 => (if t366 = true then ((impl_FactBefore.f x362000 x362001 x362002 x362003 x362004 x362005 x361000 x361001 x361002 x361003 x361004 x361005).bind fun t367 => (if t367 = true then (laws_FnFacts.j1 k true x348000 x348001 x348002 x348003 x348004 x348005 x361000 x361001 x361002 x361003 x361004 x361005 x362000 x362001 x362002 x362003 x362004 x362005) else ((impl_SameClaim.f x361000 x361001 x361002 x361003 x361004 x361005 x362000 x362001 x362002 x362003 x362004 x362005).bind fun t368 => (if t368 = true then ((impl_FactBefore.f x361000 x361001 x361002 x361003 x361004 x361005 x362000 x362001 x362002 x362003 x362004 x362005).bind fun t369 => (if t369 = true then (laws_FnFacts.j1 k true x348000 x348001 x348002 x348003 x348004 x348005 x361000 x361001 x361002 x361003 x361004 x361005 x362000 x362001 x362002 x362003 x362004 x362005) else ((impl_FactBefore.f x362000 x362001 x362002 x362003 x362004 x362005 x361000 x361001 x361002 x361003 x361004 x361005).bind fun t370 => (laws_FnFacts.j1 k t370 x348000 x348001 x348002 x348003 x348004 x348005 x361000 x361001 x361002 x361003 x361004 x361005 x362000 x362001 x362002 x362003 x362004 x362005)))) else (laws_FnFacts.j1 k false x348000 x348001 x348002 x348003 x348004 x348005 x361000 x361001 x361002 x361003 x361004 x361005 x362000 x362001 x362002 x362003 x362004 x362005))))) else ((impl_SameClaim.f x361000 x361001 x361002 x361003 x361004 x361005 x362000 x362001 x362002 x362003 x362004 x362005).bind fun t371 => (if t371 = true then ((impl_FactBefore.f x361000 x361001 x361002 x361003 x361004 x361005 x362000 x362001 x362002 x362003 x362004 x362005).bind fun t372 => (if t372 = true then (laws_FnFacts.j1 k true x348000 x348001 x348002 x348003 x348004 x348005 x361000 x361001 x361002 x361003 x361004 x361005 x362000 x362001 x362002 x362003 x362004 x362005) else ((impl_FactBefore.f x362000 x362001 x362002 x362003 x362004 x362005 x361000 x361001 x361002 x361003 x361004 x361005).bind fun t373 => (laws_FnFacts.j1 k t373 x348000 x348001 x348002 x348003 x348004 x348005 x361000 x361001 x361002 x361003 x361004 x361005 x362000 x362001 x362002 x362003 x362004 x362005)))) else (laws_FnFacts.j1 k false x348000 x348001 x348002 x348003 x348004 x348005 x361000 x361001 x361002 x361003 x361004 x361005 x362000 x362001 x362002 x362003 x362004 x362005)))))
def laws_FnFacts.j1 : Nat → Bool → Int → Int → Int → Int → Int → Int → Int → Int → Int → Int → Int → Int → Int → Int → Int → Int → Int → Int → Option (Bool)
  | 0, _, _, _, _, _, _, _, _, _, _, _, _, _, _, _, _, _, _, _ => none
  | k + 1, x69, x348000, x348001, x348002, x348003, x348004, x348005, x361000, x361001, x361002, x361003, x361004, x361005, x362000, x362001, x362002, x362003, x362004, x362005 => if x69 = true then (some false) else ((impl_SameClaim.f x361000 x361001 x361002 x361003 x361004 x361005 x362000 x362001 x362002 x362003 x362004 x362005).bind fun t374 => (if t374 = true then (laws_FnFacts.j2 k false x348000 x348001 x348002 x348003 x348004 x348005) else ((impl_FactBefore.f x361000 x361001 x361002 x361003 x361004 x361005 x362000 x362001 x362002 x362003 x362004 x362005).bind fun t375 => (if t375 = true then (laws_FnFacts.j2 k false x348000 x348001 x348002 x348003 x348004 x348005) else ((impl_FactBefore.f x362000 x362001 x362002 x362003 x362004 x362005 x361000 x361001 x361002 x361003 x361004 x361005).bind fun t376 => (laws_FnFacts.j2 k (!t376) x348000 x348001 x348002 x348003 x348004 x348005))))))
def laws_FnFacts.j2 : Nat → Bool → Int → Int → Int → Int → Int → Int → Option (Bool)
  | 0, _, _, _, _, _, _, _ => none
  | k + 1, x85, x348000, x348001, x348002, x348003, x348004, x348005 => if x85 = true then (some false) else ((impl_FormatFact.f k x348000 x348001 x348002 x348003 x348004 x348005).bind fun t377 => ((impl_IsFact.f x348000 x348001 x348002 x348003 x348004 x348005).bind fun t378 => (some ((t377.toList == ([] : List UInt8)) != t378))))
end
def laws_FnFacts.f (k : Nat) (l0 : List Int) : Option (Bool) := (laws_big.f l0).bind fun t338 => (if t338 = true then (some true) else ((spec_DrawHoldsAt.f k l0).bind fun bt339 => ((spec_DrawFactBefore.f k l0).bind fun bt348 => ((impl_HoldsAt.f bt339.1 bt339.2.1 bt339.2.2.1 bt339.2.2.2.1 bt339.2.2.2.2.1 bt339.2.2.2.2.2.1 bt339.2.2.2.2.2.2.1 bt339.2.2.2.2.2.2.2).bind fun t362 => (if t362 = true then ((impl_IsFact.f bt339.1 bt339.2.1 bt339.2.2.1 bt339.2.2.2.1 bt339.2.2.2.2.1 bt339.2.2.2.2.2.1).bind fun t363 => (if t363 = true then ((impl_IsWithin.f bt339.2.2.2.2.1 bt339.2.2.2.2.2.1 bt339.2.2.2.2.2.2.1).bind fun t364 => (if t364 = true then ((impl_AgeOf.f bt339.2.2.2.2.1 bt339.2.2.2.2.2.2.1).bind fun t365 => (laws_FnFacts.j0 k (decide (t365 > bt339.2.2.2.2.2.2.2)) bt339.1 bt339.2.1 bt339.2.2.1 bt339.2.2.2.1 bt339.2.2.2.2.1 bt339.2.2.2.2.2.1 bt348.1 bt348.2.1 bt348.2.2.1 bt348.2.2.2.1 bt348.2.2.2.2.1 bt348.2.2.2.2.2.1 bt348.2.2.2.2.2.2.1 bt348.2.2.2.2.2.2.2.1 bt348.2.2.2.2.2.2.2.2.1 bt348.2.2.2.2.2.2.2.2.2.1 bt348.2.2.2.2.2.2.2.2.2.2.1 bt348.2.2.2.2.2.2.2.2.2.2.2)) else (laws_FnFacts.j0 k true bt339.1 bt339.2.1 bt339.2.2.1 bt339.2.2.2.1 bt339.2.2.2.2.1 bt339.2.2.2.2.2.1 bt348.1 bt348.2.1 bt348.2.2.1 bt348.2.2.2.1 bt348.2.2.2.2.1 bt348.2.2.2.2.2.1 bt348.2.2.2.2.2.2.1 bt348.2.2.2.2.2.2.2.1 bt348.2.2.2.2.2.2.2.2.1 bt348.2.2.2.2.2.2.2.2.2.1 bt348.2.2.2.2.2.2.2.2.2.2.1 bt348.2.2.2.2.2.2.2.2.2.2.2))) else (laws_FnFacts.j0 k true bt339.1 bt339.2.1 bt339.2.2.1 bt339.2.2.2.1 bt339.2.2.2.2.1 bt339.2.2.2.2.2.1 bt348.1 bt348.2.1 bt348.2.2.1 bt348.2.2.2.1 bt348.2.2.2.2.1 bt348.2.2.2.2.2.1 bt348.2.2.2.2.2.2.1 bt348.2.2.2.2.2.2.2.1 bt348.2.2.2.2.2.2.2.2.1 bt348.2.2.2.2.2.2.2.2.2.1 bt348.2.2.2.2.2.2.2.2.2.2.1 bt348.2.2.2.2.2.2.2.2.2.2.2))) else (laws_FnFacts.j0 k false bt339.1 bt339.2.1 bt339.2.2.1 bt339.2.2.2.1 bt339.2.2.2.2.1 bt339.2.2.2.2.2.1 bt348.1 bt348.2.1 bt348.2.2.1 bt348.2.2.2.1 bt348.2.2.2.2.1 bt348.2.2.2.2.2.1 bt348.2.2.2.2.2.2.1 bt348.2.2.2.2.2.2.2.1 bt348.2.2.2.2.2.2.2.2.1 bt348.2.2.2.2.2.2.2.2.2.1 bt348.2.2.2.2.2.2.2.2.2.2.1 bt348.2.2.2.2.2.2.2.2.2.2.2))))))
theorem laws_FnFacts.mono_l : ∀ k, (∀ y0 y1 y2 y3 y4 y5 y6 y7 y8 y9 y10 y11 y12 y13 y14 y15 y16 y17 y18, LeO (laws_FnFacts.j0 k y0 y1 y2 y3 y4 y5 y6 y7 y8 y9 y10 y11 y12 y13 y14 y15 y16 y17 y18) (laws_FnFacts.j0 (k + 1) y0 y1 y2 y3 y4 y5 y6 y7 y8 y9 y10 y11 y12 y13 y14 y15 y16 y17 y18)) ∧ (∀ y0 y1 y2 y3 y4 y5 y6 y7 y8 y9 y10 y11 y12 y13 y14 y15 y16 y17 y18, LeO (laws_FnFacts.j1 k y0 y1 y2 y3 y4 y5 y6 y7 y8 y9 y10 y11 y12 y13 y14 y15 y16 y17 y18) (laws_FnFacts.j1 (k + 1) y0 y1 y2 y3 y4 y5 y6 y7 y8 y9 y10 y11 y12 y13 y14 y15 y16 y17 y18)) ∧ (∀ y0 y1 y2 y3 y4 y5 y6, LeO (laws_FnFacts.j2 k y0 y1 y2 y3 y4 y5 y6) (laws_FnFacts.j2 (k + 1) y0 y1 y2 y3 y4 y5 y6))
  | 0 => ⟨fun _ _ _ _ _ _ _ _ _ _ _ _ _ _ _ _ _ _ _ r h => by simp [laws_FnFacts.j0] at h, fun _ _ _ _ _ _ _ _ _ _ _ _ _ _ _ _ _ _ _ r h => by simp [laws_FnFacts.j1] at h, fun _ _ _ _ _ _ _ r h => by simp [laws_FnFacts.j2] at h⟩
  | k + 1 => by
    obtain ⟨ih0, ih1, ih2⟩ := laws_FnFacts.mono_l k
    refine ⟨?_, ?_, ?_⟩
    · intro y0 y1 y2 y3 y4 y5 y6 y7 y8 y9 y10 y11 y12 y13 y14 y15 y16 y17 y18
      unfold laws_FnFacts.j0
      repeat' first
      | (with_reducible exact ih0 _ _ _ _ _ _ _ _ _ _ _ _ _ _ _ _ _ _ _)
      | (with_reducible exact ih1 _ _ _ _ _ _ _ _ _ _ _ _ _ _ _ _ _ _ _)
      | (with_reducible exact ih2 _ _ _ _ _ _ _)
      | (with_reducible exact impl_FormatFact.mono _ _ _ _ _ _ _)
      | (with_reducible exact spec_DrawFactBefore.mono _ _)
      | (with_reducible exact spec_DrawHoldsAt.mono _ _)
      | (with_reducible exact LeO.refl _)
      | (with_reducible exact LeO.none _)
      | (with_reducible refine LeO.ite ?_ ?_)
      | (with_reducible refine LeO.bind ?_ (fun _ => ?_))
      | exact ih0 _ _ _ _ _ _ _ _ _ _ _ _ _ _ _ _ _ _ _
      | exact ih1 _ _ _ _ _ _ _ _ _ _ _ _ _ _ _ _ _ _ _
      | exact ih2 _ _ _ _ _ _ _
      | exact impl_FormatFact.mono _ _ _ _ _ _ _
      | exact spec_DrawFactBefore.mono _ _
      | exact spec_DrawHoldsAt.mono _ _
      | exact LeO.none _
      | refine LeO.ite ?_ ?_
      | refine LeO.bind ?_ (fun _ => ?_)
    · intro y0 y1 y2 y3 y4 y5 y6 y7 y8 y9 y10 y11 y12 y13 y14 y15 y16 y17 y18
      unfold laws_FnFacts.j1
      repeat' first
      | (with_reducible exact ih0 _ _ _ _ _ _ _ _ _ _ _ _ _ _ _ _ _ _ _)
      | (with_reducible exact ih1 _ _ _ _ _ _ _ _ _ _ _ _ _ _ _ _ _ _ _)
      | (with_reducible exact ih2 _ _ _ _ _ _ _)
      | (with_reducible exact impl_FormatFact.mono _ _ _ _ _ _ _)
      | (with_reducible exact spec_DrawFactBefore.mono _ _)
      | (with_reducible exact spec_DrawHoldsAt.mono _ _)
      | (with_reducible exact LeO.refl _)
      | (with_reducible exact LeO.none _)
      | (with_reducible refine LeO.ite ?_ ?_)
      | (with_reducible refine LeO.bind ?_ (fun _ => ?_))
      | exact ih0 _ _ _ _ _ _ _ _ _ _ _ _ _ _ _ _ _ _ _
      | exact ih1 _ _ _ _ _ _ _ _ _ _ _ _ _ _ _ _ _ _ _
      | exact ih2 _ _ _ _ _ _ _
      | exact impl_FormatFact.mono _ _ _ _ _ _ _
      | exact spec_DrawFactBefore.mono _ _
      | exact spec_DrawHoldsAt.mono _ _
      | exact LeO.none _
      | refine LeO.ite ?_ ?_
      | refine LeO.bind ?_ (fun _ => ?_)
    · intro y0 y1 y2 y3 y4 y5 y6
      unfold laws_FnFacts.j2
      repeat' first
      | (with_reducible exact ih0 _ _ _ _ _ _ _ _ _ _ _ _ _ _ _ _ _ _ _)
      | (with_reducible exact ih1 _ _ _ _ _ _ _ _ _ _ _ _ _ _ _ _ _ _ _)
      | (with_reducible exact ih2 _ _ _ _ _ _ _)
      | (with_reducible exact impl_FormatFact.mono _ _ _ _ _ _ _)
      | (with_reducible exact spec_DrawFactBefore.mono _ _)
      | (with_reducible exact spec_DrawHoldsAt.mono _ _)
      | (with_reducible exact LeO.refl _)
      | (with_reducible exact LeO.none _)
      | (with_reducible refine LeO.ite ?_ ?_)
      | (with_reducible refine LeO.bind ?_ (fun _ => ?_))
      | exact ih0 _ _ _ _ _ _ _ _ _ _ _ _ _ _ _ _ _ _ _
      | exact ih1 _ _ _ _ _ _ _ _ _ _ _ _ _ _ _ _ _ _ _
      | exact ih2 _ _ _ _ _ _ _
      | exact impl_FormatFact.mono _ _ _ _ _ _ _
      | exact spec_DrawFactBefore.mono _ _
      | exact spec_DrawHoldsAt.mono _ _
      | exact LeO.none _
      | refine LeO.ite ?_ ?_
      | refine LeO.bind ?_ (fun _ => ?_)
theorem laws_FnFacts.mono : ∀ a0 k, LeO (laws_FnFacts.f k a0) (laws_FnFacts.f (k + 1) a0) := by
  intro a0 k
  obtain ⟨ih0, ih1, ih2⟩ := laws_FnFacts.mono_l k
  unfold laws_FnFacts.f
  repeat' first
      | (with_reducible exact ih0 _ _ _ _ _ _ _ _ _ _ _ _ _ _ _ _ _ _ _)
      | (with_reducible exact ih1 _ _ _ _ _ _ _ _ _ _ _ _ _ _ _ _ _ _ _)
      | (with_reducible exact ih2 _ _ _ _ _ _ _)
      | (with_reducible exact impl_FormatFact.mono _ _ _ _ _ _ _)
      | (with_reducible exact spec_DrawFactBefore.mono _ _)
      | (with_reducible exact spec_DrawHoldsAt.mono _ _)
      | (with_reducible exact LeO.refl _)
      | (with_reducible exact LeO.none _)
      | (with_reducible refine LeO.ite ?_ ?_)
      | (with_reducible refine LeO.bind ?_ (fun _ => ?_))
      | exact ih0 _ _ _ _ _ _ _ _ _ _ _ _ _ _ _ _ _ _ _
      | exact ih1 _ _ _ _ _ _ _ _ _ _ _ _ _ _ _ _ _ _ _
      | exact ih2 _ _ _ _ _ _ _
      | exact impl_FormatFact.mono _ _ _ _ _ _ _
      | exact spec_DrawFactBefore.mono _ _
      | exact spec_DrawHoldsAt.mono _ _
      | exact LeO.none _
      | refine LeO.ite ?_ ?_
      | refine LeO.bind ?_ (fun _ => ?_)
set_option maxHeartbeats 8000000 in
set_option maxRecDepth 100000 in
theorem laws_FnFacts.calls (k : Nat) (A0 : Option Addr) (c0 : Nat) (l0 : List Int) (r : Bool) (w : World) (htab : Lib.TabIs Tryd.prog w "internal/strconv.uint64pow10" .u64 Lib.pow10Tab) (hr0 : Kd.C (Kd.int .u8) w A0 l0.length l0) (hc0 : l0.length ≤ c0) (h : laws_FnFacts.f k l0 = some r) :
    Calls Tryd.prog 5 #[.slice A0 l0.length c0] w fun e w' => e = .returned (.bool r) ∧ Below w.heap.size w w' := by
  have TAB_ := Aside0.mk (show ∀ w', Below w.heap.size w w' → Lib.TabIs Tryd.prog w' "internal/strconv.uint64pow10" .u64 Lib.pow10Tab from Lib.tabBelow_of_tabIs htab)
  clear htab
  have hu34 := Tryd.underlying34
  have HR0 := Aside0.mk hr0
  have HC0 := Aside0.mk hc0
  clear hr0 hc0
  have HB := Aside0.mk (Below.refl w.heap.size w)
  have H : ((laws_big.f l0).bind fun t338 => (if t338 = true then (some true) else ((spec_DrawHoldsAt.f k l0).bind fun bt339 => ((spec_DrawFactBefore.f k l0).bind fun bt348 => ((impl_HoldsAt.f bt339.1 bt339.2.1 bt339.2.2.1 bt339.2.2.2.1 bt339.2.2.2.2.1 bt339.2.2.2.2.2.1 bt339.2.2.2.2.2.2.1 bt339.2.2.2.2.2.2.2).bind fun t362 => (if t362 = true then ((impl_IsFact.f bt339.1 bt339.2.1 bt339.2.2.1 bt339.2.2.2.1 bt339.2.2.2.2.1 bt339.2.2.2.2.2.1).bind fun t363 => (if t363 = true then ((impl_IsWithin.f bt339.2.2.2.2.1 bt339.2.2.2.2.2.1 bt339.2.2.2.2.2.2.1).bind fun t364 => (if t364 = true then ((impl_AgeOf.f bt339.2.2.2.2.1 bt339.2.2.2.2.2.2.1).bind fun t365 => (laws_FnFacts.j0 k (decide (t365 > bt339.2.2.2.2.2.2.2)) bt339.1 bt339.2.1 bt339.2.2.1 bt339.2.2.2.1 bt339.2.2.2.2.1 bt339.2.2.2.2.2.1 bt348.1 bt348.2.1 bt348.2.2.1 bt348.2.2.2.1 bt348.2.2.2.2.1 bt348.2.2.2.2.2.1 bt348.2.2.2.2.2.2.1 bt348.2.2.2.2.2.2.2.1 bt348.2.2.2.2.2.2.2.2.1 bt348.2.2.2.2.2.2.2.2.2.1 bt348.2.2.2.2.2.2.2.2.2.2.1 bt348.2.2.2.2.2.2.2.2.2.2.2)) else (laws_FnFacts.j0 k true bt339.1 bt339.2.1 bt339.2.2.1 bt339.2.2.2.1 bt339.2.2.2.2.1 bt339.2.2.2.2.2.1 bt348.1 bt348.2.1 bt348.2.2.1 bt348.2.2.2.1 bt348.2.2.2.2.1 bt348.2.2.2.2.2.1 bt348.2.2.2.2.2.2.1 bt348.2.2.2.2.2.2.2.1 bt348.2.2.2.2.2.2.2.2.1 bt348.2.2.2.2.2.2.2.2.2.1 bt348.2.2.2.2.2.2.2.2.2.2.1 bt348.2.2.2.2.2.2.2.2.2.2.2))) else (laws_FnFacts.j0 k true bt339.1 bt339.2.1 bt339.2.2.1 bt339.2.2.2.1 bt339.2.2.2.2.1 bt339.2.2.2.2.2.1 bt348.1 bt348.2.1 bt348.2.2.1 bt348.2.2.2.1 bt348.2.2.2.2.1 bt348.2.2.2.2.2.1 bt348.2.2.2.2.2.2.1 bt348.2.2.2.2.2.2.2.1 bt348.2.2.2.2.2.2.2.2.1 bt348.2.2.2.2.2.2.2.2.2.1 bt348.2.2.2.2.2.2.2.2.2.2.1 bt348.2.2.2.2.2.2.2.2.2.2.2))) else (laws_FnFacts.j0 k false bt339.1 bt339.2.1 bt339.2.2.1 bt339.2.2.2.1 bt339.2.2.2.2.1 bt339.2.2.2.2.2.1 bt348.1 bt348.2.1 bt348.2.2.1 bt348.2.2.2.1 bt348.2.2.2.2.1 bt348.2.2.2.2.2.1 bt348.2.2.2.2.2.2.1 bt348.2.2.2.2.2.2.2.1 bt348.2.2.2.2.2.2.2.2.1 bt348.2.2.2.2.2.2.2.2.2.1 bt348.2.2.2.2.2.2.2.2.2.2.1 bt348.2.2.2.2.2.2.2.2.2.2.2))))))) = some r := h
  clear h
  replace H := Option.bind_eq_some_iff.mp H
  obtain ⟨t338, A20, H⟩ := H
  replace H : (if t338 = true then (some true) else ((spec_DrawHoldsAt.f k l0).bind fun bt339 => ((spec_DrawFactBefore.f k l0).bind fun bt348 => ((impl_HoldsAt.f bt339.1 bt339.2.1 bt339.2.2.1 bt339.2.2.2.1 bt339.2.2.2.2.1 bt339.2.2.2.2.2.1 bt339.2.2.2.2.2.2.1 bt339.2.2.2.2.2.2.2).bind fun t362 => (if t362 = true then ((impl_IsFact.f bt339.1 bt339.2.1 bt339.2.2.1 bt339.2.2.2.1 bt339.2.2.2.2.1 bt339.2.2.2.2.2.1).bind fun t363 => (if t363 = true then ((impl_IsWithin.f bt339.2.2.2.2.1 bt339.2.2.2.2.2.1 bt339.2.2.2.2.2.2.1).bind fun t364 => (if t364 = true then ((impl_AgeOf.f bt339.2.2.2.2.1 bt339.2.2.2.2.2.2.1).bind fun t365 => (laws_FnFacts.j0 k (decide (t365 > bt339.2.2.2.2.2.2.2)) bt339.1 bt339.2.1 bt339.2.2.1 bt339.2.2.2.1 bt339.2.2.2.2.1 bt339.2.2.2.2.2.1 bt348.1 bt348.2.1 bt348.2.2.1 bt348.2.2.2.1 bt348.2.2.2.2.1 bt348.2.2.2.2.2.1 bt348.2.2.2.2.2.2.1 bt348.2.2.2.2.2.2.2.1 bt348.2.2.2.2.2.2.2.2.1 bt348.2.2.2.2.2.2.2.2.2.1 bt348.2.2.2.2.2.2.2.2.2.2.1 bt348.2.2.2.2.2.2.2.2.2.2.2)) else (laws_FnFacts.j0 k true bt339.1 bt339.2.1 bt339.2.2.1 bt339.2.2.2.1 bt339.2.2.2.2.1 bt339.2.2.2.2.2.1 bt348.1 bt348.2.1 bt348.2.2.1 bt348.2.2.2.1 bt348.2.2.2.2.1 bt348.2.2.2.2.2.1 bt348.2.2.2.2.2.2.1 bt348.2.2.2.2.2.2.2.1 bt348.2.2.2.2.2.2.2.2.1 bt348.2.2.2.2.2.2.2.2.2.1 bt348.2.2.2.2.2.2.2.2.2.2.1 bt348.2.2.2.2.2.2.2.2.2.2.2))) else (laws_FnFacts.j0 k true bt339.1 bt339.2.1 bt339.2.2.1 bt339.2.2.2.1 bt339.2.2.2.2.1 bt339.2.2.2.2.2.1 bt348.1 bt348.2.1 bt348.2.2.1 bt348.2.2.2.1 bt348.2.2.2.2.1 bt348.2.2.2.2.2.1 bt348.2.2.2.2.2.2.1 bt348.2.2.2.2.2.2.2.1 bt348.2.2.2.2.2.2.2.2.1 bt348.2.2.2.2.2.2.2.2.2.1 bt348.2.2.2.2.2.2.2.2.2.2.1 bt348.2.2.2.2.2.2.2.2.2.2.2))) else (laws_FnFacts.j0 k false bt339.1 bt339.2.1 bt339.2.2.1 bt339.2.2.2.1 bt339.2.2.2.2.1 bt339.2.2.2.2.2.1 bt348.1 bt348.2.1 bt348.2.2.1 bt348.2.2.2.1 bt348.2.2.2.2.1 bt348.2.2.2.2.2.1 bt348.2.2.2.2.2.2.1 bt348.2.2.2.2.2.2.2.1 bt348.2.2.2.2.2.2.2.2.1 bt348.2.2.2.2.2.2.2.2.2.1 bt348.2.2.2.2.2.2.2.2.2.2.1 bt348.2.2.2.2.2.2.2.2.2.2.2)))))) = some r := H
  have A2 := Aside0.mk A20
  clear A20
  by_cases c3 : t338 = true
  · subst c3
    have H1 : (some true) = some r := by rw [if_pos rfl] at H; exact H
    clear H
    have H := H1
    clear H1
    obtain rfl := Option.some.inj H
    go_enter Tryd.func5, Tryd.ntmps5
    go_wp2_with (first | ((with_reducible refine gate_callee (f := 8) rfl ?_); refine goesL_ (some 9) rfl rfl Tryd.func8 (by kernel_rfl) rfl #[.slice A0 l0.length c0] rfl (by (try simp only [List.map_toArray, List.map_cons, List.map_nil]); first | done | rfl | (simp only [List.length_drop, List.length_take]; rfl)) ?_; (with_reducible refine (laws_big.calls _ _ l0 true _ ?side1 ?side2 A2.out).mono ?_); (case side1 => repeat (first | exact HR0.out | (with_reducible refine Kd.C_alloc ?_ _) | (with_reducible refine Kd.C_drewN ?_ _) | (with_reducible refine Kd.C_drew ?_))); (case side2 => exact HC0.out); rintro e w' ⟨rfl, ⟨nd, rfl⟩⟩; refine ⟨_, rfl, ?_⟩))
    go_ret
    exact ⟨by first | rfl | (simp [errW_none, errW_some]; cases t377.toList.isEmpty <;> cases t378 <;> rfl) | (simp [errW_none, errW_some] <;> rfl) | (simp [*, errW_none, errW_some] <;> rfl), by repeat (first | (with_reducible first | exact HB.out | apply below_alloc | apply pw_below_drewN | apply below_drew1) | exact HB.out)⟩
  · replace c3 := Bool.eq_false_iff.mpr c3
    subst c3
    have H1 : ((spec_DrawHoldsAt.f k l0).bind fun bt339 => ((spec_DrawFactBefore.f k l0).bind fun bt348 => ((impl_HoldsAt.f bt339.1 bt339.2.1 bt339.2.2.1 bt339.2.2.2.1 bt339.2.2.2.2.1 bt339.2.2.2.2.2.1 bt339.2.2.2.2.2.2.1 bt339.2.2.2.2.2.2.2).bind fun t362 => (if t362 = true then ((impl_IsFact.f bt339.1 bt339.2.1 bt339.2.2.1 bt339.2.2.2.1 bt339.2.2.2.2.1 bt339.2.2.2.2.2.1).bind fun t363 => (if t363 = true then ((impl_IsWithin.f bt339.2.2.2.2.1 bt339.2.2.2.2.2.1 bt339.2.2.2.2.2.2.1).bind fun t364 => (if t364 = true then ((impl_AgeOf.f bt339.2.2.2.2.1 bt339.2.2.2.2.2.2.1).bind fun t365 => (laws_FnFacts.j0 k (decide (t365 > bt339.2.2.2.2.2.2.2)) bt339.1 bt339.2.1 bt339.2.2.1 bt339.2.2.2.1 bt339.2.2.2.2.1 bt339.2.2.2.2.2.1 bt348.1 bt348.2.1 bt348.2.2.1 bt348.2.2.2.1 bt348.2.2.2.2.1 bt348.2.2.2.2.2.1 bt348.2.2.2.2.2.2.1 bt348.2.2.2.2.2.2.2.1 bt348.2.2.2.2.2.2.2.2.1 bt348.2.2.2.2.2.2.2.2.2.1 bt348.2.2.2.2.2.2.2.2.2.2.1 bt348.2.2.2.2.2.2.2.2.2.2.2)) else (laws_FnFacts.j0 k true bt339.1 bt339.2.1 bt339.2.2.1 bt339.2.2.2.1 bt339.2.2.2.2.1 bt339.2.2.2.2.2.1 bt348.1 bt348.2.1 bt348.2.2.1 bt348.2.2.2.1 bt348.2.2.2.2.1 bt348.2.2.2.2.2.1 bt348.2.2.2.2.2.2.1 bt348.2.2.2.2.2.2.2.1 bt348.2.2.2.2.2.2.2.2.1 bt348.2.2.2.2.2.2.2.2.2.1 bt348.2.2.2.2.2.2.2.2.2.2.1 bt348.2.2.2.2.2.2.2.2.2.2.2))) else (laws_FnFacts.j0 k true bt339.1 bt339.2.1 bt339.2.2.1 bt339.2.2.2.1 bt339.2.2.2.2.1 bt339.2.2.2.2.2.1 bt348.1 bt348.2.1 bt348.2.2.1 bt348.2.2.2.1 bt348.2.2.2.2.1 bt348.2.2.2.2.2.1 bt348.2.2.2.2.2.2.1 bt348.2.2.2.2.2.2.2.1 bt348.2.2.2.2.2.2.2.2.1 bt348.2.2.2.2.2.2.2.2.2.1 bt348.2.2.2.2.2.2.2.2.2.2.1 bt348.2.2.2.2.2.2.2.2.2.2.2))) else (laws_FnFacts.j0 k false bt339.1 bt339.2.1 bt339.2.2.1 bt339.2.2.2.1 bt339.2.2.2.2.1 bt339.2.2.2.2.2.1 bt348.1 bt348.2.1 bt348.2.2.1 bt348.2.2.2.1 bt348.2.2.2.2.1 bt348.2.2.2.2.2.1 bt348.2.2.2.2.2.2.1 bt348.2.2.2.2.2.2.2.1 bt348.2.2.2.2.2.2.2.2.1 bt348.2.2.2.2.2.2.2.2.2.1 bt348.2.2.2.2.2.2.2.2.2.2.1 bt348.2.2.2.2.2.2.2.2.2.2.2))))) = some r := by rw [if_neg (show ¬ (false = true) by decide)] at H; exact H
    clear H
    have H := H1
    clear H1
    replace H := Option.bind_eq_some_iff.mp H
    obtain ⟨⟨t339, t340, t341, t342, t343, t344, t345, t346⟩, A40, H⟩ := H
    replace H : ((spec_DrawFactBefore.f k l0).bind fun bt348 => ((impl_HoldsAt.f t339 t340 t341 t342 t343 t344 t345 t346).bind fun t362 => (if t362 = true then ((impl_IsFact.f t339 t340 t341 t342 t343 t344).bind fun t363 => (if t363 = true then ((impl_IsWithin.f t343 t344 t345).bind fun t364 => (if t364 = true then ((impl_AgeOf.f t343 t345).bind fun t365 => (laws_FnFacts.j0 k (decide (t365 > t346)) t339 t340 t341 t342 t343 t344 bt348.1 bt348.2.1 bt348.2.2.1 bt348.2.2.2.1 bt348.2.2.2.2.1 bt348.2.2.2.2.2.1 bt348.2.2.2.2.2.2.1 bt348.2.2.2.2.2.2.2.1 bt348.2.2.2.2.2.2.2.2.1 bt348.2.2.2.2.2.2.2.2.2.1 bt348.2.2.2.2.2.2.2.2.2.2.1 bt348.2.2.2.2.2.2.2.2.2.2.2)) else (laws_FnFacts.j0 k true t339 t340 t341 t342 t343 t344 bt348.1 bt348.2.1 bt348.2.2.1 bt348.2.2.2.1 bt348.2.2.2.2.1 bt348.2.2.2.2.2.1 bt348.2.2.2.2.2.2.1 bt348.2.2.2.2.2.2.2.1 bt348.2.2.2.2.2.2.2.2.1 bt348.2.2.2.2.2.2.2.2.2.1 bt348.2.2.2.2.2.2.2.2.2.2.1 bt348.2.2.2.2.2.2.2.2.2.2.2))) else (laws_FnFacts.j0 k true t339 t340 t341 t342 t343 t344 bt348.1 bt348.2.1 bt348.2.2.1 bt348.2.2.2.1 bt348.2.2.2.2.1 bt348.2.2.2.2.2.1 bt348.2.2.2.2.2.2.1 bt348.2.2.2.2.2.2.2.1 bt348.2.2.2.2.2.2.2.2.1 bt348.2.2.2.2.2.2.2.2.2.1 bt348.2.2.2.2.2.2.2.2.2.2.1 bt348.2.2.2.2.2.2.2.2.2.2.2))) else (laws_FnFacts.j0 k false t339 t340 t341 t342 t343 t344 bt348.1 bt348.2.1 bt348.2.2.1 bt348.2.2.2.1 bt348.2.2.2.2.1 bt348.2.2.2.2.2.1 bt348.2.2.2.2.2.2.1 bt348.2.2.2.2.2.2.2.1 bt348.2.2.2.2.2.2.2.2.1 bt348.2.2.2.2.2.2.2.2.2.1 bt348.2.2.2.2.2.2.2.2.2.2.1 bt348.2.2.2.2.2.2.2.2.2.2.2)))) = some r := H
    have A4 := Aside0.mk A40
    clear A40
    replace H := Option.bind_eq_some_iff.mp H
    obtain ⟨⟨t348, t349, t350, t351, t352, t353, t354, t355, t356, t357, t358, t359⟩, A50, H⟩ := H
    replace H : ((impl_HoldsAt.f t339 t340 t341 t342 t343 t344 t345 t346).bind fun t362 => (if t362 = true then ((impl_IsFact.f t339 t340 t341 t342 t343 t344).bind fun t363 => (if t363 = true then ((impl_IsWithin.f t343 t344 t345).bind fun t364 => (if t364 = true then ((impl_AgeOf.f t343 t345).bind fun t365 => (laws_FnFacts.j0 k (decide (t365 > t346)) t339 t340 t341 t342 t343 t344 t348 t349 t350 t351 t352 t353 t354 t355 t356 t357 t358 t359)) else (laws_FnFacts.j0 k true t339 t340 t341 t342 t343 t344 t348 t349 t350 t351 t352 t353 t354 t355 t356 t357 t358 t359))) else (laws_FnFacts.j0 k true t339 t340 t341 t342 t343 t344 t348 t349 t350 t351 t352 t353 t354 t355 t356 t357 t358 t359))) else (laws_FnFacts.j0 k false t339 t340 t341 t342 t343 t344 t348 t349 t350 t351 t352 t353 t354 t355 t356 t357 t358 t359))) = some r := H
    have A5 := Aside0.mk A50
    clear A50
    have HC6 := Aside0.mk H
    clear H
    go_enter Tryd.func5, Tryd.ntmps5
    go_upto_region 5 with (first | ((with_reducible refine gate_callee (f := 8) rfl ?_); refine goesL_ (some 9) rfl rfl Tryd.func8 (by kernel_rfl) rfl #[.slice A0 l0.length c0] rfl (by (try simp only [List.map_toArray, List.map_cons, List.map_nil]); first | done | rfl | (simp only [List.length_drop, List.length_take]; rfl)) ?_; (with_reducible refine (laws_big.calls _ _ l0 false _ ?side1 ?side2 A2.out).mono ?_); (case side1 => repeat (first | exact HR0.out | (with_reducible refine Kd.C_alloc ?_ _) | (with_reducible refine Kd.C_drewN ?_ _) | (with_reducible refine Kd.C_drew ?_))); (case side2 => exact HC0.out); rintro e w' ⟨rfl, ⟨nd, rfl⟩⟩; refine ⟨_, rfl, ?_⟩) | ((with_reducible refine gate_callee (f := 15) rfl ?_); refine goesL_ (some 12) rfl rfl Tryd.func15 (by kernel_rfl) rfl #[.slice A0 l0.length c0] rfl (by (try simp only [List.map_toArray, List.map_cons, List.map_nil]); first | done | rfl | (simp only [List.length_drop, List.length_take]; rfl)) ?_; (with_reducible refine (spec_DrawHoldsAt.calls k _ _ l0 t339 t340 t341 t342 t343 t344 t345 t346 _ ?side1 ?side2 A4.out).mono ?_); (case side1 => repeat (first | exact HR0.out | (with_reducible refine Kd.C_alloc ?_ _) | (with_reducible refine Kd.C_drewN ?_ _) | (with_reducible refine Kd.C_drew ?_))); (case side2 => exact HC0.out); rintro e w7 ⟨rfl, hb⟩; refine ⟨_, rfl, ?_⟩; have n0_ := Aside0.mk (below_step (by repeat (first | (with_reducible first | exact HB.out | apply below_alloc | apply pw_below_drewN | apply below_drew1) | exact HB.out)) hb); clear HB; have HB := n0_; clear n0_; (try clear hb); (try clear hb2); (try clear hk); (try clear hi)) | ((with_reducible refine gate_dst (N := 3) rfl ?_); refine box_event ?hg (N := 3) ?hd (cs := #[.int .i64 0, .int .i64 0, .int .i64 0, .int .i64 0, .int .i64 0, .int .i64 0]) (t := 34) ?hr ?_; (case hd => rfl); (case hg => rfl); (case hr => first | (go_simp; done) | (go_simp; rfl)); intro gb347 hg w8 hbox hb; have n0_ := Aside0.mk (below_step (by repeat (first | (with_reducible first | exact HB.out | apply below_alloc | apply pw_below_drewN | apply below_drew1) | exact HB.out)) hb); have n1_ := Aside0.mk (hbox); have n2_ := Aside0.mk ((by rw [hg]; exact (below_size (by repeat (first | (with_reducible first | exact HB.out | apply below_alloc | apply pw_below_drewN | apply below_drew1) | exact HB.out))) : w.heap.size ≤ gb347)); have n3_ := Aside0.mk ((by rw [hg]; exact (below_size (by repeat (first | (with_reducible first | exact HB.out | apply below_alloc | apply pw_below_drewN | apply below_drew1) | exact HB.out))) : w.heap.size ≤ gb347)); clear HB; have HB := n0_; have BK347 := n1_; have GW347 := n2_; have GE347 := n3_; clear n0_ n1_ n2_ n3_; clear hb hbox hg; have hcz9_0 : w8.cell? ⟨gb347, 0, none⟩ = some (.int .i64 0) := (blk_cell BK347.out 0).trans rfl; have hcz9_1 : w8.cell? ⟨gb347, 1, none⟩ = some (.int .i64 0) := (blk_cell BK347.out 1).trans rfl; have hcz9_2 : w8.cell? ⟨gb347, 2, none⟩ = some (.int .i64 0) := (blk_cell BK347.out 2).trans rfl; have hcz9_3 : w8.cell? ⟨gb347, 3, none⟩ = some (.int .i64 0) := (blk_cell BK347.out 3).trans rfl; have hcz9_4 : w8.cell? ⟨gb347, 4, none⟩ = some (.int .i64 0) := (blk_cell BK347.out 4).trans rfl; have hcz9_5 : w8.cell? ⟨gb347, 5, none⟩ = some (.int .i64 0) := (blk_cell BK347.out 5).trans rfl; have hfz9_0 := blk_frozen BK347.out 0; have hfz9_1 := blk_frozen BK347.out 1; have hfz9_2 := blk_frozen BK347.out 2; have hfz9_3 := blk_frozen BK347.out 3; have hfz9_4 := blk_frozen BK347.out 4; have hfz9_5 := blk_frozen BK347.out 5) | ((with_reducible refine gate_callee (f := 16) rfl ?_); refine goesL_ (some 18) rfl rfl Tryd.func16 (by kernel_rfl) rfl #[.slice A0 l0.length c0] rfl (by (try simp only [List.map_toArray, List.map_cons, List.map_nil]); first | done | rfl | (simp only [List.length_drop, List.length_take]; rfl)) ?_; (with_reducible refine (spec_DrawFactBefore.calls k _ _ l0 t348 t349 t350 t351 t352 t353 t354 t355 t356 t357 t358 t359 _ ?side1 ?side2 A5.out).mono ?_); (case side1 => exact Kd.C_below HR0.out (by repeat (first | (with_reducible first | exact HB.out | apply below_alloc | apply pw_below_drewN | apply below_drew1 | refine below_set ?_ GE347.out) | exact HB.out))); (case side2 => exact HC0.out); rintro e w10 ⟨rfl, hb⟩; refine ⟨_, rfl, ?_⟩; have n0_ := Aside0.mk (blk_below (g := gb347) (o := .cells #[.int .i64 t339, .int .i64 t340, .int .i64 t341, .int .i64 t342, .int .i64 t343, .int .i64 t344] 34 (0, 0)) (by (with_reducible repeat (first | refine blk_drewN ?_ _ | refine blk_drew ?_ | refine blk_alloc ?_ _)); refine blk_put (cs := #[.int .i64 t339, .int .i64 t340, .int .i64 t341, .int .i64 t342, .int .i64 t343, .int .i64 0]) ?_ 5 _ rfl; (with_reducible repeat (first | refine blk_drewN ?_ _ | refine blk_drew ?_ | refine blk_alloc ?_ _)); refine blk_put (cs := #[.int .i64 t339, .int .i64 t340, .int .i64 t341, .int .i64 t342, .int .i64 0, .int .i64 0]) ?_ 4 _ rfl; (with_reducible repeat (first | refine blk_drewN ?_ _ | refine blk_drew ?_ | refine blk_alloc ?_ _)); refine blk_put (cs := #[.int .i64 t339, .int .i64 t340, .int .i64 t341, .int .i64 0, .int .i64 0, .int .i64 0]) ?_ 3 _ rfl; (with_reducible repeat (first | refine blk_drewN ?_ _ | refine blk_drew ?_ | refine blk_alloc ?_ _)); refine blk_put (cs := #[.int .i64 t339, .int .i64 t340, .int .i64 0, .int .i64 0, .int .i64 0, .int .i64 0]) ?_ 2 _ rfl; (with_reducible repeat (first | refine blk_drewN ?_ _ | refine blk_drew ?_ | refine blk_alloc ?_ _)); refine blk_put (cs := #[.int .i64 t339, .int .i64 0, .int .i64 0, .int .i64 0, .int .i64 0, .int .i64 0]) ?_ 1 _ rfl; (with_reducible repeat (first | refine blk_drewN ?_ _ | refine blk_drew ?_ | refine blk_alloc ?_ _)); refine blk_put (cs := #[.int .i64 0, .int .i64 0, .int .i64 0, .int .i64 0, .int .i64 0, .int .i64 0]) ?_ 0 _ rfl; (with_reducible repeat (first | refine blk_drewN ?_ _ | refine blk_drew ?_ | refine blk_alloc ?_ _)); exact BK347.out) hb); have n1_ := Aside0.mk (below_step (by repeat (first | (with_reducible first | exact HB.out | apply below_alloc | apply pw_below_drewN | apply below_drew1 | refine below_set ?_ GE347.out) | exact HB.out)) hb); clear BK347; clear HB; have BK347 := n0_; have HB := n1_; clear n0_ n1_; (try clear hb); (try clear hb2); (try clear hk); (try clear hi)) | ((with_reducible refine gate_dst (N := 6) rfl ?_); refine box_event ?hg (N := 6) ?hd (cs := #[.int .i64 0, .int .i64 0, .int .i64 0, .int .i64 0, .int .i64 0, .int .i64 0]) (t := 34) ?hr ?_; (case hd => rfl); (case hg => rfl); (case hr => first | (go_simp; done) | (go_simp; rfl)); intro gb360 hg w11 hbox hb; have n0_ := Aside0.mk (blk_below (g := gb347) (o := .cells #[.int .i64 t339, .int .i64 t340, .int .i64 t341, .int .i64 t342, .int .i64 t343, .int .i64 t344] 34 (0, 0)) (by (with_reducible repeat (first | refine blk_drewN ?_ _ | refine blk_drew ?_ | refine blk_alloc ?_ _)); exact BK347.out) hb); have n1_ := Aside0.mk (below_step (by repeat (first | (with_reducible first | exact HB.out | apply below_alloc | apply pw_below_drewN | apply below_drew1 | refine below_set ?_ GE347.out) | exact HB.out)) hb); have n2_ := Aside0.mk (hbox); have n3_ := Aside0.mk ((by rw [hg]; exact (below_size (by repeat (first | (with_reducible first | exact HB.out | apply below_alloc | apply pw_below_drewN | apply below_drew1 | refine below_set ?_ GE347.out) | exact HB.out))) : w.heap.size ≤ gb360)); have n4_ := Aside0.mk ((by rw [hg]; exact (below_size (by repeat (first | (with_reducible first | exact HB.out | apply below_alloc | apply pw_below_drewN | apply below_drew1 | refine below_set ?_ GE347.out) | exact HB.out))) : w.heap.size ≤ gb360)); have n5_ := Aside0.mk ((by rw [hg]; exact Nat.ne_of_lt (blk_lt (g := gb347) (o := .cells #[.int .i64 t339, .int .i64 t340, .int .i64 t341, .int .i64 t342, .int .i64 t343, .int .i64 t344] 34 (0, 0)) (by (with_reducible repeat (first | refine blk_drewN ?_ _ | refine blk_drew ?_ | refine blk_alloc ?_ _)); exact BK347.out)) : gb347 ≠ gb360)); have n6_ := Aside0.mk ((by rw [hg]; exact Nat.ne_of_gt (blk_lt (g := gb347) (o := .cells #[.int .i64 t339, .int .i64 t340, .int .i64 t341, .int .i64 t342, .int .i64 t343, .int .i64 t344] 34 (0, 0)) (by (with_reducible repeat (first | refine blk_drewN ?_ _ | refine blk_drew ?_ | refine blk_alloc ?_ _)); exact BK347.out)) : gb360 ≠ gb347)); clear BK347; clear HB; have BK347 := n0_; have HB := n1_; have BK360 := n2_; have GW360 := n3_; have GE360 := n4_; have NB347_360 := n5_; have NB360_347 := n6_; clear n0_ n1_ n2_ n3_ n4_ n5_ n6_; clear hb hbox hg) | ((with_reducible refine gate_dst (N := 7) rfl ?_); refine box_event ?hg (N := 7) ?hd (cs := #[.int .i64 0, .int .i64 0, .int .i64 0, .int .i64 0, .int .i64 0, .int .i64 0]) (t := 34) ?hr ?_; (case hd => rfl); (case hg => rfl); (case hr => first | (go_simp; done) | (go_simp; rfl)); intro gb361 hg w12 hbox hb; have n0_ := Aside0.mk (blk_below (g := gb347) (o := .cells #[.int .i64 t339, .int .i64 t340, .int .i64 t341, .int .i64 t342, .int .i64 t343, .int .i64 t344] 34 (0, 0)) (by (with_reducible repeat (first | refine blk_drewN ?_ _ | refine blk_drew ?_ | refine blk_alloc ?_ _)); exact BK347.out) hb); have n1_ := Aside0.mk (blk_below (g := gb360) (o := .cells #[.int .i64 0, .int .i64 0, .int .i64 0, .int .i64 0, .int .i64 0, .int .i64 0] 34 (0, 0)) (by (with_reducible repeat (first | refine blk_drewN ?_ _ | refine blk_drew ?_ | refine blk_alloc ?_ _)); exact BK360.out) hb); have n2_ := Aside0.mk (below_step (by repeat (first | (with_reducible first | exact HB.out | apply below_alloc | apply pw_below_drewN | apply below_drew1 | refine below_set ?_ GE347.out | refine below_set ?_ GE360.out) | exact HB.out)) hb); have n3_ := Aside0.mk (hbox); have n4_ := Aside0.mk ((by rw [hg]; exact (below_size (by repeat (first | (with_reducible first | exact HB.out | apply below_alloc | apply pw_below_drewN | apply below_drew1 | refine below_set ?_ GE347.out | refine below_set ?_ GE360.out) | exact HB.out))) : w.heap.size ≤ gb361)); have n5_ := Aside0.mk ((by rw [hg]; exact (below_size (by repeat (first | (with_reducible first | exact HB.out | apply below_alloc | apply pw_below_drewN | apply below_drew1 | refine below_set ?_ GE347.out | refine below_set ?_ GE360.out) | exact HB.out))) : w.heap.size ≤ gb361)); have n6_ := Aside0.mk ((by rw [hg]; exact Nat.ne_of_lt (blk_lt (g := gb347) (o := .cells #[.int .i64 t339, .int .i64 t340, .int .i64 t341, .int .i64 t342, .int .i64 t343, .int .i64 t344] 34 (0, 0)) (by (with_reducible repeat (first | refine blk_drewN ?_ _ | refine blk_drew ?_ | refine blk_alloc ?_ _)); exact BK347.out)) : gb347 ≠ gb361)); have n7_ := Aside0.mk ((by rw [hg]; exact Nat.ne_of_gt (blk_lt (g := gb347) (o := .cells #[.int .i64 t339, .int .i64 t340, .int .i64 t341, .int .i64 t342, .int .i64 t343, .int .i64 t344] 34 (0, 0)) (by (with_reducible repeat (first | refine blk_drewN ?_ _ | refine blk_drew ?_ | refine blk_alloc ?_ _)); exact BK347.out)) : gb361 ≠ gb347)); have n8_ := Aside0.mk ((by rw [hg]; exact Nat.ne_of_lt (blk_lt (g := gb360) (o := .cells #[.int .i64 0, .int .i64 0, .int .i64 0, .int .i64 0, .int .i64 0, .int .i64 0] 34 (0, 0)) (by (with_reducible repeat (first | refine blk_drewN ?_ _ | refine blk_drew ?_ | refine blk_alloc ?_ _)); exact BK360.out)) : gb360 ≠ gb361)); have n9_ := Aside0.mk ((by rw [hg]; exact Nat.ne_of_gt (blk_lt (g := gb360) (o := .cells #[.int .i64 0, .int .i64 0, .int .i64 0, .int .i64 0, .int .i64 0, .int .i64 0] 34 (0, 0)) (by (with_reducible repeat (first | refine blk_drewN ?_ _ | refine blk_drew ?_ | refine blk_alloc ?_ _)); exact BK360.out)) : gb361 ≠ gb360)); clear BK347; clear BK360; clear HB; have BK347 := n0_; have BK360 := n1_; have HB := n2_; have BK361 := n3_; have GW361 := n4_; have GE361 := n5_; have NB347_361 := n6_; have NB361_347 := n7_; have NB360_361 := n8_; have NB361_360 := n9_; clear n0_ n1_ n2_ n3_ n4_ n5_ n6_ n7_ n8_ n9_; clear hb hbox hg; have hnb13 := NB360_347.out; have hnc13 := NB347_360.out; have hnb14 := NB360_361.out; have hnc14 := NB361_360.out; have hcz15_0 : w12.cell? ⟨gb360, 0, none⟩ = some (.int .i64 0) := (blk_cell BK360.out 0).trans rfl; have hcz15_1 : w12.cell? ⟨gb360, 1, none⟩ = some (.int .i64 0) := (blk_cell BK360.out 1).trans rfl; have hcz15_2 : w12.cell? ⟨gb360, 2, none⟩ = some (.int .i64 0) := (blk_cell BK360.out 2).trans rfl; have hcz15_3 : w12.cell? ⟨gb360, 3, none⟩ = some (.int .i64 0) := (blk_cell BK360.out 3).trans rfl; have hcz15_4 : w12.cell? ⟨gb360, 4, none⟩ = some (.int .i64 0) := (blk_cell BK360.out 4).trans rfl; have hcz15_5 : w12.cell? ⟨gb360, 5, none⟩ = some (.int .i64 0) := (blk_cell BK360.out 5).trans rfl; have hfz15_0 := blk_frozen BK360.out 0; have hfz15_1 := blk_frozen BK360.out 1; have hfz15_2 := blk_frozen BK360.out 2; have hfz15_3 := blk_frozen BK360.out 3; have hfz15_4 := blk_frozen BK360.out 4; have hfz15_5 := blk_frozen BK360.out 5; have hnb16 := NB361_347.out; have hnc16 := NB347_361.out; have hcz17_0 : w12.cell? ⟨gb361, 0, none⟩ = some (.int .i64 0) := (blk_cell BK361.out 0).trans rfl; have hcz17_1 : w12.cell? ⟨gb361, 1, none⟩ = some (.int .i64 0) := (blk_cell BK361.out 1).trans rfl; have hcz17_2 : w12.cell? ⟨gb361, 2, none⟩ = some (.int .i64 0) := (blk_cell BK361.out 2).trans rfl; have hcz17_3 : w12.cell? ⟨gb361, 3, none⟩ = some (.int .i64 0) := (blk_cell BK361.out 3).trans rfl; have hcz17_4 : w12.cell? ⟨gb361, 4, none⟩ = some (.int .i64 0) := (blk_cell BK361.out 4).trans rfl; have hcz17_5 : w12.cell? ⟨gb361, 5, none⟩ = some (.int .i64 0) := (blk_cell BK361.out 5).trans rfl; have hfz17_0 := blk_frozen BK361.out 0; have hfz17_1 := blk_frozen BK361.out 1; have hfz17_2 := blk_frozen BK361.out 2; have hfz17_3 := blk_frozen BK361.out 3; have hfz17_4 := blk_frozen BK361.out 4; have hfz17_5 := blk_frozen BK361.out 5))
    (try simp only [Act.put, List.setIfInBounds_toArray, List.set_cons_zero, List.set_cons_succ])
    go_cut [46] (fun v46 wc => ∃ (kq : Nat) (x46_5 : Bool), v46 = .bool x46_5 ∧ Aside0 (laws_FnFacts.j0 kq x46_5 t339 t340 t341 t342 t343 t344 t348 t349 t350 t351 t352 t353 t354 t355 t356 t357 t358 t359 = some r) ∧ Aside0 (kq ≤ k) ∧ Aside0 (wc.heap[gb347]? = some (.cells #[.int .i64 t339, .int .i64 t340, .int .i64 t341, .int .i64 t342, .int .i64 t343, .int .i64 t344] 34 (0, 0))) ∧ Aside0 (wc.heap[gb360]? = some (.cells #[.int .i64 t348, .int .i64 t349, .int .i64 t350, .int .i64 t351, .int .i64 t352, .int .i64 t353] 34 (0, 0))) ∧ Aside0 (wc.heap[gb361]? = some (.cells #[.int .i64 t354, .int .i64 t355, .int .i64 t356, .int .i64 t357, .int .i64 t358, .int .i64 t359] 34 (0, 0))) ∧ Aside0 (Below w.heap.size w wc))
    case first =>
      have H := HC6.out
      clear HC6
      replace H := Option.bind_eq_some_iff.mp H
      obtain ⟨t362, A180, H⟩ := H
      replace H : (if t362 = true then ((impl_IsFact.f t339 t340 t341 t342 t343 t344).bind fun t363 => (if t363 = true then ((impl_IsWithin.f t343 t344 t345).bind fun t364 => (if t364 = true then ((impl_AgeOf.f t343 t345).bind fun t365 => (laws_FnFacts.j0 k (decide (t365 > t346)) t339 t340 t341 t342 t343 t344 t348 t349 t350 t351 t352 t353 t354 t355 t356 t357 t358 t359)) else (laws_FnFacts.j0 k true t339 t340 t341 t342 t343 t344 t348 t349 t350 t351 t352 t353 t354 t355 t356 t357 t358 t359))) else (laws_FnFacts.j0 k true t339 t340 t341 t342 t343 t344 t348 t349 t350 t351 t352 t353 t354 t355 t356 t357 t358 t359))) else (laws_FnFacts.j0 k false t339 t340 t341 t342 t343 t344 t348 t349 t350 t351 t352 t353 t354 t355 t356 t357 t358 t359)) = some r := H
      have A18 := Aside0.mk A180
      clear A180
      by_cases c19 : t362 = true
      · subst c19
        have H1 : ((impl_IsFact.f t339 t340 t341 t342 t343 t344).bind fun t363 => (if t363 = true then ((impl_IsWithin.f t343 t344 t345).bind fun t364 => (if t364 = true then ((impl_AgeOf.f t343 t345).bind fun t365 => (laws_FnFacts.j0 k (decide (t365 > t346)) t339 t340 t341 t342 t343 t344 t348 t349 t350 t351 t352 t353 t354 t355 t356 t357 t358 t359)) else (laws_FnFacts.j0 k true t339 t340 t341 t342 t343 t344 t348 t349 t350 t351 t352 t353 t354 t355 t356 t357 t358 t359))) else (laws_FnFacts.j0 k true t339 t340 t341 t342 t343 t344 t348 t349 t350 t351 t352 t353 t354 t355 t356 t357 t358 t359))) = some r := by rw [if_pos rfl] at H; exact H
        clear H
        have H := H1
        clear H1
        replace H := Option.bind_eq_some_iff.mp H
        obtain ⟨t363, A200, H⟩ := H
        replace H : (if t363 = true then ((impl_IsWithin.f t343 t344 t345).bind fun t364 => (if t364 = true then ((impl_AgeOf.f t343 t345).bind fun t365 => (laws_FnFacts.j0 k (decide (t365 > t346)) t339 t340 t341 t342 t343 t344 t348 t349 t350 t351 t352 t353 t354 t355 t356 t357 t358 t359)) else (laws_FnFacts.j0 k true t339 t340 t341 t342 t343 t344 t348 t349 t350 t351 t352 t353 t354 t355 t356 t357 t358 t359))) else (laws_FnFacts.j0 k true t339 t340 t341 t342 t343 t344 t348 t349 t350 t351 t352 t353 t354 t355 t356 t357 t358 t359)) = some r := H
        have A20 := Aside0.mk A200
        clear A200
        by_cases c21 : t363 = true
        · subst c21
          have H1 : ((impl_IsWithin.f t343 t344 t345).bind fun t364 => (if t364 = true then ((impl_AgeOf.f t343 t345).bind fun t365 => (laws_FnFacts.j0 k (decide (t365 > t346)) t339 t340 t341 t342 t343 t344 t348 t349 t350 t351 t352 t353 t354 t355 t356 t357 t358 t359)) else (laws_FnFacts.j0 k true t339 t340 t341 t342 t343 t344 t348 t349 t350 t351 t352 t353 t354 t355 t356 t357 t358 t359))) = some r := by rw [if_pos rfl] at H; exact H
          clear H
          have H := H1
          clear H1
          replace H := Option.bind_eq_some_iff.mp H
          obtain ⟨t364, A220, H⟩ := H
          replace H : (if t364 = true then ((impl_AgeOf.f t343 t345).bind fun t365 => (laws_FnFacts.j0 k (decide (t365 > t346)) t339 t340 t341 t342 t343 t344 t348 t349 t350 t351 t352 t353 t354 t355 t356 t357 t358 t359)) else (laws_FnFacts.j0 k true t339 t340 t341 t342 t343 t344 t348 t349 t350 t351 t352 t353 t354 t355 t356 t357 t358 t359)) = some r := H
          have A22 := Aside0.mk A220
          clear A220
          by_cases c23 : t364 = true
          · subst c23
            have H1 : ((impl_AgeOf.f t343 t345).bind fun t365 => (laws_FnFacts.j0 k (decide (t365 > t346)) t339 t340 t341 t342 t343 t344 t348 t349 t350 t351 t352 t353 t354 t355 t356 t357 t358 t359)) = some r := by rw [if_pos rfl] at H; exact H
            clear H
            have H := H1
            clear H1
            replace H := Option.bind_eq_some_iff.mp H
            obtain ⟨t365, A240, H⟩ := H
            replace H : (laws_FnFacts.j0 k (decide (t365 > t346)) t339 t340 t341 t342 t343 t344 t348 t349 t350 t351 t352 t353 t354 t355 t356 t357 t358 t359) = some r := H
            have A24 := Aside0.mk A240
            clear A240
            have H' := Aside0.mk H
            clear H
            have hnb25 := NB347_360.out
            have hnc25 := NB360_347.out
            have hnb26 := NB347_361.out
            have hnc26 := NB361_347.out
            have hcz27_0 : w12.cell? ⟨gb347, 0, none⟩ = some (.int .i64 t339) := (blk_cell BK347.out 0).trans rfl
            have hcz27_1 : w12.cell? ⟨gb347, 1, none⟩ = some (.int .i64 t340) := (blk_cell BK347.out 1).trans rfl
            have hcz27_2 : w12.cell? ⟨gb347, 2, none⟩ = some (.int .i64 t341) := (blk_cell BK347.out 2).trans rfl
            have hcz27_3 : w12.cell? ⟨gb347, 3, none⟩ = some (.int .i64 t342) := (blk_cell BK347.out 3).trans rfl
            have hcz27_4 : w12.cell? ⟨gb347, 4, none⟩ = some (.int .i64 t343) := (blk_cell BK347.out 4).trans rfl
            have hcz27_5 : w12.cell? ⟨gb347, 5, none⟩ = some (.int .i64 t344) := (blk_cell BK347.out 5).trans rfl
            have hfz27_0 := blk_frozen BK347.out 0
            have hfz27_1 := blk_frozen BK347.out 1
            have hfz27_2 := blk_frozen BK347.out 2
            have hfz27_3 := blk_frozen BK347.out 3
            have hfz27_4 := blk_frozen BK347.out 4
            have hfz27_5 := blk_frozen BK347.out 5
            go_wp2_with (first | ((with_reducible refine gate_callee (f := 17) rfl ?_); refine goesL_ (some 24) rfl rfl Tryd.func17 (by kernel_rfl) rfl #[.agg #[.int .i64 t339, .int .i64 t340, .int .i64 t341, .int .i64 t342, .int .i64 t343, .int .i64 t344], .int .i64 t345, .int .i64 t346] rfl (by (try simp only [List.map_toArray, List.map_cons, List.map_nil]); first | done | rfl | (simp only [List.length_drop, List.length_take]; rfl)) ?_; (with_reducible refine (impl_HoldsAt.calls t339 t340 t341 t342 t343 t344 t345 t346 true _ A18.out).mono ?_); rintro e w28 ⟨rfl, hb⟩; refine ⟨_, rfl, ?_⟩; have n0_ := Aside0.mk (blk_below (g := gb347) (o := .cells #[.int .i64 t339, .int .i64 t340, .int .i64 t341, .int .i64 t342, .int .i64 t343, .int .i64 t344] 34 (0, 0)) (by (with_reducible repeat (first | refine blk_drewN ?_ _ | refine blk_drew ?_ | refine blk_alloc ?_ _)); refine blk_far ?_ NB347_361.out _; (with_reducible repeat (first | refine blk_drewN ?_ _ | refine blk_drew ?_ | refine blk_alloc ?_ _)); refine blk_far ?_ NB347_361.out _; (with_reducible repeat (first | refine blk_drewN ?_ _ | refine blk_drew ?_ | refine blk_alloc ?_ _)); refine blk_far ?_ NB347_361.out _; (with_reducible repeat (first | refine blk_drewN ?_ _ | refine blk_drew ?_ | refine blk_alloc ?_ _)); refine blk_far ?_ NB347_361.out _; (with_reducible repeat (first | refine blk_drewN ?_ _ | refine blk_drew ?_ | refine blk_alloc ?_ _)); refine blk_far ?_ NB347_361.out _; (with_reducible repeat (first | refine blk_drewN ?_ _ | refine blk_drew ?_ | refine blk_alloc ?_ _)); refine blk_far ?_ NB347_361.out _; (with_reducible repeat (first | refine blk_drewN ?_ _ | refine blk_drew ?_ | refine blk_alloc ?_ _)); refine blk_far ?_ NB347_360.out _; (with_reducible repeat (first | refine blk_drewN ?_ _ | refine blk_drew ?_ | refine blk_alloc ?_ _)); refine blk_far ?_ NB347_360.out _; (with_reducible repeat (first | refine blk_drewN ?_ _ | refine blk_drew ?_ | refine blk_alloc ?_ _)); refine blk_far ?_ NB347_360.out _; (with_reducible repeat (first | refine blk_drewN ?_ _ | refine blk_drew ?_ | refine blk_alloc ?_ _)); refine blk_far ?_ NB347_360.out _; (with_reducible repeat (first | refine blk_drewN ?_ _ | refine blk_drew ?_ | refine blk_alloc ?_ _)); refine blk_far ?_ NB347_360.out _; (with_reducible repeat (first | refine blk_drewN ?_ _ | refine blk_drew ?_ | refine blk_alloc ?_ _)); refine blk_far ?_ NB347_360.out _; (with_reducible repeat (first | refine blk_drewN ?_ _ | refine blk_drew ?_ | refine blk_alloc ?_ _)); exact BK347.out) hb); have n1_ := Aside0.mk (blk_below (g := gb360) (o := .cells #[.int .i64 t348, .int .i64 t349, .int .i64 t350, .int .i64 t351, .int .i64 t352, .int .i64 t353] 34 (0, 0)) (by (with_reducible repeat (first | refine blk_drewN ?_ _ | refine blk_drew ?_ | refine blk_alloc ?_ _)); refine blk_far ?_ NB360_361.out _; (with_reducible repeat (first | refine blk_drewN ?_ _ | refine blk_drew ?_ | refine blk_alloc ?_ _)); refine blk_far ?_ NB360_361.out _; (with_reducible repeat (first | refine blk_drewN ?_ _ | refine blk_drew ?_ | refine blk_alloc ?_ _)); refine blk_far ?_ NB360_361.out _; (with_reducible repeat (first | refine blk_drewN ?_ _ | refine blk_drew ?_ | refine blk_alloc ?_ _)); refine blk_far ?_ NB360_361.out _; (with_reducible repeat (first | refine blk_drewN ?_ _ | refine blk_drew ?_ | refine blk_alloc ?_ _)); refine blk_far ?_ NB360_361.out _; (with_reducible repeat (first | refine blk_drewN ?_ _ | refine blk_drew ?_ | refine blk_alloc ?_ _)); refine blk_far ?_ NB360_361.out _; (with_reducible repeat (first | refine blk_drewN ?_ _ | refine blk_drew ?_ | refine blk_alloc ?_ _)); refine blk_put (cs := #[.int .i64 t348, .int .i64 t349, .int .i64 t350, .int .i64 t351, .int .i64 t352, .int .i64 0]) ?_ 5 _ rfl; (with_reducible repeat (first | refine blk_drewN ?_ _ | refine blk_drew ?_ | refine blk_alloc ?_ _)); refine blk_put (cs := #[.int .i64 t348, .int .i64 t349, .int .i64 t350, .int .i64 t351, .int .i64 0, .int .i64 0]) ?_ 4 _ rfl; (with_reducible repeat (first | refine blk_drewN ?_ _ | refine blk_drew ?_ | refine blk_alloc ?_ _)); refine blk_put (cs := #[.int .i64 t348, .int .i64 t349, .int .i64 t350, .int .i64 0, .int .i64 0, .int .i64 0]) ?_ 3 _ rfl; (with_reducible repeat (first | refine blk_drewN ?_ _ | refine blk_drew ?_ | refine blk_alloc ?_ _)); refine blk_put (cs := #[.int .i64 t348, .int .i64 t349, .int .i64 0, .int .i64 0, .int .i64 0, .int .i64 0]) ?_ 2 _ rfl; (with_reducible repeat (first | refine blk_drewN ?_ _ | refine blk_drew ?_ | refine blk_alloc ?_ _)); refine blk_put (cs := #[.int .i64 t348, .int .i64 0, .int .i64 0, .int .i64 0, .int .i64 0, .int .i64 0]) ?_ 1 _ rfl; (with_reducible repeat (first | refine blk_drewN ?_ _ | refine blk_drew ?_ | refine blk_alloc ?_ _)); refine blk_put (cs := #[.int .i64 0, .int .i64 0, .int .i64 0, .int .i64 0, .int .i64 0, .int .i64 0]) ?_ 0 _ rfl; (with_reducible repeat (first | refine blk_drewN ?_ _ | refine blk_drew ?_ | refine blk_alloc ?_ _)); exact BK360.out) hb); have n2_ := Aside0.mk (blk_below (g := gb361) (o := .cells #[.int .i64 t354, .int .i64 t355, .int .i64 t356, .int .i64 t357, .int .i64 t358, .int .i64 t359] 34 (0, 0)) (by (with_reducible repeat (first | refine blk_drewN ?_ _ | refine blk_drew ?_ | refine blk_alloc ?_ _)); refine blk_put (cs := #[.int .i64 t354, .int .i64 t355, .int .i64 t356, .int .i64 t357, .int .i64 t358, .int .i64 0]) ?_ 5 _ rfl; (with_reducible repeat (first | refine blk_drewN ?_ _ | refine blk_drew ?_ | refine blk_alloc ?_ _)); refine blk_put (cs := #[.int .i64 t354, .int .i64 t355, .int .i64 t356, .int .i64 t357, .int .i64 0, .int .i64 0]) ?_ 4 _ rfl; (with_reducible repeat (first | refine blk_drewN ?_ _ | refine blk_drew ?_ | refine blk_alloc ?_ _)); refine blk_put (cs := #[.int .i64 t354, .int .i64 t355, .int .i64 t356, .int .i64 0, .int .i64 0, .int .i64 0]) ?_ 3 _ rfl; (with_reducible repeat (first | refine blk_drewN ?_ _ | refine blk_drew ?_ | refine blk_alloc ?_ _)); refine blk_put (cs := #[.int .i64 t354, .int .i64 t355, .int .i64 0, .int .i64 0, .int .i64 0, .int .i64 0]) ?_ 2 _ rfl; (with_reducible repeat (first | refine blk_drewN ?_ _ | refine blk_drew ?_ | refine blk_alloc ?_ _)); refine blk_put (cs := #[.int .i64 t354, .int .i64 0, .int .i64 0, .int .i64 0, .int .i64 0, .int .i64 0]) ?_ 1 _ rfl; (with_reducible repeat (first | refine blk_drewN ?_ _ | refine blk_drew ?_ | refine blk_alloc ?_ _)); refine blk_put (cs := #[.int .i64 0, .int .i64 0, .int .i64 0, .int .i64 0, .int .i64 0, .int .i64 0]) ?_ 0 _ rfl; (with_reducible repeat (first | refine blk_drewN ?_ _ | refine blk_drew ?_ | refine blk_alloc ?_ _)); refine blk_far ?_ NB361_360.out _; (with_reducible repeat (first | refine blk_drewN ?_ _ | refine blk_drew ?_ | refine blk_alloc ?_ _)); refine blk_far ?_ NB361_360.out _; (with_reducible repeat (first | refine blk_drewN ?_ _ | refine blk_drew ?_ | refine blk_alloc ?_ _)); refine blk_far ?_ NB361_360.out _; (with_reducible repeat (first | refine blk_drewN ?_ _ | refine blk_drew ?_ | refine blk_alloc ?_ _)); refine blk_far ?_ NB361_360.out _; (with_reducible repeat (first | refine blk_drewN ?_ _ | refine blk_drew ?_ | refine blk_alloc ?_ _)); refine blk_far ?_ NB361_360.out _; (with_reducible repeat (first | refine blk_drewN ?_ _ | refine blk_drew ?_ | refine blk_alloc ?_ _)); refine blk_far ?_ NB361_360.out _; (with_reducible repeat (first | refine blk_drewN ?_ _ | refine blk_drew ?_ | refine blk_alloc ?_ _)); exact BK361.out) hb); have n3_ := Aside0.mk (below_step (by repeat (first | (with_reducible first | exact HB.out | apply below_alloc | apply pw_below_drewN | apply below_drew1 | refine below_set ?_ GE347.out | refine below_set ?_ GE360.out | refine below_set ?_ GE361.out) | exact HB.out)) hb); clear BK347; clear BK360; clear BK361; clear HB; have BK347 := n0_; have BK360 := n1_; have BK361 := n2_; have HB := n3_; clear n0_ n1_ n2_ n3_; (try clear hb); (try clear hb2); (try clear hk); (try clear hi); have hcz29_0 : w28.cell? ⟨gb347, 0, none⟩ = some (.int .i64 t339) := (blk_cell BK347.out 0).trans rfl; have hcz29_1 : w28.cell? ⟨gb347, 1, none⟩ = some (.int .i64 t340) := (blk_cell BK347.out 1).trans rfl; have hcz29_2 : w28.cell? ⟨gb347, 2, none⟩ = some (.int .i64 t341) := (blk_cell BK347.out 2).trans rfl; have hcz29_3 : w28.cell? ⟨gb347, 3, none⟩ = some (.int .i64 t342) := (blk_cell BK347.out 3).trans rfl; have hcz29_4 : w28.cell? ⟨gb347, 4, none⟩ = some (.int .i64 t343) := (blk_cell BK347.out 4).trans rfl; have hcz29_5 : w28.cell? ⟨gb347, 5, none⟩ = some (.int .i64 t344) := (blk_cell BK347.out 5).trans rfl; have hfz29_0 := blk_frozen BK347.out 0; have hfz29_1 := blk_frozen BK347.out 1; have hfz29_2 := blk_frozen BK347.out 2; have hfz29_3 := blk_frozen BK347.out 3; have hfz29_4 := blk_frozen BK347.out 4; have hfz29_5 := blk_frozen BK347.out 5) | (go_at_call 18; (with_reducible refine (impl_IsFact.calls t339 t340 t341 t342 t343 t344 true _ A20.out).mono ?_); rintro e w30 ⟨rfl, hb⟩; have n0_ := Aside0.mk (blk_below (g := gb347) (o := .cells #[.int .i64 t339, .int .i64 t340, .int .i64 t341, .int .i64 t342, .int .i64 t343, .int .i64 t344] 34 (0, 0)) (by (with_reducible repeat (first | refine blk_drewN ?_ _ | refine blk_drew ?_ | refine blk_alloc ?_ _)); exact BK347.out) hb); have n1_ := Aside0.mk (blk_below (g := gb360) (o := .cells #[.int .i64 t348, .int .i64 t349, .int .i64 t350, .int .i64 t351, .int .i64 t352, .int .i64 t353] 34 (0, 0)) (by (with_reducible repeat (first | refine blk_drewN ?_ _ | refine blk_drew ?_ | refine blk_alloc ?_ _)); exact BK360.out) hb); have n2_ := Aside0.mk (blk_below (g := gb361) (o := .cells #[.int .i64 t354, .int .i64 t355, .int .i64 t356, .int .i64 t357, .int .i64 t358, .int .i64 t359] 34 (0, 0)) (by (with_reducible repeat (first | refine blk_drewN ?_ _ | refine blk_drew ?_ | refine blk_alloc ?_ _)); exact BK361.out) hb); have n3_ := Aside0.mk (below_step (by repeat (first | (with_reducible first | exact HB.out | apply below_alloc | apply pw_below_drewN | apply below_drew1 | refine below_set ?_ GE347.out | refine below_set ?_ GE360.out | refine below_set ?_ GE361.out) | exact HB.out)) hb); clear BK347; clear BK360; clear BK361; clear HB; have BK347 := n0_; have BK360 := n1_; have BK361 := n2_; have HB := n3_; clear n0_ n1_ n2_ n3_; (try clear hb); (try clear hb2); (try clear hk); (try clear hi); have hcz31_0 : w30.cell? ⟨gb347, 0, none⟩ = some (.int .i64 t339) := (blk_cell BK347.out 0).trans rfl; have hcz31_1 : w30.cell? ⟨gb347, 1, none⟩ = some (.int .i64 t340) := (blk_cell BK347.out 1).trans rfl; have hcz31_2 : w30.cell? ⟨gb347, 2, none⟩ = some (.int .i64 t341) := (blk_cell BK347.out 2).trans rfl; have hcz31_3 : w30.cell? ⟨gb347, 3, none⟩ = some (.int .i64 t342) := (blk_cell BK347.out 3).trans rfl; have hcz31_4 : w30.cell? ⟨gb347, 4, none⟩ = some (.int .i64 t343) := (blk_cell BK347.out 4).trans rfl; have hcz31_5 : w30.cell? ⟨gb347, 5, none⟩ = some (.int .i64 t344) := (blk_cell BK347.out 5).trans rfl; have hfz31_0 := blk_frozen BK347.out 0; have hfz31_1 := blk_frozen BK347.out 1; have hfz31_2 := blk_frozen BK347.out 2; have hfz31_3 := blk_frozen BK347.out 3; have hfz31_4 := blk_frozen BK347.out 4; have hfz31_5 := blk_frozen BK347.out 5) | (go_at_call 19; (with_reducible refine (impl_IsWithin.calls t343 t344 t345 true _ A22.out).mono ?_); rintro e w' ⟨rfl, ⟨nd, rfl⟩⟩) | (go_at_call 20; (with_reducible refine (impl_AgeOf.calls t343 t345 t365 _ A24.out).mono ?_); rintro e w' ⟨rfl, ⟨nd, rfl⟩⟩))
            go_meet
            case rel => exact ⟨_, (decide (t365 > t346)), (by first | rfl | (simp; done) | (simp [*]; done)), H', ⟨by first | omega | exact Nat.le_refl _⟩, ⟨by (with_reducible repeat (first | refine blk_drewN ?_ _ | refine blk_drew ?_ | refine blk_alloc ?_ _)); exact BK347.out⟩, ⟨by (with_reducible repeat (first | refine blk_drewN ?_ _ | refine blk_drew ?_ | refine blk_alloc ?_ _)); exact BK360.out⟩, ⟨by (with_reducible repeat (first | refine blk_drewN ?_ _ | refine blk_drew ?_ | refine blk_alloc ?_ _)); exact BK361.out⟩, ⟨by repeat (first | (with_reducible first | exact HB.out | apply below_alloc | apply pw_below_drewN | apply below_drew1 | refine below_set ?_ GE347.out | refine below_set ?_ GE360.out | refine below_set ?_ GE361.out) | exact HB.out)⟩⟩
          · replace c23 := Bool.eq_false_iff.mpr c23
            subst c23
            have H1 : (laws_FnFacts.j0 k true t339 t340 t341 t342 t343 t344 t348 t349 t350 t351 t352 t353 t354 t355 t356 t357 t358 t359) = some r := by rw [if_neg (show ¬ (false = true) by decide)] at H; exact H
            clear H
            have H := H1
            clear H1
            have H' := Aside0.mk H
            clear H
            have hnb32 := NB347_360.out
            have hnc32 := NB360_347.out
            have hnb33 := NB347_361.out
            have hnc33 := NB361_347.out
            have hcz34_0 : w12.cell? ⟨gb347, 0, none⟩ = some (.int .i64 t339) := (blk_cell BK347.out 0).trans rfl
            have hcz34_1 : w12.cell? ⟨gb347, 1, none⟩ = some (.int .i64 t340) := (blk_cell BK347.out 1).trans rfl
            have hcz34_2 : w12.cell? ⟨gb347, 2, none⟩ = some (.int .i64 t341) := (blk_cell BK347.out 2).trans rfl
            have hcz34_3 : w12.cell? ⟨gb347, 3, none⟩ = some (.int .i64 t342) := (blk_cell BK347.out 3).trans rfl
            have hcz34_4 : w12.cell? ⟨gb347, 4, none⟩ = some (.int .i64 t343) := (blk_cell BK347.out 4).trans rfl
            have hcz34_5 : w12.cell? ⟨gb347, 5, none⟩ = some (.int .i64 t344) := (blk_cell BK347.out 5).trans rfl
            have hfz34_0 := blk_frozen BK347.out 0
            have hfz34_1 := blk_frozen BK347.out 1
            have hfz34_2 := blk_frozen BK347.out 2
            have hfz34_3 := blk_frozen BK347.out 3
            have hfz34_4 := blk_frozen BK347.out 4
            have hfz34_5 := blk_frozen BK347.out 5
            go_wp2_with (first | ((with_reducible refine gate_callee (f := 17) rfl ?_); refine goesL_ (some 24) rfl rfl Tryd.func17 (by kernel_rfl) rfl #[.agg #[.int .i64 t339, .int .i64 t340, .int .i64 t341, .int .i64 t342, .int .i64 t343, .int .i64 t344], .int .i64 t345, .int .i64 t346] rfl (by (try simp only [List.map_toArray, List.map_cons, List.map_nil]); first | done | rfl | (simp only [List.length_drop, List.length_take]; rfl)) ?_; (with_reducible refine (impl_HoldsAt.calls t339 t340 t341 t342 t343 t344 t345 t346 true _ A18.out).mono ?_); rintro e w35 ⟨rfl, hb⟩; refine ⟨_, rfl, ?_⟩; have n0_ := Aside0.mk (blk_below (g := gb347) (o := .cells #[.int .i64 t339, .int .i64 t340, .int .i64 t341, .int .i64 t342, .int .i64 t343, .int .i64 t344] 34 (0, 0)) (by (with_reducible repeat (first | refine blk_drewN ?_ _ | refine blk_drew ?_ | refine blk_alloc ?_ _)); refine blk_far ?_ NB347_361.out _; (with_reducible repeat (first | refine blk_drewN ?_ _ | refine blk_drew ?_ | refine blk_alloc ?_ _)); refine blk_far ?_ NB347_361.out _; (with_reducible repeat (first | refine blk_drewN ?_ _ | refine blk_drew ?_ | refine blk_alloc ?_ _)); refine blk_far ?_ NB347_361.out _; (with_reducible repeat (first | refine blk_drewN ?_ _ | refine blk_drew ?_ | refine blk_alloc ?_ _)); refine blk_far ?_ NB347_361.out _; (with_reducible repeat (first | refine blk_drewN ?_ _ | refine blk_drew ?_ | refine blk_alloc ?_ _)); refine blk_far ?_ NB347_361.out _; (with_reducible repeat (first | refine blk_drewN ?_ _ | refine blk_drew ?_ | refine blk_alloc ?_ _)); refine blk_far ?_ NB347_361.out _; (with_reducible repeat (first | refine blk_drewN ?_ _ | refine blk_drew ?_ | refine blk_alloc ?_ _)); refine blk_far ?_ NB347_360.out _; (with_reducible repeat (first | refine blk_drewN ?_ _ | refine blk_drew ?_ | refine blk_alloc ?_ _)); refine blk_far ?_ NB347_360.out _; (with_reducible repeat (first | refine blk_drewN ?_ _ | refine blk_drew ?_ | refine blk_alloc ?_ _)); refine blk_far ?_ NB347_360.out _; (with_reducible repeat (first | refine blk_drewN ?_ _ | refine blk_drew ?_ | refine blk_alloc ?_ _)); refine blk_far ?_ NB347_360.out _; (with_reducible repeat (first | refine blk_drewN ?_ _ | refine blk_drew ?_ | refine blk_alloc ?_ _)); refine blk_far ?_ NB347_360.out _; (with_reducible repeat (first | refine blk_drewN ?_ _ | refine blk_drew ?_ | refine blk_alloc ?_ _)); refine blk_far ?_ NB347_360.out _; (with_reducible repeat (first | refine blk_drewN ?_ _ | refine blk_drew ?_ | refine blk_alloc ?_ _)); exact BK347.out) hb); have n1_ := Aside0.mk (blk_below (g := gb360) (o := .cells #[.int .i64 t348, .int .i64 t349, .int .i64 t350, .int .i64 t351, .int .i64 t352, .int .i64 t353] 34 (0, 0)) (by (with_reducible repeat (first | refine blk_drewN ?_ _ | refine blk_drew ?_ | refine blk_alloc ?_ _)); refine blk_far ?_ NB360_361.out _; (with_reducible repeat (first | refine blk_drewN ?_ _ | refine blk_drew ?_ | refine blk_alloc ?_ _)); refine blk_far ?_ NB360_361.out _; (with_reducible repeat (first | refine blk_drewN ?_ _ | refine blk_drew ?_ | refine blk_alloc ?_ _)); refine blk_far ?_ NB360_361.out _; (with_reducible repeat (first | refine blk_drewN ?_ _ | refine blk_drew ?_ | refine blk_alloc ?_ _)); refine blk_far ?_ NB360_361.out _; (with_reducible repeat (first | refine blk_drewN ?_ _ | refine blk_drew ?_ | refine blk_alloc ?_ _)); refine blk_far ?_ NB360_361.out _; (with_reducible repeat (first | refine blk_drewN ?_ _ | refine blk_drew ?_ | refine blk_alloc ?_ _)); refine blk_far ?_ NB360_361.out _; (with_reducible repeat (first | refine blk_drewN ?_ _ | refine blk_drew ?_ | refine blk_alloc ?_ _)); refine blk_put (cs := #[.int .i64 t348, .int .i64 t349, .int .i64 t350, .int .i64 t351, .int .i64 t352, .int .i64 0]) ?_ 5 _ rfl; (with_reducible repeat (first | refine blk_drewN ?_ _ | refine blk_drew ?_ | refine blk_alloc ?_ _)); refine blk_put (cs := #[.int .i64 t348, .int .i64 t349, .int .i64 t350, .int .i64 t351, .int .i64 0, .int .i64 0]) ?_ 4 _ rfl; (with_reducible repeat (first | refine blk_drewN ?_ _ | refine blk_drew ?_ | refine blk_alloc ?_ _)); refine blk_put (cs := #[.int .i64 t348, .int .i64 t349, .int .i64 t350, .int .i64 0, .int .i64 0, .int .i64 0]) ?_ 3 _ rfl; (with_reducible repeat (first | refine blk_drewN ?_ _ | refine blk_drew ?_ | refine blk_alloc ?_ _)); refine blk_put (cs := #[.int .i64 t348, .int .i64 t349, .int .i64 0, .int .i64 0, .int .i64 0, .int .i64 0]) ?_ 2 _ rfl; (with_reducible repeat (first | refine blk_drewN ?_ _ | refine blk_drew ?_ | refine blk_alloc ?_ _)); refine blk_put (cs := #[.int .i64 t348, .int .i64 0, .int .i64 0, .int .i64 0, .int .i64 0, .int .i64 0]) ?_ 1 _ rfl; (with_reducible repeat (first | refine blk_drewN ?_ _ | refine blk_drew ?_ | refine blk_alloc ?_ _)); refine blk_put (cs := #[.int .i64 0, .int .i64 0, .int .i64 0, .int .i64 0, .int .i64 0, .int .i64 0]) ?_ 0 _ rfl; (with_reducible repeat (first | refine blk_drewN ?_ _ | refine blk_drew ?_ | refine blk_alloc ?_ _)); exact BK360.out) hb); have n2_ := Aside0.mk (blk_below (g := gb361) (o := .cells #[.int .i64 t354, .int .i64 t355, .int .i64 t356, .int .i64 t357, .int .i64 t358, .int .i64 t359] 34 (0, 0)) (by (with_reducible repeat (first | refine blk_drewN ?_ _ | refine blk_drew ?_ | refine blk_alloc ?_ _)); refine blk_put (cs := #[.int .i64 t354, .int .i64 t355, .int .i64 t356, .int .i64 t357, .int .i64 t358, .int .i64 0]) ?_ 5 _ rfl; (with_reducible repeat (first | refine blk_drewN ?_ _ | refine blk_drew ?_ | refine blk_alloc ?_ _)); refine blk_put (cs := #[.int .i64 t354, .int .i64 t355, .int .i64 t356, .int .i64 t357, .int .i64 0, .int .i64 0]) ?_ 4 _ rfl; (with_reducible repeat (first | refine blk_drewN ?_ _ | refine blk_drew ?_ | refine blk_alloc ?_ _)); refine blk_put (cs := #[.int .i64 t354, .int .i64 t355, .int .i64 t356, .int .i64 0, .int .i64 0, .int .i64 0]) ?_ 3 _ rfl; (with_reducible repeat (first | refine blk_drewN ?_ _ | refine blk_drew ?_ | refine blk_alloc ?_ _)); refine blk_put (cs := #[.int .i64 t354, .int .i64 t355, .int .i64 0, .int .i64 0, .int .i64 0, .int .i64 0]) ?_ 2 _ rfl; (with_reducible repeat (first | refine blk_drewN ?_ _ | refine blk_drew ?_ | refine blk_alloc ?_ _)); refine blk_put (cs := #[.int .i64 t354, .int .i64 0, .int .i64 0, .int .i64 0, .int .i64 0, .int .i64 0]) ?_ 1 _ rfl; (with_reducible repeat (first | refine blk_drewN ?_ _ | refine blk_drew ?_ | refine blk_alloc ?_ _)); refine blk_put (cs := #[.int .i64 0, .int .i64 0, .int .i64 0, .int .i64 0, .int .i64 0, .int .i64 0]) ?_ 0 _ rfl; (with_reducible repeat (first | refine blk_drewN ?_ _ | refine blk_drew ?_ | refine blk_alloc ?_ _)); refine blk_far ?_ NB361_360.out _; (with_reducible repeat (first | refine blk_drewN ?_ _ | refine blk_drew ?_ | refine blk_alloc ?_ _)); refine blk_far ?_ NB361_360.out _; (with_reducible repeat (first | refine blk_drewN ?_ _ | refine blk_drew ?_ | refine blk_alloc ?_ _)); refine blk_far ?_ NB361_360.out _; (with_reducible repeat (first | refine blk_drewN ?_ _ | refine blk_drew ?_ | refine blk_alloc ?_ _)); refine blk_far ?_ NB361_360.out _; (with_reducible repeat (first | refine blk_drewN ?_ _ | refine blk_drew ?_ | refine blk_alloc ?_ _)); refine blk_far ?_ NB361_360.out _; (with_reducible repeat (first | refine blk_drewN ?_ _ | refine blk_drew ?_ | refine blk_alloc ?_ _)); refine blk_far ?_ NB361_360.out _; (with_reducible repeat (first | refine blk_drewN ?_ _ | refine blk_drew ?_ | refine blk_alloc ?_ _)); exact BK361.out) hb); have n3_ := Aside0.mk (below_step (by repeat (first | (with_reducible first | exact HB.out | apply below_alloc | apply pw_below_drewN | apply below_drew1 | refine below_set ?_ GE347.out | refine below_set ?_ GE360.out | refine below_set ?_ GE361.out) | exact HB.out)) hb); clear BK347; clear BK360; clear BK361; clear HB; have BK347 := n0_; have BK360 := n1_; have BK361 := n2_; have HB := n3_; clear n0_ n1_ n2_ n3_; (try clear hb); (try clear hb2); (try clear hk); (try clear hi); have hcz36_0 : w35.cell? ⟨gb347, 0, none⟩ = some (.int .i64 t339) := (blk_cell BK347.out 0).trans rfl; have hcz36_1 : w35.cell? ⟨gb347, 1, none⟩ = some (.int .i64 t340) := (blk_cell BK347.out 1).trans rfl; have hcz36_2 : w35.cell? ⟨gb347, 2, none⟩ = some (.int .i64 t341) := (blk_cell BK347.out 2).trans rfl; have hcz36_3 : w35.cell? ⟨gb347, 3, none⟩ = some (.int .i64 t342) := (blk_cell BK347.out 3).trans rfl; have hcz36_4 : w35.cell? ⟨gb347, 4, none⟩ = some (.int .i64 t343) := (blk_cell BK347.out 4).trans rfl; have hcz36_5 : w35.cell? ⟨gb347, 5, none⟩ = some (.int .i64 t344) := (blk_cell BK347.out 5).trans rfl; have hfz36_0 := blk_frozen BK347.out 0; have hfz36_1 := blk_frozen BK347.out 1; have hfz36_2 := blk_frozen BK347.out 2; have hfz36_3 := blk_frozen BK347.out 3; have hfz36_4 := blk_frozen BK347.out 4; have hfz36_5 := blk_frozen BK347.out 5) | (go_at_call 18; (with_reducible refine (impl_IsFact.calls t339 t340 t341 t342 t343 t344 true _ A20.out).mono ?_); rintro e w37 ⟨rfl, hb⟩; have n0_ := Aside0.mk (blk_below (g := gb347) (o := .cells #[.int .i64 t339, .int .i64 t340, .int .i64 t341, .int .i64 t342, .int .i64 t343, .int .i64 t344] 34 (0, 0)) (by (with_reducible repeat (first | refine blk_drewN ?_ _ | refine blk_drew ?_ | refine blk_alloc ?_ _)); exact BK347.out) hb); have n1_ := Aside0.mk (blk_below (g := gb360) (o := .cells #[.int .i64 t348, .int .i64 t349, .int .i64 t350, .int .i64 t351, .int .i64 t352, .int .i64 t353] 34 (0, 0)) (by (with_reducible repeat (first | refine blk_drewN ?_ _ | refine blk_drew ?_ | refine blk_alloc ?_ _)); exact BK360.out) hb); have n2_ := Aside0.mk (blk_below (g := gb361) (o := .cells #[.int .i64 t354, .int .i64 t355, .int .i64 t356, .int .i64 t357, .int .i64 t358, .int .i64 t359] 34 (0, 0)) (by (with_reducible repeat (first | refine blk_drewN ?_ _ | refine blk_drew ?_ | refine blk_alloc ?_ _)); exact BK361.out) hb); have n3_ := Aside0.mk (below_step (by repeat (first | (with_reducible first | exact HB.out | apply below_alloc | apply pw_below_drewN | apply below_drew1 | refine below_set ?_ GE347.out | refine below_set ?_ GE360.out | refine below_set ?_ GE361.out) | exact HB.out)) hb); clear BK347; clear BK360; clear BK361; clear HB; have BK347 := n0_; have BK360 := n1_; have BK361 := n2_; have HB := n3_; clear n0_ n1_ n2_ n3_; (try clear hb); (try clear hb2); (try clear hk); (try clear hi); have hcz38_0 : w37.cell? ⟨gb347, 0, none⟩ = some (.int .i64 t339) := (blk_cell BK347.out 0).trans rfl; have hcz38_1 : w37.cell? ⟨gb347, 1, none⟩ = some (.int .i64 t340) := (blk_cell BK347.out 1).trans rfl; have hcz38_2 : w37.cell? ⟨gb347, 2, none⟩ = some (.int .i64 t341) := (blk_cell BK347.out 2).trans rfl; have hcz38_3 : w37.cell? ⟨gb347, 3, none⟩ = some (.int .i64 t342) := (blk_cell BK347.out 3).trans rfl; have hcz38_4 : w37.cell? ⟨gb347, 4, none⟩ = some (.int .i64 t343) := (blk_cell BK347.out 4).trans rfl; have hcz38_5 : w37.cell? ⟨gb347, 5, none⟩ = some (.int .i64 t344) := (blk_cell BK347.out 5).trans rfl; have hfz38_0 := blk_frozen BK347.out 0; have hfz38_1 := blk_frozen BK347.out 1; have hfz38_2 := blk_frozen BK347.out 2; have hfz38_3 := blk_frozen BK347.out 3; have hfz38_4 := blk_frozen BK347.out 4; have hfz38_5 := blk_frozen BK347.out 5) | (go_at_call 19; (with_reducible refine (impl_IsWithin.calls t343 t344 t345 false _ A22.out).mono ?_); rintro e w' ⟨rfl, ⟨nd, rfl⟩⟩))
            go_meet
            case rel => exact ⟨_, (true), (by first | rfl | (simp; done) | (simp [*]; done)), H', ⟨by first | omega | exact Nat.le_refl _⟩, ⟨by (with_reducible repeat (first | refine blk_drewN ?_ _ | refine blk_drew ?_ | refine blk_alloc ?_ _)); exact BK347.out⟩, ⟨by (with_reducible repeat (first | refine blk_drewN ?_ _ | refine blk_drew ?_ | refine blk_alloc ?_ _)); exact BK360.out⟩, ⟨by (with_reducible repeat (first | refine blk_drewN ?_ _ | refine blk_drew ?_ | refine blk_alloc ?_ _)); exact BK361.out⟩, ⟨by repeat (first | (with_reducible first | exact HB.out | apply below_alloc | apply pw_below_drewN | apply below_drew1 | refine below_set ?_ GE347.out | refine below_set ?_ GE360.out | refine below_set ?_ GE361.out) | exact HB.out)⟩⟩
        · replace c21 := Bool.eq_false_iff.mpr c21
          subst c21
          have H1 : (laws_FnFacts.j0 k true t339 t340 t341 t342 t343 t344 t348 t349 t350 t351 t352 t353 t354 t355 t356 t357 t358 t359) = some r := by rw [if_neg (show ¬ (false = true) by decide)] at H; exact H
          clear H
          have H := H1
          clear H1
          have H' := Aside0.mk H
          clear H
          have hnb39 := NB347_360.out
          have hnc39 := NB360_347.out
          have hnb40 := NB347_361.out
          have hnc40 := NB361_347.out
          have hcz41_0 : w12.cell? ⟨gb347, 0, none⟩ = some (.int .i64 t339) := (blk_cell BK347.out 0).trans rfl
          have hcz41_1 : w12.cell? ⟨gb347, 1, none⟩ = some (.int .i64 t340) := (blk_cell BK347.out 1).trans rfl
          have hcz41_2 : w12.cell? ⟨gb347, 2, none⟩ = some (.int .i64 t341) := (blk_cell BK347.out 2).trans rfl
          have hcz41_3 : w12.cell? ⟨gb347, 3, none⟩ = some (.int .i64 t342) := (blk_cell BK347.out 3).trans rfl
          have hcz41_4 : w12.cell? ⟨gb347, 4, none⟩ = some (.int .i64 t343) := (blk_cell BK347.out 4).trans rfl
          have hcz41_5 : w12.cell? ⟨gb347, 5, none⟩ = some (.int .i64 t344) := (blk_cell BK347.out 5).trans rfl
          have hfz41_0 := blk_frozen BK347.out 0
          have hfz41_1 := blk_frozen BK347.out 1
          have hfz41_2 := blk_frozen BK347.out 2
          have hfz41_3 := blk_frozen BK347.out 3
          have hfz41_4 := blk_frozen BK347.out 4
          have hfz41_5 := blk_frozen BK347.out 5
          go_wp2_with (first | ((with_reducible refine gate_callee (f := 17) rfl ?_); refine goesL_ (some 24) rfl rfl Tryd.func17 (by kernel_rfl) rfl #[.agg #[.int .i64 t339, .int .i64 t340, .int .i64 t341, .int .i64 t342, .int .i64 t343, .int .i64 t344], .int .i64 t345, .int .i64 t346] rfl (by (try simp only [List.map_toArray, List.map_cons, List.map_nil]); first | done | rfl | (simp only [List.length_drop, List.length_take]; rfl)) ?_; (with_reducible refine (impl_HoldsAt.calls t339 t340 t341 t342 t343 t344 t345 t346 true _ A18.out).mono ?_); rintro e w42 ⟨rfl, hb⟩; refine ⟨_, rfl, ?_⟩; have n0_ := Aside0.mk (blk_below (g := gb347) (o := .cells #[.int .i64 t339, .int .i64 t340, .int .i64 t341, .int .i64 t342, .int .i64 t343, .int .i64 t344] 34 (0, 0)) (by (with_reducible repeat (first | refine blk_drewN ?_ _ | refine blk_drew ?_ | refine blk_alloc ?_ _)); refine blk_far ?_ NB347_361.out _; (with_reducible repeat (first | refine blk_drewN ?_ _ | refine blk_drew ?_ | refine blk_alloc ?_ _)); refine blk_far ?_ NB347_361.out _; (with_reducible repeat (first | refine blk_drewN ?_ _ | refine blk_drew ?_ | refine blk_alloc ?_ _)); refine blk_far ?_ NB347_361.out _; (with_reducible repeat (first | refine blk_drewN ?_ _ | refine blk_drew ?_ | refine blk_alloc ?_ _)); refine blk_far ?_ NB347_361.out _; (with_reducible repeat (first | refine blk_drewN ?_ _ | refine blk_drew ?_ | refine blk_alloc ?_ _)); refine blk_far ?_ NB347_361.out _; (with_reducible repeat (first | refine blk_drewN ?_ _ | refine blk_drew ?_ | refine blk_alloc ?_ _)); refine blk_far ?_ NB347_361.out _; (with_reducible repeat (first | refine blk_drewN ?_ _ | refine blk_drew ?_ | refine blk_alloc ?_ _)); refine blk_far ?_ NB347_360.out _; (with_reducible repeat (first | refine blk_drewN ?_ _ | refine blk_drew ?_ | refine blk_alloc ?_ _)); refine blk_far ?_ NB347_360.out _; (with_reducible repeat (first | refine blk_drewN ?_ _ | refine blk_drew ?_ | refine blk_alloc ?_ _)); refine blk_far ?_ NB347_360.out _; (with_reducible repeat (first | refine blk_drewN ?_ _ | refine blk_drew ?_ | refine blk_alloc ?_ _)); refine blk_far ?_ NB347_360.out _; (with_reducible repeat (first | refine blk_drewN ?_ _ | refine blk_drew ?_ | refine blk_alloc ?_ _)); refine blk_far ?_ NB347_360.out _; (with_reducible repeat (first | refine blk_drewN ?_ _ | refine blk_drew ?_ | refine blk_alloc ?_ _)); refine blk_far ?_ NB347_360.out _; (with_reducible repeat (first | refine blk_drewN ?_ _ | refine blk_drew ?_ | refine blk_alloc ?_ _)); exact BK347.out) hb); have n1_ := Aside0.mk (blk_below (g := gb360) (o := .cells #[.int .i64 t348, .int .i64 t349, .int .i64 t350, .int .i64 t351, .int .i64 t352, .int .i64 t353] 34 (0, 0)) (by (with_reducible repeat (first | refine blk_drewN ?_ _ | refine blk_drew ?_ | refine blk_alloc ?_ _)); refine blk_far ?_ NB360_361.out _; (with_reducible repeat (first | refine blk_drewN ?_ _ | refine blk_drew ?_ | refine blk_alloc ?_ _)); refine blk_far ?_ NB360_361.out _; (with_reducible repeat (first | refine blk_drewN ?_ _ | refine blk_drew ?_ | refine blk_alloc ?_ _)); refine blk_far ?_ NB360_361.out _; (with_reducible repeat (first | refine blk_drewN ?_ _ | refine blk_drew ?_ | refine blk_alloc ?_ _)); refine blk_far ?_ NB360_361.out _; (with_reducible repeat (first | refine blk_drewN ?_ _ | refine blk_drew ?_ | refine blk_alloc ?_ _)); refine blk_far ?_ NB360_361.out _; (with_reducible repeat (first | refine blk_drewN ?_ _ | refine blk_drew ?_ | refine blk_alloc ?_ _)); refine blk_far ?_ NB360_361.out _; (with_reducible repeat (first | refine blk_drewN ?_ _ | refine blk_drew ?_ | refine blk_alloc ?_ _)); refine blk_put (cs := #[.int .i64 t348, .int .i64 t349, .int .i64 t350, .int .i64 t351, .int .i64 t352, .int .i64 0]) ?_ 5 _ rfl; (with_reducible repeat (first | refine blk_drewN ?_ _ | refine blk_drew ?_ | refine blk_alloc ?_ _)); refine blk_put (cs := #[.int .i64 t348, .int .i64 t349, .int .i64 t350, .int .i64 t351, .int .i64 0, .int .i64 0]) ?_ 4 _ rfl; (with_reducible repeat (first | refine blk_drewN ?_ _ | refine blk_drew ?_ | refine blk_alloc ?_ _)); refine blk_put (cs := #[.int .i64 t348, .int .i64 t349, .int .i64 t350, .int .i64 0, .int .i64 0, .int .i64 0]) ?_ 3 _ rfl; (with_reducible repeat (first | refine blk_drewN ?_ _ | refine blk_drew ?_ | refine blk_alloc ?_ _)); refine blk_put (cs := #[.int .i64 t348, .int .i64 t349, .int .i64 0, .int .i64 0, .int .i64 0, .int .i64 0]) ?_ 2 _ rfl; (with_reducible repeat (first | refine blk_drewN ?_ _ | refine blk_drew ?_ | refine blk_alloc ?_ _)); refine blk_put (cs := #[.int .i64 t348, .int .i64 0, .int .i64 0, .int .i64 0, .int .i64 0, .int .i64 0]) ?_ 1 _ rfl; (with_reducible repeat (first | refine blk_drewN ?_ _ | refine blk_drew ?_ | refine blk_alloc ?_ _)); refine blk_put (cs := #[.int .i64 0, .int .i64 0, .int .i64 0, .int .i64 0, .int .i64 0, .int .i64 0]) ?_ 0 _ rfl; (with_reducible repeat (first | refine blk_drewN ?_ _ | refine blk_drew ?_ | refine blk_alloc ?_ _)); exact BK360.out) hb); have n2_ := Aside0.mk (blk_below (g := gb361) (o := .cells #[.int .i64 t354, .int .i64 t355, .int .i64 t356, .int .i64 t357, .int .i64 t358, .int .i64 t359] 34 (0, 0)) (by (with_reducible repeat (first | refine blk_drewN ?_ _ | refine blk_drew ?_ | refine blk_alloc ?_ _)); refine blk_put (cs := #[.int .i64 t354, .int .i64 t355, .int .i64 t356, .int .i64 t357, .int .i64 t358, .int .i64 0]) ?_ 5 _ rfl; (with_reducible repeat (first | refine blk_drewN ?_ _ | refine blk_drew ?_ | refine blk_alloc ?_ _)); refine blk_put (cs := #[.int .i64 t354, .int .i64 t355, .int .i64 t356, .int .i64 t357, .int .i64 0, .int .i64 0]) ?_ 4 _ rfl; (with_reducible repeat (first | refine blk_drewN ?_ _ | refine blk_drew ?_ | refine blk_alloc ?_ _)); refine blk_put (cs := #[.int .i64 t354, .int .i64 t355, .int .i64 t356, .int .i64 0, .int .i64 0, .int .i64 0]) ?_ 3 _ rfl; (with_reducible repeat (first | refine blk_drewN ?_ _ | refine blk_drew ?_ | refine blk_alloc ?_ _)); refine blk_put (cs := #[.int .i64 t354, .int .i64 t355, .int .i64 0, .int .i64 0, .int .i64 0, .int .i64 0]) ?_ 2 _ rfl; (with_reducible repeat (first | refine blk_drewN ?_ _ | refine blk_drew ?_ | refine blk_alloc ?_ _)); refine blk_put (cs := #[.int .i64 t354, .int .i64 0, .int .i64 0, .int .i64 0, .int .i64 0, .int .i64 0]) ?_ 1 _ rfl; (with_reducible repeat (first | refine blk_drewN ?_ _ | refine blk_drew ?_ | refine blk_alloc ?_ _)); refine blk_put (cs := #[.int .i64 0, .int .i64 0, .int .i64 0, .int .i64 0, .int .i64 0, .int .i64 0]) ?_ 0 _ rfl; (with_reducible repeat (first | refine blk_drewN ?_ _ | refine blk_drew ?_ | refine blk_alloc ?_ _)); refine blk_far ?_ NB361_360.out _; (with_reducible repeat (first | refine blk_drewN ?_ _ | refine blk_drew ?_ | refine blk_alloc ?_ _)); refine blk_far ?_ NB361_360.out _; (with_reducible repeat (first | refine blk_drewN ?_ _ | refine blk_drew ?_ | refine blk_alloc ?_ _)); refine blk_far ?_ NB361_360.out _; (with_reducible repeat (first | refine blk_drewN ?_ _ | refine blk_drew ?_ | refine blk_alloc ?_ _)); refine blk_far ?_ NB361_360.out _; (with_reducible repeat (first | refine blk_drewN ?_ _ | refine blk_drew ?_ | refine blk_alloc ?_ _)); refine blk_far ?_ NB361_360.out _; (with_reducible repeat (first | refine blk_drewN ?_ _ | refine blk_drew ?_ | refine blk_alloc ?_ _)); refine blk_far ?_ NB361_360.out _; (with_reducible repeat (first | refine blk_drewN ?_ _ | refine blk_drew ?_ | refine blk_alloc ?_ _)); exact BK361.out) hb); have n3_ := Aside0.mk (below_step (by repeat (first | (with_reducible first | exact HB.out | apply below_alloc | apply pw_below_drewN | apply below_drew1 | refine below_set ?_ GE347.out | refine below_set ?_ GE360.out | refine below_set ?_ GE361.out) | exact HB.out)) hb); clear BK347; clear BK360; clear BK361; clear HB; have BK347 := n0_; have BK360 := n1_; have BK361 := n2_; have HB := n3_; clear n0_ n1_ n2_ n3_; (try clear hb); (try clear hb2); (try clear hk); (try clear hi); have hcz43_0 : w42.cell? ⟨gb347, 0, none⟩ = some (.int .i64 t339) := (blk_cell BK347.out 0).trans rfl; have hcz43_1 : w42.cell? ⟨gb347, 1, none⟩ = some (.int .i64 t340) := (blk_cell BK347.out 1).trans rfl; have hcz43_2 : w42.cell? ⟨gb347, 2, none⟩ = some (.int .i64 t341) := (blk_cell BK347.out 2).trans rfl; have hcz43_3 : w42.cell? ⟨gb347, 3, none⟩ = some (.int .i64 t342) := (blk_cell BK347.out 3).trans rfl; have hcz43_4 : w42.cell? ⟨gb347, 4, none⟩ = some (.int .i64 t343) := (blk_cell BK347.out 4).trans rfl; have hcz43_5 : w42.cell? ⟨gb347, 5, none⟩ = some (.int .i64 t344) := (blk_cell BK347.out 5).trans rfl; have hfz43_0 := blk_frozen BK347.out 0; have hfz43_1 := blk_frozen BK347.out 1; have hfz43_2 := blk_frozen BK347.out 2; have hfz43_3 := blk_frozen BK347.out 3; have hfz43_4 := blk_frozen BK347.out 4; have hfz43_5 := blk_frozen BK347.out 5) | (go_at_call 18; (with_reducible refine (impl_IsFact.calls t339 t340 t341 t342 t343 t344 false _ A20.out).mono ?_); rintro e w44 ⟨rfl, hb⟩; have n0_ := Aside0.mk (blk_below (g := gb347) (o := .cells #[.int .i64 t339, .int .i64 t340, .int .i64 t341, .int .i64 t342, .int .i64 t343, .int .i64 t344] 34 (0, 0)) (by (with_reducible repeat (first | refine blk_drewN ?_ _ | refine blk_drew ?_ | refine blk_alloc ?_ _)); exact BK347.out) hb); have n1_ := Aside0.mk (blk_below (g := gb360) (o := .cells #[.int .i64 t348, .int .i64 t349, .int .i64 t350, .int .i64 t351, .int .i64 t352, .int .i64 t353] 34 (0, 0)) (by (with_reducible repeat (first | refine blk_drewN ?_ _ | refine blk_drew ?_ | refine blk_alloc ?_ _)); exact BK360.out) hb); have n2_ := Aside0.mk (blk_below (g := gb361) (o := .cells #[.int .i64 t354, .int .i64 t355, .int .i64 t356, .int .i64 t357, .int .i64 t358, .int .i64 t359] 34 (0, 0)) (by (with_reducible repeat (first | refine blk_drewN ?_ _ | refine blk_drew ?_ | refine blk_alloc ?_ _)); exact BK361.out) hb); have n3_ := Aside0.mk (below_step (by repeat (first | (with_reducible first | exact HB.out | apply below_alloc | apply pw_below_drewN | apply below_drew1 | refine below_set ?_ GE347.out | refine below_set ?_ GE360.out | refine below_set ?_ GE361.out) | exact HB.out)) hb); clear BK347; clear BK360; clear BK361; clear HB; have BK347 := n0_; have BK360 := n1_; have BK361 := n2_; have HB := n3_; clear n0_ n1_ n2_ n3_; (try clear hb); (try clear hb2); (try clear hk); (try clear hi)))
          go_meet
          case rel => exact ⟨_, (true), (by first | rfl | (simp; done) | (simp [*]; done)), H', ⟨by first | omega | exact Nat.le_refl _⟩, ⟨by (with_reducible repeat (first | refine blk_drewN ?_ _ | refine blk_drew ?_ | refine blk_alloc ?_ _)); exact BK347.out⟩, ⟨by (with_reducible repeat (first | refine blk_drewN ?_ _ | refine blk_drew ?_ | refine blk_alloc ?_ _)); exact BK360.out⟩, ⟨by (with_reducible repeat (first | refine blk_drewN ?_ _ | refine blk_drew ?_ | refine blk_alloc ?_ _)); exact BK361.out⟩, ⟨by repeat (first | (with_reducible first | exact HB.out | apply below_alloc | apply pw_below_drewN | apply below_drew1 | refine below_set ?_ GE347.out | refine below_set ?_ GE360.out | refine below_set ?_ GE361.out) | exact HB.out)⟩⟩
      · replace c19 := Bool.eq_false_iff.mpr c19
        subst c19
        have H1 : (laws_FnFacts.j0 k false t339 t340 t341 t342 t343 t344 t348 t349 t350 t351 t352 t353 t354 t355 t356 t357 t358 t359) = some r := by rw [if_neg (show ¬ (false = true) by decide)] at H; exact H
        clear H
        have H := H1
        clear H1
        have H' := Aside0.mk H
        clear H
        have hnb45 := NB347_360.out
        have hnc45 := NB360_347.out
        have hnb46 := NB347_361.out
        have hnc46 := NB361_347.out
        have hcz47_0 : w12.cell? ⟨gb347, 0, none⟩ = some (.int .i64 t339) := (blk_cell BK347.out 0).trans rfl
        have hcz47_1 : w12.cell? ⟨gb347, 1, none⟩ = some (.int .i64 t340) := (blk_cell BK347.out 1).trans rfl
        have hcz47_2 : w12.cell? ⟨gb347, 2, none⟩ = some (.int .i64 t341) := (blk_cell BK347.out 2).trans rfl
        have hcz47_3 : w12.cell? ⟨gb347, 3, none⟩ = some (.int .i64 t342) := (blk_cell BK347.out 3).trans rfl
        have hcz47_4 : w12.cell? ⟨gb347, 4, none⟩ = some (.int .i64 t343) := (blk_cell BK347.out 4).trans rfl
        have hcz47_5 : w12.cell? ⟨gb347, 5, none⟩ = some (.int .i64 t344) := (blk_cell BK347.out 5).trans rfl
        have hfz47_0 := blk_frozen BK347.out 0
        have hfz47_1 := blk_frozen BK347.out 1
        have hfz47_2 := blk_frozen BK347.out 2
        have hfz47_3 := blk_frozen BK347.out 3
        have hfz47_4 := blk_frozen BK347.out 4
        have hfz47_5 := blk_frozen BK347.out 5
        go_wp2_with (first | ((with_reducible refine gate_callee (f := 17) rfl ?_); refine goesL_ (some 24) rfl rfl Tryd.func17 (by kernel_rfl) rfl #[.agg #[.int .i64 t339, .int .i64 t340, .int .i64 t341, .int .i64 t342, .int .i64 t343, .int .i64 t344], .int .i64 t345, .int .i64 t346] rfl (by (try simp only [List.map_toArray, List.map_cons, List.map_nil]); first | done | rfl | (simp only [List.length_drop, List.length_take]; rfl)) ?_; (with_reducible refine (impl_HoldsAt.calls t339 t340 t341 t342 t343 t344 t345 t346 false _ A18.out).mono ?_); rintro e w48 ⟨rfl, hb⟩; refine ⟨_, rfl, ?_⟩; have n0_ := Aside0.mk (blk_below (g := gb347) (o := .cells #[.int .i64 t339, .int .i64 t340, .int .i64 t341, .int .i64 t342, .int .i64 t343, .int .i64 t344] 34 (0, 0)) (by (with_reducible repeat (first | refine blk_drewN ?_ _ | refine blk_drew ?_ | refine blk_alloc ?_ _)); refine blk_far ?_ NB347_361.out _; (with_reducible repeat (first | refine blk_drewN ?_ _ | refine blk_drew ?_ | refine blk_alloc ?_ _)); refine blk_far ?_ NB347_361.out _; (with_reducible repeat (first | refine blk_drewN ?_ _ | refine blk_drew ?_ | refine blk_alloc ?_ _)); refine blk_far ?_ NB347_361.out _; (with_reducible repeat (first | refine blk_drewN ?_ _ | refine blk_drew ?_ | refine blk_alloc ?_ _)); refine blk_far ?_ NB347_361.out _; (with_reducible repeat (first | refine blk_drewN ?_ _ | refine blk_drew ?_ | refine blk_alloc ?_ _)); refine blk_far ?_ NB347_361.out _; (with_reducible repeat (first | refine blk_drewN ?_ _ | refine blk_drew ?_ | refine blk_alloc ?_ _)); refine blk_far ?_ NB347_361.out _; (with_reducible repeat (first | refine blk_drewN ?_ _ | refine blk_drew ?_ | refine blk_alloc ?_ _)); refine blk_far ?_ NB347_360.out _; (with_reducible repeat (first | refine blk_drewN ?_ _ | refine blk_drew ?_ | refine blk_alloc ?_ _)); refine blk_far ?_ NB347_360.out _; (with_reducible repeat (first | refine blk_drewN ?_ _ | refine blk_drew ?_ | refine blk_alloc ?_ _)); refine blk_far ?_ NB347_360.out _; (with_reducible repeat (first | refine blk_drewN ?_ _ | refine blk_drew ?_ | refine blk_alloc ?_ _)); refine blk_far ?_ NB347_360.out _; (with_reducible repeat (first | refine blk_drewN ?_ _ | refine blk_drew ?_ | refine blk_alloc ?_ _)); refine blk_far ?_ NB347_360.out _; (with_reducible repeat (first | refine blk_drewN ?_ _ | refine blk_drew ?_ | refine blk_alloc ?_ _)); refine blk_far ?_ NB347_360.out _; (with_reducible repeat (first | refine blk_drewN ?_ _ | refine blk_drew ?_ | refine blk_alloc ?_ _)); exact BK347.out) hb); have n1_ := Aside0.mk (blk_below (g := gb360) (o := .cells #[.int .i64 t348, .int .i64 t349, .int .i64 t350, .int .i64 t351, .int .i64 t352, .int .i64 t353] 34 (0, 0)) (by (with_reducible repeat (first | refine blk_drewN ?_ _ | refine blk_drew ?_ | refine blk_alloc ?_ _)); refine blk_far ?_ NB360_361.out _; (with_reducible repeat (first | refine blk_drewN ?_ _ | refine blk_drew ?_ | refine blk_alloc ?_ _)); refine blk_far ?_ NB360_361.out _; (with_reducible repeat (first | refine blk_drewN ?_ _ | refine blk_drew ?_ | refine blk_alloc ?_ _)); refine blk_far ?_ NB360_361.out _; (with_reducible repeat (first | refine blk_drewN ?_ _ | refine blk_drew ?_ | refine blk_alloc ?_ _)); refine blk_far ?_ NB360_361.out _; (with_reducible repeat (first | refine blk_drewN ?_ _ | refine blk_drew ?_ | refine blk_alloc ?_ _)); refine blk_far ?_ NB360_361.out _; (with_reducible repeat (first | refine blk_drewN ?_ _ | refine blk_drew ?_ | refine blk_alloc ?_ _)); refine blk_far ?_ NB360_361.out _; (with_reducible repeat (first | refine blk_drewN ?_ _ | refine blk_drew ?_ | refine blk_alloc ?_ _)); refine blk_put (cs := #[.int .i64 t348, .int .i64 t349, .int .i64 t350, .int .i64 t351, .int .i64 t352, .int .i64 0]) ?_ 5 _ rfl; (with_reducible repeat (first | refine blk_drewN ?_ _ | refine blk_drew ?_ | refine blk_alloc ?_ _)); refine blk_put (cs := #[.int .i64 t348, .int .i64 t349, .int .i64 t350, .int .i64 t351, .int .i64 0, .int .i64 0]) ?_ 4 _ rfl; (with_reducible repeat (first | refine blk_drewN ?_ _ | refine blk_drew ?_ | refine blk_alloc ?_ _)); refine blk_put (cs := #[.int .i64 t348, .int .i64 t349, .int .i64 t350, .int .i64 0, .int .i64 0, .int .i64 0]) ?_ 3 _ rfl; (with_reducible repeat (first | refine blk_drewN ?_ _ | refine blk_drew ?_ | refine blk_alloc ?_ _)); refine blk_put (cs := #[.int .i64 t348, .int .i64 t349, .int .i64 0, .int .i64 0, .int .i64 0, .int .i64 0]) ?_ 2 _ rfl; (with_reducible repeat (first | refine blk_drewN ?_ _ | refine blk_drew ?_ | refine blk_alloc ?_ _)); refine blk_put (cs := #[.int .i64 t348, .int .i64 0, .int .i64 0, .int .i64 0, .int .i64 0, .int .i64 0]) ?_ 1 _ rfl; (with_reducible repeat (first | refine blk_drewN ?_ _ | refine blk_drew ?_ | refine blk_alloc ?_ _)); refine blk_put (cs := #[.int .i64 0, .int .i64 0, .int .i64 0, .int .i64 0, .int .i64 0, .int .i64 0]) ?_ 0 _ rfl; (with_reducible repeat (first | refine blk_drewN ?_ _ | refine blk_drew ?_ | refine blk_alloc ?_ _)); exact BK360.out) hb); have n2_ := Aside0.mk (blk_below (g := gb361) (o := .cells #[.int .i64 t354, .int .i64 t355, .int .i64 t356, .int .i64 t357, .int .i64 t358, .int .i64 t359] 34 (0, 0)) (by (with_reducible repeat (first | refine blk_drewN ?_ _ | refine blk_drew ?_ | refine blk_alloc ?_ _)); refine blk_put (cs := #[.int .i64 t354, .int .i64 t355, .int .i64 t356, .int .i64 t357, .int .i64 t358, .int .i64 0]) ?_ 5 _ rfl; (with_reducible repeat (first | refine blk_drewN ?_ _ | refine blk_drew ?_ | refine blk_alloc ?_ _)); refine blk_put (cs := #[.int .i64 t354, .int .i64 t355, .int .i64 t356, .int .i64 t357, .int .i64 0, .int .i64 0]) ?_ 4 _ rfl; (with_reducible repeat (first | refine blk_drewN ?_ _ | refine blk_drew ?_ | refine blk_alloc ?_ _)); refine blk_put (cs := #[.int .i64 t354, .int .i64 t355, .int .i64 t356, .int .i64 0, .int .i64 0, .int .i64 0]) ?_ 3 _ rfl; (with_reducible repeat (first | refine blk_drewN ?_ _ | refine blk_drew ?_ | refine blk_alloc ?_ _)); refine blk_put (cs := #[.int .i64 t354, .int .i64 t355, .int .i64 0, .int .i64 0, .int .i64 0, .int .i64 0]) ?_ 2 _ rfl; (with_reducible repeat (first | refine blk_drewN ?_ _ | refine blk_drew ?_ | refine blk_alloc ?_ _)); refine blk_put (cs := #[.int .i64 t354, .int .i64 0, .int .i64 0, .int .i64 0, .int .i64 0, .int .i64 0]) ?_ 1 _ rfl; (with_reducible repeat (first | refine blk_drewN ?_ _ | refine blk_drew ?_ | refine blk_alloc ?_ _)); refine blk_put (cs := #[.int .i64 0, .int .i64 0, .int .i64 0, .int .i64 0, .int .i64 0, .int .i64 0]) ?_ 0 _ rfl; (with_reducible repeat (first | refine blk_drewN ?_ _ | refine blk_drew ?_ | refine blk_alloc ?_ _)); refine blk_far ?_ NB361_360.out _; (with_reducible repeat (first | refine blk_drewN ?_ _ | refine blk_drew ?_ | refine blk_alloc ?_ _)); refine blk_far ?_ NB361_360.out _; (with_reducible repeat (first | refine blk_drewN ?_ _ | refine blk_drew ?_ | refine blk_alloc ?_ _)); refine blk_far ?_ NB361_360.out _; (with_reducible repeat (first | refine blk_drewN ?_ _ | refine blk_drew ?_ | refine blk_alloc ?_ _)); refine blk_far ?_ NB361_360.out _; (with_reducible repeat (first | refine blk_drewN ?_ _ | refine blk_drew ?_ | refine blk_alloc ?_ _)); refine blk_far ?_ NB361_360.out _; (with_reducible repeat (first | refine blk_drewN ?_ _ | refine blk_drew ?_ | refine blk_alloc ?_ _)); refine blk_far ?_ NB361_360.out _; (with_reducible repeat (first | refine blk_drewN ?_ _ | refine blk_drew ?_ | refine blk_alloc ?_ _)); exact BK361.out) hb); have n3_ := Aside0.mk (below_step (by repeat (first | (with_reducible first | exact HB.out | apply below_alloc | apply pw_below_drewN | apply below_drew1 | refine below_set ?_ GE347.out | refine below_set ?_ GE360.out | refine below_set ?_ GE361.out) | exact HB.out)) hb); clear BK347; clear BK360; clear BK361; clear HB; have BK347 := n0_; have BK360 := n1_; have BK361 := n2_; have HB := n3_; clear n0_ n1_ n2_ n3_; (try clear hb); (try clear hb2); (try clear hk); (try clear hi)))
        go_meet
        case rel => exact ⟨_, (false), (by first | rfl | (simp; done) | (simp [*]; done)), H', ⟨by first | omega | exact Nat.le_refl _⟩, ⟨by (with_reducible repeat (first | refine blk_drewN ?_ _ | refine blk_drew ?_ | refine blk_alloc ?_ _)); exact BK347.out⟩, ⟨by (with_reducible repeat (first | refine blk_drewN ?_ _ | refine blk_drew ?_ | refine blk_alloc ?_ _)); exact BK360.out⟩, ⟨by (with_reducible repeat (first | refine blk_drewN ?_ _ | refine blk_drew ?_ | refine blk_alloc ?_ _)); exact BK361.out⟩, ⟨by repeat (first | (with_reducible first | exact HB.out | apply below_alloc | apply pw_below_drewN | apply below_drew1 | refine below_set ?_ GE347.out | refine below_set ?_ GE360.out | refine below_set ?_ GE361.out) | exact HB.out)⟩⟩
    case rest =>
      clear HC6
      try clear c1
      try clear c2
      try clear p2
      try clear c3
      try clear c4
      try clear c5
      try clear c8
      try clear c13
      try clear c14
      try clear c15
      try clear c16
      try clear c17
      try clear c19
      try clear c21
      try clear c23
      try clear c25
      try clear c26
      try clear c32
      try clear c33
      try clear c39
      try clear c40
      try clear c45
      try clear c46
      try clear hcz15_0
      try clear hcz15_1
      try clear hcz15_2
      try clear hcz15_3
      try clear hcz15_4
      try clear hcz15_5
      try clear hcz17_0
      try clear hcz17_1
      try clear hcz17_2
      try clear hcz17_3
      try clear hcz17_4
      try clear hcz17_5
      try clear hcz27_0
      try clear hcz27_1
      try clear hcz27_2
      try clear hcz27_3
      try clear hcz27_4
      try clear hcz27_5
      try clear hcz29_0
      try clear hcz29_1
      try clear hcz29_2
      try clear hcz29_3
      try clear hcz29_4
      try clear hcz29_5
      try clear hcz31_0
      try clear hcz31_1
      try clear hcz31_2
      try clear hcz31_3
      try clear hcz31_4
      try clear hcz31_5
      try clear hcz34_0
      try clear hcz34_1
      try clear hcz34_2
      try clear hcz34_3
      try clear hcz34_4
      try clear hcz34_5
      try clear hcz36_0
      try clear hcz36_1
      try clear hcz36_2
      try clear hcz36_3
      try clear hcz36_4
      try clear hcz36_5
      try clear hcz38_0
      try clear hcz38_1
      try clear hcz38_2
      try clear hcz38_3
      try clear hcz38_4
      try clear hcz38_5
      try clear hcz41_0
      try clear hcz41_1
      try clear hcz41_2
      try clear hcz41_3
      try clear hcz41_4
      try clear hcz41_5
      try clear hcz43_0
      try clear hcz43_1
      try clear hcz43_2
      try clear hcz43_3
      try clear hcz43_4
      try clear hcz43_5
      try clear hcz47_0
      try clear hcz47_1
      try clear hcz47_2
      try clear hcz47_3
      try clear hcz47_4
      try clear hcz47_5
      try clear hcz9_0
      try clear hcz9_1
      try clear hcz9_2
      try clear hcz9_3
      try clear hcz9_4
      try clear hcz9_5
      try clear hfz15_0
      try clear hfz15_1
      try clear hfz15_2
      try clear hfz15_3
      try clear hfz15_4
      try clear hfz15_5
      try clear hfz17_0
      try clear hfz17_1
      try clear hfz17_2
      try clear hfz17_3
      try clear hfz17_4
      try clear hfz17_5
      try clear hfz27_0
      try clear hfz27_1
      try clear hfz27_2
      try clear hfz27_3
      try clear hfz27_4
      try clear hfz27_5
      try clear hfz29_0
      try clear hfz29_1
      try clear hfz29_2
      try clear hfz29_3
      try clear hfz29_4
      try clear hfz29_5
      try clear hfz31_0
      try clear hfz31_1
      try clear hfz31_2
      try clear hfz31_3
      try clear hfz31_4
      try clear hfz31_5
      try clear hfz34_0
      try clear hfz34_1
      try clear hfz34_2
      try clear hfz34_3
      try clear hfz34_4
      try clear hfz34_5
      try clear hfz36_0
      try clear hfz36_1
      try clear hfz36_2
      try clear hfz36_3
      try clear hfz36_4
      try clear hfz36_5
      try clear hfz38_0
      try clear hfz38_1
      try clear hfz38_2
      try clear hfz38_3
      try clear hfz38_4
      try clear hfz38_5
      try clear hfz41_0
      try clear hfz41_1
      try clear hfz41_2
      try clear hfz41_3
      try clear hfz41_4
      try clear hfz41_5
      try clear hfz43_0
      try clear hfz43_1
      try clear hfz43_2
      try clear hfz43_3
      try clear hfz43_4
      try clear hfz43_5
      try clear hfz47_0
      try clear hfz47_1
      try clear hfz47_2
      try clear hfz47_3
      try clear hfz47_4
      try clear hfz47_5
      try clear hfz9_0
      try clear hfz9_1
      try clear hfz9_2
      try clear hfz9_3
      try clear hfz9_4
      try clear hfz9_5
      obtain ⟨kq, x46_5, rfl, HA, HJ5, BK347, BK360, BK361, HB⟩ := hcut
      cases kq with
      | zero => exact absurd HA.out (by simp [laws_FnFacts.j0])
      | succ kj5 =>
        have H := HA.out
        clear HA
        simp only [laws_FnFacts.j0] at H
        by_cases c49 : x46_5 = true
        · subst c49
          have H1 : (some false) = some r := by rw [if_pos rfl] at H; exact H
          clear H
          have H := H1
          clear H1
          obtain rfl := Option.some.inj H
          go_wp2
          go_ret
          exact ⟨by first | rfl | (simp [errW_none, errW_some]; cases t377.toList.isEmpty <;> cases t378 <;> rfl) | (simp [errW_none, errW_some] <;> rfl) | (simp [*, errW_none, errW_some] <;> rfl), by repeat (first | (with_reducible first | exact HB.out | apply below_alloc | apply pw_below_drewN | apply below_drew1 | refine below_set ?_ GE347.out | refine below_set ?_ GE360.out | refine below_set ?_ GE361.out) | exact HB.out)⟩
        · replace c49 := Bool.eq_false_iff.mpr c49
          subst c49
          have H1 : ((impl_FactBefore.f t348 t349 t350 t351 t352 t353 t354 t355 t356 t357 t358 t359).bind fun t366 => (if t366 = true then ((impl_FactBefore.f t354 t355 t356 t357 t358 t359 t348 t349 t350 t351 t352 t353).bind fun t367 => (if t367 = true then (laws_FnFacts.j1 kj5 true t339 t340 t341 t342 t343 t344 t348 t349 t350 t351 t352 t353 t354 t355 t356 t357 t358 t359) else ((impl_SameClaim.f t348 t349 t350 t351 t352 t353 t354 t355 t356 t357 t358 t359).bind fun t368 => (if t368 = true then ((impl_FactBefore.f t348 t349 t350 t351 t352 t353 t354 t355 t356 t357 t358 t359).bind fun t369 => (if t369 = true then (laws_FnFacts.j1 kj5 true t339 t340 t341 t342 t343 t344 t348 t349 t350 t351 t352 t353 t354 t355 t356 t357 t358 t359) else ((impl_FactBefore.f t354 t355 t356 t357 t358 t359 t348 t349 t350 t351 t352 t353).bind fun t370 => (laws_FnFacts.j1 kj5 t370 t339 t340 t341 t342 t343 t344 t348 t349 t350 t351 t352 t353 t354 t355 t356 t357 t358 t359)))) else (laws_FnFacts.j1 kj5 false t339 t340 t341 t342 t343 t344 t348 t349 t350 t351 t352 t353 t354 t355 t356 t357 t358 t359))))) else ((impl_SameClaim.f t348 t349 t350 t351 t352 t353 t354 t355 t356 t357 t358 t359).bind fun t371 => (if t371 = true then ((impl_FactBefore.f t348 t349 t350 t351 t352 t353 t354 t355 t356 t357 t358 t359).bind fun t372 => (if t372 = true then (laws_FnFacts.j1 kj5 true t339 t340 t341 t342 t343 t344 t348 t349 t350 t351 t352 t353 t354 t355 t356 t357 t358 t359) else ((impl_FactBefore.f t354 t355 t356 t357 t358 t359 t348 t349 t350 t351 t352 t353).bind fun t373 => (laws_FnFacts.j1 kj5 t373 t339 t340 t341 t342 t343 t344 t348 t349 t350 t351 t352 t353 t354 t355 t356 t357 t358 t359)))) else (laws_FnFacts.j1 kj5 false t339 t340 t341 t342 t343 t344 t348 t349 t350 t351 t352 t353 t354 t355 t356 t357 t358 t359))))) = some r := by rw [if_neg (show ¬ (false = true) by decide)] at H; exact H
          clear H
          have H := H1
          clear H1
          have HC50 := Aside0.mk H
          clear H
          go_upto_region 7 with (fail)
          go_cut [69] (fun v69 wc => ∃ (kq : Nat) (x69_49 : Bool), v69 = .bool x69_49 ∧ Aside0 (laws_FnFacts.j1 kq x69_49 t339 t340 t341 t342 t343 t344 t348 t349 t350 t351 t352 t353 t354 t355 t356 t357 t358 t359 = some r) ∧ Aside0 (kq ≤ kj5) ∧ Aside0 (wc.heap[gb347]? = some (.cells #[.int .i64 t339, .int .i64 t340, .int .i64 t341, .int .i64 t342, .int .i64 t343, .int .i64 t344] 34 (0, 0))) ∧ Aside0 (wc.heap[gb360]? = some (.cells #[.int .i64 t348, .int .i64 t349, .int .i64 t350, .int .i64 t351, .int .i64 t352, .int .i64 t353] 34 (0, 0))) ∧ Aside0 (wc.heap[gb361]? = some (.cells #[.int .i64 t354, .int .i64 t355, .int .i64 t356, .int .i64 t357, .int .i64 t358, .int .i64 t359] 34 (0, 0))) ∧ Aside0 (Below w.heap.size w wc))
          case first =>
            have H := HC50.out
            clear HC50
            replace H := Option.bind_eq_some_iff.mp H
            obtain ⟨t366, A510, H⟩ := H
            replace H : (if t366 = true then ((impl_FactBefore.f t354 t355 t356 t357 t358 t359 t348 t349 t350 t351 t352 t353).bind fun t367 => (if t367 = true then (laws_FnFacts.j1 kj5 true t339 t340 t341 t342 t343 t344 t348 t349 t350 t351 t352 t353 t354 t355 t356 t357 t358 t359) else ((impl_SameClaim.f t348 t349 t350 t351 t352 t353 t354 t355 t356 t357 t358 t359).bind fun t368 => (if t368 = true then ((impl_FactBefore.f t348 t349 t350 t351 t352 t353 t354 t355 t356 t357 t358 t359).bind fun t369 => (if t369 = true then (laws_FnFacts.j1 kj5 true t339 t340 t341 t342 t343 t344 t348 t349 t350 t351 t352 t353 t354 t355 t356 t357 t358 t359) else ((impl_FactBefore.f t354 t355 t356 t357 t358 t359 t348 t349 t350 t351 t352 t353).bind fun t370 => (laws_FnFacts.j1 kj5 t370 t339 t340 t341 t342 t343 t344 t348 t349 t350 t351 t352 t353 t354 t355 t356 t357 t358 t359)))) else (laws_FnFacts.j1 kj5 false t339 t340 t341 t342 t343 t344 t348 t349 t350 t351 t352 t353 t354 t355 t356 t357 t358 t359))))) else ((impl_SameClaim.f t348 t349 t350 t351 t352 t353 t354 t355 t356 t357 t358 t359).bind fun t371 => (if t371 = true then ((impl_FactBefore.f t348 t349 t350 t351 t352 t353 t354 t355 t356 t357 t358 t359).bind fun t372 => (if t372 = true then (laws_FnFacts.j1 kj5 true t339 t340 t341 t342 t343 t344 t348 t349 t350 t351 t352 t353 t354 t355 t356 t357 t358 t359) else ((impl_FactBefore.f t354 t355 t356 t357 t358 t359 t348 t349 t350 t351 t352 t353).bind fun t373 => (laws_FnFacts.j1 kj5 t373 t339 t340 t341 t342 t343 t344 t348 t349 t350 t351 t352 t353 t354 t355 t356 t357 t358 t359)))) else (laws_FnFacts.j1 kj5 false t339 t340 t341 t342 t343 t344 t348 t349 t350 t351 t352 t353 t354 t355 t356 t357 t358 t359)))) = some r := H
            have A51 := Aside0.mk A510
            clear A510
            by_cases c52 : t366 = true
            · subst c52
              have H1 : ((impl_FactBefore.f t354 t355 t356 t357 t358 t359 t348 t349 t350 t351 t352 t353).bind fun t367 => (if t367 = true then (laws_FnFacts.j1 kj5 true t339 t340 t341 t342 t343 t344 t348 t349 t350 t351 t352 t353 t354 t355 t356 t357 t358 t359) else ((impl_SameClaim.f t348 t349 t350 t351 t352 t353 t354 t355 t356 t357 t358 t359).bind fun t368 => (if t368 = true then ((impl_FactBefore.f t348 t349 t350 t351 t352 t353 t354 t355 t356 t357 t358 t359).bind fun t369 => (if t369 = true then (laws_FnFacts.j1 kj5 true t339 t340 t341 t342 t343 t344 t348 t349 t350 t351 t352 t353 t354 t355 t356 t357 t358 t359) else ((impl_FactBefore.f t354 t355 t356 t357 t358 t359 t348 t349 t350 t351 t352 t353).bind fun t370 => (laws_FnFacts.j1 kj5 t370 t339 t340 t341 t342 t343 t344 t348 t349 t350 t351 t352 t353 t354 t355 t356 t357 t358 t359)))) else (laws_FnFacts.j1 kj5 false t339 t340 t341 t342 t343 t344 t348 t349 t350 t351 t352 t353 t354 t355 t356 t357 t358 t359))))) = some r := by rw [if_pos rfl] at H; exact H
              clear H
              have H := H1
              clear H1
              replace H := Option.bind_eq_some_iff.mp H
              obtain ⟨t367, A530, H⟩ := H
              replace H : (if t367 = true then (laws_FnFacts.j1 kj5 true t339 t340 t341 t342 t343 t344 t348 t349 t350 t351 t352 t353 t354 t355 t356 t357 t358 t359) else ((impl_SameClaim.f t348 t349 t350 t351 t352 t353 t354 t355 t356 t357 t358 t359).bind fun t368 => (if t368 = true then ((impl_FactBefore.f t348 t349 t350 t351 t352 t353 t354 t355 t356 t357 t358 t359).bind fun t369 => (if t369 = true then (laws_FnFacts.j1 kj5 true t339 t340 t341 t342 t343 t344 t348 t349 t350 t351 t352 t353 t354 t355 t356 t357 t358 t359) else ((impl_FactBefore.f t354 t355 t356 t357 t358 t359 t348 t349 t350 t351 t352 t353).bind fun t370 => (laws_FnFacts.j1 kj5 t370 t339 t340 t341 t342 t343 t344 t348 t349 t350 t351 t352 t353 t354 t355 t356 t357 t358 t359)))) else (laws_FnFacts.j1 kj5 false t339 t340 t341 t342 t343 t344 t348 t349 t350 t351 t352 t353 t354 t355 t356 t357 t358 t359)))) = some r := H
              have A53 := Aside0.mk A530
              clear A530
              by_cases c54 : t367 = true
              · subst c54
                have H1 : (laws_FnFacts.j1 kj5 true t339 t340 t341 t342 t343 t344 t348 t349 t350 t351 t352 t353 t354 t355 t356 t357 t358 t359) = some r := by rw [if_pos rfl] at H; exact H
                clear H
                have H := H1
                clear H1
                have H' := Aside0.mk H
                clear H
                have hnb55 := NB360_347.out
                have hnc55 := NB347_360.out
                have hnb56 := NB360_361.out
                have hnc56 := NB361_360.out
                have hcz57_0 : wc.cell? ⟨gb360, 0, none⟩ = some (.int .i64 t348) := (blk_cell BK360.out 0).trans rfl
                have hcz57_1 : wc.cell? ⟨gb360, 1, none⟩ = some (.int .i64 t349) := (blk_cell BK360.out 1).trans rfl
                have hcz57_2 : wc.cell? ⟨gb360, 2, none⟩ = some (.int .i64 t350) := (blk_cell BK360.out 2).trans rfl
                have hcz57_3 : wc.cell? ⟨gb360, 3, none⟩ = some (.int .i64 t351) := (blk_cell BK360.out 3).trans rfl
                have hcz57_4 : wc.cell? ⟨gb360, 4, none⟩ = some (.int .i64 t352) := (blk_cell BK360.out 4).trans rfl
                have hcz57_5 : wc.cell? ⟨gb360, 5, none⟩ = some (.int .i64 t353) := (blk_cell BK360.out 5).trans rfl
                have hfz57_0 := blk_frozen BK360.out 0
                have hfz57_1 := blk_frozen BK360.out 1
                have hfz57_2 := blk_frozen BK360.out 2
                have hfz57_3 := blk_frozen BK360.out 3
                have hfz57_4 := blk_frozen BK360.out 4
                have hfz57_5 := blk_frozen BK360.out 5
                have hnb58 := NB361_347.out
                have hnc58 := NB347_361.out
                have hcz59_0 : wc.cell? ⟨gb361, 0, none⟩ = some (.int .i64 t354) := (blk_cell BK361.out 0).trans rfl
                have hcz59_1 : wc.cell? ⟨gb361, 1, none⟩ = some (.int .i64 t355) := (blk_cell BK361.out 1).trans rfl
                have hcz59_2 : wc.cell? ⟨gb361, 2, none⟩ = some (.int .i64 t356) := (blk_cell BK361.out 2).trans rfl
                have hcz59_3 : wc.cell? ⟨gb361, 3, none⟩ = some (.int .i64 t357) := (blk_cell BK361.out 3).trans rfl
                have hcz59_4 : wc.cell? ⟨gb361, 4, none⟩ = some (.int .i64 t358) := (blk_cell BK361.out 4).trans rfl
                have hcz59_5 : wc.cell? ⟨gb361, 5, none⟩ = some (.int .i64 t359) := (blk_cell BK361.out 5).trans rfl
                have hfz59_0 := blk_frozen BK361.out 0
                have hfz59_1 := blk_frozen BK361.out 1
                have hfz59_2 := blk_frozen BK361.out 2
                have hfz59_3 := blk_frozen BK361.out 3
                have hfz59_4 := blk_frozen BK361.out 4
                have hfz59_5 := blk_frozen BK361.out 5
                go_wp2_with (first | ((with_reducible refine gate_callee (f := 21) rfl ?_); refine goesL_ (some 49) rfl rfl Tryd.func21 (by kernel_rfl) rfl #[.agg #[.int .i64 t348, .int .i64 t349, .int .i64 t350, .int .i64 t351, .int .i64 t352, .int .i64 t353], .agg #[.int .i64 t354, .int .i64 t355, .int .i64 t356, .int .i64 t357, .int .i64 t358, .int .i64 t359]] rfl (by (try simp only [List.map_toArray, List.map_cons, List.map_nil]); first | done | rfl | (simp only [List.length_drop, List.length_take]; rfl)) ?_; (with_reducible refine (impl_FactBefore.calls t348 t349 t350 t351 t352 t353 t354 t355 t356 t357 t358 t359 true _ A51.out).mono ?_); rintro e w60 ⟨rfl, hb⟩; refine ⟨_, rfl, ?_⟩; have n0_ := Aside0.mk (blk_below (g := gb347) (o := .cells #[.int .i64 t339, .int .i64 t340, .int .i64 t341, .int .i64 t342, .int .i64 t343, .int .i64 t344] 34 (0, 0)) (by (with_reducible repeat (first | refine blk_drewN ?_ _ | refine blk_drew ?_ | refine blk_alloc ?_ _)); exact BK347.out) hb); have n1_ := Aside0.mk (blk_below (g := gb360) (o := .cells #[.int .i64 t348, .int .i64 t349, .int .i64 t350, .int .i64 t351, .int .i64 t352, .int .i64 t353] 34 (0, 0)) (by (with_reducible repeat (first | refine blk_drewN ?_ _ | refine blk_drew ?_ | refine blk_alloc ?_ _)); exact BK360.out) hb); have n2_ := Aside0.mk (blk_below (g := gb361) (o := .cells #[.int .i64 t354, .int .i64 t355, .int .i64 t356, .int .i64 t357, .int .i64 t358, .int .i64 t359] 34 (0, 0)) (by (with_reducible repeat (first | refine blk_drewN ?_ _ | refine blk_drew ?_ | refine blk_alloc ?_ _)); exact BK361.out) hb); have n3_ := Aside0.mk (below_step (by repeat (first | (with_reducible first | exact HB.out | apply below_alloc | apply pw_below_drewN | apply below_drew1 | refine below_set ?_ GE347.out | refine below_set ?_ GE360.out | refine below_set ?_ GE361.out) | exact HB.out)) hb); clear BK347; clear BK360; clear BK361; clear HB; have BK347 := n0_; have BK360 := n1_; have BK361 := n2_; have HB := n3_; clear n0_ n1_ n2_ n3_; (try clear hb); (try clear hb2); (try clear hk); (try clear hi); have hcz61_0 : w60.cell? ⟨gb361, 0, none⟩ = some (.int .i64 t354) := (blk_cell BK361.out 0).trans rfl; have hcz61_1 : w60.cell? ⟨gb361, 1, none⟩ = some (.int .i64 t355) := (blk_cell BK361.out 1).trans rfl; have hcz61_2 : w60.cell? ⟨gb361, 2, none⟩ = some (.int .i64 t356) := (blk_cell BK361.out 2).trans rfl; have hcz61_3 : w60.cell? ⟨gb361, 3, none⟩ = some (.int .i64 t357) := (blk_cell BK361.out 3).trans rfl; have hcz61_4 : w60.cell? ⟨gb361, 4, none⟩ = some (.int .i64 t358) := (blk_cell BK361.out 4).trans rfl; have hcz61_5 : w60.cell? ⟨gb361, 5, none⟩ = some (.int .i64 t359) := (blk_cell BK361.out 5).trans rfl; have hfz61_0 := blk_frozen BK361.out 0; have hfz61_1 := blk_frozen BK361.out 1; have hfz61_2 := blk_frozen BK361.out 2; have hfz61_3 := blk_frozen BK361.out 3; have hfz61_4 := blk_frozen BK361.out 4; have hfz61_5 := blk_frozen BK361.out 5; have hcz62_0 : w60.cell? ⟨gb360, 0, none⟩ = some (.int .i64 t348) := (blk_cell BK360.out 0).trans rfl; have hcz62_1 : w60.cell? ⟨gb360, 1, none⟩ = some (.int .i64 t349) := (blk_cell BK360.out 1).trans rfl; have hcz62_2 : w60.cell? ⟨gb360, 2, none⟩ = some (.int .i64 t350) := (blk_cell BK360.out 2).trans rfl; have hcz62_3 : w60.cell? ⟨gb360, 3, none⟩ = some (.int .i64 t351) := (blk_cell BK360.out 3).trans rfl; have hcz62_4 : w60.cell? ⟨gb360, 4, none⟩ = some (.int .i64 t352) := (blk_cell BK360.out 4).trans rfl; have hcz62_5 : w60.cell? ⟨gb360, 5, none⟩ = some (.int .i64 t353) := (blk_cell BK360.out 5).trans rfl; have hfz62_0 := blk_frozen BK360.out 0; have hfz62_1 := blk_frozen BK360.out 1; have hfz62_2 := blk_frozen BK360.out 2; have hfz62_3 := blk_frozen BK360.out 3; have hfz62_4 := blk_frozen BK360.out 4; have hfz62_5 := blk_frozen BK360.out 5) | (go_at_call 21; (with_reducible refine (impl_FactBefore.calls t354 t355 t356 t357 t358 t359 t348 t349 t350 t351 t352 t353 true _ A53.out).mono ?_); rintro e w63 ⟨rfl, hb⟩; have n0_ := Aside0.mk (blk_below (g := gb347) (o := .cells #[.int .i64 t339, .int .i64 t340, .int .i64 t341, .int .i64 t342, .int .i64 t343, .int .i64 t344] 34 (0, 0)) (by (with_reducible repeat (first | refine blk_drewN ?_ _ | refine blk_drew ?_ | refine blk_alloc ?_ _)); exact BK347.out) hb); have n1_ := Aside0.mk (blk_below (g := gb360) (o := .cells #[.int .i64 t348, .int .i64 t349, .int .i64 t350, .int .i64 t351, .int .i64 t352, .int .i64 t353] 34 (0, 0)) (by (with_reducible repeat (first | refine blk_drewN ?_ _ | refine blk_drew ?_ | refine blk_alloc ?_ _)); exact BK360.out) hb); have n2_ := Aside0.mk (blk_below (g := gb361) (o := .cells #[.int .i64 t354, .int .i64 t355, .int .i64 t356, .int .i64 t357, .int .i64 t358, .int .i64 t359] 34 (0, 0)) (by (with_reducible repeat (first | refine blk_drewN ?_ _ | refine blk_drew ?_ | refine blk_alloc ?_ _)); exact BK361.out) hb); have n3_ := Aside0.mk (below_step (by repeat (first | (with_reducible first | exact HB.out | apply below_alloc | apply pw_below_drewN | apply below_drew1 | refine below_set ?_ GE347.out | refine below_set ?_ GE360.out | refine below_set ?_ GE361.out) | exact HB.out)) hb); clear BK347; clear BK360; clear BK361; clear HB; have BK347 := n0_; have BK360 := n1_; have BK361 := n2_; have HB := n3_; clear n0_ n1_ n2_ n3_; (try clear hb); (try clear hb2); (try clear hk); (try clear hi)))
                go_meet
                case rel => exact ⟨_, (true), (by first | rfl | (simp; done) | (simp [*]; done)), H', ⟨by have := HJ5.out; first | omega | exact Nat.le_refl _⟩, ⟨by (with_reducible repeat (first | refine blk_drewN ?_ _ | refine blk_drew ?_ | refine blk_alloc ?_ _)); exact BK347.out⟩, ⟨by (with_reducible repeat (first | refine blk_drewN ?_ _ | refine blk_drew ?_ | refine blk_alloc ?_ _)); exact BK360.out⟩, ⟨by (with_reducible repeat (first | refine blk_drewN ?_ _ | refine blk_drew ?_ | refine blk_alloc ?_ _)); exact BK361.out⟩, ⟨by repeat (first | (with_reducible first | exact HB.out | apply below_alloc | apply pw_below_drewN | apply below_drew1 | refine below_set ?_ GE347.out | refine below_set ?_ GE360.out | refine below_set ?_ GE361.out) | exact HB.out)⟩⟩
              · replace c54 := Bool.eq_false_iff.mpr c54
                subst c54
                have H1 : ((impl_SameClaim.f t348 t349 t350 t351 t352 t353 t354 t355 t356 t357 t358 t359).bind fun t368 => (if t368 = true then ((impl_FactBefore.f t348 t349 t350 t351 t352 t353 t354 t355 t356 t357 t358 t359).bind fun t369 => (if t369 = true then (laws_FnFacts.j1 kj5 true t339 t340 t341 t342 t343 t344 t348 t349 t350 t351 t352 t353 t354 t355 t356 t357 t358 t359) else ((impl_FactBefore.f t354 t355 t356 t357 t358 t359 t348 t349 t350 t351 t352 t353).bind fun t370 => (laws_FnFacts.j1 kj5 t370 t339 t340 t341 t342 t343 t344 t348 t349 t350 t351 t352 t353 t354 t355 t356 t357 t358 t359)))) else (laws_FnFacts.j1 kj5 false t339 t340 t341 t342 t343 t344 t348 t349 t350 t351 t352 t353 t354 t355 t356 t357 t358 t359))) = some r := by rw [if_neg (show ¬ (false = true) by decide)] at H; exact H
                clear H
                have H := H1
                clear H1
                replace H := Option.bind_eq_some_iff.mp H
                obtain ⟨t368, A640, H⟩ := H
                replace H : (if t368 = true then ((impl_FactBefore.f t348 t349 t350 t351 t352 t353 t354 t355 t356 t357 t358 t359).bind fun t369 => (if t369 = true then (laws_FnFacts.j1 kj5 true t339 t340 t341 t342 t343 t344 t348 t349 t350 t351 t352 t353 t354 t355 t356 t357 t358 t359) else ((impl_FactBefore.f t354 t355 t356 t357 t358 t359 t348 t349 t350 t351 t352 t353).bind fun t370 => (laws_FnFacts.j1 kj5 t370 t339 t340 t341 t342 t343 t344 t348 t349 t350 t351 t352 t353 t354 t355 t356 t357 t358 t359)))) else (laws_FnFacts.j1 kj5 false t339 t340 t341 t342 t343 t344 t348 t349 t350 t351 t352 t353 t354 t355 t356 t357 t358 t359)) = some r := H
                have A64 := Aside0.mk A640
                clear A640
                by_cases c65 : t368 = true
                · subst c65
                  have H1 : ((impl_FactBefore.f t348 t349 t350 t351 t352 t353 t354 t355 t356 t357 t358 t359).bind fun t369 => (if t369 = true then (laws_FnFacts.j1 kj5 true t339 t340 t341 t342 t343 t344 t348 t349 t350 t351 t352 t353 t354 t355 t356 t357 t358 t359) else ((impl_FactBefore.f t354 t355 t356 t357 t358 t359 t348 t349 t350 t351 t352 t353).bind fun t370 => (laws_FnFacts.j1 kj5 t370 t339 t340 t341 t342 t343 t344 t348 t349 t350 t351 t352 t353 t354 t355 t356 t357 t358 t359)))) = some r := by rw [if_pos rfl] at H; exact H
                  clear H
                  have H := H1
                  clear H1
                  replace H := Option.bind_eq_some_iff.mp H
                  obtain ⟨t369, A660, H⟩ := H
                  replace H : (if t369 = true then (laws_FnFacts.j1 kj5 true t339 t340 t341 t342 t343 t344 t348 t349 t350 t351 t352 t353 t354 t355 t356 t357 t358 t359) else ((impl_FactBefore.f t354 t355 t356 t357 t358 t359 t348 t349 t350 t351 t352 t353).bind fun t370 => (laws_FnFacts.j1 kj5 t370 t339 t340 t341 t342 t343 t344 t348 t349 t350 t351 t352 t353 t354 t355 t356 t357 t358 t359))) = some r := H
                  have A66 := Aside0.mk A660
                  clear A660
                  by_cases c67 : t369 = true
                  · subst c67
                    have H1 : (laws_FnFacts.j1 kj5 true t339 t340 t341 t342 t343 t344 t348 t349 t350 t351 t352 t353 t354 t355 t356 t357 t358 t359) = some r := by rw [if_pos rfl] at H; exact H
                    clear H
                    have H := H1
                    clear H1
                    have H' := Aside0.mk H
                    clear H
                    have hnb68 := NB360_347.out
                    have hnc68 := NB347_360.out
                    have hnb69 := NB360_361.out
                    have hnc69 := NB361_360.out
                    have hcz70_0 : wc.cell? ⟨gb360, 0, none⟩ = some (.int .i64 t348) := (blk_cell BK360.out 0).trans rfl
                    have hcz70_1 : wc.cell? ⟨gb360, 1, none⟩ = some (.int .i64 t349) := (blk_cell BK360.out 1).trans rfl
                    have hcz70_2 : wc.cell? ⟨gb360, 2, none⟩ = some (.int .i64 t350) := (blk_cell BK360.out 2).trans rfl
                    have hcz70_3 : wc.cell? ⟨gb360, 3, none⟩ = some (.int .i64 t351) := (blk_cell BK360.out 3).trans rfl
                    have hcz70_4 : wc.cell? ⟨gb360, 4, none⟩ = some (.int .i64 t352) := (blk_cell BK360.out 4).trans rfl
                    have hcz70_5 : wc.cell? ⟨gb360, 5, none⟩ = some (.int .i64 t353) := (blk_cell BK360.out 5).trans rfl
                    have hfz70_0 := blk_frozen BK360.out 0
                    have hfz70_1 := blk_frozen BK360.out 1
                    have hfz70_2 := blk_frozen BK360.out 2
                    have hfz70_3 := blk_frozen BK360.out 3
                    have hfz70_4 := blk_frozen BK360.out 4
                    have hfz70_5 := blk_frozen BK360.out 5
                    have hnb71 := NB361_347.out
                    have hnc71 := NB347_361.out
                    have hcz72_0 : wc.cell? ⟨gb361, 0, none⟩ = some (.int .i64 t354) := (blk_cell BK361.out 0).trans rfl
                    have hcz72_1 : wc.cell? ⟨gb361, 1, none⟩ = some (.int .i64 t355) := (blk_cell BK361.out 1).trans rfl
                    have hcz72_2 : wc.cell? ⟨gb361, 2, none⟩ = some (.int .i64 t356) := (blk_cell BK361.out 2).trans rfl
                    have hcz72_3 : wc.cell? ⟨gb361, 3, none⟩ = some (.int .i64 t357) := (blk_cell BK361.out 3).trans rfl
                    have hcz72_4 : wc.cell? ⟨gb361, 4, none⟩ = some (.int .i64 t358) := (blk_cell BK361.out 4).trans rfl
                    have hcz72_5 : wc.cell? ⟨gb361, 5, none⟩ = some (.int .i64 t359) := (blk_cell BK361.out 5).trans rfl
                    have hfz72_0 := blk_frozen BK361.out 0
                    have hfz72_1 := blk_frozen BK361.out 1
                    have hfz72_2 := blk_frozen BK361.out 2
                    have hfz72_3 := blk_frozen BK361.out 3
                    have hfz72_4 := blk_frozen BK361.out 4
                    have hfz72_5 := blk_frozen BK361.out 5
                    go_wp2_with (first | ((with_reducible refine gate_callee (f := 21) rfl ?_); refine goesL_ (some 49) rfl rfl Tryd.func21 (by kernel_rfl) rfl #[.agg #[.int .i64 t348, .int .i64 t349, .int .i64 t350, .int .i64 t351, .int .i64 t352, .int .i64 t353], .agg #[.int .i64 t354, .int .i64 t355, .int .i64 t356, .int .i64 t357, .int .i64 t358, .int .i64 t359]] rfl (by (try simp only [List.map_toArray, List.map_cons, List.map_nil]); first | done | rfl | (simp only [List.length_drop, List.length_take]; rfl)) ?_; (with_reducible refine (impl_FactBefore.calls t348 t349 t350 t351 t352 t353 t354 t355 t356 t357 t358 t359 true _ A51.out).mono ?_); rintro e w73 ⟨rfl, hb⟩; refine ⟨_, rfl, ?_⟩; have n0_ := Aside0.mk (blk_below (g := gb347) (o := .cells #[.int .i64 t339, .int .i64 t340, .int .i64 t341, .int .i64 t342, .int .i64 t343, .int .i64 t344] 34 (0, 0)) (by (with_reducible repeat (first | refine blk_drewN ?_ _ | refine blk_drew ?_ | refine blk_alloc ?_ _)); exact BK347.out) hb); have n1_ := Aside0.mk (blk_below (g := gb360) (o := .cells #[.int .i64 t348, .int .i64 t349, .int .i64 t350, .int .i64 t351, .int .i64 t352, .int .i64 t353] 34 (0, 0)) (by (with_reducible repeat (first | refine blk_drewN ?_ _ | refine blk_drew ?_ | refine blk_alloc ?_ _)); exact BK360.out) hb); have n2_ := Aside0.mk (blk_below (g := gb361) (o := .cells #[.int .i64 t354, .int .i64 t355, .int .i64 t356, .int .i64 t357, .int .i64 t358, .int .i64 t359] 34 (0, 0)) (by (with_reducible repeat (first | refine blk_drewN ?_ _ | refine blk_drew ?_ | refine blk_alloc ?_ _)); exact BK361.out) hb); have n3_ := Aside0.mk (below_step (by repeat (first | (with_reducible first | exact HB.out | apply below_alloc | apply pw_below_drewN | apply below_drew1 | refine below_set ?_ GE347.out | refine below_set ?_ GE360.out | refine below_set ?_ GE361.out) | exact HB.out)) hb); clear BK347; clear BK360; clear BK361; clear HB; have BK347 := n0_; have BK360 := n1_; have BK361 := n2_; have HB := n3_; clear n0_ n1_ n2_ n3_; (try clear hb); (try clear hb2); (try clear hk); (try clear hi); have hcz74_0 : w73.cell? ⟨gb361, 0, none⟩ = some (.int .i64 t354) := (blk_cell BK361.out 0).trans rfl; have hcz74_1 : w73.cell? ⟨gb361, 1, none⟩ = some (.int .i64 t355) := (blk_cell BK361.out 1).trans rfl; have hcz74_2 : w73.cell? ⟨gb361, 2, none⟩ = some (.int .i64 t356) := (blk_cell BK361.out 2).trans rfl; have hcz74_3 : w73.cell? ⟨gb361, 3, none⟩ = some (.int .i64 t357) := (blk_cell BK361.out 3).trans rfl; have hcz74_4 : w73.cell? ⟨gb361, 4, none⟩ = some (.int .i64 t358) := (blk_cell BK361.out 4).trans rfl; have hcz74_5 : w73.cell? ⟨gb361, 5, none⟩ = some (.int .i64 t359) := (blk_cell BK361.out 5).trans rfl; have hfz74_0 := blk_frozen BK361.out 0; have hfz74_1 := blk_frozen BK361.out 1; have hfz74_2 := blk_frozen BK361.out 2; have hfz74_3 := blk_frozen BK361.out 3; have hfz74_4 := blk_frozen BK361.out 4; have hfz74_5 := blk_frozen BK361.out 5; have hcz75_0 : w73.cell? ⟨gb360, 0, none⟩ = some (.int .i64 t348) := (blk_cell BK360.out 0).trans rfl; have hcz75_1 : w73.cell? ⟨gb360, 1, none⟩ = some (.int .i64 t349) := (blk_cell BK360.out 1).trans rfl; have hcz75_2 : w73.cell? ⟨gb360, 2, none⟩ = some (.int .i64 t350) := (blk_cell BK360.out 2).trans rfl; have hcz75_3 : w73.cell? ⟨gb360, 3, none⟩ = some (.int .i64 t351) := (blk_cell BK360.out 3).trans rfl; have hcz75_4 : w73.cell? ⟨gb360, 4, none⟩ = some (.int .i64 t352) := (blk_cell BK360.out 4).trans rfl; have hcz75_5 : w73.cell? ⟨gb360, 5, none⟩ = some (.int .i64 t353) := (blk_cell BK360.out 5).trans rfl; have hfz75_0 := blk_frozen BK360.out 0; have hfz75_1 := blk_frozen BK360.out 1; have hfz75_2 := blk_frozen BK360.out 2; have hfz75_3 := blk_frozen BK360.out 3; have hfz75_4 := blk_frozen BK360.out 4; have hfz75_5 := blk_frozen BK360.out 5) | (go_at_call 21; (with_reducible refine (impl_FactBefore.calls t354 t355 t356 t357 t358 t359 t348 t349 t350 t351 t352 t353 false _ A53.out).mono ?_); rintro e w76 ⟨rfl, hb⟩; have n0_ := Aside0.mk (blk_below (g := gb347) (o := .cells #[.int .i64 t339, .int .i64 t340, .int .i64 t341, .int .i64 t342, .int .i64 t343, .int .i64 t344] 34 (0, 0)) (by (with_reducible repeat (first | refine blk_drewN ?_ _ | refine blk_drew ?_ | refine blk_alloc ?_ _)); exact BK347.out) hb); have n1_ := Aside0.mk (blk_below (g := gb360) (o := .cells #[.int .i64 t348, .int .i64 t349, .int .i64 t350, .int .i64 t351, .int .i64 t352, .int .i64 t353] 34 (0, 0)) (by (with_reducible repeat (first | refine blk_drewN ?_ _ | refine blk_drew ?_ | refine blk_alloc ?_ _)); exact BK360.out) hb); have n2_ := Aside0.mk (blk_below (g := gb361) (o := .cells #[.int .i64 t354, .int .i64 t355, .int .i64 t356, .int .i64 t357, .int .i64 t358, .int .i64 t359] 34 (0, 0)) (by (with_reducible repeat (first | refine blk_drewN ?_ _ | refine blk_drew ?_ | refine blk_alloc ?_ _)); exact BK361.out) hb); have n3_ := Aside0.mk (below_step (by repeat (first | (with_reducible first | exact HB.out | apply below_alloc | apply pw_below_drewN | apply below_drew1 | refine below_set ?_ GE347.out | refine below_set ?_ GE360.out | refine below_set ?_ GE361.out) | exact HB.out)) hb); clear BK347; clear BK360; clear BK361; clear HB; have BK347 := n0_; have BK360 := n1_; have BK361 := n2_; have HB := n3_; clear n0_ n1_ n2_ n3_; (try clear hb); (try clear hb2); (try clear hk); (try clear hi); have hcz77_0 : w76.cell? ⟨gb360, 0, none⟩ = some (.int .i64 t348) := (blk_cell BK360.out 0).trans rfl; have hcz77_1 : w76.cell? ⟨gb360, 1, none⟩ = some (.int .i64 t349) := (blk_cell BK360.out 1).trans rfl; have hcz77_2 : w76.cell? ⟨gb360, 2, none⟩ = some (.int .i64 t350) := (blk_cell BK360.out 2).trans rfl; have hcz77_3 : w76.cell? ⟨gb360, 3, none⟩ = some (.int .i64 t351) := (blk_cell BK360.out 3).trans rfl; have hcz77_4 : w76.cell? ⟨gb360, 4, none⟩ = some (.int .i64 t352) := (blk_cell BK360.out 4).trans rfl; have hcz77_5 : w76.cell? ⟨gb360, 5, none⟩ = some (.int .i64 t353) := (blk_cell BK360.out 5).trans rfl; have hfz77_0 := blk_frozen BK360.out 0; have hfz77_1 := blk_frozen BK360.out 1; have hfz77_2 := blk_frozen BK360.out 2; have hfz77_3 := blk_frozen BK360.out 3; have hfz77_4 := blk_frozen BK360.out 4; have hfz77_5 := blk_frozen BK360.out 5; have hcz78_0 : w76.cell? ⟨gb361, 0, none⟩ = some (.int .i64 t354) := (blk_cell BK361.out 0).trans rfl; have hcz78_1 : w76.cell? ⟨gb361, 1, none⟩ = some (.int .i64 t355) := (blk_cell BK361.out 1).trans rfl; have hcz78_2 : w76.cell? ⟨gb361, 2, none⟩ = some (.int .i64 t356) := (blk_cell BK361.out 2).trans rfl; have hcz78_3 : w76.cell? ⟨gb361, 3, none⟩ = some (.int .i64 t357) := (blk_cell BK361.out 3).trans rfl; have hcz78_4 : w76.cell? ⟨gb361, 4, none⟩ = some (.int .i64 t358) := (blk_cell BK361.out 4).trans rfl; have hcz78_5 : w76.cell? ⟨gb361, 5, none⟩ = some (.int .i64 t359) := (blk_cell BK361.out 5).trans rfl; have hfz78_0 := blk_frozen BK361.out 0; have hfz78_1 := blk_frozen BK361.out 1; have hfz78_2 := blk_frozen BK361.out 2; have hfz78_3 := blk_frozen BK361.out 3; have hfz78_4 := blk_frozen BK361.out 4; have hfz78_5 := blk_frozen BK361.out 5) | (go_at_call 22; (with_reducible refine (impl_SameClaim.calls t348 t349 t350 t351 t352 t353 t354 t355 t356 t357 t358 t359 true _ A64.out).mono ?_); rintro e w79 ⟨rfl, hb⟩; have n0_ := Aside0.mk (blk_below (g := gb347) (o := .cells #[.int .i64 t339, .int .i64 t340, .int .i64 t341, .int .i64 t342, .int .i64 t343, .int .i64 t344] 34 (0, 0)) (by (with_reducible repeat (first | refine blk_drewN ?_ _ | refine blk_drew ?_ | refine blk_alloc ?_ _)); exact BK347.out) hb); have n1_ := Aside0.mk (blk_below (g := gb360) (o := .cells #[.int .i64 t348, .int .i64 t349, .int .i64 t350, .int .i64 t351, .int .i64 t352, .int .i64 t353] 34 (0, 0)) (by (with_reducible repeat (first | refine blk_drewN ?_ _ | refine blk_drew ?_ | refine blk_alloc ?_ _)); exact BK360.out) hb); have n2_ := Aside0.mk (blk_below (g := gb361) (o := .cells #[.int .i64 t354, .int .i64 t355, .int .i64 t356, .int .i64 t357, .int .i64 t358, .int .i64 t359] 34 (0, 0)) (by (with_reducible repeat (first | refine blk_drewN ?_ _ | refine blk_drew ?_ | refine blk_alloc ?_ _)); exact BK361.out) hb); have n3_ := Aside0.mk (below_step (by repeat (first | (with_reducible first | exact HB.out | apply below_alloc | apply pw_below_drewN | apply below_drew1 | refine below_set ?_ GE347.out | refine below_set ?_ GE360.out | refine below_set ?_ GE361.out) | exact HB.out)) hb); clear BK347; clear BK360; clear BK361; clear HB; have BK347 := n0_; have BK360 := n1_; have BK361 := n2_; have HB := n3_; clear n0_ n1_ n2_ n3_; (try clear hb); (try clear hb2); (try clear hk); (try clear hi); have hcz80_0 : w79.cell? ⟨gb360, 0, none⟩ = some (.int .i64 t348) := (blk_cell BK360.out 0).trans rfl; have hcz80_1 : w79.cell? ⟨gb360, 1, none⟩ = some (.int .i64 t349) := (blk_cell BK360.out 1).trans rfl; have hcz80_2 : w79.cell? ⟨gb360, 2, none⟩ = some (.int .i64 t350) := (blk_cell BK360.out 2).trans rfl; have hcz80_3 : w79.cell? ⟨gb360, 3, none⟩ = some (.int .i64 t351) := (blk_cell BK360.out 3).trans rfl; have hcz80_4 : w79.cell? ⟨gb360, 4, none⟩ = some (.int .i64 t352) := (blk_cell BK360.out 4).trans rfl; have hcz80_5 : w79.cell? ⟨gb360, 5, none⟩ = some (.int .i64 t353) := (blk_cell BK360.out 5).trans rfl; have hfz80_0 := blk_frozen BK360.out 0; have hfz80_1 := blk_frozen BK360.out 1; have hfz80_2 := blk_frozen BK360.out 2; have hfz80_3 := blk_frozen BK360.out 3; have hfz80_4 := blk_frozen BK360.out 4; have hfz80_5 := blk_frozen BK360.out 5; have hcz81_0 : w79.cell? ⟨gb361, 0, none⟩ = some (.int .i64 t354) := (blk_cell BK361.out 0).trans rfl; have hcz81_1 : w79.cell? ⟨gb361, 1, none⟩ = some (.int .i64 t355) := (blk_cell BK361.out 1).trans rfl; have hcz81_2 : w79.cell? ⟨gb361, 2, none⟩ = some (.int .i64 t356) := (blk_cell BK361.out 2).trans rfl; have hcz81_3 : w79.cell? ⟨gb361, 3, none⟩ = some (.int .i64 t357) := (blk_cell BK361.out 3).trans rfl; have hcz81_4 : w79.cell? ⟨gb361, 4, none⟩ = some (.int .i64 t358) := (blk_cell BK361.out 4).trans rfl; have hcz81_5 : w79.cell? ⟨gb361, 5, none⟩ = some (.int .i64 t359) := (blk_cell BK361.out 5).trans rfl; have hfz81_0 := blk_frozen BK361.out 0; have hfz81_1 := blk_frozen BK361.out 1; have hfz81_2 := blk_frozen BK361.out 2; have hfz81_3 := blk_frozen BK361.out 3; have hfz81_4 := blk_frozen BK361.out 4; have hfz81_5 := blk_frozen BK361.out 5) | (go_at_call 21; (with_reducible refine (impl_FactBefore.calls t348 t349 t350 t351 t352 t353 t354 t355 t356 t357 t358 t359 true _ A66.out).mono ?_); rintro e w82 ⟨rfl, hb⟩; have n0_ := Aside0.mk (blk_below (g := gb347) (o := .cells #[.int .i64 t339, .int .i64 t340, .int .i64 t341, .int .i64 t342, .int .i64 t343, .int .i64 t344] 34 (0, 0)) (by (with_reducible repeat (first | refine blk_drewN ?_ _ | refine blk_drew ?_ | refine blk_alloc ?_ _)); exact BK347.out) hb); have n1_ := Aside0.mk (blk_below (g := gb360) (o := .cells #[.int .i64 t348, .int .i64 t349, .int .i64 t350, .int .i64 t351, .int .i64 t352, .int .i64 t353] 34 (0, 0)) (by (with_reducible repeat (first | refine blk_drewN ?_ _ | refine blk_drew ?_ | refine blk_alloc ?_ _)); exact BK360.out) hb); have n2_ := Aside0.mk (blk_below (g := gb361) (o := .cells #[.int .i64 t354, .int .i64 t355, .int .i64 t356, .int .i64 t357, .int .i64 t358, .int .i64 t359] 34 (0, 0)) (by (with_reducible repeat (first | refine blk_drewN ?_ _ | refine blk_drew ?_ | refine blk_alloc ?_ _)); exact BK361.out) hb); have n3_ := Aside0.mk (below_step (by repeat (first | (with_reducible first | exact HB.out | apply below_alloc | apply pw_below_drewN | apply below_drew1 | refine below_set ?_ GE347.out | refine below_set ?_ GE360.out | refine below_set ?_ GE361.out) | exact HB.out)) hb); clear BK347; clear BK360; clear BK361; clear HB; have BK347 := n0_; have BK360 := n1_; have BK361 := n2_; have HB := n3_; clear n0_ n1_ n2_ n3_; (try clear hb); (try clear hb2); (try clear hk); (try clear hi)))
                    go_meet
                    case rel => exact ⟨_, (true), (by first | rfl | (simp; done) | (simp [*]; done)), H', ⟨by have := HJ5.out; first | omega | exact Nat.le_refl _⟩, ⟨by (with_reducible repeat (first | refine blk_drewN ?_ _ | refine blk_drew ?_ | refine blk_alloc ?_ _)); exact BK347.out⟩, ⟨by (with_reducible repeat (first | refine blk_drewN ?_ _ | refine blk_drew ?_ | refine blk_alloc ?_ _)); exact BK360.out⟩, ⟨by (with_reducible repeat (first | refine blk_drewN ?_ _ | refine blk_drew ?_ | refine blk_alloc ?_ _)); exact BK361.out⟩, ⟨by repeat (first | (with_reducible first | exact HB.out | apply below_alloc | apply pw_below_drewN | apply below_drew1 | refine below_set ?_ GE347.out | refine below_set ?_ GE360.out | refine below_set ?_ GE361.out) | exact HB.out)⟩⟩
                  · replace c67 := Bool.eq_false_iff.mpr c67
                    subst c67
                    have H1 : ((impl_FactBefore.f t354 t355 t356 t357 t358 t359 t348 t349 t350 t351 t352 t353).bind fun t370 => (laws_FnFacts.j1 kj5 t370 t339 t340 t341 t342 t343 t344 t348 t349 t350 t351 t352 t353 t354 t355 t356 t357 t358 t359)) = some r := by rw [if_neg (show ¬ (false = true) by decide)] at H; exact H
                    clear H
                    have H := H1
                    clear H1
                    replace H := Option.bind_eq_some_iff.mp H
                    obtain ⟨t370, A830, H⟩ := H
                    replace H : (laws_FnFacts.j1 kj5 t370 t339 t340 t341 t342 t343 t344 t348 t349 t350 t351 t352 t353 t354 t355 t356 t357 t358 t359) = some r := H
                    have A83 := Aside0.mk A830
                    clear A830
                    have H' := Aside0.mk H
                    clear H
                    have hnb84 := NB360_347.out
                    have hnc84 := NB347_360.out
                    have hnb85 := NB360_361.out
                    have hnc85 := NB361_360.out
                    have hcz86_0 : wc.cell? ⟨gb360, 0, none⟩ = some (.int .i64 t348) := (blk_cell BK360.out 0).trans rfl
                    have hcz86_1 : wc.cell? ⟨gb360, 1, none⟩ = some (.int .i64 t349) := (blk_cell BK360.out 1).trans rfl
                    have hcz86_2 : wc.cell? ⟨gb360, 2, none⟩ = some (.int .i64 t350) := (blk_cell BK360.out 2).trans rfl
                    have hcz86_3 : wc.cell? ⟨gb360, 3, none⟩ = some (.int .i64 t351) := (blk_cell BK360.out 3).trans rfl
                    have hcz86_4 : wc.cell? ⟨gb360, 4, none⟩ = some (.int .i64 t352) := (blk_cell BK360.out 4).trans rfl
                    have hcz86_5 : wc.cell? ⟨gb360, 5, none⟩ = some (.int .i64 t353) := (blk_cell BK360.out 5).trans rfl
                    have hfz86_0 := blk_frozen BK360.out 0
                    have hfz86_1 := blk_frozen BK360.out 1
                    have hfz86_2 := blk_frozen BK360.out 2
                    have hfz86_3 := blk_frozen BK360.out 3
                    have hfz86_4 := blk_frozen BK360.out 4
                    have hfz86_5 := blk_frozen BK360.out 5
                    have hnb87 := NB361_347.out
                    have hnc87 := NB347_361.out
                    have hcz88_0 : wc.cell? ⟨gb361, 0, none⟩ = some (.int .i64 t354) := (blk_cell BK361.out 0).trans rfl
                    have hcz88_1 : wc.cell? ⟨gb361, 1, none⟩ = some (.int .i64 t355) := (blk_cell BK361.out 1).trans rfl
                    have hcz88_2 : wc.cell? ⟨gb361, 2, none⟩ = some (.int .i64 t356) := (blk_cell BK361.out 2).trans rfl
                    have hcz88_3 : wc.cell? ⟨gb361, 3, none⟩ = some (.int .i64 t357) := (blk_cell BK361.out 3).trans rfl
                    have hcz88_4 : wc.cell? ⟨gb361, 4, none⟩ = some (.int .i64 t358) := (blk_cell BK361.out 4).trans rfl
                    have hcz88_5 : wc.cell? ⟨gb361, 5, none⟩ = some (.int .i64 t359) := (blk_cell BK361.out 5).trans rfl
                    have hfz88_0 := blk_frozen BK361.out 0
                    have hfz88_1 := blk_frozen BK361.out 1
                    have hfz88_2 := blk_frozen BK361.out 2
                    have hfz88_3 := blk_frozen BK361.out 3
                    have hfz88_4 := blk_frozen BK361.out 4
                    have hfz88_5 := blk_frozen BK361.out 5
                    go_wp2_with (first | ((with_reducible refine gate_callee (f := 21) rfl ?_); refine goesL_ (some 49) rfl rfl Tryd.func21 (by kernel_rfl) rfl #[.agg #[.int .i64 t348, .int .i64 t349, .int .i64 t350, .int .i64 t351, .int .i64 t352, .int .i64 t353], .agg #[.int .i64 t354, .int .i64 t355, .int .i64 t356, .int .i64 t357, .int .i64 t358, .int .i64 t359]] rfl (by (try simp only [List.map_toArray, List.map_cons, List.map_nil]); first | done | rfl | (simp only [List.length_drop, List.length_take]; rfl)) ?_; (with_reducible refine (impl_FactBefore.calls t348 t349 t350 t351 t352 t353 t354 t355 t356 t357 t358 t359 true _ A51.out).mono ?_); rintro e w89 ⟨rfl, hb⟩; refine ⟨_, rfl, ?_⟩; have n0_ := Aside0.mk (blk_below (g := gb347) (o := .cells #[.int .i64 t339, .int .i64 t340, .int .i64 t341, .int .i64 t342, .int .i64 t343, .int .i64 t344] 34 (0, 0)) (by (with_reducible repeat (first | refine blk_drewN ?_ _ | refine blk_drew ?_ | refine blk_alloc ?_ _)); exact BK347.out) hb); have n1_ := Aside0.mk (blk_below (g := gb360) (o := .cells #[.int .i64 t348, .int .i64 t349, .int .i64 t350, .int .i64 t351, .int .i64 t352, .int .i64 t353] 34 (0, 0)) (by (with_reducible repeat (first | refine blk_drewN ?_ _ | refine blk_drew ?_ | refine blk_alloc ?_ _)); exact BK360.out) hb); have n2_ := Aside0.mk (blk_below (g := gb361) (o := .cells #[.int .i64 t354, .int .i64 t355, .int .i64 t356, .int .i64 t357, .int .i64 t358, .int .i64 t359] 34 (0, 0)) (by (with_reducible repeat (first | refine blk_drewN ?_ _ | refine blk_drew ?_ | refine blk_alloc ?_ _)); exact BK361.out) hb); have n3_ := Aside0.mk (below_step (by repeat (first | (with_reducible first | exact HB.out | apply below_alloc | apply pw_below_drewN | apply below_drew1 | refine below_set ?_ GE347.out | refine below_set ?_ GE360.out | refine below_set ?_ GE361.out) | exact HB.out)) hb); clear BK347; clear BK360; clear BK361; clear HB; have BK347 := n0_; have BK360 := n1_; have BK361 := n2_; have HB := n3_; clear n0_ n1_ n2_ n3_; (try clear hb); (try clear hb2); (try clear hk); (try clear hi); have hcz90_0 : w89.cell? ⟨gb361, 0, none⟩ = some (.int .i64 t354) := (blk_cell BK361.out 0).trans rfl; have hcz90_1 : w89.cell? ⟨gb361, 1, none⟩ = some (.int .i64 t355) := (blk_cell BK361.out 1).trans rfl; have hcz90_2 : w89.cell? ⟨gb361, 2, none⟩ = some (.int .i64 t356) := (blk_cell BK361.out 2).trans rfl; have hcz90_3 : w89.cell? ⟨gb361, 3, none⟩ = some (.int .i64 t357) := (blk_cell BK361.out 3).trans rfl; have hcz90_4 : w89.cell? ⟨gb361, 4, none⟩ = some (.int .i64 t358) := (blk_cell BK361.out 4).trans rfl; have hcz90_5 : w89.cell? ⟨gb361, 5, none⟩ = some (.int .i64 t359) := (blk_cell BK361.out 5).trans rfl; have hfz90_0 := blk_frozen BK361.out 0; have hfz90_1 := blk_frozen BK361.out 1; have hfz90_2 := blk_frozen BK361.out 2; have hfz90_3 := blk_frozen BK361.out 3; have hfz90_4 := blk_frozen BK361.out 4; have hfz90_5 := blk_frozen BK361.out 5; have hcz91_0 : w89.cell? ⟨gb360, 0, none⟩ = some (.int .i64 t348) := (blk_cell BK360.out 0).trans rfl; have hcz91_1 : w89.cell? ⟨gb360, 1, none⟩ = some (.int .i64 t349) := (blk_cell BK360.out 1).trans rfl; have hcz91_2 : w89.cell? ⟨gb360, 2, none⟩ = some (.int .i64 t350) := (blk_cell BK360.out 2).trans rfl; have hcz91_3 : w89.cell? ⟨gb360, 3, none⟩ = some (.int .i64 t351) := (blk_cell BK360.out 3).trans rfl; have hcz91_4 : w89.cell? ⟨gb360, 4, none⟩ = some (.int .i64 t352) := (blk_cell BK360.out 4).trans rfl; have hcz91_5 : w89.cell? ⟨gb360, 5, none⟩ = some (.int .i64 t353) := (blk_cell BK360.out 5).trans rfl; have hfz91_0 := blk_frozen BK360.out 0; have hfz91_1 := blk_frozen BK360.out 1; have hfz91_2 := blk_frozen BK360.out 2; have hfz91_3 := blk_frozen BK360.out 3; have hfz91_4 := blk_frozen BK360.out 4; have hfz91_5 := blk_frozen BK360.out 5) | (go_at_call 21; (with_reducible refine (impl_FactBefore.calls t354 t355 t356 t357 t358 t359 t348 t349 t350 t351 t352 t353 false _ A53.out).mono ?_); rintro e w92 ⟨rfl, hb⟩; have n0_ := Aside0.mk (blk_below (g := gb347) (o := .cells #[.int .i64 t339, .int .i64 t340, .int .i64 t341, .int .i64 t342, .int .i64 t343, .int .i64 t344] 34 (0, 0)) (by (with_reducible repeat (first | refine blk_drewN ?_ _ | refine blk_drew ?_ | refine blk_alloc ?_ _)); exact BK347.out) hb); have n1_ := Aside0.mk (blk_below (g := gb360) (o := .cells #[.int .i64 t348, .int .i64 t349, .int .i64 t350, .int .i64 t351, .int .i64 t352, .int .i64 t353] 34 (0, 0)) (by (with_reducible repeat (first | refine blk_drewN ?_ _ | refine blk_drew ?_ | refine blk_alloc ?_ _)); exact BK360.out) hb); have n2_ := Aside0.mk (blk_below (g := gb361) (o := .cells #[.int .i64 t354, .int .i64 t355, .int .i64 t356, .int .i64 t357, .int .i64 t358, .int .i64 t359] 34 (0, 0)) (by (with_reducible repeat (first | refine blk_drewN ?_ _ | refine blk_drew ?_ | refine blk_alloc ?_ _)); exact BK361.out) hb); have n3_ := Aside0.mk (below_step (by repeat (first | (with_reducible first | exact HB.out | apply below_alloc | apply pw_below_drewN | apply below_drew1 | refine below_set ?_ GE347.out | refine below_set ?_ GE360.out | refine below_set ?_ GE361.out) | exact HB.out)) hb); clear BK347; clear BK360; clear BK361; clear HB; have BK347 := n0_; have BK360 := n1_; have BK361 := n2_; have HB := n3_; clear n0_ n1_ n2_ n3_; (try clear hb); (try clear hb2); (try clear hk); (try clear hi); have hcz93_0 : w92.cell? ⟨gb360, 0, none⟩ = some (.int .i64 t348) := (blk_cell BK360.out 0).trans rfl; have hcz93_1 : w92.cell? ⟨gb360, 1, none⟩ = some (.int .i64 t349) := (blk_cell BK360.out 1).trans rfl; have hcz93_2 : w92.cell? ⟨gb360, 2, none⟩ = some (.int .i64 t350) := (blk_cell BK360.out 2).trans rfl; have hcz93_3 : w92.cell? ⟨gb360, 3, none⟩ = some (.int .i64 t351) := (blk_cell BK360.out 3).trans rfl; have hcz93_4 : w92.cell? ⟨gb360, 4, none⟩ = some (.int .i64 t352) := (blk_cell BK360.out 4).trans rfl; have hcz93_5 : w92.cell? ⟨gb360, 5, none⟩ = some (.int .i64 t353) := (blk_cell BK360.out 5).trans rfl; have hfz93_0 := blk_frozen BK360.out 0; have hfz93_1 := blk_frozen BK360.out 1; have hfz93_2 := blk_frozen BK360.out 2; have hfz93_3 := blk_frozen BK360.out 3; have hfz93_4 := blk_frozen BK360.out 4; have hfz93_5 := blk_frozen BK360.out 5; have hcz94_0 : w92.cell? ⟨gb361, 0, none⟩ = some (.int .i64 t354) := (blk_cell BK361.out 0).trans rfl; have hcz94_1 : w92.cell? ⟨gb361, 1, none⟩ = some (.int .i64 t355) := (blk_cell BK361.out 1).trans rfl; have hcz94_2 : w92.cell? ⟨gb361, 2, none⟩ = some (.int .i64 t356) := (blk_cell BK361.out 2).trans rfl; have hcz94_3 : w92.cell? ⟨gb361, 3, none⟩ = some (.int .i64 t357) := (blk_cell BK361.out 3).trans rfl; have hcz94_4 : w92.cell? ⟨gb361, 4, none⟩ = some (.int .i64 t358) := (blk_cell BK361.out 4).trans rfl; have hcz94_5 : w92.cell? ⟨gb361, 5, none⟩ = some (.int .i64 t359) := (blk_cell BK361.out 5).trans rfl; have hfz94_0 := blk_frozen BK361.out 0; have hfz94_1 := blk_frozen BK361.out 1; have hfz94_2 := blk_frozen BK361.out 2; have hfz94_3 := blk_frozen BK361.out 3; have hfz94_4 := blk_frozen BK361.out 4; have hfz94_5 := blk_frozen BK361.out 5) | (go_at_call 22; (with_reducible refine (impl_SameClaim.calls t348 t349 t350 t351 t352 t353 t354 t355 t356 t357 t358 t359 true _ A64.out).mono ?_); rintro e w95 ⟨rfl, hb⟩; have n0_ := Aside0.mk (blk_below (g := gb347) (o := .cells #[.int .i64 t339, .int .i64 t340, .int .i64 t341, .int .i64 t342, .int .i64 t343, .int .i64 t344] 34 (0, 0)) (by (with_reducible repeat (first | refine blk_drewN ?_ _ | refine blk_drew ?_ | refine blk_alloc ?_ _)); exact BK347.out) hb); have n1_ := Aside0.mk (blk_below (g := gb360) (o := .cells #[.int .i64 t348, .int .i64 t349, .int .i64 t350, .int .i64 t351, .int .i64 t352, .int .i64 t353] 34 (0, 0)) (by (with_reducible repeat (first | refine blk_drewN ?_ _ | refine blk_drew ?_ | refine blk_alloc ?_ _)); exact BK360.out) hb); have n2_ := Aside0.mk (blk_below (g := gb361) (o := .cells #[.int .i64 t354, .int .i64 t355, .int .i64 t356, .int .i64 t357, .int .i64 t358, .int .i64 t359] 34 (0, 0)) (by (with_reducible repeat (first | refine blk_drewN ?_ _ | refine blk_drew ?_ | refine blk_alloc ?_ _)); exact BK361.out) hb); have n3_ := Aside0.mk (below_step (by repeat (first | (with_reducible first | exact HB.out | apply below_alloc | apply pw_below_drewN | apply below_drew1 | refine below_set ?_ GE347.out | refine below_set ?_ GE360.out | refine below_set ?_ GE361.out) | exact HB.out)) hb); clear BK347; clear BK360; clear BK361; clear HB; have BK347 := n0_; have BK360 := n1_; have BK361 := n2_; have HB := n3_; clear n0_ n1_ n2_ n3_; (try clear hb); (try clear hb2); (try clear hk); (try clear hi); have hcz96_0 : w95.cell? ⟨gb360, 0, none⟩ = some (.int .i64 t348) := (blk_cell BK360.out 0).trans rfl; have hcz96_1 : w95.cell? ⟨gb360, 1, none⟩ = some (.int .i64 t349) := (blk_cell BK360.out 1).trans rfl; have hcz96_2 : w95.cell? ⟨gb360, 2, none⟩ = some (.int .i64 t350) := (blk_cell BK360.out 2).trans rfl; have hcz96_3 : w95.cell? ⟨gb360, 3, none⟩ = some (.int .i64 t351) := (blk_cell BK360.out 3).trans rfl; have hcz96_4 : w95.cell? ⟨gb360, 4, none⟩ = some (.int .i64 t352) := (blk_cell BK360.out 4).trans rfl; have hcz96_5 : w95.cell? ⟨gb360, 5, none⟩ = some (.int .i64 t353) := (blk_cell BK360.out 5).trans rfl; have hfz96_0 := blk_frozen BK360.out 0; have hfz96_1 := blk_frozen BK360.out 1; have hfz96_2 := blk_frozen BK360.out 2; have hfz96_3 := blk_frozen BK360.out 3; have hfz96_4 := blk_frozen BK360.out 4; have hfz96_5 := blk_frozen BK360.out 5; have hcz97_0 : w95.cell? ⟨gb361, 0, none⟩ = some (.int .i64 t354) := (blk_cell BK361.out 0).trans rfl; have hcz97_1 : w95.cell? ⟨gb361, 1, none⟩ = some (.int .i64 t355) := (blk_cell BK361.out 1).trans rfl; have hcz97_2 : w95.cell? ⟨gb361, 2, none⟩ = some (.int .i64 t356) := (blk_cell BK361.out 2).trans rfl; have hcz97_3 : w95.cell? ⟨gb361, 3, none⟩ = some (.int .i64 t357) := (blk_cell BK361.out 3).trans rfl; have hcz97_4 : w95.cell? ⟨gb361, 4, none⟩ = some (.int .i64 t358) := (blk_cell BK361.out 4).trans rfl; have hcz97_5 : w95.cell? ⟨gb361, 5, none⟩ = some (.int .i64 t359) := (blk_cell BK361.out 5).trans rfl; have hfz97_0 := blk_frozen BK361.out 0; have hfz97_1 := blk_frozen BK361.out 1; have hfz97_2 := blk_frozen BK361.out 2; have hfz97_3 := blk_frozen BK361.out 3; have hfz97_4 := blk_frozen BK361.out 4; have hfz97_5 := blk_frozen BK361.out 5) | (go_at_call 21; (with_reducible refine (impl_FactBefore.calls t348 t349 t350 t351 t352 t353 t354 t355 t356 t357 t358 t359 false _ A66.out).mono ?_); rintro e w98 ⟨rfl, hb⟩; have n0_ := Aside0.mk (blk_below (g := gb347) (o := .cells #[.int .i64 t339, .int .i64 t340, .int .i64 t341, .int .i64 t342, .int .i64 t343, .int .i64 t344] 34 (0, 0)) (by (with_reducible repeat (first | refine blk_drewN ?_ _ | refine blk_drew ?_ | refine blk_alloc ?_ _)); exact BK347.out) hb); have n1_ := Aside0.mk (blk_below (g := gb360) (o := .cells #[.int .i64 t348, .int .i64 t349, .int .i64 t350, .int .i64 t351, .int .i64 t352, .int .i64 t353] 34 (0, 0)) (by (with_reducible repeat (first | refine blk_drewN ?_ _ | refine blk_drew ?_ | refine blk_alloc ?_ _)); exact BK360.out) hb); have n2_ := Aside0.mk (blk_below (g := gb361) (o := .cells #[.int .i64 t354, .int .i64 t355, .int .i64 t356, .int .i64 t357, .int .i64 t358, .int .i64 t359] 34 (0, 0)) (by (with_reducible repeat (first | refine blk_drewN ?_ _ | refine blk_drew ?_ | refine blk_alloc ?_ _)); exact BK361.out) hb); have n3_ := Aside0.mk (below_step (by repeat (first | (with_reducible first | exact HB.out | apply below_alloc | apply pw_below_drewN | apply below_drew1 | refine below_set ?_ GE347.out | refine below_set ?_ GE360.out | refine below_set ?_ GE361.out) | exact HB.out)) hb); clear BK347; clear BK360; clear BK361; clear HB; have BK347 := n0_; have BK360 := n1_; have BK361 := n2_; have HB := n3_; clear n0_ n1_ n2_ n3_; (try clear hb); (try clear hb2); (try clear hk); (try clear hi); have hcz99_0 : w98.cell? ⟨gb361, 0, none⟩ = some (.int .i64 t354) := (blk_cell BK361.out 0).trans rfl; have hcz99_1 : w98.cell? ⟨gb361, 1, none⟩ = some (.int .i64 t355) := (blk_cell BK361.out 1).trans rfl; have hcz99_2 : w98.cell? ⟨gb361, 2, none⟩ = some (.int .i64 t356) := (blk_cell BK361.out 2).trans rfl; have hcz99_3 : w98.cell? ⟨gb361, 3, none⟩ = some (.int .i64 t357) := (blk_cell BK361.out 3).trans rfl; have hcz99_4 : w98.cell? ⟨gb361, 4, none⟩ = some (.int .i64 t358) := (blk_cell BK361.out 4).trans rfl; have hcz99_5 : w98.cell? ⟨gb361, 5, none⟩ = some (.int .i64 t359) := (blk_cell BK361.out 5).trans rfl; have hfz99_0 := blk_frozen BK361.out 0; have hfz99_1 := blk_frozen BK361.out 1; have hfz99_2 := blk_frozen BK361.out 2; have hfz99_3 := blk_frozen BK361.out 3; have hfz99_4 := blk_frozen BK361.out 4; have hfz99_5 := blk_frozen BK361.out 5; have hcz100_0 : w98.cell? ⟨gb360, 0, none⟩ = some (.int .i64 t348) := (blk_cell BK360.out 0).trans rfl; have hcz100_1 : w98.cell? ⟨gb360, 1, none⟩ = some (.int .i64 t349) := (blk_cell BK360.out 1).trans rfl; have hcz100_2 : w98.cell? ⟨gb360, 2, none⟩ = some (.int .i64 t350) := (blk_cell BK360.out 2).trans rfl; have hcz100_3 : w98.cell? ⟨gb360, 3, none⟩ = some (.int .i64 t351) := (blk_cell BK360.out 3).trans rfl; have hcz100_4 : w98.cell? ⟨gb360, 4, none⟩ = some (.int .i64 t352) := (blk_cell BK360.out 4).trans rfl; have hcz100_5 : w98.cell? ⟨gb360, 5, none⟩ = some (.int .i64 t353) := (blk_cell BK360.out 5).trans rfl; have hfz100_0 := blk_frozen BK360.out 0; have hfz100_1 := blk_frozen BK360.out 1; have hfz100_2 := blk_frozen BK360.out 2; have hfz100_3 := blk_frozen BK360.out 3; have hfz100_4 := blk_frozen BK360.out 4; have hfz100_5 := blk_frozen BK360.out 5) | (go_at_call 21; (with_reducible refine (impl_FactBefore.calls t354 t355 t356 t357 t358 t359 t348 t349 t350 t351 t352 t353 t370 _ A83.out).mono ?_); rintro e w101 ⟨rfl, hb⟩; have n0_ := Aside0.mk (blk_below (g := gb347) (o := .cells #[.int .i64 t339, .int .i64 t340, .int .i64 t341, .int .i64 t342, .int .i64 t343, .int .i64 t344] 34 (0, 0)) (by (with_reducible repeat (first | refine blk_drewN ?_ _ | refine blk_drew ?_ | refine blk_alloc ?_ _)); exact BK347.out) hb); have n1_ := Aside0.mk (blk_below (g := gb360) (o := .cells #[.int .i64 t348, .int .i64 t349, .int .i64 t350, .int .i64 t351, .int .i64 t352, .int .i64 t353] 34 (0, 0)) (by (with_reducible repeat (first | refine blk_drewN ?_ _ | refine blk_drew ?_ | refine blk_alloc ?_ _)); exact BK360.out) hb); have n2_ := Aside0.mk (blk_below (g := gb361) (o := .cells #[.int .i64 t354, .int .i64 t355, .int .i64 t356, .int .i64 t357, .int .i64 t358, .int .i64 t359] 34 (0, 0)) (by (with_reducible repeat (first | refine blk_drewN ?_ _ | refine blk_drew ?_ | refine blk_alloc ?_ _)); exact BK361.out) hb); have n3_ := Aside0.mk (below_step (by repeat (first | (with_reducible first | exact HB.out | apply below_alloc | apply pw_below_drewN | apply below_drew1 | refine below_set ?_ GE347.out | refine below_set ?_ GE360.out | refine below_set ?_ GE361.out) | exact HB.out)) hb); clear BK347; clear BK360; clear BK361; clear HB; have BK347 := n0_; have BK360 := n1_; have BK361 := n2_; have HB := n3_; clear n0_ n1_ n2_ n3_; (try clear hb); (try clear hb2); (try clear hk); (try clear hi)))
                    go_meet
                    case rel => exact ⟨_, (t370), (by first | rfl | (simp; done) | (simp [*]; done) | (rw [show t370 = false from Option.some.inj (A83.out.symm.trans (Aside0.out (by assumption)))])), H', ⟨by have := HJ5.out; first | omega | exact Nat.le_refl _⟩, ⟨by (with_reducible repeat (first | refine blk_drewN ?_ _ | refine blk_drew ?_ | refine blk_alloc ?_ _)); exact BK347.out⟩, ⟨by (with_reducible repeat (first | refine blk_drewN ?_ _ | refine blk_drew ?_ | refine blk_alloc ?_ _)); exact BK360.out⟩, ⟨by (with_reducible repeat (first | refine blk_drewN ?_ _ | refine blk_drew ?_ | refine blk_alloc ?_ _)); exact BK361.out⟩, ⟨by repeat (first | (with_reducible first | exact HB.out | apply below_alloc | apply pw_below_drewN | apply below_drew1 | refine below_set ?_ GE347.out | refine below_set ?_ GE360.out | refine below_set ?_ GE361.out) | exact HB.out)⟩⟩
                · replace c65 := Bool.eq_false_iff.mpr c65
                  subst c65
                  have H1 : (laws_FnFacts.j1 kj5 false t339 t340 t341 t342 t343 t344 t348 t349 t350 t351 t352 t353 t354 t355 t356 t357 t358 t359) = some r := by rw [if_neg (show ¬ (false = true) by decide)] at H; exact H
                  clear H
                  have H := H1
                  clear H1
                  have H' := Aside0.mk H
                  clear H
                  have hnb102 := NB360_347.out
                  have hnc102 := NB347_360.out
                  have hnb103 := NB360_361.out
                  have hnc103 := NB361_360.out
                  have hcz104_0 : wc.cell? ⟨gb360, 0, none⟩ = some (.int .i64 t348) := (blk_cell BK360.out 0).trans rfl
                  have hcz104_1 : wc.cell? ⟨gb360, 1, none⟩ = some (.int .i64 t349) := (blk_cell BK360.out 1).trans rfl
                  have hcz104_2 : wc.cell? ⟨gb360, 2, none⟩ = some (.int .i64 t350) := (blk_cell BK360.out 2).trans rfl
                  have hcz104_3 : wc.cell? ⟨gb360, 3, none⟩ = some (.int .i64 t351) := (blk_cell BK360.out 3).trans rfl
                  have hcz104_4 : wc.cell? ⟨gb360, 4, none⟩ = some (.int .i64 t352) := (blk_cell BK360.out 4).trans rfl
                  have hcz104_5 : wc.cell? ⟨gb360, 5, none⟩ = some (.int .i64 t353) := (blk_cell BK360.out 5).trans rfl
                  have hfz104_0 := blk_frozen BK360.out 0
                  have hfz104_1 := blk_frozen BK360.out 1
                  have hfz104_2 := blk_frozen BK360.out 2
                  have hfz104_3 := blk_frozen BK360.out 3
                  have hfz104_4 := blk_frozen BK360.out 4
                  have hfz104_5 := blk_frozen BK360.out 5
                  have hnb105 := NB361_347.out
                  have hnc105 := NB347_361.out
                  have hcz106_0 : wc.cell? ⟨gb361, 0, none⟩ = some (.int .i64 t354) := (blk_cell BK361.out 0).trans rfl
                  have hcz106_1 : wc.cell? ⟨gb361, 1, none⟩ = some (.int .i64 t355) := (blk_cell BK361.out 1).trans rfl
                  have hcz106_2 : wc.cell? ⟨gb361, 2, none⟩ = some (.int .i64 t356) := (blk_cell BK361.out 2).trans rfl
                  have hcz106_3 : wc.cell? ⟨gb361, 3, none⟩ = some (.int .i64 t357) := (blk_cell BK361.out 3).trans rfl
                  have hcz106_4 : wc.cell? ⟨gb361, 4, none⟩ = some (.int .i64 t358) := (blk_cell BK361.out 4).trans rfl
                  have hcz106_5 : wc.cell? ⟨gb361, 5, none⟩ = some (.int .i64 t359) := (blk_cell BK361.out 5).trans rfl
                  have hfz106_0 := blk_frozen BK361.out 0
                  have hfz106_1 := blk_frozen BK361.out 1
                  have hfz106_2 := blk_frozen BK361.out 2
                  have hfz106_3 := blk_frozen BK361.out 3
                  have hfz106_4 := blk_frozen BK361.out 4
                  have hfz106_5 := blk_frozen BK361.out 5
                  go_wp2_with (first | ((with_reducible refine gate_callee (f := 21) rfl ?_); refine goesL_ (some 49) rfl rfl Tryd.func21 (by kernel_rfl) rfl #[.agg #[.int .i64 t348, .int .i64 t349, .int .i64 t350, .int .i64 t351, .int .i64 t352, .int .i64 t353], .agg #[.int .i64 t354, .int .i64 t355, .int .i64 t356, .int .i64 t357, .int .i64 t358, .int .i64 t359]] rfl (by (try simp only [List.map_toArray, List.map_cons, List.map_nil]); first | done | rfl | (simp only [List.length_drop, List.length_take]; rfl)) ?_; (with_reducible refine (impl_FactBefore.calls t348 t349 t350 t351 t352 t353 t354 t355 t356 t357 t358 t359 true _ A51.out).mono ?_); rintro e w107 ⟨rfl, hb⟩; refine ⟨_, rfl, ?_⟩; have n0_ := Aside0.mk (blk_below (g := gb347) (o := .cells #[.int .i64 t339, .int .i64 t340, .int .i64 t341, .int .i64 t342, .int .i64 t343, .int .i64 t344] 34 (0, 0)) (by (with_reducible repeat (first | refine blk_drewN ?_ _ | refine blk_drew ?_ | refine blk_alloc ?_ _)); exact BK347.out) hb); have n1_ := Aside0.mk (blk_below (g := gb360) (o := .cells #[.int .i64 t348, .int .i64 t349, .int .i64 t350, .int .i64 t351, .int .i64 t352, .int .i64 t353] 34 (0, 0)) (by (with_reducible repeat (first | refine blk_drewN ?_ _ | refine blk_drew ?_ | refine blk_alloc ?_ _)); exact BK360.out) hb); have n2_ := Aside0.mk (blk_below (g := gb361) (o := .cells #[.int .i64 t354, .int .i64 t355, .int .i64 t356, .int .i64 t357, .int .i64 t358, .int .i64 t359] 34 (0, 0)) (by (with_reducible repeat (first | refine blk_drewN ?_ _ | refine blk_drew ?_ | refine blk_alloc ?_ _)); exact BK361.out) hb); have n3_ := Aside0.mk (below_step (by repeat (first | (with_reducible first | exact HB.out | apply below_alloc | apply pw_below_drewN | apply below_drew1 | refine below_set ?_ GE347.out | refine below_set ?_ GE360.out | refine below_set ?_ GE361.out) | exact HB.out)) hb); clear BK347; clear BK360; clear BK361; clear HB; have BK347 := n0_; have BK360 := n1_; have BK361 := n2_; have HB := n3_; clear n0_ n1_ n2_ n3_; (try clear hb); (try clear hb2); (try clear hk); (try clear hi); have hcz108_0 : w107.cell? ⟨gb361, 0, none⟩ = some (.int .i64 t354) := (blk_cell BK361.out 0).trans rfl; have hcz108_1 : w107.cell? ⟨gb361, 1, none⟩ = some (.int .i64 t355) := (blk_cell BK361.out 1).trans rfl; have hcz108_2 : w107.cell? ⟨gb361, 2, none⟩ = some (.int .i64 t356) := (blk_cell BK361.out 2).trans rfl; have hcz108_3 : w107.cell? ⟨gb361, 3, none⟩ = some (.int .i64 t357) := (blk_cell BK361.out 3).trans rfl; have hcz108_4 : w107.cell? ⟨gb361, 4, none⟩ = some (.int .i64 t358) := (blk_cell BK361.out 4).trans rfl; have hcz108_5 : w107.cell? ⟨gb361, 5, none⟩ = some (.int .i64 t359) := (blk_cell BK361.out 5).trans rfl; have hfz108_0 := blk_frozen BK361.out 0; have hfz108_1 := blk_frozen BK361.out 1; have hfz108_2 := blk_frozen BK361.out 2; have hfz108_3 := blk_frozen BK361.out 3; have hfz108_4 := blk_frozen BK361.out 4; have hfz108_5 := blk_frozen BK361.out 5; have hcz109_0 : w107.cell? ⟨gb360, 0, none⟩ = some (.int .i64 t348) := (blk_cell BK360.out 0).trans rfl; have hcz109_1 : w107.cell? ⟨gb360, 1, none⟩ = some (.int .i64 t349) := (blk_cell BK360.out 1).trans rfl; have hcz109_2 : w107.cell? ⟨gb360, 2, none⟩ = some (.int .i64 t350) := (blk_cell BK360.out 2).trans rfl; have hcz109_3 : w107.cell? ⟨gb360, 3, none⟩ = some (.int .i64 t351) := (blk_cell BK360.out 3).trans rfl; have hcz109_4 : w107.cell? ⟨gb360, 4, none⟩ = some (.int .i64 t352) := (blk_cell BK360.out 4).trans rfl; have hcz109_5 : w107.cell? ⟨gb360, 5, none⟩ = some (.int .i64 t353) := (blk_cell BK360.out 5).trans rfl; have hfz109_0 := blk_frozen BK360.out 0; have hfz109_1 := blk_frozen BK360.out 1; have hfz109_2 := blk_frozen BK360.out 2; have hfz109_3 := blk_frozen BK360.out 3; have hfz109_4 := blk_frozen BK360.out 4; have hfz109_5 := blk_frozen BK360.out 5) | (go_at_call 21; (with_reducible refine (impl_FactBefore.calls t354 t355 t356 t357 t358 t359 t348 t349 t350 t351 t352 t353 false _ A53.out).mono ?_); rintro e w110 ⟨rfl, hb⟩; have n0_ := Aside0.mk (blk_below (g := gb347) (o := .cells #[.int .i64 t339, .int .i64 t340, .int .i64 t341, .int .i64 t342, .int .i64 t343, .int .i64 t344] 34 (0, 0)) (by (with_reducible repeat (first | refine blk_drewN ?_ _ | refine blk_drew ?_ | refine blk_alloc ?_ _)); exact BK347.out) hb); have n1_ := Aside0.mk (blk_below (g := gb360) (o := .cells #[.int .i64 t348, .int .i64 t349, .int .i64 t350, .int .i64 t351, .int .i64 t352, .int .i64 t353] 34 (0, 0)) (by (with_reducible repeat (first | refine blk_drewN ?_ _ | refine blk_drew ?_ | refine blk_alloc ?_ _)); exact BK360.out) hb); have n2_ := Aside0.mk (blk_below (g := gb361) (o := .cells #[.int .i64 t354, .int .i64 t355, .int .i64 t356, .int .i64 t357, .int .i64 t358, .int .i64 t359] 34 (0, 0)) (by (with_reducible repeat (first | refine blk_drewN ?_ _ | refine blk_drew ?_ | refine blk_alloc ?_ _)); exact BK361.out) hb); have n3_ := Aside0.mk (below_step (by repeat (first | (with_reducible first | exact HB.out | apply below_alloc | apply pw_below_drewN | apply below_drew1 | refine below_set ?_ GE347.out | refine below_set ?_ GE360.out | refine below_set ?_ GE361.out) | exact HB.out)) hb); clear BK347; clear BK360; clear BK361; clear HB; have BK347 := n0_; have BK360 := n1_; have BK361 := n2_; have HB := n3_; clear n0_ n1_ n2_ n3_; (try clear hb); (try clear hb2); (try clear hk); (try clear hi); have hcz111_0 : w110.cell? ⟨gb360, 0, none⟩ = some (.int .i64 t348) := (blk_cell BK360.out 0).trans rfl; have hcz111_1 : w110.cell? ⟨gb360, 1, none⟩ = some (.int .i64 t349) := (blk_cell BK360.out 1).trans rfl; have hcz111_2 : w110.cell? ⟨gb360, 2, none⟩ = some (.int .i64 t350) := (blk_cell BK360.out 2).trans rfl; have hcz111_3 : w110.cell? ⟨gb360, 3, none⟩ = some (.int .i64 t351) := (blk_cell BK360.out 3).trans rfl; have hcz111_4 : w110.cell? ⟨gb360, 4, none⟩ = some (.int .i64 t352) := (blk_cell BK360.out 4).trans rfl; have hcz111_5 : w110.cell? ⟨gb360, 5, none⟩ = some (.int .i64 t353) := (blk_cell BK360.out 5).trans rfl; have hfz111_0 := blk_frozen BK360.out 0; have hfz111_1 := blk_frozen BK360.out 1; have hfz111_2 := blk_frozen BK360.out 2; have hfz111_3 := blk_frozen BK360.out 3; have hfz111_4 := blk_frozen BK360.out 4; have hfz111_5 := blk_frozen BK360.out 5; have hcz112_0 : w110.cell? ⟨gb361, 0, none⟩ = some (.int .i64 t354) := (blk_cell BK361.out 0).trans rfl; have hcz112_1 : w110.cell? ⟨gb361, 1, none⟩ = some (.int .i64 t355) := (blk_cell BK361.out 1).trans rfl; have hcz112_2 : w110.cell? ⟨gb361, 2, none⟩ = some (.int .i64 t356) := (blk_cell BK361.out 2).trans rfl; have hcz112_3 : w110.cell? ⟨gb361, 3, none⟩ = some (.int .i64 t357) := (blk_cell BK361.out 3).trans rfl; have hcz112_4 : w110.cell? ⟨gb361, 4, none⟩ = some (.int .i64 t358) := (blk_cell BK361.out 4).trans rfl; have hcz112_5 : w110.cell? ⟨gb361, 5, none⟩ = some (.int .i64 t359) := (blk_cell BK361.out 5).trans rfl; have hfz112_0 := blk_frozen BK361.out 0; have hfz112_1 := blk_frozen BK361.out 1; have hfz112_2 := blk_frozen BK361.out 2; have hfz112_3 := blk_frozen BK361.out 3; have hfz112_4 := blk_frozen BK361.out 4; have hfz112_5 := blk_frozen BK361.out 5) | (go_at_call 22; (with_reducible refine (impl_SameClaim.calls t348 t349 t350 t351 t352 t353 t354 t355 t356 t357 t358 t359 false _ A64.out).mono ?_); rintro e w113 ⟨rfl, hb⟩; have n0_ := Aside0.mk (blk_below (g := gb347) (o := .cells #[.int .i64 t339, .int .i64 t340, .int .i64 t341, .int .i64 t342, .int .i64 t343, .int .i64 t344] 34 (0, 0)) (by (with_reducible repeat (first | refine blk_drewN ?_ _ | refine blk_drew ?_ | refine blk_alloc ?_ _)); exact BK347.out) hb); have n1_ := Aside0.mk (blk_below (g := gb360) (o := .cells #[.int .i64 t348, .int .i64 t349, .int .i64 t350, .int .i64 t351, .int .i64 t352, .int .i64 t353] 34 (0, 0)) (by (with_reducible repeat (first | refine blk_drewN ?_ _ | refine blk_drew ?_ | refine blk_alloc ?_ _)); exact BK360.out) hb); have n2_ := Aside0.mk (blk_below (g := gb361) (o := .cells #[.int .i64 t354, .int .i64 t355, .int .i64 t356, .int .i64 t357, .int .i64 t358, .int .i64 t359] 34 (0, 0)) (by (with_reducible repeat (first | refine blk_drewN ?_ _ | refine blk_drew ?_ | refine blk_alloc ?_ _)); exact BK361.out) hb); have n3_ := Aside0.mk (below_step (by repeat (first | (with_reducible first | exact HB.out | apply below_alloc | apply pw_below_drewN | apply below_drew1 | refine below_set ?_ GE347.out | refine below_set ?_ GE360.out | refine below_set ?_ GE361.out) | exact HB.out)) hb); clear BK347; clear BK360; clear BK361; clear HB; have BK347 := n0_; have BK360 := n1_; have BK361 := n2_; have HB := n3_; clear n0_ n1_ n2_ n3_; (try clear hb); (try clear hb2); (try clear hk); (try clear hi)))
                  go_meet
                  case rel => exact ⟨_, (false), (by first | rfl | (simp; done) | (simp [*]; done)), H', ⟨by have := HJ5.out; first | omega | exact Nat.le_refl _⟩, ⟨by (with_reducible repeat (first | refine blk_drewN ?_ _ | refine blk_drew ?_ | refine blk_alloc ?_ _)); exact BK347.out⟩, ⟨by (with_reducible repeat (first | refine blk_drewN ?_ _ | refine blk_drew ?_ | refine blk_alloc ?_ _)); exact BK360.out⟩, ⟨by (with_reducible repeat (first | refine blk_drewN ?_ _ | refine blk_drew ?_ | refine blk_alloc ?_ _)); exact BK361.out⟩, ⟨by repeat (first | (with_reducible first | exact HB.out | apply below_alloc | apply pw_below_drewN | apply below_drew1 | refine below_set ?_ GE347.out | refine below_set ?_ GE360.out | refine below_set ?_ GE361.out) | exact HB.out)⟩⟩
            · replace c52 := Bool.eq_false_iff.mpr c52
              subst c52
              have H1 : ((impl_SameClaim.f t348 t349 t350 t351 t352 t353 t354 t355 t356 t357 t358 t359).bind fun t371 => (if t371 = true then ((impl_FactBefore.f t348 t349 t350 t351 t352 t353 t354 t355 t356 t357 t358 t359).bind fun t372 => (if t372 = true then (laws_FnFacts.j1 kj5 true t339 t340 t341 t342 t343 t344 t348 t349 t350 t351 t352 t353 t354 t355 t356 t357 t358 t359) else ((impl_FactBefore.f t354 t355 t356 t357 t358 t359 t348 t349 t350 t351 t352 t353).bind fun t373 => (laws_FnFacts.j1 kj5 t373 t339 t340 t341 t342 t343 t344 t348 t349 t350 t351 t352 t353 t354 t355 t356 t357 t358 t359)))) else (laws_FnFacts.j1 kj5 false t339 t340 t341 t342 t343 t344 t348 t349 t350 t351 t352 t353 t354 t355 t356 t357 t358 t359))) = some r := by rw [if_neg (show ¬ (false = true) by decide)] at H; exact H
              clear H
              have H := H1
              clear H1
              replace H := Option.bind_eq_some_iff.mp H
              obtain ⟨t371, A1140, H⟩ := H
              replace H : (if t371 = true then ((impl_FactBefore.f t348 t349 t350 t351 t352 t353 t354 t355 t356 t357 t358 t359).bind fun t372 => (if t372 = true then (laws_FnFacts.j1 kj5 true t339 t340 t341 t342 t343 t344 t348 t349 t350 t351 t352 t353 t354 t355 t356 t357 t358 t359) else ((impl_FactBefore.f t354 t355 t356 t357 t358 t359 t348 t349 t350 t351 t352 t353).bind fun t373 => (laws_FnFacts.j1 kj5 t373 t339 t340 t341 t342 t343 t344 t348 t349 t350 t351 t352 t353 t354 t355 t356 t357 t358 t359)))) else (laws_FnFacts.j1 kj5 false t339 t340 t341 t342 t343 t344 t348 t349 t350 t351 t352 t353 t354 t355 t356 t357 t358 t359)) = some r := H
              have A114 := Aside0.mk A1140
              clear A1140
              by_cases c115 : t371 = true
              · subst c115
                have H1 : ((impl_FactBefore.f t348 t349 t350 t351 t352 t353 t354 t355 t356 t357 t358 t359).bind fun t372 => (if t372 = true then (laws_FnFacts.j1 kj5 true t339 t340 t341 t342 t343 t344 t348 t349 t350 t351 t352 t353 t354 t355 t356 t357 t358 t359) else ((impl_FactBefore.f t354 t355 t356 t357 t358 t359 t348 t349 t350 t351 t352 t353).bind fun t373 => (laws_FnFacts.j1 kj5 t373 t339 t340 t341 t342 t343 t344 t348 t349 t350 t351 t352 t353 t354 t355 t356 t357 t358 t359)))) = some r := by rw [if_pos rfl] at H; exact H
                clear H
                have H := H1
                clear H1
                replace H := Option.bind_eq_some_iff.mp H
                obtain ⟨t372, A1160, H⟩ := H
                replace H : (if t372 = true then (laws_FnFacts.j1 kj5 true t339 t340 t341 t342 t343 t344 t348 t349 t350 t351 t352 t353 t354 t355 t356 t357 t358 t359) else ((impl_FactBefore.f t354 t355 t356 t357 t358 t359 t348 t349 t350 t351 t352 t353).bind fun t373 => (laws_FnFacts.j1 kj5 t373 t339 t340 t341 t342 t343 t344 t348 t349 t350 t351 t352 t353 t354 t355 t356 t357 t358 t359))) = some r := H
                have A116 := Aside0.mk A1160
                clear A1160
                by_cases c117 : t372 = true
                · subst c117
                  have H1 : (laws_FnFacts.j1 kj5 true t339 t340 t341 t342 t343 t344 t348 t349 t350 t351 t352 t353 t354 t355 t356 t357 t358 t359) = some r := by rw [if_pos rfl] at H; exact H
                  clear H
                  have H := H1
                  clear H1
                  have H' := Aside0.mk H
                  clear H
                  have hnb118 := NB360_347.out
                  have hnc118 := NB347_360.out
                  have hnb119 := NB360_361.out
                  have hnc119 := NB361_360.out
                  have hcz120_0 : wc.cell? ⟨gb360, 0, none⟩ = some (.int .i64 t348) := (blk_cell BK360.out 0).trans rfl
                  have hcz120_1 : wc.cell? ⟨gb360, 1, none⟩ = some (.int .i64 t349) := (blk_cell BK360.out 1).trans rfl
                  have hcz120_2 : wc.cell? ⟨gb360, 2, none⟩ = some (.int .i64 t350) := (blk_cell BK360.out 2).trans rfl
                  have hcz120_3 : wc.cell? ⟨gb360, 3, none⟩ = some (.int .i64 t351) := (blk_cell BK360.out 3).trans rfl
                  have hcz120_4 : wc.cell? ⟨gb360, 4, none⟩ = some (.int .i64 t352) := (blk_cell BK360.out 4).trans rfl
                  have hcz120_5 : wc.cell? ⟨gb360, 5, none⟩ = some (.int .i64 t353) := (blk_cell BK360.out 5).trans rfl
                  have hfz120_0 := blk_frozen BK360.out 0
                  have hfz120_1 := blk_frozen BK360.out 1
                  have hfz120_2 := blk_frozen BK360.out 2
                  have hfz120_3 := blk_frozen BK360.out 3
                  have hfz120_4 := blk_frozen BK360.out 4
                  have hfz120_5 := blk_frozen BK360.out 5
                  have hnb121 := NB361_347.out
                  have hnc121 := NB347_361.out
                  have hcz122_0 : wc.cell? ⟨gb361, 0, none⟩ = some (.int .i64 t354) := (blk_cell BK361.out 0).trans rfl
                  have hcz122_1 : wc.cell? ⟨gb361, 1, none⟩ = some (.int .i64 t355) := (blk_cell BK361.out 1).trans rfl
                  have hcz122_2 : wc.cell? ⟨gb361, 2, none⟩ = some (.int .i64 t356) := (blk_cell BK361.out 2).trans rfl
                  have hcz122_3 : wc.cell? ⟨gb361, 3, none⟩ = some (.int .i64 t357) := (blk_cell BK361.out 3).trans rfl
                  have hcz122_4 : wc.cell? ⟨gb361, 4, none⟩ = some (.int .i64 t358) := (blk_cell BK361.out 4).trans rfl
                  have hcz122_5 : wc.cell? ⟨gb361, 5, none⟩ = some (.int .i64 t359) := (blk_cell BK361.out 5).trans rfl
                  have hfz122_0 := blk_frozen BK361.out 0
                  have hfz122_1 := blk_frozen BK361.out 1
                  have hfz122_2 := blk_frozen BK361.out 2
                  have hfz122_3 := blk_frozen BK361.out 3
                  have hfz122_4 := blk_frozen BK361.out 4
                  have hfz122_5 := blk_frozen BK361.out 5
                  go_wp2_with (first | ((with_reducible refine gate_callee (f := 21) rfl ?_); refine goesL_ (some 49) rfl rfl Tryd.func21 (by kernel_rfl) rfl #[.agg #[.int .i64 t348, .int .i64 t349, .int .i64 t350, .int .i64 t351, .int .i64 t352, .int .i64 t353], .agg #[.int .i64 t354, .int .i64 t355, .int .i64 t356, .int .i64 t357, .int .i64 t358, .int .i64 t359]] rfl (by (try simp only [List.map_toArray, List.map_cons, List.map_nil]); first | done | rfl | (simp only [List.length_drop, List.length_take]; rfl)) ?_; (with_reducible refine (impl_FactBefore.calls t348 t349 t350 t351 t352 t353 t354 t355 t356 t357 t358 t359 false _ A51.out).mono ?_); rintro e w123 ⟨rfl, hb⟩; refine ⟨_, rfl, ?_⟩; have n0_ := Aside0.mk (blk_below (g := gb347) (o := .cells #[.int .i64 t339, .int .i64 t340, .int .i64 t341, .int .i64 t342, .int .i64 t343, .int .i64 t344] 34 (0, 0)) (by (with_reducible repeat (first | refine blk_drewN ?_ _ | refine blk_drew ?_ | refine blk_alloc ?_ _)); exact BK347.out) hb); have n1_ := Aside0.mk (blk_below (g := gb360) (o := .cells #[.int .i64 t348, .int .i64 t349, .int .i64 t350, .int .i64 t351, .int .i64 t352, .int .i64 t353] 34 (0, 0)) (by (with_reducible repeat (first | refine blk_drewN ?_ _ | refine blk_drew ?_ | refine blk_alloc ?_ _)); exact BK360.out) hb); have n2_ := Aside0.mk (blk_below (g := gb361) (o := .cells #[.int .i64 t354, .int .i64 t355, .int .i64 t356, .int .i64 t357, .int .i64 t358, .int .i64 t359] 34 (0, 0)) (by (with_reducible repeat (first | refine blk_drewN ?_ _ | refine blk_drew ?_ | refine blk_alloc ?_ _)); exact BK361.out) hb); have n3_ := Aside0.mk (below_step (by repeat (first | (with_reducible first | exact HB.out | apply below_alloc | apply pw_below_drewN | apply below_drew1 | refine below_set ?_ GE347.out | refine below_set ?_ GE360.out | refine below_set ?_ GE361.out) | exact HB.out)) hb); clear BK347; clear BK360; clear BK361; clear HB; have BK347 := n0_; have BK360 := n1_; have BK361 := n2_; have HB := n3_; clear n0_ n1_ n2_ n3_; (try clear hb); (try clear hb2); (try clear hk); (try clear hi); have hcz124_0 : w123.cell? ⟨gb360, 0, none⟩ = some (.int .i64 t348) := (blk_cell BK360.out 0).trans rfl; have hcz124_1 : w123.cell? ⟨gb360, 1, none⟩ = some (.int .i64 t349) := (blk_cell BK360.out 1).trans rfl; have hcz124_2 : w123.cell? ⟨gb360, 2, none⟩ = some (.int .i64 t350) := (blk_cell BK360.out 2).trans rfl; have hcz124_3 : w123.cell? ⟨gb360, 3, none⟩ = some (.int .i64 t351) := (blk_cell BK360.out 3).trans rfl; have hcz124_4 : w123.cell? ⟨gb360, 4, none⟩ = some (.int .i64 t352) := (blk_cell BK360.out 4).trans rfl; have hcz124_5 : w123.cell? ⟨gb360, 5, none⟩ = some (.int .i64 t353) := (blk_cell BK360.out 5).trans rfl; have hfz124_0 := blk_frozen BK360.out 0; have hfz124_1 := blk_frozen BK360.out 1; have hfz124_2 := blk_frozen BK360.out 2; have hfz124_3 := blk_frozen BK360.out 3; have hfz124_4 := blk_frozen BK360.out 4; have hfz124_5 := blk_frozen BK360.out 5; have hcz125_0 : w123.cell? ⟨gb361, 0, none⟩ = some (.int .i64 t354) := (blk_cell BK361.out 0).trans rfl; have hcz125_1 : w123.cell? ⟨gb361, 1, none⟩ = some (.int .i64 t355) := (blk_cell BK361.out 1).trans rfl; have hcz125_2 : w123.cell? ⟨gb361, 2, none⟩ = some (.int .i64 t356) := (blk_cell BK361.out 2).trans rfl; have hcz125_3 : w123.cell? ⟨gb361, 3, none⟩ = some (.int .i64 t357) := (blk_cell BK361.out 3).trans rfl; have hcz125_4 : w123.cell? ⟨gb361, 4, none⟩ = some (.int .i64 t358) := (blk_cell BK361.out 4).trans rfl; have hcz125_5 : w123.cell? ⟨gb361, 5, none⟩ = some (.int .i64 t359) := (blk_cell BK361.out 5).trans rfl; have hfz125_0 := blk_frozen BK361.out 0; have hfz125_1 := blk_frozen BK361.out 1; have hfz125_2 := blk_frozen BK361.out 2; have hfz125_3 := blk_frozen BK361.out 3; have hfz125_4 := blk_frozen BK361.out 4; have hfz125_5 := blk_frozen BK361.out 5) | (go_at_call 22; (with_reducible refine (impl_SameClaim.calls t348 t349 t350 t351 t352 t353 t354 t355 t356 t357 t358 t359 true _ A114.out).mono ?_); rintro e w126 ⟨rfl, hb⟩; have n0_ := Aside0.mk (blk_below (g := gb347) (o := .cells #[.int .i64 t339, .int .i64 t340, .int .i64 t341, .int .i64 t342, .int .i64 t343, .int .i64 t344] 34 (0, 0)) (by (with_reducible repeat (first | refine blk_drewN ?_ _ | refine blk_drew ?_ | refine blk_alloc ?_ _)); exact BK347.out) hb); have n1_ := Aside0.mk (blk_below (g := gb360) (o := .cells #[.int .i64 t348, .int .i64 t349, .int .i64 t350, .int .i64 t351, .int .i64 t352, .int .i64 t353] 34 (0, 0)) (by (with_reducible repeat (first | refine blk_drewN ?_ _ | refine blk_drew ?_ | refine blk_alloc ?_ _)); exact BK360.out) hb); have n2_ := Aside0.mk (blk_below (g := gb361) (o := .cells #[.int .i64 t354, .int .i64 t355, .int .i64 t356, .int .i64 t357, .int .i64 t358, .int .i64 t359] 34 (0, 0)) (by (with_reducible repeat (first | refine blk_drewN ?_ _ | refine blk_drew ?_ | refine blk_alloc ?_ _)); exact BK361.out) hb); have n3_ := Aside0.mk (below_step (by repeat (first | (with_reducible first | exact HB.out | apply below_alloc | apply pw_below_drewN | apply below_drew1 | refine below_set ?_ GE347.out | refine below_set ?_ GE360.out | refine below_set ?_ GE361.out) | exact HB.out)) hb); clear BK347; clear BK360; clear BK361; clear HB; have BK347 := n0_; have BK360 := n1_; have BK361 := n2_; have HB := n3_; clear n0_ n1_ n2_ n3_; (try clear hb); (try clear hb2); (try clear hk); (try clear hi); have hcz127_0 : w126.cell? ⟨gb360, 0, none⟩ = some (.int .i64 t348) := (blk_cell BK360.out 0).trans rfl; have hcz127_1 : w126.cell? ⟨gb360, 1, none⟩ = some (.int .i64 t349) := (blk_cell BK360.out 1).trans rfl; have hcz127_2 : w126.cell? ⟨gb360, 2, none⟩ = some (.int .i64 t350) := (blk_cell BK360.out 2).trans rfl; have hcz127_3 : w126.cell? ⟨gb360, 3, none⟩ = some (.int .i64 t351) := (blk_cell BK360.out 3).trans rfl; have hcz127_4 : w126.cell? ⟨gb360, 4, none⟩ = some (.int .i64 t352) := (blk_cell BK360.out 4).trans rfl; have hcz127_5 : w126.cell? ⟨gb360, 5, none⟩ = some (.int .i64 t353) := (blk_cell BK360.out 5).trans rfl; have hfz127_0 := blk_frozen BK360.out 0; have hfz127_1 := blk_frozen BK360.out 1; have hfz127_2 := blk_frozen BK360.out 2; have hfz127_3 := blk_frozen BK360.out 3; have hfz127_4 := blk_frozen BK360.out 4; have hfz127_5 := blk_frozen BK360.out 5; have hcz128_0 : w126.cell? ⟨gb361, 0, none⟩ = some (.int .i64 t354) := (blk_cell BK361.out 0).trans rfl; have hcz128_1 : w126.cell? ⟨gb361, 1, none⟩ = some (.int .i64 t355) := (blk_cell BK361.out 1).trans rfl; have hcz128_2 : w126.cell? ⟨gb361, 2, none⟩ = some (.int .i64 t356) := (blk_cell BK361.out 2).trans rfl; have hcz128_3 : w126.cell? ⟨gb361, 3, none⟩ = some (.int .i64 t357) := (blk_cell BK361.out 3).trans rfl; have hcz128_4 : w126.cell? ⟨gb361, 4, none⟩ = some (.int .i64 t358) := (blk_cell BK361.out 4).trans rfl; have hcz128_5 : w126.cell? ⟨gb361, 5, none⟩ = some (.int .i64 t359) := (blk_cell BK361.out 5).trans rfl; have hfz128_0 := blk_frozen BK361.out 0; have hfz128_1 := blk_frozen BK361.out 1; have hfz128_2 := blk_frozen BK361.out 2; have hfz128_3 := blk_frozen BK361.out 3; have hfz128_4 := blk_frozen BK361.out 4; have hfz128_5 := blk_frozen BK361.out 5) | (go_at_call 21; (with_reducible refine (impl_FactBefore.calls t348 t349 t350 t351 t352 t353 t354 t355 t356 t357 t358 t359 true _ A116.out).mono ?_); rintro e w129 ⟨rfl, hb⟩; have n0_ := Aside0.mk (blk_below (g := gb347) (o := .cells #[.int .i64 t339, .int .i64 t340, .int .i64 t341, .int .i64 t342, .int .i64 t343, .int .i64 t344] 34 (0, 0)) (by (with_reducible repeat (first | refine blk_drewN ?_ _ | refine blk_drew ?_ | refine blk_alloc ?_ _)); exact BK347.out) hb); have n1_ := Aside0.mk (blk_below (g := gb360) (o := .cells #[.int .i64 t348, .int .i64 t349, .int .i64 t350, .int .i64 t351, .int .i64 t352, .int .i64 t353] 34 (0, 0)) (by (with_reducible repeat (first | refine blk_drewN ?_ _ | refine blk_drew ?_ | refine blk_alloc ?_ _)); exact BK360.out) hb); have n2_ := Aside0.mk (blk_below (g := gb361) (o := .cells #[.int .i64 t354, .int .i64 t355, .int .i64 t356, .int .i64 t357, .int .i64 t358, .int .i64 t359] 34 (0, 0)) (by (with_reducible repeat (first | refine blk_drewN ?_ _ | refine blk_drew ?_ | refine blk_alloc ?_ _)); exact BK361.out) hb); have n3_ := Aside0.mk (below_step (by repeat (first | (with_reducible first | exact HB.out | apply below_alloc | apply pw_below_drewN | apply below_drew1 | refine below_set ?_ GE347.out | refine below_set ?_ GE360.out | refine below_set ?_ GE361.out) | exact HB.out)) hb); clear BK347; clear BK360; clear BK361; clear HB; have BK347 := n0_; have BK360 := n1_; have BK361 := n2_; have HB := n3_; clear n0_ n1_ n2_ n3_; (try clear hb); (try clear hb2); (try clear hk); (try clear hi)))
                  go_meet
                  case rel => exact ⟨_, (true), (by first | rfl | (simp; done) | (simp [*]; done)), H', ⟨by have := HJ5.out; first | omega | exact Nat.le_refl _⟩, ⟨by (with_reducible repeat (first | refine blk_drewN ?_ _ | refine blk_drew ?_ | refine blk_alloc ?_ _)); exact BK347.out⟩, ⟨by (with_reducible repeat (first | refine blk_drewN ?_ _ | refine blk_drew ?_ | refine blk_alloc ?_ _)); exact BK360.out⟩, ⟨by (with_reducible repeat (first | refine blk_drewN ?_ _ | refine blk_drew ?_ | refine blk_alloc ?_ _)); exact BK361.out⟩, ⟨by repeat (first | (with_reducible first | exact HB.out | apply below_alloc | apply pw_below_drewN | apply below_drew1 | refine below_set ?_ GE347.out | refine below_set ?_ GE360.out | refine below_set ?_ GE361.out) | exact HB.out)⟩⟩
                · replace c117 := Bool.eq_false_iff.mpr c117
                  subst c117
                  have H1 : ((impl_FactBefore.f t354 t355 t356 t357 t358 t359 t348 t349 t350 t351 t352 t353).bind fun t373 => (laws_FnFacts.j1 kj5 t373 t339 t340 t341 t342 t343 t344 t348 t349 t350 t351 t352 t353 t354 t355 t356 t357 t358 t359)) = some r := by rw [if_neg (show ¬ (false = true) by decide)] at H; exact H
                  clear H
                  have H := H1
                  clear H1
                  replace H := Option.bind_eq_some_iff.mp H
                  obtain ⟨t373, A1300, H⟩ := H
                  replace H : (laws_FnFacts.j1 kj5 t373 t339 t340 t341 t342 t343 t344 t348 t349 t350 t351 t352 t353 t354 t355 t356 t357 t358 t359) = some r := H
                  have A130 := Aside0.mk A1300
                  clear A1300
                  have H' := Aside0.mk H
                  clear H
                  have hnb131 := NB360_347.out
                  have hnc131 := NB347_360.out
                  have hnb132 := NB360_361.out
                  have hnc132 := NB361_360.out
                  have hcz133_0 : wc.cell? ⟨gb360, 0, none⟩ = some (.int .i64 t348) := (blk_cell BK360.out 0).trans rfl
                  have hcz133_1 : wc.cell? ⟨gb360, 1, none⟩ = some (.int .i64 t349) := (blk_cell BK360.out 1).trans rfl
                  have hcz133_2 : wc.cell? ⟨gb360, 2, none⟩ = some (.int .i64 t350) := (blk_cell BK360.out 2).trans rfl
                  have hcz133_3 : wc.cell? ⟨gb360, 3, none⟩ = some (.int .i64 t351) := (blk_cell BK360.out 3).trans rfl
                  have hcz133_4 : wc.cell? ⟨gb360, 4, none⟩ = some (.int .i64 t352) := (blk_cell BK360.out 4).trans rfl
                  have hcz133_5 : wc.cell? ⟨gb360, 5, none⟩ = some (.int .i64 t353) := (blk_cell BK360.out 5).trans rfl
                  have hfz133_0 := blk_frozen BK360.out 0
                  have hfz133_1 := blk_frozen BK360.out 1
                  have hfz133_2 := blk_frozen BK360.out 2
                  have hfz133_3 := blk_frozen BK360.out 3
                  have hfz133_4 := blk_frozen BK360.out 4
                  have hfz133_5 := blk_frozen BK360.out 5
                  have hnb134 := NB361_347.out
                  have hnc134 := NB347_361.out
                  have hcz135_0 : wc.cell? ⟨gb361, 0, none⟩ = some (.int .i64 t354) := (blk_cell BK361.out 0).trans rfl
                  have hcz135_1 : wc.cell? ⟨gb361, 1, none⟩ = some (.int .i64 t355) := (blk_cell BK361.out 1).trans rfl
                  have hcz135_2 : wc.cell? ⟨gb361, 2, none⟩ = some (.int .i64 t356) := (blk_cell BK361.out 2).trans rfl
                  have hcz135_3 : wc.cell? ⟨gb361, 3, none⟩ = some (.int .i64 t357) := (blk_cell BK361.out 3).trans rfl
                  have hcz135_4 : wc.cell? ⟨gb361, 4, none⟩ = some (.int .i64 t358) := (blk_cell BK361.out 4).trans rfl
                  have hcz135_5 : wc.cell? ⟨gb361, 5, none⟩ = some (.int .i64 t359) := (blk_cell BK361.out 5).trans rfl
                  have hfz135_0 := blk_frozen BK361.out 0
                  have hfz135_1 := blk_frozen BK361.out 1
                  have hfz135_2 := blk_frozen BK361.out 2
                  have hfz135_3 := blk_frozen BK361.out 3
                  have hfz135_4 := blk_frozen BK361.out 4
                  have hfz135_5 := blk_frozen BK361.out 5
                  go_wp2_with (first | ((with_reducible refine gate_callee (f := 21) rfl ?_); refine goesL_ (some 49) rfl rfl Tryd.func21 (by kernel_rfl) rfl #[.agg #[.int .i64 t348, .int .i64 t349, .int .i64 t350, .int .i64 t351, .int .i64 t352, .int .i64 t353], .agg #[.int .i64 t354, .int .i64 t355, .int .i64 t356, .int .i64 t357, .int .i64 t358, .int .i64 t359]] rfl (by (try simp only [List.map_toArray, List.map_cons, List.map_nil]); first | done | rfl | (simp only [List.length_drop, List.length_take]; rfl)) ?_; (with_reducible refine (impl_FactBefore.calls t348 t349 t350 t351 t352 t353 t354 t355 t356 t357 t358 t359 false _ A51.out).mono ?_); rintro e w136 ⟨rfl, hb⟩; refine ⟨_, rfl, ?_⟩; have n0_ := Aside0.mk (blk_below (g := gb347) (o := .cells #[.int .i64 t339, .int .i64 t340, .int .i64 t341, .int .i64 t342, .int .i64 t343, .int .i64 t344] 34 (0, 0)) (by (with_reducible repeat (first | refine blk_drewN ?_ _ | refine blk_drew ?_ | refine blk_alloc ?_ _)); exact BK347.out) hb); have n1_ := Aside0.mk (blk_below (g := gb360) (o := .cells #[.int .i64 t348, .int .i64 t349, .int .i64 t350, .int .i64 t351, .int .i64 t352, .int .i64 t353] 34 (0, 0)) (by (with_reducible repeat (first | refine blk_drewN ?_ _ | refine blk_drew ?_ | refine blk_alloc ?_ _)); exact BK360.out) hb); have n2_ := Aside0.mk (blk_below (g := gb361) (o := .cells #[.int .i64 t354, .int .i64 t355, .int .i64 t356, .int .i64 t357, .int .i64 t358, .int .i64 t359] 34 (0, 0)) (by (with_reducible repeat (first | refine blk_drewN ?_ _ | refine blk_drew ?_ | refine blk_alloc ?_ _)); exact BK361.out) hb); have n3_ := Aside0.mk (below_step (by repeat (first | (with_reducible first | exact HB.out | apply below_alloc | apply pw_below_drewN | apply below_drew1 | refine below_set ?_ GE347.out | refine below_set ?_ GE360.out | refine below_set ?_ GE361.out) | exact HB.out)) hb); clear BK347; clear BK360; clear BK361; clear HB; have BK347 := n0_; have BK360 := n1_; have BK361 := n2_; have HB := n3_; clear n0_ n1_ n2_ n3_; (try clear hb); (try clear hb2); (try clear hk); (try clear hi); have hcz137_0 : w136.cell? ⟨gb360, 0, none⟩ = some (.int .i64 t348) := (blk_cell BK360.out 0).trans rfl; have hcz137_1 : w136.cell? ⟨gb360, 1, none⟩ = some (.int .i64 t349) := (blk_cell BK360.out 1).trans rfl; have hcz137_2 : w136.cell? ⟨gb360, 2, none⟩ = some (.int .i64 t350) := (blk_cell BK360.out 2).trans rfl; have hcz137_3 : w136.cell? ⟨gb360, 3, none⟩ = some (.int .i64 t351) := (blk_cell BK360.out 3).trans rfl; have hcz137_4 : w136.cell? ⟨gb360, 4, none⟩ = some (.int .i64 t352) := (blk_cell BK360.out 4).trans rfl; have hcz137_5 : w136.cell? ⟨gb360, 5, none⟩ = some (.int .i64 t353) := (blk_cell BK360.out 5).trans rfl; have hfz137_0 := blk_frozen BK360.out 0; have hfz137_1 := blk_frozen BK360.out 1; have hfz137_2 := blk_frozen BK360.out 2; have hfz137_3 := blk_frozen BK360.out 3; have hfz137_4 := blk_frozen BK360.out 4; have hfz137_5 := blk_frozen BK360.out 5; have hcz138_0 : w136.cell? ⟨gb361, 0, none⟩ = some (.int .i64 t354) := (blk_cell BK361.out 0).trans rfl; have hcz138_1 : w136.cell? ⟨gb361, 1, none⟩ = some (.int .i64 t355) := (blk_cell BK361.out 1).trans rfl; have hcz138_2 : w136.cell? ⟨gb361, 2, none⟩ = some (.int .i64 t356) := (blk_cell BK361.out 2).trans rfl; have hcz138_3 : w136.cell? ⟨gb361, 3, none⟩ = some (.int .i64 t357) := (blk_cell BK361.out 3).trans rfl; have hcz138_4 : w136.cell? ⟨gb361, 4, none⟩ = some (.int .i64 t358) := (blk_cell BK361.out 4).trans rfl; have hcz138_5 : w136.cell? ⟨gb361, 5, none⟩ = some (.int .i64 t359) := (blk_cell BK361.out 5).trans rfl; have hfz138_0 := blk_frozen BK361.out 0; have hfz138_1 := blk_frozen BK361.out 1; have hfz138_2 := blk_frozen BK361.out 2; have hfz138_3 := blk_frozen BK361.out 3; have hfz138_4 := blk_frozen BK361.out 4; have hfz138_5 := blk_frozen BK361.out 5) | (go_at_call 22; (with_reducible refine (impl_SameClaim.calls t348 t349 t350 t351 t352 t353 t354 t355 t356 t357 t358 t359 true _ A114.out).mono ?_); rintro e w139 ⟨rfl, hb⟩; have n0_ := Aside0.mk (blk_below (g := gb347) (o := .cells #[.int .i64 t339, .int .i64 t340, .int .i64 t341, .int .i64 t342, .int .i64 t343, .int .i64 t344] 34 (0, 0)) (by (with_reducible repeat (first | refine blk_drewN ?_ _ | refine blk_drew ?_ | refine blk_alloc ?_ _)); exact BK347.out) hb); have n1_ := Aside0.mk (blk_below (g := gb360) (o := .cells #[.int .i64 t348, .int .i64 t349, .int .i64 t350, .int .i64 t351, .int .i64 t352, .int .i64 t353] 34 (0, 0)) (by (with_reducible repeat (first | refine blk_drewN ?_ _ | refine blk_drew ?_ | refine blk_alloc ?_ _)); exact BK360.out) hb); have n2_ := Aside0.mk (blk_below (g := gb361) (o := .cells #[.int .i64 t354, .int .i64 t355, .int .i64 t356, .int .i64 t357, .int .i64 t358, .int .i64 t359] 34 (0, 0)) (by (with_reducible repeat (first | refine blk_drewN ?_ _ | refine blk_drew ?_ | refine blk_alloc ?_ _)); exact BK361.out) hb); have n3_ := Aside0.mk (below_step (by repeat (first | (with_reducible first | exact HB.out | apply below_alloc | apply pw_below_drewN | apply below_drew1 | refine below_set ?_ GE347.out | refine below_set ?_ GE360.out | refine below_set ?_ GE361.out) | exact HB.out)) hb); clear BK347; clear BK360; clear BK361; clear HB; have BK347 := n0_; have BK360 := n1_; have BK361 := n2_; have HB := n3_; clear n0_ n1_ n2_ n3_; (try clear hb); (try clear hb2); (try clear hk); (try clear hi); have hcz140_0 : w139.cell? ⟨gb360, 0, none⟩ = some (.int .i64 t348) := (blk_cell BK360.out 0).trans rfl; have hcz140_1 : w139.cell? ⟨gb360, 1, none⟩ = some (.int .i64 t349) := (blk_cell BK360.out 1).trans rfl; have hcz140_2 : w139.cell? ⟨gb360, 2, none⟩ = some (.int .i64 t350) := (blk_cell BK360.out 2).trans rfl; have hcz140_3 : w139.cell? ⟨gb360, 3, none⟩ = some (.int .i64 t351) := (blk_cell BK360.out 3).trans rfl; have hcz140_4 : w139.cell? ⟨gb360, 4, none⟩ = some (.int .i64 t352) := (blk_cell BK360.out 4).trans rfl; have hcz140_5 : w139.cell? ⟨gb360, 5, none⟩ = some (.int .i64 t353) := (blk_cell BK360.out 5).trans rfl; have hfz140_0 := blk_frozen BK360.out 0; have hfz140_1 := blk_frozen BK360.out 1; have hfz140_2 := blk_frozen BK360.out 2; have hfz140_3 := blk_frozen BK360.out 3; have hfz140_4 := blk_frozen BK360.out 4; have hfz140_5 := blk_frozen BK360.out 5; have hcz141_0 : w139.cell? ⟨gb361, 0, none⟩ = some (.int .i64 t354) := (blk_cell BK361.out 0).trans rfl; have hcz141_1 : w139.cell? ⟨gb361, 1, none⟩ = some (.int .i64 t355) := (blk_cell BK361.out 1).trans rfl; have hcz141_2 : w139.cell? ⟨gb361, 2, none⟩ = some (.int .i64 t356) := (blk_cell BK361.out 2).trans rfl; have hcz141_3 : w139.cell? ⟨gb361, 3, none⟩ = some (.int .i64 t357) := (blk_cell BK361.out 3).trans rfl; have hcz141_4 : w139.cell? ⟨gb361, 4, none⟩ = some (.int .i64 t358) := (blk_cell BK361.out 4).trans rfl; have hcz141_5 : w139.cell? ⟨gb361, 5, none⟩ = some (.int .i64 t359) := (blk_cell BK361.out 5).trans rfl; have hfz141_0 := blk_frozen BK361.out 0; have hfz141_1 := blk_frozen BK361.out 1; have hfz141_2 := blk_frozen BK361.out 2; have hfz141_3 := blk_frozen BK361.out 3; have hfz141_4 := blk_frozen BK361.out 4; have hfz141_5 := blk_frozen BK361.out 5) | (go_at_call 21; (with_reducible refine (impl_FactBefore.calls t348 t349 t350 t351 t352 t353 t354 t355 t356 t357 t358 t359 false _ A116.out).mono ?_); rintro e w142 ⟨rfl, hb⟩; have n0_ := Aside0.mk (blk_below (g := gb347) (o := .cells #[.int .i64 t339, .int .i64 t340, .int .i64 t341, .int .i64 t342, .int .i64 t343, .int .i64 t344] 34 (0, 0)) (by (with_reducible repeat (first | refine blk_drewN ?_ _ | refine blk_drew ?_ | refine blk_alloc ?_ _)); exact BK347.out) hb); have n1_ := Aside0.mk (blk_below (g := gb360) (o := .cells #[.int .i64 t348, .int .i64 t349, .int .i64 t350, .int .i64 t351, .int .i64 t352, .int .i64 t353] 34 (0, 0)) (by (with_reducible repeat (first | refine blk_drewN ?_ _ | refine blk_drew ?_ | refine blk_alloc ?_ _)); exact BK360.out) hb); have n2_ := Aside0.mk (blk_below (g := gb361) (o := .cells #[.int .i64 t354, .int .i64 t355, .int .i64 t356, .int .i64 t357, .int .i64 t358, .int .i64 t359] 34 (0, 0)) (by (with_reducible repeat (first | refine blk_drewN ?_ _ | refine blk_drew ?_ | refine blk_alloc ?_ _)); exact BK361.out) hb); have n3_ := Aside0.mk (below_step (by repeat (first | (with_reducible first | exact HB.out | apply below_alloc | apply pw_below_drewN | apply below_drew1 | refine below_set ?_ GE347.out | refine below_set ?_ GE360.out | refine below_set ?_ GE361.out) | exact HB.out)) hb); clear BK347; clear BK360; clear BK361; clear HB; have BK347 := n0_; have BK360 := n1_; have BK361 := n2_; have HB := n3_; clear n0_ n1_ n2_ n3_; (try clear hb); (try clear hb2); (try clear hk); (try clear hi); have hcz143_0 : w142.cell? ⟨gb361, 0, none⟩ = some (.int .i64 t354) := (blk_cell BK361.out 0).trans rfl; have hcz143_1 : w142.cell? ⟨gb361, 1, none⟩ = some (.int .i64 t355) := (blk_cell BK361.out 1).trans rfl; have hcz143_2 : w142.cell? ⟨gb361, 2, none⟩ = some (.int .i64 t356) := (blk_cell BK361.out 2).trans rfl; have hcz143_3 : w142.cell? ⟨gb361, 3, none⟩ = some (.int .i64 t357) := (blk_cell BK361.out 3).trans rfl; have hcz143_4 : w142.cell? ⟨gb361, 4, none⟩ = some (.int .i64 t358) := (blk_cell BK361.out 4).trans rfl; have hcz143_5 : w142.cell? ⟨gb361, 5, none⟩ = some (.int .i64 t359) := (blk_cell BK361.out 5).trans rfl; have hfz143_0 := blk_frozen BK361.out 0; have hfz143_1 := blk_frozen BK361.out 1; have hfz143_2 := blk_frozen BK361.out 2; have hfz143_3 := blk_frozen BK361.out 3; have hfz143_4 := blk_frozen BK361.out 4; have hfz143_5 := blk_frozen BK361.out 5; have hcz144_0 : w142.cell? ⟨gb360, 0, none⟩ = some (.int .i64 t348) := (blk_cell BK360.out 0).trans rfl; have hcz144_1 : w142.cell? ⟨gb360, 1, none⟩ = some (.int .i64 t349) := (blk_cell BK360.out 1).trans rfl; have hcz144_2 : w142.cell? ⟨gb360, 2, none⟩ = some (.int .i64 t350) := (blk_cell BK360.out 2).trans rfl; have hcz144_3 : w142.cell? ⟨gb360, 3, none⟩ = some (.int .i64 t351) := (blk_cell BK360.out 3).trans rfl; have hcz144_4 : w142.cell? ⟨gb360, 4, none⟩ = some (.int .i64 t352) := (blk_cell BK360.out 4).trans rfl; have hcz144_5 : w142.cell? ⟨gb360, 5, none⟩ = some (.int .i64 t353) := (blk_cell BK360.out 5).trans rfl; have hfz144_0 := blk_frozen BK360.out 0; have hfz144_1 := blk_frozen BK360.out 1; have hfz144_2 := blk_frozen BK360.out 2; have hfz144_3 := blk_frozen BK360.out 3; have hfz144_4 := blk_frozen BK360.out 4; have hfz144_5 := blk_frozen BK360.out 5) | (go_at_call 21; (with_reducible refine (impl_FactBefore.calls t354 t355 t356 t357 t358 t359 t348 t349 t350 t351 t352 t353 t373 _ A130.out).mono ?_); rintro e w145 ⟨rfl, hb⟩; have n0_ := Aside0.mk (blk_below (g := gb347) (o := .cells #[.int .i64 t339, .int .i64 t340, .int .i64 t341, .int .i64 t342, .int .i64 t343, .int .i64 t344] 34 (0, 0)) (by (with_reducible repeat (first | refine blk_drewN ?_ _ | refine blk_drew ?_ | refine blk_alloc ?_ _)); exact BK347.out) hb); have n1_ := Aside0.mk (blk_below (g := gb360) (o := .cells #[.int .i64 t348, .int .i64 t349, .int .i64 t350, .int .i64 t351, .int .i64 t352, .int .i64 t353] 34 (0, 0)) (by (with_reducible repeat (first | refine blk_drewN ?_ _ | refine blk_drew ?_ | refine blk_alloc ?_ _)); exact BK360.out) hb); have n2_ := Aside0.mk (blk_below (g := gb361) (o := .cells #[.int .i64 t354, .int .i64 t355, .int .i64 t356, .int .i64 t357, .int .i64 t358, .int .i64 t359] 34 (0, 0)) (by (with_reducible repeat (first | refine blk_drewN ?_ _ | refine blk_drew ?_ | refine blk_alloc ?_ _)); exact BK361.out) hb); have n3_ := Aside0.mk (below_step (by repeat (first | (with_reducible first | exact HB.out | apply below_alloc | apply pw_below_drewN | apply below_drew1 | refine below_set ?_ GE347.out | refine below_set ?_ GE360.out | refine below_set ?_ GE361.out) | exact HB.out)) hb); clear BK347; clear BK360; clear BK361; clear HB; have BK347 := n0_; have BK360 := n1_; have BK361 := n2_; have HB := n3_; clear n0_ n1_ n2_ n3_; (try clear hb); (try clear hb2); (try clear hk); (try clear hi)))
                  go_meet
                  case rel => exact ⟨_, (t373), (by first | rfl | (simp; done) | (simp [*]; done) | (rw [show t373 = false from Option.some.inj (A130.out.symm.trans (Aside0.out (by assumption)))])), H', ⟨by have := HJ5.out; first | omega | exact Nat.le_refl _⟩, ⟨by (with_reducible repeat (first | refine blk_drewN ?_ _ | refine blk_drew ?_ | refine blk_alloc ?_ _)); exact BK347.out⟩, ⟨by (with_reducible repeat (first | refine blk_drewN ?_ _ | refine blk_drew ?_ | refine blk_alloc ?_ _)); exact BK360.out⟩, ⟨by (with_reducible repeat (first | refine blk_drewN ?_ _ | refine blk_drew ?_ | refine blk_alloc ?_ _)); exact BK361.out⟩, ⟨by repeat (first | (with_reducible first | exact HB.out | apply below_alloc | apply pw_below_drewN | apply below_drew1 | refine below_set ?_ GE347.out | refine below_set ?_ GE360.out | refine below_set ?_ GE361.out) | exact HB.out)⟩⟩
              · replace c115 := Bool.eq_false_iff.mpr c115
                subst c115
                have H1 : (laws_FnFacts.j1 kj5 false t339 t340 t341 t342 t343 t344 t348 t349 t350 t351 t352 t353 t354 t355 t356 t357 t358 t359) = some r := by rw [if_neg (show ¬ (false = true) by decide)] at H; exact H
                clear H
                have H := H1
                clear H1
                have H' := Aside0.mk H
                clear H
                have hnb146 := NB360_347.out
                have hnc146 := NB347_360.out
                have hnb147 := NB360_361.out
                have hnc147 := NB361_360.out
                have hcz148_0 : wc.cell? ⟨gb360, 0, none⟩ = some (.int .i64 t348) := (blk_cell BK360.out 0).trans rfl
                have hcz148_1 : wc.cell? ⟨gb360, 1, none⟩ = some (.int .i64 t349) := (blk_cell BK360.out 1).trans rfl
                have hcz148_2 : wc.cell? ⟨gb360, 2, none⟩ = some (.int .i64 t350) := (blk_cell BK360.out 2).trans rfl
                have hcz148_3 : wc.cell? ⟨gb360, 3, none⟩ = some (.int .i64 t351) := (blk_cell BK360.out 3).trans rfl
                have hcz148_4 : wc.cell? ⟨gb360, 4, none⟩ = some (.int .i64 t352) := (blk_cell BK360.out 4).trans rfl
                have hcz148_5 : wc.cell? ⟨gb360, 5, none⟩ = some (.int .i64 t353) := (blk_cell BK360.out 5).trans rfl
                have hfz148_0 := blk_frozen BK360.out 0
                have hfz148_1 := blk_frozen BK360.out 1
                have hfz148_2 := blk_frozen BK360.out 2
                have hfz148_3 := blk_frozen BK360.out 3
                have hfz148_4 := blk_frozen BK360.out 4
                have hfz148_5 := blk_frozen BK360.out 5
                have hnb149 := NB361_347.out
                have hnc149 := NB347_361.out
                have hcz150_0 : wc.cell? ⟨gb361, 0, none⟩ = some (.int .i64 t354) := (blk_cell BK361.out 0).trans rfl
                have hcz150_1 : wc.cell? ⟨gb361, 1, none⟩ = some (.int .i64 t355) := (blk_cell BK361.out 1).trans rfl
                have hcz150_2 : wc.cell? ⟨gb361, 2, none⟩ = some (.int .i64 t356) := (blk_cell BK361.out 2).trans rfl
                have hcz150_3 : wc.cell? ⟨gb361, 3, none⟩ = some (.int .i64 t357) := (blk_cell BK361.out 3).trans rfl
                have hcz150_4 : wc.cell? ⟨gb361, 4, none⟩ = some (.int .i64 t358) := (blk_cell BK361.out 4).trans rfl
                have hcz150_5 : wc.cell? ⟨gb361, 5, none⟩ = some (.int .i64 t359) := (blk_cell BK361.out 5).trans rfl
                have hfz150_0 := blk_frozen BK361.out 0
                have hfz150_1 := blk_frozen BK361.out 1
                have hfz150_2 := blk_frozen BK361.out 2
                have hfz150_3 := blk_frozen BK361.out 3
                have hfz150_4 := blk_frozen BK361.out 4
                have hfz150_5 := blk_frozen BK361.out 5
                go_wp2_with (first | ((with_reducible refine gate_callee (f := 21) rfl ?_); refine goesL_ (some 49) rfl rfl Tryd.func21 (by kernel_rfl) rfl #[.agg #[.int .i64 t348, .int .i64 t349, .int .i64 t350, .int .i64 t351, .int .i64 t352, .int .i64 t353], .agg #[.int .i64 t354, .int .i64 t355, .int .i64 t356, .int .i64 t357, .int .i64 t358, .int .i64 t359]] rfl (by (try simp only [List.map_toArray, List.map_cons, List.map_nil]); first | done | rfl | (simp only [List.length_drop, List.length_take]; rfl)) ?_; (with_reducible refine (impl_FactBefore.calls t348 t349 t350 t351 t352 t353 t354 t355 t356 t357 t358 t359 false _ A51.out).mono ?_); rintro e w151 ⟨rfl, hb⟩; refine ⟨_, rfl, ?_⟩; have n0_ := Aside0.mk (blk_below (g := gb347) (o := .cells #[.int .i64 t339, .int .i64 t340, .int .i64 t341, .int .i64 t342, .int .i64 t343, .int .i64 t344] 34 (0, 0)) (by (with_reducible repeat (first | refine blk_drewN ?_ _ | refine blk_drew ?_ | refine blk_alloc ?_ _)); exact BK347.out) hb); have n1_ := Aside0.mk (blk_below (g := gb360) (o := .cells #[.int .i64 t348, .int .i64 t349, .int .i64 t350, .int .i64 t351, .int .i64 t352, .int .i64 t353] 34 (0, 0)) (by (with_reducible repeat (first | refine blk_drewN ?_ _ | refine blk_drew ?_ | refine blk_alloc ?_ _)); exact BK360.out) hb); have n2_ := Aside0.mk (blk_below (g := gb361) (o := .cells #[.int .i64 t354, .int .i64 t355, .int .i64 t356, .int .i64 t357, .int .i64 t358, .int .i64 t359] 34 (0, 0)) (by (with_reducible repeat (first | refine blk_drewN ?_ _ | refine blk_drew ?_ | refine blk_alloc ?_ _)); exact BK361.out) hb); have n3_ := Aside0.mk (below_step (by repeat (first | (with_reducible first | exact HB.out | apply below_alloc | apply pw_below_drewN | apply below_drew1 | refine below_set ?_ GE347.out | refine below_set ?_ GE360.out | refine below_set ?_ GE361.out) | exact HB.out)) hb); clear BK347; clear BK360; clear BK361; clear HB; have BK347 := n0_; have BK360 := n1_; have BK361 := n2_; have HB := n3_; clear n0_ n1_ n2_ n3_; (try clear hb); (try clear hb2); (try clear hk); (try clear hi); have hcz152_0 : w151.cell? ⟨gb360, 0, none⟩ = some (.int .i64 t348) := (blk_cell BK360.out 0).trans rfl; have hcz152_1 : w151.cell? ⟨gb360, 1, none⟩ = some (.int .i64 t349) := (blk_cell BK360.out 1).trans rfl; have hcz152_2 : w151.cell? ⟨gb360, 2, none⟩ = some (.int .i64 t350) := (blk_cell BK360.out 2).trans rfl; have hcz152_3 : w151.cell? ⟨gb360, 3, none⟩ = some (.int .i64 t351) := (blk_cell BK360.out 3).trans rfl; have hcz152_4 : w151.cell? ⟨gb360, 4, none⟩ = some (.int .i64 t352) := (blk_cell BK360.out 4).trans rfl; have hcz152_5 : w151.cell? ⟨gb360, 5, none⟩ = some (.int .i64 t353) := (blk_cell BK360.out 5).trans rfl; have hfz152_0 := blk_frozen BK360.out 0; have hfz152_1 := blk_frozen BK360.out 1; have hfz152_2 := blk_frozen BK360.out 2; have hfz152_3 := blk_frozen BK360.out 3; have hfz152_4 := blk_frozen BK360.out 4; have hfz152_5 := blk_frozen BK360.out 5; have hcz153_0 : w151.cell? ⟨gb361, 0, none⟩ = some (.int .i64 t354) := (blk_cell BK361.out 0).trans rfl; have hcz153_1 : w151.cell? ⟨gb361, 1, none⟩ = some (.int .i64 t355) := (blk_cell BK361.out 1).trans rfl; have hcz153_2 : w151.cell? ⟨gb361, 2, none⟩ = some (.int .i64 t356) := (blk_cell BK361.out 2).trans rfl; have hcz153_3 : w151.cell? ⟨gb361, 3, none⟩ = some (.int .i64 t357) := (blk_cell BK361.out 3).trans rfl; have hcz153_4 : w151.cell? ⟨gb361, 4, none⟩ = some (.int .i64 t358) := (blk_cell BK361.out 4).trans rfl; have hcz153_5 : w151.cell? ⟨gb361, 5, none⟩ = some (.int .i64 t359) := (blk_cell BK361.out 5).trans rfl; have hfz153_0 := blk_frozen BK361.out 0; have hfz153_1 := blk_frozen BK361.out 1; have hfz153_2 := blk_frozen BK361.out 2; have hfz153_3 := blk_frozen BK361.out 3; have hfz153_4 := blk_frozen BK361.out 4; have hfz153_5 := blk_frozen BK361.out 5) | (go_at_call 22; (with_reducible refine (impl_SameClaim.calls t348 t349 t350 t351 t352 t353 t354 t355 t356 t357 t358 t359 false _ A114.out).mono ?_); rintro e w154 ⟨rfl, hb⟩; have n0_ := Aside0.mk (blk_below (g := gb347) (o := .cells #[.int .i64 t339, .int .i64 t340, .int .i64 t341, .int .i64 t342, .int .i64 t343, .int .i64 t344] 34 (0, 0)) (by (with_reducible repeat (first | refine blk_drewN ?_ _ | refine blk_drew ?_ | refine blk_alloc ?_ _)); exact BK347.out) hb); have n1_ := Aside0.mk (blk_below (g := gb360) (o := .cells #[.int .i64 t348, .int .i64 t349, .int .i64 t350, .int .i64 t351, .int .i64 t352, .int .i64 t353] 34 (0, 0)) (by (with_reducible repeat (first | refine blk_drewN ?_ _ | refine blk_drew ?_ | refine blk_alloc ?_ _)); exact BK360.out) hb); have n2_ := Aside0.mk (blk_below (g := gb361) (o := .cells #[.int .i64 t354, .int .i64 t355, .int .i64 t356, .int .i64 t357, .int .i64 t358, .int .i64 t359] 34 (0, 0)) (by (with_reducible repeat (first | refine blk_drewN ?_ _ | refine blk_drew ?_ | refine blk_alloc ?_ _)); exact BK361.out) hb); have n3_ := Aside0.mk (below_step (by repeat (first | (with_reducible first | exact HB.out | apply below_alloc | apply pw_below_drewN | apply below_drew1 | refine below_set ?_ GE347.out | refine below_set ?_ GE360.out | refine below_set ?_ GE361.out) | exact HB.out)) hb); clear BK347; clear BK360; clear BK361; clear HB; have BK347 := n0_; have BK360 := n1_; have BK361 := n2_; have HB := n3_; clear n0_ n1_ n2_ n3_; (try clear hb); (try clear hb2); (try clear hk); (try clear hi)))
                go_meet
                case rel => exact ⟨_, (false), (by first | rfl | (simp; done) | (simp [*]; done)), H', ⟨by have := HJ5.out; first | omega | exact Nat.le_refl _⟩, ⟨by (with_reducible repeat (first | refine blk_drewN ?_ _ | refine blk_drew ?_ | refine blk_alloc ?_ _)); exact BK347.out⟩, ⟨by (with_reducible repeat (first | refine blk_drewN ?_ _ | refine blk_drew ?_ | refine blk_alloc ?_ _)); exact BK360.out⟩, ⟨by (with_reducible repeat (first | refine blk_drewN ?_ _ | refine blk_drew ?_ | refine blk_alloc ?_ _)); exact BK361.out⟩, ⟨by repeat (first | (with_reducible first | exact HB.out | apply below_alloc | apply pw_below_drewN | apply below_drew1 | refine below_set ?_ GE347.out | refine below_set ?_ GE360.out | refine below_set ?_ GE361.out) | exact HB.out)⟩⟩
          case rest =>
            clear HC50
            try clear c1
            try clear c2
            try clear p2
            try clear c3
            try clear c4
            try clear c5
            try clear c6
            try clear c7
            try clear c8
            try clear c10
            try clear c11
            try clear c12
            try clear c13
            try clear c14
            try clear c15
            try clear c16
            try clear c17
            try clear c19
            try clear c21
            try clear c23
            try clear c25
            try clear c26
            try clear c32
            try clear c33
            try clear c39
            try clear c40
            try clear c45
            try clear c46
            try clear c49
            try clear c52
            try clear c54
            try clear c55
            try clear c56
            try clear c58
            try clear c65
            try clear c67
            try clear c68
            try clear c69
            try clear c71
            try clear c84
            try clear c85
            try clear c87
            try clear c102
            try clear c103
            try clear c105
            try clear c115
            try clear c117
            try clear c118
            try clear c119
            try clear c121
            try clear c131
            try clear c132
            try clear c134
            try clear c146
            try clear c147
            try clear c149
            try clear hcz100_0
            try clear hcz100_1
            try clear hcz100_2
            try clear hcz100_3
            try clear hcz100_4
            try clear hcz100_5
            try clear hcz104_0
            try clear hcz104_1
            try clear hcz104_2
            try clear hcz104_3
            try clear hcz104_4
            try clear hcz104_5
            try clear hcz106_0
            try clear hcz106_1
            try clear hcz106_2
            try clear hcz106_3
            try clear hcz106_4
            try clear hcz106_5
            try clear hcz108_0
            try clear hcz108_1
            try clear hcz108_2
            try clear hcz108_3
            try clear hcz108_4
            try clear hcz108_5
            try clear hcz109_0
            try clear hcz109_1
            try clear hcz109_2
            try clear hcz109_3
            try clear hcz109_4
            try clear hcz109_5
            try clear hcz111_0
            try clear hcz111_1
            try clear hcz111_2
            try clear hcz111_3
            try clear hcz111_4
            try clear hcz111_5
            try clear hcz112_0
            try clear hcz112_1
            try clear hcz112_2
            try clear hcz112_3
            try clear hcz112_4
            try clear hcz112_5
            try clear hcz120_0
            try clear hcz120_1
            try clear hcz120_2
            try clear hcz120_3
            try clear hcz120_4
            try clear hcz120_5
            try clear hcz122_0
            try clear hcz122_1
            try clear hcz122_2
            try clear hcz122_3
            try clear hcz122_4
            try clear hcz122_5
            try clear hcz124_0
            try clear hcz124_1
            try clear hcz124_2
            try clear hcz124_3
            try clear hcz124_4
            try clear hcz124_5
            try clear hcz125_0
            try clear hcz125_1
            try clear hcz125_2
            try clear hcz125_3
            try clear hcz125_4
            try clear hcz125_5
            try clear hcz127_0
            try clear hcz127_1
            try clear hcz127_2
            try clear hcz127_3
            try clear hcz127_4
            try clear hcz127_5
            try clear hcz128_0
            try clear hcz128_1
            try clear hcz128_2
            try clear hcz128_3
            try clear hcz128_4
            try clear hcz128_5
            try clear hcz133_0
            try clear hcz133_1
            try clear hcz133_2
            try clear hcz133_3
            try clear hcz133_4
            try clear hcz133_5
            try clear hcz135_0
            try clear hcz135_1
            try clear hcz135_2
            try clear hcz135_3
            try clear hcz135_4
            try clear hcz135_5
            try clear hcz137_0
            try clear hcz137_1
            try clear hcz137_2
            try clear hcz137_3
            try clear hcz137_4
            try clear hcz137_5
            try clear hcz138_0
            try clear hcz138_1
            try clear hcz138_2
            try clear hcz138_3
            try clear hcz138_4
            try clear hcz138_5
            try clear hcz140_0
            try clear hcz140_1
            try clear hcz140_2
            try clear hcz140_3
            try clear hcz140_4
            try clear hcz140_5
            try clear hcz141_0
            try clear hcz141_1
            try clear hcz141_2
            try clear hcz141_3
            try clear hcz141_4
            try clear hcz141_5
            try clear hcz143_0
            try clear hcz143_1
            try clear hcz143_2
            try clear hcz143_3
            try clear hcz143_4
            try clear hcz143_5
            try clear hcz144_0
            try clear hcz144_1
            try clear hcz144_2
            try clear hcz144_3
            try clear hcz144_4
            try clear hcz144_5
            try clear hcz148_0
            try clear hcz148_1
            try clear hcz148_2
            try clear hcz148_3
            try clear hcz148_4
            try clear hcz148_5
            try clear hcz150_0
            try clear hcz150_1
            try clear hcz150_2
            try clear hcz150_3
            try clear hcz150_4
            try clear hcz150_5
            try clear hcz152_0
            try clear hcz152_1
            try clear hcz152_2
            try clear hcz152_3
            try clear hcz152_4
            try clear hcz152_5
            try clear hcz153_0
            try clear hcz153_1
            try clear hcz153_2
            try clear hcz153_3
            try clear hcz153_4
            try clear hcz153_5
            try clear hcz15_0
            try clear hcz15_1
            try clear hcz15_2
            try clear hcz15_3
            try clear hcz15_4
            try clear hcz15_5
            try clear hcz17_0
            try clear hcz17_1
            try clear hcz17_2
            try clear hcz17_3
            try clear hcz17_4
            try clear hcz17_5
            try clear hcz27_0
            try clear hcz27_1
            try clear hcz27_2
            try clear hcz27_3
            try clear hcz27_4
            try clear hcz27_5
            try clear hcz29_0
            try clear hcz29_1
            try clear hcz29_2
            try clear hcz29_3
            try clear hcz29_4
            try clear hcz29_5
            try clear hcz31_0
            try clear hcz31_1
            try clear hcz31_2
            try clear hcz31_3
            try clear hcz31_4
            try clear hcz31_5
            try clear hcz34_0
            try clear hcz34_1
            try clear hcz34_2
            try clear hcz34_3
            try clear hcz34_4
            try clear hcz34_5
            try clear hcz36_0
            try clear hcz36_1
            try clear hcz36_2
            try clear hcz36_3
            try clear hcz36_4
            try clear hcz36_5
            try clear hcz38_0
            try clear hcz38_1
            try clear hcz38_2
            try clear hcz38_3
            try clear hcz38_4
            try clear hcz38_5
            try clear hcz41_0
            try clear hcz41_1
            try clear hcz41_2
            try clear hcz41_3
            try clear hcz41_4
            try clear hcz41_5
            try clear hcz43_0
            try clear hcz43_1
            try clear hcz43_2
            try clear hcz43_3
            try clear hcz43_4
            try clear hcz43_5
            try clear hcz47_0
            try clear hcz47_1
            try clear hcz47_2
            try clear hcz47_3
            try clear hcz47_4
            try clear hcz47_5
            try clear hcz57_0
            try clear hcz57_1
            try clear hcz57_2
            try clear hcz57_3
            try clear hcz57_4
            try clear hcz57_5
            try clear hcz59_0
            try clear hcz59_1
            try clear hcz59_2
            try clear hcz59_3
            try clear hcz59_4
            try clear hcz59_5
            try clear hcz61_0
            try clear hcz61_1
            try clear hcz61_2
            try clear hcz61_3
            try clear hcz61_4
            try clear hcz61_5
            try clear hcz62_0
            try clear hcz62_1
            try clear hcz62_2
            try clear hcz62_3
            try clear hcz62_4
            try clear hcz62_5
            try clear hcz70_0
            try clear hcz70_1
            try clear hcz70_2
            try clear hcz70_3
            try clear hcz70_4
            try clear hcz70_5
            try clear hcz72_0
            try clear hcz72_1
            try clear hcz72_2
            try clear hcz72_3
            try clear hcz72_4
            try clear hcz72_5
            try clear hcz74_0
            try clear hcz74_1
            try clear hcz74_2
            try clear hcz74_3
            try clear hcz74_4
            try clear hcz74_5
            try clear hcz75_0
            try clear hcz75_1
            try clear hcz75_2
            try clear hcz75_3
            try clear hcz75_4
            try clear hcz75_5
            try clear hcz77_0
            try clear hcz77_1
            try clear hcz77_2
            try clear hcz77_3
            try clear hcz77_4
            try clear hcz77_5
            try clear hcz78_0
            try clear hcz78_1
            try clear hcz78_2
            try clear hcz78_3
            try clear hcz78_4
            try clear hcz78_5
            try clear hcz80_0
            try clear hcz80_1
            try clear hcz80_2
            try clear hcz80_3
            try clear hcz80_4
            try clear hcz80_5
            try clear hcz81_0
            try clear hcz81_1
            try clear hcz81_2
            try clear hcz81_3
            try clear hcz81_4
            try clear hcz81_5
            try clear hcz86_0
            try clear hcz86_1
            try clear hcz86_2
            try clear hcz86_3
            try clear hcz86_4
            try clear hcz86_5
            try clear hcz88_0
            try clear hcz88_1
            try clear hcz88_2
            try clear hcz88_3
            try clear hcz88_4
            try clear hcz88_5
            try clear hcz90_0
            try clear hcz90_1
            try clear hcz90_2
            try clear hcz90_3
            try clear hcz90_4
            try clear hcz90_5
            try clear hcz91_0
            try clear hcz91_1
            try clear hcz91_2
            try clear hcz91_3
            try clear hcz91_4
            try clear hcz91_5
            try clear hcz93_0
            try clear hcz93_1
            try clear hcz93_2
            try clear hcz93_3
            try clear hcz93_4
            try clear hcz93_5
            try clear hcz94_0
            try clear hcz94_1
            try clear hcz94_2
            try clear hcz94_3
            try clear hcz94_4
            try clear hcz94_5
            try clear hcz96_0
            try clear hcz96_1
            try clear hcz96_2
            try clear hcz96_3
            try clear hcz96_4
            try clear hcz96_5
            try clear hcz97_0
            try clear hcz97_1
            try clear hcz97_2
            try clear hcz97_3
            try clear hcz97_4
            try clear hcz97_5
            try clear hcz99_0
            try clear hcz99_1
            try clear hcz99_2
            try clear hcz99_3
            try clear hcz99_4
            try clear hcz99_5
            try clear hcz9_0
            try clear hcz9_1
            try clear hcz9_2
            try clear hcz9_3
            try clear hcz9_4
            try clear hcz9_5
            try clear hfz100_0
            try clear hfz100_1
            try clear hfz100_2
            try clear hfz100_3
            try clear hfz100_4
            try clear hfz100_5
            try clear hfz104_0
            try clear hfz104_1
            try clear hfz104_2
            try clear hfz104_3
            try clear hfz104_4
            try clear hfz104_5
            try clear hfz106_0
            try clear hfz106_1
            try clear hfz106_2
            try clear hfz106_3
            try clear hfz106_4
            try clear hfz106_5
            try clear hfz108_0
            try clear hfz108_1
            try clear hfz108_2
            try clear hfz108_3
            try clear hfz108_4
            try clear hfz108_5
            try clear hfz109_0
            try clear hfz109_1
            try clear hfz109_2
            try clear hfz109_3
            try clear hfz109_4
            try clear hfz109_5
            try clear hfz111_0
            try clear hfz111_1
            try clear hfz111_2
            try clear hfz111_3
            try clear hfz111_4
            try clear hfz111_5
            try clear hfz112_0
            try clear hfz112_1
            try clear hfz112_2
            try clear hfz112_3
            try clear hfz112_4
            try clear hfz112_5
            try clear hfz120_0
            try clear hfz120_1
            try clear hfz120_2
            try clear hfz120_3
            try clear hfz120_4
            try clear hfz120_5
            try clear hfz122_0
            try clear hfz122_1
            try clear hfz122_2
            try clear hfz122_3
            try clear hfz122_4
            try clear hfz122_5
            try clear hfz124_0
            try clear hfz124_1
            try clear hfz124_2
            try clear hfz124_3
            try clear hfz124_4
            try clear hfz124_5
            try clear hfz125_0
            try clear hfz125_1
            try clear hfz125_2
            try clear hfz125_3
            try clear hfz125_4
            try clear hfz125_5
            try clear hfz127_0
            try clear hfz127_1
            try clear hfz127_2
            try clear hfz127_3
            try clear hfz127_4
            try clear hfz127_5
            try clear hfz128_0
            try clear hfz128_1
            try clear hfz128_2
            try clear hfz128_3
            try clear hfz128_4
            try clear hfz128_5
            try clear hfz133_0
            try clear hfz133_1
            try clear hfz133_2
            try clear hfz133_3
            try clear hfz133_4
            try clear hfz133_5
            try clear hfz135_0
            try clear hfz135_1
            try clear hfz135_2
            try clear hfz135_3
            try clear hfz135_4
            try clear hfz135_5
            try clear hfz137_0
            try clear hfz137_1
            try clear hfz137_2
            try clear hfz137_3
            try clear hfz137_4
            try clear hfz137_5
            try clear hfz138_0
            try clear hfz138_1
            try clear hfz138_2
            try clear hfz138_3
            try clear hfz138_4
            try clear hfz138_5
            try clear hfz140_0
            try clear hfz140_1
            try clear hfz140_2
            try clear hfz140_3
            try clear hfz140_4
            try clear hfz140_5
            try clear hfz141_0
            try clear hfz141_1
            try clear hfz141_2
            try clear hfz141_3
            try clear hfz141_4
            try clear hfz141_5
            try clear hfz143_0
            try clear hfz143_1
            try clear hfz143_2
            try clear hfz143_3
            try clear hfz143_4
            try clear hfz143_5
            try clear hfz144_0
            try clear hfz144_1
            try clear hfz144_2
            try clear hfz144_3
            try clear hfz144_4
            try clear hfz144_5
            try clear hfz148_0
            try clear hfz148_1
            try clear hfz148_2
            try clear hfz148_3
            try clear hfz148_4
            try clear hfz148_5
            try clear hfz150_0
            try clear hfz150_1
            try clear hfz150_2
            try clear hfz150_3
            try clear hfz150_4
            try clear hfz150_5
            try clear hfz152_0
            try clear hfz152_1
            try clear hfz152_2
            try clear hfz152_3
            try clear hfz152_4
            try clear hfz152_5
            try clear hfz153_0
            try clear hfz153_1
            try clear hfz153_2
            try clear hfz153_3
            try clear hfz153_4
            try clear hfz153_5
            try clear hfz15_0
            try clear hfz15_1
            try clear hfz15_2
            try clear hfz15_3
            try clear hfz15_4
            try clear hfz15_5
            try clear hfz17_0
            try clear hfz17_1
            try clear hfz17_2
            try clear hfz17_3
            try clear hfz17_4
            try clear hfz17_5
            try clear hfz27_0
            try clear hfz27_1
            try clear hfz27_2
            try clear hfz27_3
            try clear hfz27_4
            try clear hfz27_5
            try clear hfz29_0
            try clear hfz29_1
            try clear hfz29_2
            try clear hfz29_3
            try clear hfz29_4
            try clear hfz29_5
            try clear hfz31_0
            try clear hfz31_1
            try clear hfz31_2
            try clear hfz31_3
            try clear hfz31_4
            try clear hfz31_5
            try clear hfz34_0
            try clear hfz34_1
            try clear hfz34_2
            try clear hfz34_3
            try clear hfz34_4
            try clear hfz34_5
            try clear hfz36_0
            try clear hfz36_1
            try clear hfz36_2
            try clear hfz36_3
            try clear hfz36_4
            try clear hfz36_5
            try clear hfz38_0
            try clear hfz38_1
            try clear hfz38_2
            try clear hfz38_3
            try clear hfz38_4
            try clear hfz38_5
            try clear hfz41_0
            try clear hfz41_1
            try clear hfz41_2
            try clear hfz41_3
            try clear hfz41_4
            try clear hfz41_5
            try clear hfz43_0
            try clear hfz43_1
            try clear hfz43_2
            try clear hfz43_3
            try clear hfz43_4
            try clear hfz43_5
            try clear hfz47_0
            try clear hfz47_1
            try clear hfz47_2
            try clear hfz47_3
            try clear hfz47_4
            try clear hfz47_5
            try clear hfz57_0
            try clear hfz57_1
            try clear hfz57_2
            try clear hfz57_3
            try clear hfz57_4
            try clear hfz57_5
            try clear hfz59_0
            try clear hfz59_1
            try clear hfz59_2
            try clear hfz59_3
            try clear hfz59_4
            try clear hfz59_5
            try clear hfz61_0
            try clear hfz61_1
            try clear hfz61_2
            try clear hfz61_3
            try clear hfz61_4
            try clear hfz61_5
            try clear hfz62_0
            try clear hfz62_1
            try clear hfz62_2
            try clear hfz62_3
            try clear hfz62_4
            try clear hfz62_5
            try clear hfz70_0
            try clear hfz70_1
            try clear hfz70_2
            try clear hfz70_3
            try clear hfz70_4
            try clear hfz70_5
            try clear hfz72_0
            try clear hfz72_1
            try clear hfz72_2
            try clear hfz72_3
            try clear hfz72_4
            try clear hfz72_5
            try clear hfz74_0
            try clear hfz74_1
            try clear hfz74_2
            try clear hfz74_3
            try clear hfz74_4
            try clear hfz74_5
            try clear hfz75_0
            try clear hfz75_1
            try clear hfz75_2
            try clear hfz75_3
            try clear hfz75_4
            try clear hfz75_5
            try clear hfz77_0
            try clear hfz77_1
            try clear hfz77_2
            try clear hfz77_3
            try clear hfz77_4
            try clear hfz77_5
            try clear hfz78_0
            try clear hfz78_1
            try clear hfz78_2
            try clear hfz78_3
            try clear hfz78_4
            try clear hfz78_5
            try clear hfz80_0
            try clear hfz80_1
            try clear hfz80_2
            try clear hfz80_3
            try clear hfz80_4
            try clear hfz80_5
            try clear hfz81_0
            try clear hfz81_1
            try clear hfz81_2
            try clear hfz81_3
            try clear hfz81_4
            try clear hfz81_5
            try clear hfz86_0
            try clear hfz86_1
            try clear hfz86_2
            try clear hfz86_3
            try clear hfz86_4
            try clear hfz86_5
            try clear hfz88_0
            try clear hfz88_1
            try clear hfz88_2
            try clear hfz88_3
            try clear hfz88_4
            try clear hfz88_5
            try clear hfz90_0
            try clear hfz90_1
            try clear hfz90_2
            try clear hfz90_3
            try clear hfz90_4
            try clear hfz90_5
            try clear hfz91_0
            try clear hfz91_1
            try clear hfz91_2
            try clear hfz91_3
            try clear hfz91_4
            try clear hfz91_5
            try clear hfz93_0
            try clear hfz93_1
            try clear hfz93_2
            try clear hfz93_3
            try clear hfz93_4
            try clear hfz93_5
            try clear hfz94_0
            try clear hfz94_1
            try clear hfz94_2
            try clear hfz94_3
            try clear hfz94_4
            try clear hfz94_5
            try clear hfz96_0
            try clear hfz96_1
            try clear hfz96_2
            try clear hfz96_3
            try clear hfz96_4
            try clear hfz96_5
            try clear hfz97_0
            try clear hfz97_1
            try clear hfz97_2
            try clear hfz97_3
            try clear hfz97_4
            try clear hfz97_5
            try clear hfz99_0
            try clear hfz99_1
            try clear hfz99_2
            try clear hfz99_3
            try clear hfz99_4
            try clear hfz99_5
            try clear hfz9_0
            try clear hfz9_1
            try clear hfz9_2
            try clear hfz9_3
            try clear hfz9_4
            try clear hfz9_5
            try clear p2
            obtain ⟨kq, x69_49, rfl, HA, HJ49, BK347, BK360, BK361, HB⟩ := hcut
            cases kq with
            | zero => exact absurd HA.out (by simp [laws_FnFacts.j1])
            | succ kj49 =>
              have H := HA.out
              clear HA
              simp only [laws_FnFacts.j1] at H
              by_cases c155 : x69_49 = true
              · subst c155
                have H1 : (some false) = some r := by rw [if_pos rfl] at H; exact H
                clear H
                have H := H1
                clear H1
                obtain rfl := Option.some.inj H
                go_wp2
                go_ret
                exact ⟨by first | rfl | (simp [errW_none, errW_some]; cases t377.toList.isEmpty <;> cases t378 <;> rfl) | (simp [errW_none, errW_some] <;> rfl) | (simp [*, errW_none, errW_some] <;> rfl), by repeat (first | (with_reducible first | exact HB.out | apply below_alloc | apply pw_below_drewN | apply below_drew1 | refine below_set ?_ GE347.out | refine below_set ?_ GE360.out | refine below_set ?_ GE361.out) | exact HB.out)⟩
              · replace c155 := Bool.eq_false_iff.mpr c155
                subst c155
                have H1 : ((impl_SameClaim.f t348 t349 t350 t351 t352 t353 t354 t355 t356 t357 t358 t359).bind fun t374 => (if t374 = true then (laws_FnFacts.j2 kj49 false t339 t340 t341 t342 t343 t344) else ((impl_FactBefore.f t348 t349 t350 t351 t352 t353 t354 t355 t356 t357 t358 t359).bind fun t375 => (if t375 = true then (laws_FnFacts.j2 kj49 false t339 t340 t341 t342 t343 t344) else ((impl_FactBefore.f t354 t355 t356 t357 t358 t359 t348 t349 t350 t351 t352 t353).bind fun t376 => (laws_FnFacts.j2 kj49 (!t376) t339 t340 t341 t342 t343 t344)))))) = some r := by rw [if_neg (show ¬ (false = true) by decide)] at H; exact H
                clear H
                have H := H1
                clear H1
                have HC156 := Aside0.mk H
                clear H
                go_upto_region 9 with (fail)
                go_cut [85] (fun v85 wc => ∃ (kq : Nat) (x85_155 : Bool), v85 = .bool x85_155 ∧ Aside0 (laws_FnFacts.j2 kq x85_155 t339 t340 t341 t342 t343 t344 = some r) ∧ Aside0 (kq ≤ kj49) ∧ Aside0 (wc.heap[gb347]? = some (.cells #[.int .i64 t339, .int .i64 t340, .int .i64 t341, .int .i64 t342, .int .i64 t343, .int .i64 t344] 34 (0, 0))) ∧ Aside0 (wc.heap[gb360]? = some (.cells #[.int .i64 t348, .int .i64 t349, .int .i64 t350, .int .i64 t351, .int .i64 t352, .int .i64 t353] 34 (0, 0))) ∧ Aside0 (wc.heap[gb361]? = some (.cells #[.int .i64 t354, .int .i64 t355, .int .i64 t356, .int .i64 t357, .int .i64 t358, .int .i64 t359] 34 (0, 0))) ∧ Aside0 (Below w.heap.size w wc))
                case first =>
                  have H := HC156.out
                  clear HC156
                  replace H := Option.bind_eq_some_iff.mp H
                  obtain ⟨t374, A1570, H⟩ := H
                  replace H : (if t374 = true then (laws_FnFacts.j2 kj49 false t339 t340 t341 t342 t343 t344) else ((impl_FactBefore.f t348 t349 t350 t351 t352 t353 t354 t355 t356 t357 t358 t359).bind fun t375 => (if t375 = true then (laws_FnFacts.j2 kj49 false t339 t340 t341 t342 t343 t344) else ((impl_FactBefore.f t354 t355 t356 t357 t358 t359 t348 t349 t350 t351 t352 t353).bind fun t376 => (laws_FnFacts.j2 kj49 (!t376) t339 t340 t341 t342 t343 t344))))) = some r := H
                  have A157 := Aside0.mk A1570
                  clear A1570
                  by_cases c158 : t374 = true
                  · subst c158
                    have H1 : (laws_FnFacts.j2 kj49 false t339 t340 t341 t342 t343 t344) = some r := by rw [if_pos rfl] at H; exact H
                    clear H
                    have H := H1
                    clear H1
                    have H' := Aside0.mk H
                    clear H
                    have hnb159 := NB360_347.out
                    have hnc159 := NB347_360.out
                    have hnb160 := NB360_361.out
                    have hnc160 := NB361_360.out
                    have hcz161_0 : wc.cell? ⟨gb360, 0, none⟩ = some (.int .i64 t348) := (blk_cell BK360.out 0).trans rfl
                    have hcz161_1 : wc.cell? ⟨gb360, 1, none⟩ = some (.int .i64 t349) := (blk_cell BK360.out 1).trans rfl
                    have hcz161_2 : wc.cell? ⟨gb360, 2, none⟩ = some (.int .i64 t350) := (blk_cell BK360.out 2).trans rfl
                    have hcz161_3 : wc.cell? ⟨gb360, 3, none⟩ = some (.int .i64 t351) := (blk_cell BK360.out 3).trans rfl
                    have hcz161_4 : wc.cell? ⟨gb360, 4, none⟩ = some (.int .i64 t352) := (blk_cell BK360.out 4).trans rfl
                    have hcz161_5 : wc.cell? ⟨gb360, 5, none⟩ = some (.int .i64 t353) := (blk_cell BK360.out 5).trans rfl
                    have hfz161_0 := blk_frozen BK360.out 0
                    have hfz161_1 := blk_frozen BK360.out 1
                    have hfz161_2 := blk_frozen BK360.out 2
                    have hfz161_3 := blk_frozen BK360.out 3
                    have hfz161_4 := blk_frozen BK360.out 4
                    have hfz161_5 := blk_frozen BK360.out 5
                    have hnb162 := NB361_347.out
                    have hnc162 := NB347_361.out
                    have hcz163_0 : wc.cell? ⟨gb361, 0, none⟩ = some (.int .i64 t354) := (blk_cell BK361.out 0).trans rfl
                    have hcz163_1 : wc.cell? ⟨gb361, 1, none⟩ = some (.int .i64 t355) := (blk_cell BK361.out 1).trans rfl
                    have hcz163_2 : wc.cell? ⟨gb361, 2, none⟩ = some (.int .i64 t356) := (blk_cell BK361.out 2).trans rfl
                    have hcz163_3 : wc.cell? ⟨gb361, 3, none⟩ = some (.int .i64 t357) := (blk_cell BK361.out 3).trans rfl
                    have hcz163_4 : wc.cell? ⟨gb361, 4, none⟩ = some (.int .i64 t358) := (blk_cell BK361.out 4).trans rfl
                    have hcz163_5 : wc.cell? ⟨gb361, 5, none⟩ = some (.int .i64 t359) := (blk_cell BK361.out 5).trans rfl
                    have hfz163_0 := blk_frozen BK361.out 0
                    have hfz163_1 := blk_frozen BK361.out 1
                    have hfz163_2 := blk_frozen BK361.out 2
                    have hfz163_3 := blk_frozen BK361.out 3
                    have hfz163_4 := blk_frozen BK361.out 4
                    have hfz163_5 := blk_frozen BK361.out 5
                    go_wp2_with (first | ((with_reducible refine gate_callee (f := 22) rfl ?_); refine goesL_ (some 72) rfl rfl Tryd.func22 (by kernel_rfl) rfl #[.agg #[.int .i64 t348, .int .i64 t349, .int .i64 t350, .int .i64 t351, .int .i64 t352, .int .i64 t353], .agg #[.int .i64 t354, .int .i64 t355, .int .i64 t356, .int .i64 t357, .int .i64 t358, .int .i64 t359]] rfl (by (try simp only [List.map_toArray, List.map_cons, List.map_nil]); first | done | rfl | (simp only [List.length_drop, List.length_take]; rfl)) ?_; (with_reducible refine (impl_SameClaim.calls t348 t349 t350 t351 t352 t353 t354 t355 t356 t357 t358 t359 true _ A157.out).mono ?_); rintro e w164 ⟨rfl, hb⟩; refine ⟨_, rfl, ?_⟩; have n0_ := Aside0.mk (blk_below (g := gb347) (o := .cells #[.int .i64 t339, .int .i64 t340, .int .i64 t341, .int .i64 t342, .int .i64 t343, .int .i64 t344] 34 (0, 0)) (by (with_reducible repeat (first | refine blk_drewN ?_ _ | refine blk_drew ?_ | refine blk_alloc ?_ _)); exact BK347.out) hb); have n1_ := Aside0.mk (blk_below (g := gb360) (o := .cells #[.int .i64 t348, .int .i64 t349, .int .i64 t350, .int .i64 t351, .int .i64 t352, .int .i64 t353] 34 (0, 0)) (by (with_reducible repeat (first | refine blk_drewN ?_ _ | refine blk_drew ?_ | refine blk_alloc ?_ _)); exact BK360.out) hb); have n2_ := Aside0.mk (blk_below (g := gb361) (o := .cells #[.int .i64 t354, .int .i64 t355, .int .i64 t356, .int .i64 t357, .int .i64 t358, .int .i64 t359] 34 (0, 0)) (by (with_reducible repeat (first | refine blk_drewN ?_ _ | refine blk_drew ?_ | refine blk_alloc ?_ _)); exact BK361.out) hb); have n3_ := Aside0.mk (below_step (by repeat (first | (with_reducible first | exact HB.out | apply below_alloc | apply pw_below_drewN | apply below_drew1 | refine below_set ?_ GE347.out | refine below_set ?_ GE360.out | refine below_set ?_ GE361.out) | exact HB.out)) hb); clear BK347; clear BK360; clear BK361; clear HB; have BK347 := n0_; have BK360 := n1_; have BK361 := n2_; have HB := n3_; clear n0_ n1_ n2_ n3_; (try clear hb); (try clear hb2); (try clear hk); (try clear hi)))
                    go_meet
                    case rel => exact ⟨_, (false), (by first | rfl | (simp; done) | (simp [*]; done)), H', ⟨by have := HJ5.out; have := HJ49.out; first | omega | exact Nat.le_refl _⟩, ⟨by (with_reducible repeat (first | refine blk_drewN ?_ _ | refine blk_drew ?_ | refine blk_alloc ?_ _)); exact BK347.out⟩, ⟨by (with_reducible repeat (first | refine blk_drewN ?_ _ | refine blk_drew ?_ | refine blk_alloc ?_ _)); exact BK360.out⟩, ⟨by (with_reducible repeat (first | refine blk_drewN ?_ _ | refine blk_drew ?_ | refine blk_alloc ?_ _)); exact BK361.out⟩, ⟨by repeat (first | (with_reducible first | exact HB.out | apply below_alloc | apply pw_below_drewN | apply below_drew1 | refine below_set ?_ GE347.out | refine below_set ?_ GE360.out | refine below_set ?_ GE361.out) | exact HB.out)⟩⟩
                  · replace c158 := Bool.eq_false_iff.mpr c158
                    subst c158
                    have H1 : ((impl_FactBefore.f t348 t349 t350 t351 t352 t353 t354 t355 t356 t357 t358 t359).bind fun t375 => (if t375 = true then (laws_FnFacts.j2 kj49 false t339 t340 t341 t342 t343 t344) else ((impl_FactBefore.f t354 t355 t356 t357 t358 t359 t348 t349 t350 t351 t352 t353).bind fun t376 => (laws_FnFacts.j2 kj49 (!t376) t339 t340 t341 t342 t343 t344)))) = some r := by rw [if_neg (show ¬ (false = true) by decide)] at H; exact H
                    clear H
                    have H := H1
                    clear H1
                    replace H := Option.bind_eq_some_iff.mp H
                    obtain ⟨t375, A1650, H⟩ := H
                    replace H : (if t375 = true then (laws_FnFacts.j2 kj49 false t339 t340 t341 t342 t343 t344) else ((impl_FactBefore.f t354 t355 t356 t357 t358 t359 t348 t349 t350 t351 t352 t353).bind fun t376 => (laws_FnFacts.j2 kj49 (!t376) t339 t340 t341 t342 t343 t344))) = some r := H
                    have A165 := Aside0.mk A1650
                    clear A1650
                    by_cases c166 : t375 = true
                    · subst c166
                      have H1 : (laws_FnFacts.j2 kj49 false t339 t340 t341 t342 t343 t344) = some r := by rw [if_pos rfl] at H; exact H
                      clear H
                      have H := H1
                      clear H1
                      have H' := Aside0.mk H
                      clear H
                      have hnb167 := NB360_347.out
                      have hnc167 := NB347_360.out
                      have hnb168 := NB360_361.out
                      have hnc168 := NB361_360.out
                      have hcz169_0 : wc.cell? ⟨gb360, 0, none⟩ = some (.int .i64 t348) := (blk_cell BK360.out 0).trans rfl
                      have hcz169_1 : wc.cell? ⟨gb360, 1, none⟩ = some (.int .i64 t349) := (blk_cell BK360.out 1).trans rfl
                      have hcz169_2 : wc.cell? ⟨gb360, 2, none⟩ = some (.int .i64 t350) := (blk_cell BK360.out 2).trans rfl
                      have hcz169_3 : wc.cell? ⟨gb360, 3, none⟩ = some (.int .i64 t351) := (blk_cell BK360.out 3).trans rfl
                      have hcz169_4 : wc.cell? ⟨gb360, 4, none⟩ = some (.int .i64 t352) := (blk_cell BK360.out 4).trans rfl
                      have hcz169_5 : wc.cell? ⟨gb360, 5, none⟩ = some (.int .i64 t353) := (blk_cell BK360.out 5).trans rfl
                      have hfz169_0 := blk_frozen BK360.out 0
                      have hfz169_1 := blk_frozen BK360.out 1
                      have hfz169_2 := blk_frozen BK360.out 2
                      have hfz169_3 := blk_frozen BK360.out 3
                      have hfz169_4 := blk_frozen BK360.out 4
                      have hfz169_5 := blk_frozen BK360.out 5
                      have hnb170 := NB361_347.out
                      have hnc170 := NB347_361.out
                      have hcz171_0 : wc.cell? ⟨gb361, 0, none⟩ = some (.int .i64 t354) := (blk_cell BK361.out 0).trans rfl
                      have hcz171_1 : wc.cell? ⟨gb361, 1, none⟩ = some (.int .i64 t355) := (blk_cell BK361.out 1).trans rfl
                      have hcz171_2 : wc.cell? ⟨gb361, 2, none⟩ = some (.int .i64 t356) := (blk_cell BK361.out 2).trans rfl
                      have hcz171_3 : wc.cell? ⟨gb361, 3, none⟩ = some (.int .i64 t357) := (blk_cell BK361.out 3).trans rfl
                      have hcz171_4 : wc.cell? ⟨gb361, 4, none⟩ = some (.int .i64 t358) := (blk_cell BK361.out 4).trans rfl
                      have hcz171_5 : wc.cell? ⟨gb361, 5, none⟩ = some (.int .i64 t359) := (blk_cell BK361.out 5).trans rfl
                      have hfz171_0 := blk_frozen BK361.out 0
                      have hfz171_1 := blk_frozen BK361.out 1
                      have hfz171_2 := blk_frozen BK361.out 2
                      have hfz171_3 := blk_frozen BK361.out 3
                      have hfz171_4 := blk_frozen BK361.out 4
                      have hfz171_5 := blk_frozen BK361.out 5
                      go_wp2_with (first | ((with_reducible refine gate_callee (f := 22) rfl ?_); refine goesL_ (some 72) rfl rfl Tryd.func22 (by kernel_rfl) rfl #[.agg #[.int .i64 t348, .int .i64 t349, .int .i64 t350, .int .i64 t351, .int .i64 t352, .int .i64 t353], .agg #[.int .i64 t354, .int .i64 t355, .int .i64 t356, .int .i64 t357, .int .i64 t358, .int .i64 t359]] rfl (by (try simp only [List.map_toArray, List.map_cons, List.map_nil]); first | done | rfl | (simp only [List.length_drop, List.length_take]; rfl)) ?_; (with_reducible refine (impl_SameClaim.calls t348 t349 t350 t351 t352 t353 t354 t355 t356 t357 t358 t359 false _ A157.out).mono ?_); rintro e w172 ⟨rfl, hb⟩; refine ⟨_, rfl, ?_⟩; have n0_ := Aside0.mk (blk_below (g := gb347) (o := .cells #[.int .i64 t339, .int .i64 t340, .int .i64 t341, .int .i64 t342, .int .i64 t343, .int .i64 t344] 34 (0, 0)) (by (with_reducible repeat (first | refine blk_drewN ?_ _ | refine blk_drew ?_ | refine blk_alloc ?_ _)); exact BK347.out) hb); have n1_ := Aside0.mk (blk_below (g := gb360) (o := .cells #[.int .i64 t348, .int .i64 t349, .int .i64 t350, .int .i64 t351, .int .i64 t352, .int .i64 t353] 34 (0, 0)) (by (with_reducible repeat (first | refine blk_drewN ?_ _ | refine blk_drew ?_ | refine blk_alloc ?_ _)); exact BK360.out) hb); have n2_ := Aside0.mk (blk_below (g := gb361) (o := .cells #[.int .i64 t354, .int .i64 t355, .int .i64 t356, .int .i64 t357, .int .i64 t358, .int .i64 t359] 34 (0, 0)) (by (with_reducible repeat (first | refine blk_drewN ?_ _ | refine blk_drew ?_ | refine blk_alloc ?_ _)); exact BK361.out) hb); have n3_ := Aside0.mk (below_step (by repeat (first | (with_reducible first | exact HB.out | apply below_alloc | apply pw_below_drewN | apply below_drew1 | refine below_set ?_ GE347.out | refine below_set ?_ GE360.out | refine below_set ?_ GE361.out) | exact HB.out)) hb); clear BK347; clear BK360; clear BK361; clear HB; have BK347 := n0_; have BK360 := n1_; have BK361 := n2_; have HB := n3_; clear n0_ n1_ n2_ n3_; (try clear hb); (try clear hb2); (try clear hk); (try clear hi); have hcz173_0 : w172.cell? ⟨gb360, 0, none⟩ = some (.int .i64 t348) := (blk_cell BK360.out 0).trans rfl; have hcz173_1 : w172.cell? ⟨gb360, 1, none⟩ = some (.int .i64 t349) := (blk_cell BK360.out 1).trans rfl; have hcz173_2 : w172.cell? ⟨gb360, 2, none⟩ = some (.int .i64 t350) := (blk_cell BK360.out 2).trans rfl; have hcz173_3 : w172.cell? ⟨gb360, 3, none⟩ = some (.int .i64 t351) := (blk_cell BK360.out 3).trans rfl; have hcz173_4 : w172.cell? ⟨gb360, 4, none⟩ = some (.int .i64 t352) := (blk_cell BK360.out 4).trans rfl; have hcz173_5 : w172.cell? ⟨gb360, 5, none⟩ = some (.int .i64 t353) := (blk_cell BK360.out 5).trans rfl; have hfz173_0 := blk_frozen BK360.out 0; have hfz173_1 := blk_frozen BK360.out 1; have hfz173_2 := blk_frozen BK360.out 2; have hfz173_3 := blk_frozen BK360.out 3; have hfz173_4 := blk_frozen BK360.out 4; have hfz173_5 := blk_frozen BK360.out 5; have hcz174_0 : w172.cell? ⟨gb361, 0, none⟩ = some (.int .i64 t354) := (blk_cell BK361.out 0).trans rfl; have hcz174_1 : w172.cell? ⟨gb361, 1, none⟩ = some (.int .i64 t355) := (blk_cell BK361.out 1).trans rfl; have hcz174_2 : w172.cell? ⟨gb361, 2, none⟩ = some (.int .i64 t356) := (blk_cell BK361.out 2).trans rfl; have hcz174_3 : w172.cell? ⟨gb361, 3, none⟩ = some (.int .i64 t357) := (blk_cell BK361.out 3).trans rfl; have hcz174_4 : w172.cell? ⟨gb361, 4, none⟩ = some (.int .i64 t358) := (blk_cell BK361.out 4).trans rfl; have hcz174_5 : w172.cell? ⟨gb361, 5, none⟩ = some (.int .i64 t359) := (blk_cell BK361.out 5).trans rfl; have hfz174_0 := blk_frozen BK361.out 0; have hfz174_1 := blk_frozen BK361.out 1; have hfz174_2 := blk_frozen BK361.out 2; have hfz174_3 := blk_frozen BK361.out 3; have hfz174_4 := blk_frozen BK361.out 4; have hfz174_5 := blk_frozen BK361.out 5) | (go_at_call 21; (with_reducible refine (impl_FactBefore.calls t348 t349 t350 t351 t352 t353 t354 t355 t356 t357 t358 t359 true _ A165.out).mono ?_); rintro e w175 ⟨rfl, hb⟩; have n0_ := Aside0.mk (blk_below (g := gb347) (o := .cells #[.int .i64 t339, .int .i64 t340, .int .i64 t341, .int .i64 t342, .int .i64 t343, .int .i64 t344] 34 (0, 0)) (by (with_reducible repeat (first | refine blk_drewN ?_ _ | refine blk_drew ?_ | refine blk_alloc ?_ _)); exact BK347.out) hb); have n1_ := Aside0.mk (blk_below (g := gb360) (o := .cells #[.int .i64 t348, .int .i64 t349, .int .i64 t350, .int .i64 t351, .int .i64 t352, .int .i64 t353] 34 (0, 0)) (by (with_reducible repeat (first | refine blk_drewN ?_ _ | refine blk_drew ?_ | refine blk_alloc ?_ _)); exact BK360.out) hb); have n2_ := Aside0.mk (blk_below (g := gb361) (o := .cells #[.int .i64 t354, .int .i64 t355, .int .i64 t356, .int .i64 t357, .int .i64 t358, .int .i64 t359] 34 (0, 0)) (by (with_reducible repeat (first | refine blk_drewN ?_ _ | refine blk_drew ?_ | refine blk_alloc ?_ _)); exact BK361.out) hb); have n3_ := Aside0.mk (below_step (by repeat (first | (with_reducible first | exact HB.out | apply below_alloc | apply pw_below_drewN | apply below_drew1 | refine below_set ?_ GE347.out | refine below_set ?_ GE360.out | refine below_set ?_ GE361.out) | exact HB.out)) hb); clear BK347; clear BK360; clear BK361; clear HB; have BK347 := n0_; have BK360 := n1_; have BK361 := n2_; have HB := n3_; clear n0_ n1_ n2_ n3_; (try clear hb); (try clear hb2); (try clear hk); (try clear hi)))
                      go_meet
                      case rel => exact ⟨_, (false), (by first | rfl | (simp; done) | (simp [*]; done)), H', ⟨by have := HJ5.out; have := HJ49.out; first | omega | exact Nat.le_refl _⟩, ⟨by (with_reducible repeat (first | refine blk_drewN ?_ _ | refine blk_drew ?_ | refine blk_alloc ?_ _)); exact BK347.out⟩, ⟨by (with_reducible repeat (first | refine blk_drewN ?_ _ | refine blk_drew ?_ | refine blk_alloc ?_ _)); exact BK360.out⟩, ⟨by (with_reducible repeat (first | refine blk_drewN ?_ _ | refine blk_drew ?_ | refine blk_alloc ?_ _)); exact BK361.out⟩, ⟨by repeat (first | (with_reducible first | exact HB.out | apply below_alloc | apply pw_below_drewN | apply below_drew1 | refine below_set ?_ GE347.out | refine below_set ?_ GE360.out | refine below_set ?_ GE361.out) | exact HB.out)⟩⟩
                    · replace c166 := Bool.eq_false_iff.mpr c166
                      subst c166
                      have H1 : ((impl_FactBefore.f t354 t355 t356 t357 t358 t359 t348 t349 t350 t351 t352 t353).bind fun t376 => (laws_FnFacts.j2 kj49 (!t376) t339 t340 t341 t342 t343 t344)) = some r := by rw [if_neg (show ¬ (false = true) by decide)] at H; exact H
                      clear H
                      have H := H1
                      clear H1
                      replace H := Option.bind_eq_some_iff.mp H
                      obtain ⟨t376, A1760, H⟩ := H
                      replace H : (laws_FnFacts.j2 kj49 (!t376) t339 t340 t341 t342 t343 t344) = some r := H
                      have A176 := Aside0.mk A1760
                      clear A1760
                      have H' := Aside0.mk H
                      clear H
                      have hnb177 := NB360_347.out
                      have hnc177 := NB347_360.out
                      have hnb178 := NB360_361.out
                      have hnc178 := NB361_360.out
                      have hcz179_0 : wc.cell? ⟨gb360, 0, none⟩ = some (.int .i64 t348) := (blk_cell BK360.out 0).trans rfl
                      have hcz179_1 : wc.cell? ⟨gb360, 1, none⟩ = some (.int .i64 t349) := (blk_cell BK360.out 1).trans rfl
                      have hcz179_2 : wc.cell? ⟨gb360, 2, none⟩ = some (.int .i64 t350) := (blk_cell BK360.out 2).trans rfl
                      have hcz179_3 : wc.cell? ⟨gb360, 3, none⟩ = some (.int .i64 t351) := (blk_cell BK360.out 3).trans rfl
                      have hcz179_4 : wc.cell? ⟨gb360, 4, none⟩ = some (.int .i64 t352) := (blk_cell BK360.out 4).trans rfl
                      have hcz179_5 : wc.cell? ⟨gb360, 5, none⟩ = some (.int .i64 t353) := (blk_cell BK360.out 5).trans rfl
                      have hfz179_0 := blk_frozen BK360.out 0
                      have hfz179_1 := blk_frozen BK360.out 1
                      have hfz179_2 := blk_frozen BK360.out 2
                      have hfz179_3 := blk_frozen BK360.out 3
                      have hfz179_4 := blk_frozen BK360.out 4
                      have hfz179_5 := blk_frozen BK360.out 5
                      have hnb180 := NB361_347.out
                      have hnc180 := NB347_361.out
                      have hcz181_0 : wc.cell? ⟨gb361, 0, none⟩ = some (.int .i64 t354) := (blk_cell BK361.out 0).trans rfl
                      have hcz181_1 : wc.cell? ⟨gb361, 1, none⟩ = some (.int .i64 t355) := (blk_cell BK361.out 1).trans rfl
                      have hcz181_2 : wc.cell? ⟨gb361, 2, none⟩ = some (.int .i64 t356) := (blk_cell BK361.out 2).trans rfl
                      have hcz181_3 : wc.cell? ⟨gb361, 3, none⟩ = some (.int .i64 t357) := (blk_cell BK361.out 3).trans rfl
                      have hcz181_4 : wc.cell? ⟨gb361, 4, none⟩ = some (.int .i64 t358) := (blk_cell BK361.out 4).trans rfl
                      have hcz181_5 : wc.cell? ⟨gb361, 5, none⟩ = some (.int .i64 t359) := (blk_cell BK361.out 5).trans rfl
                      have hfz181_0 := blk_frozen BK361.out 0
                      have hfz181_1 := blk_frozen BK361.out 1
                      have hfz181_2 := blk_frozen BK361.out 2
                      have hfz181_3 := blk_frozen BK361.out 3
                      have hfz181_4 := blk_frozen BK361.out 4
                      have hfz181_5 := blk_frozen BK361.out 5
                      go_wp2_with (first | ((with_reducible refine gate_callee (f := 22) rfl ?_); refine goesL_ (some 72) rfl rfl Tryd.func22 (by kernel_rfl) rfl #[.agg #[.int .i64 t348, .int .i64 t349, .int .i64 t350, .int .i64 t351, .int .i64 t352, .int .i64 t353], .agg #[.int .i64 t354, .int .i64 t355, .int .i64 t356, .int .i64 t357, .int .i64 t358, .int .i64 t359]] rfl (by (try simp only [List.map_toArray, List.map_cons, List.map_nil]); first | done | rfl | (simp only [List.length_drop, List.length_take]; rfl)) ?_; (with_reducible refine (impl_SameClaim.calls t348 t349 t350 t351 t352 t353 t354 t355 t356 t357 t358 t359 false _ A157.out).mono ?_); rintro e w182 ⟨rfl, hb⟩; refine ⟨_, rfl, ?_⟩; have n0_ := Aside0.mk (blk_below (g := gb347) (o := .cells #[.int .i64 t339, .int .i64 t340, .int .i64 t341, .int .i64 t342, .int .i64 t343, .int .i64 t344] 34 (0, 0)) (by (with_reducible repeat (first | refine blk_drewN ?_ _ | refine blk_drew ?_ | refine blk_alloc ?_ _)); exact BK347.out) hb); have n1_ := Aside0.mk (blk_below (g := gb360) (o := .cells #[.int .i64 t348, .int .i64 t349, .int .i64 t350, .int .i64 t351, .int .i64 t352, .int .i64 t353] 34 (0, 0)) (by (with_reducible repeat (first | refine blk_drewN ?_ _ | refine blk_drew ?_ | refine blk_alloc ?_ _)); exact BK360.out) hb); have n2_ := Aside0.mk (blk_below (g := gb361) (o := .cells #[.int .i64 t354, .int .i64 t355, .int .i64 t356, .int .i64 t357, .int .i64 t358, .int .i64 t359] 34 (0, 0)) (by (with_reducible repeat (first | refine blk_drewN ?_ _ | refine blk_drew ?_ | refine blk_alloc ?_ _)); exact BK361.out) hb); have n3_ := Aside0.mk (below_step (by repeat (first | (with_reducible first | exact HB.out | apply below_alloc | apply pw_below_drewN | apply below_drew1 | refine below_set ?_ GE347.out | refine below_set ?_ GE360.out | refine below_set ?_ GE361.out) | exact HB.out)) hb); clear BK347; clear BK360; clear BK361; clear HB; have BK347 := n0_; have BK360 := n1_; have BK361 := n2_; have HB := n3_; clear n0_ n1_ n2_ n3_; (try clear hb); (try clear hb2); (try clear hk); (try clear hi); have hcz183_0 : w182.cell? ⟨gb360, 0, none⟩ = some (.int .i64 t348) := (blk_cell BK360.out 0).trans rfl; have hcz183_1 : w182.cell? ⟨gb360, 1, none⟩ = some (.int .i64 t349) := (blk_cell BK360.out 1).trans rfl; have hcz183_2 : w182.cell? ⟨gb360, 2, none⟩ = some (.int .i64 t350) := (blk_cell BK360.out 2).trans rfl; have hcz183_3 : w182.cell? ⟨gb360, 3, none⟩ = some (.int .i64 t351) := (blk_cell BK360.out 3).trans rfl; have hcz183_4 : w182.cell? ⟨gb360, 4, none⟩ = some (.int .i64 t352) := (blk_cell BK360.out 4).trans rfl; have hcz183_5 : w182.cell? ⟨gb360, 5, none⟩ = some (.int .i64 t353) := (blk_cell BK360.out 5).trans rfl; have hfz183_0 := blk_frozen BK360.out 0; have hfz183_1 := blk_frozen BK360.out 1; have hfz183_2 := blk_frozen BK360.out 2; have hfz183_3 := blk_frozen BK360.out 3; have hfz183_4 := blk_frozen BK360.out 4; have hfz183_5 := blk_frozen BK360.out 5; have hcz184_0 : w182.cell? ⟨gb361, 0, none⟩ = some (.int .i64 t354) := (blk_cell BK361.out 0).trans rfl; have hcz184_1 : w182.cell? ⟨gb361, 1, none⟩ = some (.int .i64 t355) := (blk_cell BK361.out 1).trans rfl; have hcz184_2 : w182.cell? ⟨gb361, 2, none⟩ = some (.int .i64 t356) := (blk_cell BK361.out 2).trans rfl; have hcz184_3 : w182.cell? ⟨gb361, 3, none⟩ = some (.int .i64 t357) := (blk_cell BK361.out 3).trans rfl; have hcz184_4 : w182.cell? ⟨gb361, 4, none⟩ = some (.int .i64 t358) := (blk_cell BK361.out 4).trans rfl; have hcz184_5 : w182.cell? ⟨gb361, 5, none⟩ = some (.int .i64 t359) := (blk_cell BK361.out 5).trans rfl; have hfz184_0 := blk_frozen BK361.out 0; have hfz184_1 := blk_frozen BK361.out 1; have hfz184_2 := blk_frozen BK361.out 2; have hfz184_3 := blk_frozen BK361.out 3; have hfz184_4 := blk_frozen BK361.out 4; have hfz184_5 := blk_frozen BK361.out 5) | (go_at_call 21; (with_reducible refine (impl_FactBefore.calls t348 t349 t350 t351 t352 t353 t354 t355 t356 t357 t358 t359 false _ A165.out).mono ?_); rintro e w185 ⟨rfl, hb⟩; have n0_ := Aside0.mk (blk_below (g := gb347) (o := .cells #[.int .i64 t339, .int .i64 t340, .int .i64 t341, .int .i64 t342, .int .i64 t343, .int .i64 t344] 34 (0, 0)) (by (with_reducible repeat (first | refine blk_drewN ?_ _ | refine blk_drew ?_ | refine blk_alloc ?_ _)); exact BK347.out) hb); have n1_ := Aside0.mk (blk_below (g := gb360) (o := .cells #[.int .i64 t348, .int .i64 t349, .int .i64 t350, .int .i64 t351, .int .i64 t352, .int .i64 t353] 34 (0, 0)) (by (with_reducible repeat (first | refine blk_drewN ?_ _ | refine blk_drew ?_ | refine blk_alloc ?_ _)); exact BK360.out) hb); have n2_ := Aside0.mk (blk_below (g := gb361) (o := .cells #[.int .i64 t354, .int .i64 t355, .int .i64 t356, .int .i64 t357, .int .i64 t358, .int .i64 t359] 34 (0, 0)) (by (with_reducible repeat (first | refine blk_drewN ?_ _ | refine blk_drew ?_ | refine blk_alloc ?_ _)); exact BK361.out) hb); have n3_ := Aside0.mk (below_step (by repeat (first | (with_reducible first | exact HB.out | apply below_alloc | apply pw_below_drewN | apply below_drew1 | refine below_set ?_ GE347.out | refine below_set ?_ GE360.out | refine below_set ?_ GE361.out) | exact HB.out)) hb); clear BK347; clear BK360; clear BK361; clear HB; have BK347 := n0_; have BK360 := n1_; have BK361 := n2_; have HB := n3_; clear n0_ n1_ n2_ n3_; (try clear hb); (try clear hb2); (try clear hk); (try clear hi); have hcz186_0 : w185.cell? ⟨gb361, 0, none⟩ = some (.int .i64 t354) := (blk_cell BK361.out 0).trans rfl; have hcz186_1 : w185.cell? ⟨gb361, 1, none⟩ = some (.int .i64 t355) := (blk_cell BK361.out 1).trans rfl; have hcz186_2 : w185.cell? ⟨gb361, 2, none⟩ = some (.int .i64 t356) := (blk_cell BK361.out 2).trans rfl; have hcz186_3 : w185.cell? ⟨gb361, 3, none⟩ = some (.int .i64 t357) := (blk_cell BK361.out 3).trans rfl; have hcz186_4 : w185.cell? ⟨gb361, 4, none⟩ = some (.int .i64 t358) := (blk_cell BK361.out 4).trans rfl; have hcz186_5 : w185.cell? ⟨gb361, 5, none⟩ = some (.int .i64 t359) := (blk_cell BK361.out 5).trans rfl; have hfz186_0 := blk_frozen BK361.out 0; have hfz186_1 := blk_frozen BK361.out 1; have hfz186_2 := blk_frozen BK361.out 2; have hfz186_3 := blk_frozen BK361.out 3; have hfz186_4 := blk_frozen BK361.out 4; have hfz186_5 := blk_frozen BK361.out 5; have hcz187_0 : w185.cell? ⟨gb360, 0, none⟩ = some (.int .i64 t348) := (blk_cell BK360.out 0).trans rfl; have hcz187_1 : w185.cell? ⟨gb360, 1, none⟩ = some (.int .i64 t349) := (blk_cell BK360.out 1).trans rfl; have hcz187_2 : w185.cell? ⟨gb360, 2, none⟩ = some (.int .i64 t350) := (blk_cell BK360.out 2).trans rfl; have hcz187_3 : w185.cell? ⟨gb360, 3, none⟩ = some (.int .i64 t351) := (blk_cell BK360.out 3).trans rfl; have hcz187_4 : w185.cell? ⟨gb360, 4, none⟩ = some (.int .i64 t352) := (blk_cell BK360.out 4).trans rfl; have hcz187_5 : w185.cell? ⟨gb360, 5, none⟩ = some (.int .i64 t353) := (blk_cell BK360.out 5).trans rfl; have hfz187_0 := blk_frozen BK360.out 0; have hfz187_1 := blk_frozen BK360.out 1; have hfz187_2 := blk_frozen BK360.out 2; have hfz187_3 := blk_frozen BK360.out 3; have hfz187_4 := blk_frozen BK360.out 4; have hfz187_5 := blk_frozen BK360.out 5) | (go_at_call 21; (with_reducible refine (impl_FactBefore.calls t354 t355 t356 t357 t358 t359 t348 t349 t350 t351 t352 t353 t376 _ A176.out).mono ?_); rintro e w188 ⟨rfl, hb⟩; have n0_ := Aside0.mk (blk_below (g := gb347) (o := .cells #[.int .i64 t339, .int .i64 t340, .int .i64 t341, .int .i64 t342, .int .i64 t343, .int .i64 t344] 34 (0, 0)) (by (with_reducible repeat (first | refine blk_drewN ?_ _ | refine blk_drew ?_ | refine blk_alloc ?_ _)); exact BK347.out) hb); have n1_ := Aside0.mk (blk_below (g := gb360) (o := .cells #[.int .i64 t348, .int .i64 t349, .int .i64 t350, .int .i64 t351, .int .i64 t352, .int .i64 t353] 34 (0, 0)) (by (with_reducible repeat (first | refine blk_drewN ?_ _ | refine blk_drew ?_ | refine blk_alloc ?_ _)); exact BK360.out) hb); have n2_ := Aside0.mk (blk_below (g := gb361) (o := .cells #[.int .i64 t354, .int .i64 t355, .int .i64 t356, .int .i64 t357, .int .i64 t358, .int .i64 t359] 34 (0, 0)) (by (with_reducible repeat (first | refine blk_drewN ?_ _ | refine blk_drew ?_ | refine blk_alloc ?_ _)); exact BK361.out) hb); have n3_ := Aside0.mk (below_step (by repeat (first | (with_reducible first | exact HB.out | apply below_alloc | apply pw_below_drewN | apply below_drew1 | refine below_set ?_ GE347.out | refine below_set ?_ GE360.out | refine below_set ?_ GE361.out) | exact HB.out)) hb); clear BK347; clear BK360; clear BK361; clear HB; have BK347 := n0_; have BK360 := n1_; have BK361 := n2_; have HB := n3_; clear n0_ n1_ n2_ n3_; (try clear hb); (try clear hb2); (try clear hk); (try clear hi)))
                      go_meet
                      case rel => exact ⟨_, (!t376), (by first | rfl | (simp; done) | (simp [*]; done)), H', ⟨by have := HJ5.out; have := HJ49.out; first | omega | exact Nat.le_refl _⟩, ⟨by (with_reducible repeat (first | refine blk_drewN ?_ _ | refine blk_drew ?_ | refine blk_alloc ?_ _)); exact BK347.out⟩, ⟨by (with_reducible repeat (first | refine blk_drewN ?_ _ | refine blk_drew ?_ | refine blk_alloc ?_ _)); exact BK360.out⟩, ⟨by (with_reducible repeat (first | refine blk_drewN ?_ _ | refine blk_drew ?_ | refine blk_alloc ?_ _)); exact BK361.out⟩, ⟨by repeat (first | (with_reducible first | exact HB.out | apply below_alloc | apply pw_below_drewN | apply below_drew1 | refine below_set ?_ GE347.out | refine below_set ?_ GE360.out | refine below_set ?_ GE361.out) | exact HB.out)⟩⟩
                case rest =>
                  clear HC156
                  try clear c1
                  try clear c2
                  try clear p2
                  try clear c15
                  try clear c16
                  try clear c17
                  try clear c18
                  try clear c22
                  try clear c155
                  try clear c158
                  try clear c159
                  try clear c160
                  try clear c162
                  try clear c166
                  try clear c167
                  try clear c168
                  try clear c170
                  try clear c177
                  try clear c178
                  try clear c180
                  try clear hcz161_0
                  try clear hcz161_1
                  try clear hcz161_2
                  try clear hcz161_3
                  try clear hcz161_4
                  try clear hcz161_5
                  try clear hcz163_0
                  try clear hcz163_1
                  try clear hcz163_2
                  try clear hcz163_3
                  try clear hcz163_4
                  try clear hcz163_5
                  try clear hcz169_0
                  try clear hcz169_1
                  try clear hcz169_2
                  try clear hcz169_3
                  try clear hcz169_4
                  try clear hcz169_5
                  try clear hcz171_0
                  try clear hcz171_1
                  try clear hcz171_2
                  try clear hcz171_3
                  try clear hcz171_4
                  try clear hcz171_5
                  try clear hcz173_0
                  try clear hcz173_1
                  try clear hcz173_2
                  try clear hcz173_3
                  try clear hcz173_4
                  try clear hcz173_5
                  try clear hcz174_0
                  try clear hcz174_1
                  try clear hcz174_2
                  try clear hcz174_3
                  try clear hcz174_4
                  try clear hcz174_5
                  try clear hcz179_0
                  try clear hcz179_1
                  try clear hcz179_2
                  try clear hcz179_3
                  try clear hcz179_4
                  try clear hcz179_5
                  try clear hcz181_0
                  try clear hcz181_1
                  try clear hcz181_2
                  try clear hcz181_3
                  try clear hcz181_4
                  try clear hcz181_5
                  try clear hcz183_0
                  try clear hcz183_1
                  try clear hcz183_2
                  try clear hcz183_3
                  try clear hcz183_4
                  try clear hcz183_5
                  try clear hcz184_0
                  try clear hcz184_1
                  try clear hcz184_2
                  try clear hcz184_3
                  try clear hcz184_4
                  try clear hcz184_5
                  try clear hcz186_0
                  try clear hcz186_1
                  try clear hcz186_2
                  try clear hcz186_3
                  try clear hcz186_4
                  try clear hcz186_5
                  try clear hcz187_0
                  try clear hcz187_1
                  try clear hcz187_2
                  try clear hcz187_3
                  try clear hcz187_4
                  try clear hcz187_5
                  try clear hcz78_3
                  try clear hcz78_4
                  try clear hcz78_5
                  try clear hcz80_0
                  try clear hcz80_1
                  try clear hcz80_2
                  try clear hcz80_3
                  try clear hcz80_4
                  try clear hcz80_5
                  try clear hcz81_0
                  try clear hcz81_1
                  try clear hcz81_2
                  try clear hcz81_3
                  try clear hcz81_4
                  try clear hcz81_5
                  try clear hcz86_0
                  try clear hcz86_1
                  try clear hcz86_2
                  try clear hcz86_3
                  try clear hcz86_4
                  try clear hcz86_5
                  try clear hcz88_0
                  try clear hcz88_1
                  try clear hcz88_2
                  try clear hcz88_3
                  try clear hcz88_4
                  try clear hcz88_5
                  try clear hcz90_0
                  try clear hcz90_1
                  try clear hcz90_2
                  try clear hcz90_3
                  try clear hcz90_4
                  try clear hcz90_5
                  try clear hcz91_0
                  try clear hcz91_1
                  try clear hcz91_2
                  try clear hcz91_3
                  try clear hcz91_4
                  try clear hcz91_5
                  try clear hcz93_0
                  try clear hcz93_1
                  try clear hcz93_2
                  try clear hcz93_3
                  try clear hcz93_4
                  try clear hcz93_5
                  try clear hcz94_0
                  try clear hcz94_1
                  try clear hcz94_2
                  try clear hcz94_3
                  try clear hcz94_4
                  try clear hcz94_5
                  try clear hcz96_0
                  try clear hcz96_1
                  try clear hcz96_2
                  try clear hcz96_3
                  try clear hcz96_4
                  try clear hcz96_5
                  try clear hcz97_0
                  try clear hcz97_1
                  try clear hcz97_2
                  try clear hcz97_3
                  try clear hcz97_4
                  try clear hcz97_5
                  try clear hcz99_0
                  try clear hcz99_1
                  try clear hcz99_2
                  try clear hcz99_3
                  try clear hcz99_4
                  try clear hcz99_5
                  try clear hcz9_0
                  try clear hcz9_1
                  try clear hcz9_2
                  try clear hcz9_3
                  try clear hcz9_4
                  try clear hcz9_5
                  try clear hfz100_0
                  try clear hfz100_1
                  try clear hfz100_2
                  try clear hfz100_3
                  try clear hfz100_4
                  try clear hfz100_5
                  try clear hfz104_0
                  try clear hfz104_1
                  try clear hfz104_2
                  try clear hfz104_3
                  try clear hfz104_4
                  try clear hfz104_5
                  try clear hfz106_0
                  try clear hfz106_1
                  try clear hfz106_2
                  try clear hfz106_3
                  try clear hfz106_4
                  try clear hfz106_5
                  try clear hfz108_0
                  try clear hfz108_1
                  try clear hfz108_2
                  try clear hfz108_3
                  try clear hfz108_4
                  try clear hfz108_5
                  try clear hfz109_0
                  try clear hfz109_1
                  try clear hfz109_2
                  try clear hfz109_3
                  try clear hfz109_4
                  try clear hfz109_5
                  try clear hfz111_0
                  try clear hfz111_1
                  try clear hfz111_2
                  try clear hfz111_3
                  try clear hfz111_4
                  try clear hfz111_5
                  try clear hfz112_0
                  try clear hfz112_1
                  try clear hfz112_2
                  try clear hfz112_3
                  try clear hfz112_4
                  try clear hfz112_5
                  try clear hfz120_0
                  try clear hfz120_1
                  try clear hfz120_2
                  try clear hfz120_3
                  try clear hfz120_4
                  try clear hfz120_5
                  try clear hfz122_0
                  try clear hfz122_1
                  try clear hfz122_2
                  try clear hfz122_3
                  try clear hfz122_4
                  try clear hfz122_5
                  try clear hfz124_0
                  try clear hfz124_1
                  try clear hfz124_2
                  try clear hfz124_3
                  try clear hfz124_4
                  try clear hfz124_5
                  try clear hfz125_0
                  try clear hfz125_1
                  try clear hfz125_2
                  try clear hfz125_3
                  try clear hfz125_4
                  try clear hfz125_5
                  try clear hfz127_0
                  try clear hfz127_1
                  try clear hfz127_2
                  try clear hfz127_3
                  try clear hfz127_4
                  try clear hfz127_5
                  try clear hfz128_0
                  try clear hfz128_1
                  try clear hfz128_2
                  try clear hfz128_3
                  try clear hfz128_4
                  try clear hfz128_5
                  try clear hfz133_0
                  try clear hfz133_1
                  try clear hfz133_2
                  try clear hfz133_3
                  try clear hfz133_4
                  try clear hfz133_5
                  try clear hfz135_0
                  try clear hfz135_1
                  try clear hfz135_2
                  try clear hfz135_3
                  try clear hfz135_4
                  try clear hfz135_5
                  try clear hfz137_0
                  try clear hfz137_1
                  try clear hfz137_2
                  try clear hfz137_3
                  try clear hfz137_4
                  try clear hfz137_5
                  try clear hfz138_0
                  try clear hfz138_1
                  try clear hfz138_2
                  try clear hfz138_3
                  try clear hfz138_4
                  try clear hfz138_5
                  try clear hfz140_0
                  try clear hfz140_1
                  try clear hfz140_2
                  try clear hfz140_3
                  try clear hfz140_4
                  try clear hfz140_5
                  try clear hfz141_0
                  try clear hfz141_1
                  try clear hfz141_2
                  try clear hfz141_3
                  try clear hfz141_4
                  try clear hfz141_5
                  try clear hfz143_0
                  try clear hfz143_1
                  try clear hfz143_2
                  try clear hfz143_3
                  try clear hfz143_4
                  try clear hfz143_5
                  try clear hfz144_0
                  try clear hfz144_1
                  try clear hfz144_2
                  try clear hfz144_3
                  try clear hfz144_4
                  try clear hfz144_5
                  try clear hfz148_0
                  try clear hfz148_1
                  try clear hfz148_2
                  try clear hfz148_3
                  try clear hfz148_4
                  try clear hfz148_5
                  try clear hfz150_0
                  try clear hfz150_1
                  try clear hfz150_2
                  try clear hfz150_3
                  try clear hfz150_4
                  try clear hfz150_5
                  try clear hfz152_0
                  try clear hfz152_1
                  try clear hfz152_2
                  try clear hfz152_3
                  try clear hfz152_4
                  try clear hfz152_5
                  try clear hfz153_0
                  try clear hfz153_1
                  try clear hfz153_2
                  try clear hfz153_3
                  try clear hfz153_4
                  try clear hfz153_5
                  try clear hfz15_0
                  try clear hfz15_1
                  try clear hfz15_2
                  try clear hfz15_3
                  try clear hfz15_4
                  try clear hfz15_5
                  try clear hfz161_0
                  try clear hfz161_1
                  try clear hfz161_2
                  try clear hfz161_3
                  try clear hfz161_4
                  try clear hfz161_5
                  try clear hfz163_0
                  try clear hfz163_1
                  try clear hfz163_2
                  try clear hfz163_3
                  try clear hfz163_4
                  try clear hfz163_5
                  try clear hfz169_0
                  try clear hfz169_1
                  try clear hfz169_2
                  try clear hfz169_3
                  try clear hfz169_4
                  try clear hfz169_5
                  try clear hfz171_0
                  try clear hfz171_1
                  try clear hfz171_2
                  try clear hfz171_3
                  try clear hfz171_4
                  try clear hfz171_5
                  try clear hfz173_0
                  try clear hfz173_1
                  try clear hfz173_2
                  try clear hfz173_3
                  try clear hfz173_4
                  try clear hfz173_5
                  try clear hfz174_0
                  try clear hfz174_1
                  try clear hfz174_2
                  try clear hfz174_3
                  try clear hfz174_4
                  try clear hfz174_5
                  try clear hfz179_0
                  try clear hfz179_1
                  try clear hfz179_2
                  try clear hfz179_3
                  try clear hfz179_4
                  try clear hfz179_5
                  try clear hfz17_0
                  try clear hfz17_1
                  try clear hfz17_2
                  try clear hfz17_3
                  try clear hfz17_4
                  try clear hfz17_5
                  try clear hfz181_0
                  try clear hfz181_1
                  try clear hfz181_2
                  try clear hfz181_3
                  try clear hfz181_4
                  try clear hfz181_5
                  try clear hfz183_0
                  try clear hfz183_1
                  try clear hfz183_2
                  try clear hfz183_3
                  try clear hfz183_4
                  try clear hfz183_5
                  try clear hfz184_0
                  try clear hfz184_1
                  try clear hfz184_2
                  try clear hfz184_3
                  try clear hfz184_4
                  try clear hfz184_5
                  try clear hfz186_0
                  try clear hfz186_1
                  try clear hfz186_2
                  try clear hfz186_3
                  try clear hfz186_4
                  try clear hfz186_5
                  try clear hfz187_0
                  try clear hfz187_1
                  try clear hfz187_2
                  try clear hfz187_3
                  try clear hfz187_4
                  try clear hfz187_5
                  try clear hfz27_0
                  try clear hfz27_1
                  try clear hfz27_2
                  try clear hfz27_3
                  try clear hfz27_4
                  try clear hfz27_5
                  try clear hfz29_0
                  try clear hfz29_1
                  try clear hfz29_2
                  try clear hfz29_3
                  try clear hfz29_4
                  try clear hfz29_5
                  try clear hfz31_0
                  try clear hfz31_1
                  try clear hfz31_2
                  try clear hfz31_3
                  try clear hfz31_4
                  try clear hfz31_5
                  try clear hfz34_0
                  try clear hfz34_1
                  try clear hfz34_2
                  try clear hfz34_3
                  try clear hfz34_4
                  try clear hfz34_5
                  try clear hfz36_0
                  try clear hfz36_1
                  try clear hfz36_2
                  try clear hfz36_3
                  try clear hfz36_4
                  try clear hfz36_5
                  try clear hfz38_0
                  try clear hfz38_1
                  try clear hfz38_2
                  try clear hfz38_3
                  try clear hfz38_4
                  try clear hfz38_5
                  try clear hfz41_0
                  try clear hfz41_1
                  try clear hfz41_2
                  try clear hfz41_3
                  try clear hfz41_4
                  try clear hfz41_5
                  try clear hfz43_0
                  try clear hfz43_1
                  try clear hfz43_2
                  try clear hfz43_3
                  try clear hfz43_4
                  try clear hfz43_5
                  try clear hfz47_0
                  try clear hfz47_1
                  try clear hfz47_2
                  try clear hfz47_3
                  try clear hfz47_4
                  try clear hfz47_5
                  try clear hfz57_0
                  try clear hfz57_1
                  try clear hfz57_2
                  try clear hfz57_3
                  try clear hfz57_4
                  try clear hfz57_5
                  try clear hfz59_0
                  try clear hfz59_1
                  try clear hfz59_2
                  try clear hfz59_3
                  try clear hfz59_4
                  try clear hfz59_5
                  try clear hfz61_0
                  try clear hfz61_1
                  try clear hfz61_2
                  try clear hfz61_3
                  try clear hfz61_4
                  try clear hfz61_5
                  try clear hfz62_0
                  try clear hfz62_1
                  try clear hfz62_2
                  try clear hfz62_3
                  try clear hfz62_4
                  try clear hfz62_5
                  try clear hfz70_0
                  try clear hfz70_1
                  try clear hfz70_2
                  try clear hfz70_3
                  try clear hfz70_4
                  try clear hfz70_5
                  try clear hfz72_0
                  try clear hfz72_1
                  try clear hfz72_2
                  try clear hfz72_3
                  try clear hfz72_4
                  try clear hfz72_5
                  try clear hfz74_0
                  try clear hfz74_1
                  try clear hfz74_2
                  try clear hfz74_3
                  try clear hfz74_4
                  try clear hfz74_5
                  try clear hfz75_0
                  try clear hfz75_1
                  try clear hfz75_2
                  try clear hfz75_3
                  try clear hfz75_4
                  try clear hfz75_5
                  try clear hfz77_0
                  try clear hfz77_1
                  try clear hfz77_2
                  try clear hfz77_3
                  try clear hfz77_4
                  try clear hfz77_5
                  try clear hfz78_0
                  try clear hfz78_1
                  try clear hfz78_2
                  try clear hfz78_3
                  try clear hfz78_4
                  try clear hfz78_5
                  try clear hfz80_0
                  try clear hfz80_1
                  try clear hfz80_2
                  try clear hfz80_3
                  try clear hfz80_4
                  try clear hfz80_5
                  try clear hfz81_0
                  try clear hfz81_1
                  try clear hfz81_2
                  try clear hfz81_3
                  try clear hfz81_4
                  try clear hfz81_5
                  try clear hfz86_0
                  try clear hfz86_1
                  try clear hfz86_2
                  try clear hfz86_3
                  try clear hfz86_4
                  try clear hfz86_5
                  try clear hfz88_0
                  try clear hfz88_1
                  try clear hfz88_2
                  try clear hfz88_3
                  try clear hfz88_4
                  try clear hfz88_5
                  try clear hfz90_0
                  try clear hfz90_1
                  try clear hfz90_2
                  try clear hfz90_3
                  try clear hfz90_4
                  try clear hfz90_5
                  try clear hfz91_0
                  try clear hfz91_1
                  try clear hfz91_2
                  try clear hfz91_3
                  try clear hfz91_4
                  try clear hfz91_5
                  try clear hfz93_0
                  try clear hfz93_1
                  try clear hfz93_2
                  try clear hfz93_3
                  try clear hfz93_4
                  try clear hfz93_5
                  try clear hfz94_0
                  try clear hfz94_1
                  try clear hfz94_2
                  try clear hfz94_3
                  try clear hfz94_4
                  try clear hfz94_5
                  try clear hfz96_0
                  try clear hfz96_1
                  try clear hfz96_2
                  try clear hfz96_3
                  try clear hfz96_4
                  try clear hfz96_5
                  try clear hfz97_0
                  try clear hfz97_1
                  try clear hfz97_2
                  try clear hfz97_3
                  try clear hfz97_4
                  try clear hfz97_5
                  try clear hfz99_0
                  try clear hfz99_1
                  try clear hfz99_2
                  try clear hfz99_3
                  try clear hfz99_4
                  try clear hfz99_5
                  try clear hfz9_0
                  try clear hfz9_1
                  try clear hfz9_2
                  try clear hfz9_3
                  try clear hfz9_4
                  try clear hfz9_5
                  try clear p2
                  obtain ⟨kq, x85_155, rfl, HA, HJ155, BK347, BK360, BK361, HB⟩ := hcut
                  cases kq with
                  | zero => exact absurd HA.out (by simp [laws_FnFacts.j2])
                  | succ kj155 =>
                    have H := HA.out
                    clear HA
                    simp only [laws_FnFacts.j2] at H
                    by_cases c189 : x85_155 = true
                    · subst c189
                      have H1 : (some false) = some r := by rw [if_pos rfl] at H; exact H
                      clear H
                      have H := H1
                      clear H1
                      obtain rfl := Option.some.inj H
                      go_wp2
                      go_ret
                      exact ⟨by first | rfl | (simp [errW_none, errW_some]; cases t377.toList.isEmpty <;> cases t378 <;> rfl) | (simp [errW_none, errW_some] <;> rfl) | (simp [*, errW_none, errW_some] <;> rfl), by repeat (first | (with_reducible first | exact HB.out | apply below_alloc | apply pw_below_drewN | apply below_drew1 | refine below_set ?_ GE347.out | refine below_set ?_ GE360.out | refine below_set ?_ GE361.out) | exact HB.out)⟩
                    · replace c189 := Bool.eq_false_iff.mpr c189
                      subst c189
                      have H1 : ((impl_FormatFact.f kj155 t339 t340 t341 t342 t343 t344).bind fun t377 => ((impl_IsFact.f t339 t340 t341 t342 t343 t344).bind fun t378 => (some ((t377.toList == ([] : List UInt8)) != t378)))) = some r := by rw [if_neg (show ¬ (false = true) by decide)] at H; exact H
                      clear H
                      have H := H1
                      clear H1
                      replace H := Option.bind_eq_some_iff.mp H
                      obtain ⟨t377, A1900, H⟩ := H
                      replace H : ((impl_IsFact.f t339 t340 t341 t342 t343 t344).bind fun t378 => (some ((t377.toList == ([] : List UInt8)) != t378))) = some r := H
                      have A190 := Aside0.mk A1900
                      clear A1900
                      replace H := Option.bind_eq_some_iff.mp H
                      obtain ⟨t378, A1910, H⟩ := H
                      replace H : (some ((t377.toList == ([] : List UInt8)) != t378)) = some r := H
                      have A191 := Aside0.mk A1910
                      clear A1910
                      obtain rfl := Option.some.inj H
                      try go_wp2
                      have n0_ := Aside0.mk (blk_drew BK347.out)
                      have n1_ := Aside0.mk (blk_drew BK360.out)
                      have n2_ := Aside0.mk (blk_drew BK361.out)
                      have n3_ := Aside0.mk (below_drew1 HB.out)
                      clear BK347
                      clear BK360
                      clear BK361
                      clear HB
                      have BK347 := n0_
                      have BK360 := n1_
                      have BK361 := n2_
                      have HB := n3_
                      clear n0_ n1_ n2_ n3_
                      refine start_ (n := 7) (S := fun w' => w'.cell? ⟨gb347, 0, none⟩ = some (.int .i64 t339) ∧ w'.cell? ⟨gb347, 1, none⟩ = some (.int .i64 t340) ∧ w'.cell? ⟨gb347, 2, none⟩ = some (.int .i64 t341) ∧ w'.cell? ⟨gb347, 3, none⟩ = some (.int .i64 t342) ∧ w'.cell? ⟨gb347, 4, none⟩ = some (.int .i64 t343) ∧ w'.cell? ⟨gb347, 5, none⟩ = some (.int .i64 t344)) (ds := []) #[false, false, false, false, false, false, false] (by kernel_rfl) rfl rfl ⟨(blk_cell BK347.out 0).trans rfl, (blk_cell BK347.out 1).trans rfl, (blk_cell BK347.out 2).trans rfl, (blk_cell BK347.out 3).trans rfl, (blk_cell BK347.out 4).trans rfl, (blk_cell BK347.out 5).trans rfl⟩ (fun hHeld => ?_)
                      generalize wc.drew = w192 at BK347 BK360 BK361 HB hHeld ⊢
                      refine take_ (i := 0) (N := some 86) (v := ?_) (a' := ?_) #[true, false, false, false, false, false, false] rfl rfl (by kernel_rfl) (fun _ _ _ h => h) (Or.inl ⟨by rfl, ?_⟩) hHeld ?_ ?_
                      rotate_left
                      · rintro w' ⟨s0, s1, s2, s3, s4, s5⟩
                        go_simp
                        with_reducible rfl
                      rotate_left
                      · simp only [Act.put, List.setIfInBounds_toArray, List.set_cons_zero, List.set_cons_succ, i64_w, i32_w]
                        rfl
                      refine take_ (i := 3) (N := some 89) (v := ?_) (a' := ?_) #[true, false, false, true, false, false, false] rfl rfl (by kernel_rfl) (fun _ _ _ h => h) (Or.inl ⟨by rfl, ?_⟩) hHeld ?_ ?_
                      rotate_left
                      · rintro w' ⟨s0, s1, s2, s3, s4, s5⟩
                        go_simp
                        with_reducible rfl
                      rotate_left
                      · simp only [Act.put, List.setIfInBounds_toArray, List.set_cons_zero, List.set_cons_succ, i64_w, i32_w]
                        rfl
                      refine one_ (i := 1) (N := some 87) #[true, true, false, true, false, false, false] rfl rfl (by kernel_rfl) (by decide) (fun K hK => ?_)
                      refine goes_ Tryd.func23 (by kernel_rfl) rfl #[.agg #[.int .i64 t339, .int .i64 t340, .int .i64 t341, .int .i64 t342, .int .i64 t343, .int .i64 t344]] (by rfl) rfl rfl (by (try simp only [List.map_toArray, List.map_cons, List.map_nil]); first | done | rfl | (simp only [List.length_drop, List.length_take]; rfl)) ?_
                      with_reducible refine (impl_FormatFact.calls (htab := TAB_.out _ (by repeat (first | (with_reducible first | exact HB.out | apply below_alloc | apply pw_below_drewN | apply below_drew1) | exact HB.out))) kj155 t339 t340 t341 t342 t343 t344 t377 _ A190.out).mono ?_
                      rintro e w193 ⟨rfl, hb⟩
                      refine ⟨_, rfl, ?_⟩
                      have n0_ := Aside0.mk (blk_below (g := gb347) (o := .cells #[.int .i64 t339, .int .i64 t340, .int .i64 t341, .int .i64 t342, .int .i64 t343, .int .i64 t344] 34 (0, 0)) (by (with_reducible repeat (first | refine blk_drewN ?_ _ | refine blk_drew ?_ | refine blk_alloc ?_ _)); exact BK347.out) hb)
                      have n1_ := Aside0.mk (blk_below (g := gb360) (o := .cells #[.int .i64 t348, .int .i64 t349, .int .i64 t350, .int .i64 t351, .int .i64 t352, .int .i64 t353] 34 (0, 0)) (by (with_reducible repeat (first | refine blk_drewN ?_ _ | refine blk_drew ?_ | refine blk_alloc ?_ _)); exact BK360.out) hb)
                      have n2_ := Aside0.mk (blk_below (g := gb361) (o := .cells #[.int .i64 t354, .int .i64 t355, .int .i64 t356, .int .i64 t357, .int .i64 t358, .int .i64 t359] 34 (0, 0)) (by (with_reducible repeat (first | refine blk_drewN ?_ _ | refine blk_drew ?_ | refine blk_alloc ?_ _)); exact BK361.out) hb)
                      have n3_ := Aside0.mk (below_step (by repeat (first | (with_reducible first | exact HB.out | apply below_alloc | apply pw_below_drewN | apply below_drew1 | refine below_set ?_ GE347.out | refine below_set ?_ GE360.out | refine below_set ?_ GE361.out) | exact HB.out)) hb)
                      clear BK347
                      clear BK360
                      clear BK361
                      clear HB
                      have BK347 := n0_
                      have BK360 := n1_
                      have BK361 := n2_
                      have HB := n3_
                      clear n0_ n1_ n2_ n3_
                      (try clear hb)
                      (try clear hb2)
                      (try clear hk)
                      (try clear hi)
                      refine hK.out _ _ ⟨(blk_cell BK347.out 0).trans rfl, (blk_cell BK347.out 1).trans rfl, (blk_cell BK347.out 2).trans rfl, (blk_cell BK347.out 3).trans rfl, (blk_cell BK347.out 4).trans rfl, (blk_cell BK347.out 5).trans rfl⟩ (fun hHeld => ?_)
                      clear hK K
                      refine norm_ (a' := ?_) ?_ ?_
                      rotate_left
                      · show Act.put _ (some 87) _ = _
                        simp only [Act.put, List.setIfInBounds_toArray, List.set_cons_zero, List.set_cons_succ, i64_w, i32_w]
                        rfl
                      refine pure_ (i := 2) (N := some 88) (v := ?_) (a' := ?_) #[true, true, true, true, false, false, false] rfl rfl (by kernel_rfl) (fun _ _ _ h => h) (Or.inl ⟨by rfl, ?_⟩) ?_ ?_
                      rotate_left
                      · intro w'
                        go_simp
                        with_reducible rfl
                      rotate_left
                      · simp only [Act.put, List.setIfInBounds_toArray, List.set_cons_zero, List.set_cons_succ, i64_w, i32_w]
                        rfl
                      refine one_ (i := 4) (N := some 90) #[true, true, true, true, true, false, false] rfl rfl (by kernel_rfl) (by decide) (fun K hK => ?_)
                      refine goes_ Tryd.func18 (by kernel_rfl) rfl #[.agg #[.int .i64 t339, .int .i64 t340, .int .i64 t341, .int .i64 t342, .int .i64 t343, .int .i64 t344]] (by rfl) rfl rfl (by (try simp only [List.map_toArray, List.map_cons, List.map_nil]); first | done | rfl | (simp only [List.length_drop, List.length_take]; rfl)) ?_
                      with_reducible refine (impl_IsFact.calls t339 t340 t341 t342 t343 t344 t378 _ A191.out).mono ?_
                      rintro e w194 ⟨rfl, hb⟩
                      refine ⟨_, rfl, ?_⟩
                      have n0_ := Aside0.mk (blk_below (g := gb347) (o := .cells #[.int .i64 t339, .int .i64 t340, .int .i64 t341, .int .i64 t342, .int .i64 t343, .int .i64 t344] 34 (0, 0)) (by (with_reducible repeat (first | refine blk_drewN ?_ _ | refine blk_drew ?_ | refine blk_alloc ?_ _)); exact BK347.out) hb)
                      have n1_ := Aside0.mk (blk_below (g := gb360) (o := .cells #[.int .i64 t348, .int .i64 t349, .int .i64 t350, .int .i64 t351, .int .i64 t352, .int .i64 t353] 34 (0, 0)) (by (with_reducible repeat (first | refine blk_drewN ?_ _ | refine blk_drew ?_ | refine blk_alloc ?_ _)); exact BK360.out) hb)
                      have n2_ := Aside0.mk (blk_below (g := gb361) (o := .cells #[.int .i64 t354, .int .i64 t355, .int .i64 t356, .int .i64 t357, .int .i64 t358, .int .i64 t359] 34 (0, 0)) (by (with_reducible repeat (first | refine blk_drewN ?_ _ | refine blk_drew ?_ | refine blk_alloc ?_ _)); exact BK361.out) hb)
                      have n3_ := Aside0.mk (below_step (by repeat (first | (with_reducible first | exact HB.out | apply below_alloc | apply pw_below_drewN | apply below_drew1 | refine below_set ?_ GE347.out | refine below_set ?_ GE360.out | refine below_set ?_ GE361.out) | exact HB.out)) hb)
                      clear BK347
                      clear BK360
                      clear BK361
                      clear HB
                      have BK347 := n0_
                      have BK360 := n1_
                      have BK361 := n2_
                      have HB := n3_
                      clear n0_ n1_ n2_ n3_
                      (try clear hb)
                      (try clear hb2)
                      (try clear hk)
                      (try clear hi)
                      refine hK.out _ _ ⟨(blk_cell BK347.out 0).trans rfl, (blk_cell BK347.out 1).trans rfl, (blk_cell BK347.out 2).trans rfl, (blk_cell BK347.out 3).trans rfl, (blk_cell BK347.out 4).trans rfl, (blk_cell BK347.out 5).trans rfl⟩ (fun hHeld => ?_)
                      clear hK K
                      refine norm_ (a' := ?_) ?_ ?_
                      rotate_left
                      · show Act.put _ (some 90) _ = _
                        simp only [Act.put, List.setIfInBounds_toArray, List.set_cons_zero, List.set_cons_succ, i64_w, i32_w]
                        rfl
                      refine pure_ (i := 5) (N := some 91) (v := ?_) (a' := ?_) #[true, true, true, true, true, true, false] rfl rfl (by kernel_rfl) (fun _ _ _ h => h) (Or.inl ⟨by rfl, ?_⟩) ?_ ?_
                      rotate_left
                      · intro w'
                        go_simp
                        with_reducible rfl
                      rotate_left
                      · simp only [Act.put, List.setIfInBounds_toArray, List.set_cons_zero, List.set_cons_succ, i64_w, i32_w]
                        rfl
                      refine pure_ (i := 6) (N := some 2) (v := ?_) (a' := ?_) #[true, true, true, true, true, true, true] rfl rfl (by kernel_rfl) (fun _ _ _ h => h) (Or.inl ⟨by rfl, ?_⟩) ?_ ?_
                      rotate_left
                      · intro w'
                        go_simp
                        with_reducible rfl
                      rotate_left
                      · simp only [Act.put, List.setIfInBounds_toArray, List.set_cons_zero, List.set_cons_succ, i64_w, i32_w]
                        rfl
                      refine done_ (by kernel_rfl) ?_
                      try go_wp2
                      go_ret
                      exact ⟨by first | rfl | (simp [errW_none, errW_some]; cases t377.toList.isEmpty <;> cases t378 <;> rfl) | (simp [errW_none, errW_some] <;> rfl) | (simp [*, errW_none, errW_some] <;> rfl), by repeat (first | (with_reducible first | exact HB.out | apply below_alloc | apply pw_below_drewN | apply below_drew1 | refine below_set ?_ GE347.out | refine below_set ?_ GE360.out | refine below_set ?_ GE361.out) | exact HB.out)⟩

/-- THE ONE PURE STATEMENT of laws_FnFacts: yours. -/
def laws_FnFacts.Pure : Prop := ∀ (l0 : List Int), l0.length ≤ maxLen → l0.length * 1 ≤ 140737488351232 → (∀ x ∈ l0, (Lit.int .u8 x).wf = true) → ∃ k, laws_FnFacts.f k l0 = some true
theorem laws_FnFacts.walk (P : laws_FnFacts.Pure) (a0 : Option Addr) (len0 cap0 : Nat) (z0 : List Int) (w : World) (htab : Lib.TabIs Tryd.prog w "internal/strconv.uint64pow10" .u64 Lib.pow10Tab) (w0 : (a0 = none ∧ len0 = 0 ∧ cap0 = 0 ∧ z0 = []) ∨ ∃ x, a0 = some x ∧ len0 ≤ cap0 ∧ cap0 ≤ maxLen ∧ z0.length = cap0 ∧ (∀ i, i < z0.length → w.cell? (x.add i) = some (.int .u8 (z0.getD i 0))) ∧ ∀ n ∈ z0, (Lit.int .u8 n).wf = true) (y0 : len0 * 1 ≤ 140737488351232) :
    Calls Tryd.prog 5 #[.slice a0 len0 cap0] w fun e w' => e = .returned (.bool true) ∧ Below w.heap.size w w' := by
  obtain ⟨l0, rfl, hr0, hm0, hw0, hc0⟩ := ReadsInt.ofRowC w0
  obtain ⟨k, h⟩ := P l0 hm0 y0 hw0
  refine (laws_FnFacts.calls (htab := htab) k _ _ l0 true w (Kd.C_of_reads (d := (0 : Int)) (h1 := fun _ => rfl) hr0) hc0 h).mono ?_
  rintro e w' ⟨rfl, hd⟩
  exact ⟨rfl, hd⟩

end Go.Proofs.YthanecnkknimpaaDoor.PFnFacts
