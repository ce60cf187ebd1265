/- What this law reaches, as plain Lean functions, and the proofs that the machine's calls answer what they answer; laid by a program of this session over the kit's print, some functions by hand. Conditions: none beyond each theorem's own. -/
import Derived.Test.YthanecnkknimpaaPFnStoresx0
import Derived.Test.YthanecnkknimpaaPFnStoresx1
import Derived.Test.YthanecnkknimpaaPFnStoresx2
import Derived.Test.YthanecnkknimpaaPFnStoresx8
import Derived.Test.YthanecnkknimpaaPFnStoresx10
import Derived.Test.YthanecnkknimpaaPFnStoresx12
import Derived.Test.YthanecnkknimpaaPFnStoresx13
-- half the blanks
namespace Go.Proofs.Ythanecnkknimpaa.PFnStores
open Go.RowKit Go.Proofs.YthanecnkknimpaaW.PrintWords Go.Proofs.YthanecnkknimpaaW.PrintLast Go.Proofs.YthanecnkknimpaaW.PrintMore
attribute [local go_sem] max2_int min2_int max_two min_two max_three min_three max_four min_four   -- for this text's walks alone
set_option linter.unusedVariables false
set_option linter.unusedSimpArgs false
attribute [local go_sem high] eqA26
/-! ### laws_FnStores: function 3 -/
mutual
def laws_FnStores.j0 : Nat → List (S26) → List (S26) → Bool → Bool → Int → Int → Int → Int → Int → Int → Option (Bool)
 | 0, _, _, _, _, _, _, _, _, _, _ => none
 | k + 1, x3, x5, x6, x51, x456000, x456001, x456002, x456003, x456004, x456005 => if x51 = true then (some false) else (if x6 = true then ((impl_IsStore.f k x5).bind fun t476 => (if t476 = true then (laws_FnStores.j1 k x5 (decide ((x5.length : Int) > (wrap64 ((x3.length : Int) + 1)))) x456000 x456001 x456002 x456003 x456004 x456005) else (laws_FnStores.j1 k x5 true x456000 x456001 x456002 x456003 x456004 x456005))) else ((laws_sameFacts.f k x5 x3).bind fun t475 => (some t475)))
def laws_FnStores.j1 : Nat → List (S26) → Bool → Int → Int → Int → Int → Int → Int → Option (Bool)
 | 0, _, _, _, _, _, _, _, _ => none
 | k + 1, x5, x67, x456000, x456001, x456002, x456003, x456004, x456005 => if x67 = true then (some false) else (laws_FnStores.l0 k x5 0 x456000 x456001 x456002 x456003 x456004 x456005)
def laws_FnStores.l0 : Nat → List (S26) → Int → Int → Int → Int → Int → Int → Int → Option (Bool)
 | 0, _, _, _, _, _, _, _, _ => none
 | k + 1, x5, x10, x456000, x456001, x456002, x456003, x456004, x456005 => if x10 < (x5.length : Int) then (if 0 ≤ x10 then ((impl_SameClaim.f ((rd_T26 x5 x10).f0) ((rd_T26 x5 x10).f1) ((rd_T26 x5 x10).f2) ((rd_T26 x5 x10).f3) ((rd_T26 x5 x10).f4) ((rd_T26 x5 x10).f5) x456000 x456001 x456002 x456003 x456004 x456005).bind fun t478 => (if t478 = true then (if ((rd_T26 x5 x10).f4) ≥ x456004 then (if (((rd_T26 x5 x10).f0) == x456000 && (((rd_T26 x5 x10).f1) == x456001 && (((rd_T26 x5 x10).f2) == x456002 && (((rd_T26 x5 x10).f3) == x456003 && (((rd_T26 x5 x10).f4) == x456004 && (((rd_T26 x5 x10).f5) == x456005)))))) = true then (some true) else (if ((rd_T26 x5 x10).f4) > x456004 then (some true) else (some (decide (((rd_T26 x5 x10).f5) ≥ x456005))))) else (some false)) else (laws_FnStores.l0 k x5 (wrap64 (x10 + 1)) x456000 x456001 x456002 x456003 x456004 x456005))) else (none)) else (some false)
end
def laws_FnStores.f (k : Nat) (l0 : List Int) : Option (Bool) := (laws_big.f l0).bind fun t445 => (if t445 = true then (some true) else ((spec_DrawPutFact.f k l0).bind fun bt446 => ((impl_PutFact.f k bt446.1 bt446.2.1 bt446.2.2.1 bt446.2.2.2.1 bt446.2.2.2.2.1 bt446.2.2.2.2.2.1 bt446.2.2.2.2.2.2).bind fun bt456 => ((spec_DrawMergeStores.f k l0).bind fun bt460 => ((impl_MergeStores.f k bt460.1 bt460.2).bind fun t466 => ((impl_IsStore.f k bt460.1).bind fun t469 => (if t469 = true then ((impl_IsStore.f k t466).bind fun t470 => (if t470 = true then ((impl_MergeStores.f k t466 bt460.2).bind fun t471 => ((impl_EqualStores.f k t471 t466).bind fun t474 => (if t474 = true then (laws_FnStores.j0 k bt446.1 bt456.1 bt456.2 false bt446.2.1 bt446.2.2.1 bt446.2.2.2.1 bt446.2.2.2.2.1 bt446.2.2.2.2.2.1 bt446.2.2.2.2.2.2) else (laws_FnStores.j0 k bt446.1 bt456.1 bt456.2 (decide ((t466.length : Int) < 30)) bt446.2.1 bt446.2.2.1 bt446.2.2.2.1 bt446.2.2.2.2.1 bt446.2.2.2.2.2.1 bt446.2.2.2.2.2.2)))) else (laws_FnStores.j0 k bt446.1 bt456.1 bt456.2 true bt446.2.1 bt446.2.2.1 bt446.2.2.2.1 bt446.2.2.2.2.1 bt446.2.2.2.2.2.1 bt446.2.2.2.2.2.2))) else (laws_FnStores.j0 k bt446.1 bt456.1 bt456.2 false bt446.2.1 bt446.2.2.1 bt446.2.2.2.1 bt446.2.2.2.2.1 bt446.2.2.2.2.2.1 bt446.2.2.2.2.2.2))))))))
theorem laws_FnStores.mono_l : ∀ k, (∀ y0 y1 y2 y3 y4 y5 y6 y7 y8 y9, LeO (laws_FnStores.j0 k y0 y1 y2 y3 y4 y5 y6 y7 y8 y9) (laws_FnStores.j0 (k + 1) y0 y1 y2 y3 y4 y5 y6 y7 y8 y9)) ∧ (∀ y0 y1 y2 y3 y4 y5 y6 y7, LeO (laws_FnStores.j1 k y0 y1 y2 y3 y4 y5 y6 y7) (laws_FnStores.j1 (k + 1) y0 y1 y2 y3 y4 y5 y6 y7)) ∧ (∀ y0 y1 y2 y3 y4 y5 y6 y7, LeO (laws_FnStores.l0 k y0 y1 y2 y3 y4 y5 y6 y7) (laws_FnStores.l0 (k + 1) y0 y1 y2 y3 y4 y5 y6 y7))
 | 0 => ⟨fun _ _ _ _ _ _ _ _ _ _ r h => by simp [laws_FnStores.j0] at h, fun _ _ _ _ _ _ _ _ r h => by simp [laws_FnStores.j1] at h, fun _ _ _ _ _ _ _ _ r h => by simp [laws_FnStores.l0] at h⟩
 | k + 1 => by
  obtain ⟨ih0, ih1, ih2⟩ := laws_FnStores.mono_l k
  refine ⟨?_, ?_, ?_⟩
  ·intro y0 y1 y2 y3 y4 y5 y6 y7 y8 y9
   unfold laws_FnStores.j0
   repeat' first
   | (with_reducible exact ih0 _ _ _ _ _ _ _ _ _ _)
   | (with_reducible exact ih1 _ _ _ _ _ _ _ _)
   | (with_reducible exact ih2 _ _ _ _ _ _ _ _)
   | (with_reducible exact impl_EqualStores.mono _ _ _)
   | (with_reducible exact impl_IsStore.mono _ _)
   | (with_reducible exact impl_MergeStores.mono _ _ _)
   | (with_reducible exact impl_PutFact.mono _ _ _ _ _ _ _ _)
   | (with_reducible exact laws_sameFacts.mono _ _ _)
   | (with_reducible exact spec_DrawMergeStores.mono _ _)
   | (with_reducible exact spec_DrawPutFact.mono _ _)
   | (with_reducible exact LeO.refl _)
   | (with_reducible exact LeO.none _)
   | (with_reducible refine LeO.ite ?_ ?_)
   | (with_reducible refine LeO.bind ?_ (fun _ => ?_))
   | exact ih0 _ _ _ _ _ _ _ _ _ _
   | exact ih1 _ _ _ _ _ _ _ _
   | exact ih2 _ _ _ _ _ _ _ _
   | exact impl_EqualStores.mono _ _ _
   | exact impl_IsStore.mono _ _
   | exact impl_MergeStores.mono _ _ _
   | exact impl_PutFact.mono _ _ _ _ _ _ _ _
   | exact laws_sameFacts.mono _ _ _
   | exact spec_DrawMergeStores.mono _ _
   | exact spec_DrawPutFact.mono _ _
   | exact LeO.none _
   | refine LeO.ite ?_ ?_
   | refine LeO.bind ?_ (fun _ => ?_)
  ·intro y0 y1 y2 y3 y4 y5 y6 y7
   unfold laws_FnStores.j1
   repeat' first
   | (with_reducible exact ih0 _ _ _ _ _ _ _ _ _ _)
   | (with_reducible exact ih1 _ _ _ _ _ _ _ _)
   | (with_reducible exact ih2 _ _ _ _ _ _ _ _)
   | (with_reducible exact impl_EqualStores.mono _ _ _)
   | (with_reducible exact impl_IsStore.mono _ _)
   | (with_reducible exact impl_MergeStores.mono _ _ _)
   | (with_reducible exact impl_PutFact.mono _ _ _ _ _ _ _ _)
   | (with_reducible exact laws_sameFacts.mono _ _ _)
   | (with_reducible exact spec_DrawMergeStores.mono _ _)
   | (with_reducible exact spec_DrawPutFact.mono _ _)
   | (with_reducible exact LeO.refl _)
   | (with_reducible exact LeO.none _)
   | (with_reducible refine LeO.ite ?_ ?_)
   | (with_reducible refine LeO.bind ?_ (fun _ => ?_))
   | exact ih0 _ _ _ _ _ _ _ _ _ _
   | exact ih1 _ _ _ _ _ _ _ _
   | exact ih2 _ _ _ _ _ _ _ _
   | exact impl_EqualStores.mono _ _ _
   | exact impl_IsStore.mono _ _
   | exact impl_MergeStores.mono _ _ _
   | exact impl_PutFact.mono _ _ _ _ _ _ _ _
   | exact laws_sameFacts.mono _ _ _
   | exact spec_DrawMergeStores.mono _ _
   | exact spec_DrawPutFact.mono _ _
   | exact LeO.none _
   | refine LeO.ite ?_ ?_
   | refine LeO.bind ?_ (fun _ => ?_)
  ·intro y0 y1 y2 y3 y4 y5 y6 y7
   unfold laws_FnStores.l0
   repeat' first
   | (with_reducible exact ih0 _ _ _ _ _ _ _ _ _ _)
   | (with_reducible exact ih1 _ _ _ _ _ _ _ _)
   | (with_reducible exact ih2 _ _ _ _ _ _ _ _)
   | (with_reducible exact impl_EqualStores.mono _ _ _)
   | (with_reducible exact impl_IsStore.mono _ _)
   | (with_reducible exact impl_MergeStores.mono _ _ _)
   | (with_reducible exact impl_PutFact.mono _ _ _ _ _ _ _ _)
   | (with_reducible exact laws_sameFacts.mono _ _ _)
   | (with_reducible exact spec_DrawMergeStores.mono _ _)
   | (with_reducible exact spec_DrawPutFact.mono _ _)
   | (with_reducible exact LeO.refl _)
   | (with_reducible exact LeO.none _)
   | (with_reducible refine LeO.ite ?_ ?_)
   | (with_reducible refine LeO.bind ?_ (fun _ => ?_))
   | exact ih0 _ _ _ _ _ _ _ _ _ _
   | exact ih1 _ _ _ _ _ _ _ _
   | exact ih2 _ _ _ _ _ _ _ _
   | exact impl_EqualStores.mono _ _ _
   | exact impl_IsStore.mono _ _
   | exact impl_MergeStores.mono _ _ _
   | exact impl_PutFact.mono _ _ _ _ _ _ _ _
   | exact laws_sameFacts.mono _ _ _
   | exact spec_DrawMergeStores.mono _ _
   | exact spec_DrawPutFact.mono _ _
   | exact LeO.none _
   | refine LeO.ite ?_ ?_
   | refine LeO.bind ?_ (fun _ => ?_)
theorem laws_FnStores.mono : ∀ a0 k, LeO (laws_FnStores.f k a0) (laws_FnStores.f (k + 1) a0) := by
 intro a0 k
 obtain ⟨ih0, ih1, ih2⟩ := laws_FnStores.mono_l k
 unfold laws_FnStores.f
 repeat' first
   | (with_reducible exact ih0 _ _ _ _ _ _ _ _ _ _)
   | (with_reducible exact ih1 _ _ _ _ _ _ _ _)
   | (with_reducible exact ih2 _ _ _ _ _ _ _ _)
   | (with_reducible exact impl_EqualStores.mono _ _ _)
   | (with_reducible exact impl_IsStore.mono _ _)
   | (with_reducible exact impl_MergeStores.mono _ _ _)
   | (with_reducible exact impl_PutFact.mono _ _ _ _ _ _ _ _)
   | (with_reducible exact laws_sameFacts.mono _ _ _)
   | (with_reducible exact spec_DrawMergeStores.mono _ _)
   | (with_reducible exact spec_DrawPutFact.mono _ _)
   | (with_reducible exact LeO.refl _)
   | (with_reducible exact LeO.none _)
   | (with_reducible refine LeO.ite ?_ ?_)
   | (with_reducible refine LeO.bind ?_ (fun _ => ?_))
   | exact ih0 _ _ _ _ _ _ _ _ _ _
   | exact ih1 _ _ _ _ _ _ _ _
   | exact ih2 _ _ _ _ _ _ _ _
   | exact impl_EqualStores.mono _ _ _
   | exact impl_IsStore.mono _ _
   | exact impl_MergeStores.mono _ _ _
   | exact impl_PutFact.mono _ _ _ _ _ _ _ _
   | exact laws_sameFacts.mono _ _ _
   | exact spec_DrawMergeStores.mono _ _
   | exact spec_DrawPutFact.mono _ _
   | exact LeO.none _
   | refine LeO.ite ?_ ?_
   | refine LeO.bind ?_ (fun _ => ?_)
def laws_FnStores.T17 : Bool × List (List Nat × List Nat) := (true, [([], []), ([], []), ([0, 1], [0, 1]), ([2], [2]), ([3], [3]), ([], []), ([5], [5]), ([4, 6], [4, 6]), ([7], [7]), ([8], [8]), ([8], [8]), ([9, 10, 8], [8, 9, 10]), ([11, 8], [8, 11]), ([8], [8]), ([12, 13, 8], [8, 12, 13]), ([14, 8, 8], [8, 14]), ([15], [15]), ([15], [15]), ([16, 17, 15], [15, 16, 17]), ([18, 15], [15, 18]), ([19, 15], [15, 19]), ([15], [15]), ([21, 15], [15, 21]), ([20, 22, 15], [15, 20, 22]), ([15, 23, 8], [8, 15, 23]), ([24, 15, 8], [8, 24]), ([25], [25]), ([25], [25]), ([26, 27, 25], [25, 26, 27]), ([28, 25], [25, 28]), ([29, 25], [25, 29]), ([25], [25]), ([31, 25], [25, 31]), ([30, 32, 25], [25, 30, 32]), ([25, 33, 8], [8, 25, 33]), ([8, 34], [8, 34]), ([35, 25, 0, 1, 2, 3, 4, 5, 6, 7, 8, 9, 10, 11, 12, 13, 14, 15, 16, 17, 18, 19, 20, 21, 22, 23, 24, 25, 26, 27, 28, 29, 30, 31, 32, 33, 34, 35], [35])])
def laws_FnStores.B17 : List Nat := [0, 0, 3, 7, 15, 0, 32, 127, 255, 511, 511, 2047, 4095, 511, 16383, 32767, 65535, 65535, 262143, 524287, 1048575, 65535, 2162687, 8388607, 16777215, 33554431, 67108863, 67108863, 268435455, 536870911, 1073741823, 67108863, 2214592511, 8589934591, 17179869183, 34359738367, 68719476735]
theorem laws_FnStores.tab17 : rtab .any (opsOf Try.f3 17) = laws_FnStores.T17 := by kernel_rfl
theorem laws_FnStores.bits17 : waitsOk laws_FnStores.T17.2 laws_FnStores.B17 = true := by kernel_rfl
set_option maxHeartbeats 8000000 in
set_option maxRecDepth 100000 in
theorem laws_FnStores.calls (k : Nat) (A0 : Option Addr) (c0 : Nat) (l0 : List Int) (r : Bool) (w : World) (hr0 : Kd.C (Kd.int .u8) w A0 l0.length l0) (hc0 : l0.length ≤ c0) (h : laws_FnStores.f k l0 = some r) :
  Calls Try.prog 3 #[.slice A0 l0.length c0] w fun e w' => e = .returned (.bool r) ∧ Below w.heap.size w w' := by
 have hu26 := Try.underlying26
 have HR0 := Aside0.mk hr0
 have HC0 := Aside0.mk hc0
 clear hr0 hc0
 have HB := Aside0.mk (Below.refl w.heap.size w)
 have H : ((laws_big.f l0).bind fun t445 => (if t445 = true then (some true) else ((spec_DrawPutFact.f k l0).bind fun bt446 => ((impl_PutFact.f k bt446.1 bt446.2.1 bt446.2.2.1 bt446.2.2.2.1 bt446.2.2.2.2.1 bt446.2.2.2.2.2.1 bt446.2.2.2.2.2.2).bind fun bt456 => ((spec_DrawMergeStores.f k l0).bind fun bt460 => ((impl_MergeStores.f k bt460.1 bt460.2).bind fun t466 => ((impl_IsStore.f k bt460.1).bind fun t469 => (if t469 = true then ((impl_IsStore.f k t466).bind fun t470 => (if t470 = true then ((impl_MergeStores.f k t466 bt460.2).bind fun t471 => ((impl_EqualStores.f k t471 t466).bind fun t474 => (if t474 = true then (laws_FnStores.j0 k bt446.1 bt456.1 bt456.2 false bt446.2.1 bt446.2.2.1 bt446.2.2.2.1 bt446.2.2.2.2.1 bt446.2.2.2.2.2.1 bt446.2.2.2.2.2.2) else (laws_FnStores.j0 k bt446.1 bt456.1 bt456.2 (decide ((t466.length : Int) < 30)) bt446.2.1 bt446.2.2.1 bt446.2.2.2.1 bt446.2.2.2.2.1 bt446.2.2.2.2.2.1 bt446.2.2.2.2.2.2)))) else (laws_FnStores.j0 k bt446.1 bt456.1 bt456.2 true bt446.2.1 bt446.2.2.1 bt446.2.2.2.1 bt446.2.2.2.2.1 bt446.2.2.2.2.2.1 bt446.2.2.2.2.2.2))) else (laws_FnStores.j0 k bt446.1 bt456.1 bt456.2 false bt446.2.1 bt446.2.2.1 bt446.2.2.2.1 bt446.2.2.2.2.1 bt446.2.2.2.2.2.1 bt446.2.2.2.2.2.2))))))))) = some r := h
 clear h
 replace H := Option.bind_eq_some_iff.mp H
 obtain ⟨t445, A20, H⟩ := H
 replace H : (if t445 = true then (some true) else ((spec_DrawPutFact.f k l0).bind fun bt446 => ((impl_PutFact.f k bt446.1 bt446.2.1 bt446.2.2.1 bt446.2.2.2.1 bt446.2.2.2.2.1 bt446.2.2.2.2.2.1 bt446.2.2.2.2.2.2).bind fun bt456 => ((spec_DrawMergeStores.f k l0).bind fun bt460 => ((impl_MergeStores.f k bt460.1 bt460.2).bind fun t466 => ((impl_IsStore.f k bt460.1).bind fun t469 => (if t469 = true then ((impl_IsStore.f k t466).bind fun t470 => (if t470 = true then ((impl_MergeStores.f k t466 bt460.2).bind fun t471 => ((impl_EqualStores.f k t471 t466).bind fun t474 => (if t474 = true then (laws_FnStores.j0 k bt446.1 bt456.1 bt456.2 false bt446.2.1 bt446.2.2.1 bt446.2.2.2.1 bt446.2.2.2.2.1 bt446.2.2.2.2.2.1 bt446.2.2.2.2.2.2) else (laws_FnStores.j0 k bt446.1 bt456.1 bt456.2 (decide ((t466.length : Int) < 30)) bt446.2.1 bt446.2.2.1 bt446.2.2.2.1 bt446.2.2.2.2.1 bt446.2.2.2.2.2.1 bt446.2.2.2.2.2.2)))) else (laws_FnStores.j0 k bt446.1 bt456.1 bt456.2 true bt446.2.1 bt446.2.2.1 bt446.2.2.2.1 bt446.2.2.2.2.1 bt446.2.2.2.2.2.1 bt446.2.2.2.2.2.2))) else (laws_FnStores.j0 k bt446.1 bt456.1 bt456.2 false bt446.2.1 bt446.2.2.1 bt446.2.2.2.1 bt446.2.2.2.2.1 bt446.2.2.2.2.2.1 bt446.2.2.2.2.2.2)))))))) = some r := H
 have A2 := Aside0.mk A20
 clear A20
 by_cases c3 : t445 = true
 ·subst c3
  have H1 : (some true) = some r := by rw [if_pos rfl] at H; exact H
  clear H
  have H := H1
  clear H1
  obtain rfl := Option.some.inj H
  go_enter Try.func3, Try.ntmps3
  go_wp2_with (first | ((with_reducible refine gate_callee (f := 8) rfl ?_); refine goesL_ (some 12) rfl rfl Try.func8 (by kernel_rfl) rfl #[.slice A0 l0.length c0] rfl (qq5) ?_; (with_reducible refine (laws_big.calls _ _ l0 true _ ?side1 ?side2 A2.out).mono ?_); (case side1 => exact qq147); (case side2 => exact HC0.out); rintro e w' ⟨rfl, ⟨nd, rfl⟩⟩; refine ⟨_, rfl, ?_⟩))
  go_ret
  exact ⟨qq9, qq1⟩
 ·replace c3 := Bool.eq_false_iff.mpr c3
  subst c3
  have H1 : ((spec_DrawPutFact.f k l0).bind fun bt446 => ((impl_PutFact.f k bt446.1 bt446.2.1 bt446.2.2.1 bt446.2.2.2.1 bt446.2.2.2.2.1 bt446.2.2.2.2.2.1 bt446.2.2.2.2.2.2).bind fun bt456 => ((spec_DrawMergeStores.f k l0).bind fun bt460 => ((impl_MergeStores.f k bt460.1 bt460.2).bind fun t466 => ((impl_IsStore.f k bt460.1).bind fun t469 => (if t469 = true then ((impl_IsStore.f k t466).bind fun t470 => (if t470 = true then ((impl_MergeStores.f k t466 bt460.2).bind fun t471 => ((impl_EqualStores.f k t471 t466).bind fun t474 => (if t474 = true then (laws_FnStores.j0 k bt446.1 bt456.1 bt456.2 false bt446.2.1 bt446.2.2.1 bt446.2.2.2.1 bt446.2.2.2.2.1 bt446.2.2.2.2.2.1 bt446.2.2.2.2.2.2) else (laws_FnStores.j0 k bt446.1 bt456.1 bt456.2 (decide ((t466.length : Int) < 30)) bt446.2.1 bt446.2.2.1 bt446.2.2.2.1 bt446.2.2.2.2.1 bt446.2.2.2.2.2.1 bt446.2.2.2.2.2.2)))) else (laws_FnStores.j0 k bt446.1 bt456.1 bt456.2 true bt446.2.1 bt446.2.2.1 bt446.2.2.2.1 bt446.2.2.2.2.1 bt446.2.2.2.2.2.1 bt446.2.2.2.2.2.2))) else (laws_FnStores.j0 k bt446.1 bt456.1 bt456.2 false bt446.2.1 bt446.2.2.1 bt446.2.2.2.1 bt446.2.2.2.2.1 bt446.2.2.2.2.2.1 bt446.2.2.2.2.2.2))))))) = some r := by rw [if_neg (show ¬ (false = true) by decide)] at H; exact H
  clear H
  have H := H1
  clear H1
  replace H := Option.bind_eq_some_iff.mp H
  obtain ⟨⟨t446, t449, t450, t451, t452, t453, t454⟩, A40, H⟩ := H
  replace H : ((impl_PutFact.f k t446 t449 t450 t451 t452 t453 t454).bind fun bt456 => ((spec_DrawMergeStores.f k l0).bind fun bt460 => ((impl_MergeStores.f k bt460.1 bt460.2).bind fun t466 => ((impl_IsStore.f k bt460.1).bind fun t469 => (if t469 = true then ((impl_IsStore.f k t466).bind fun t470 => (if t470 = true then ((impl_MergeStores.f k t466 bt460.2).bind fun t471 => ((impl_EqualStores.f k t471 t466).bind fun t474 => (if t474 = true then (laws_FnStores.j0 k t446 bt456.1 bt456.2 false t449 t450 t451 t452 t453 t454) else (laws_FnStores.j0 k t446 bt456.1 bt456.2 (decide ((t466.length : Int) < 30)) t449 t450 t451 t452 t453 t454)))) else (laws_FnStores.j0 k t446 bt456.1 bt456.2 true t449 t450 t451 t452 t453 t454))) else (laws_FnStores.j0 k t446 bt456.1 bt456.2 false t449 t450 t451 t452 t453 t454)))))) = some r := H
  have A4 := Aside0.mk A40
  clear A40
  replace H := Option.bind_eq_some_iff.mp H
  obtain ⟨⟨t456, t459⟩, A50, H⟩ := H
  replace H : ((spec_DrawMergeStores.f k l0).bind fun bt460 => ((impl_MergeStores.f k bt460.1 bt460.2).bind fun t466 => ((impl_IsStore.f k bt460.1).bind fun t469 => (if t469 = true then ((impl_IsStore.f k t466).bind fun t470 => (if t470 = true then ((impl_MergeStores.f k t466 bt460.2).bind fun t471 => ((impl_EqualStores.f k t471 t466).bind fun t474 => (if t474 = true then (laws_FnStores.j0 k t446 t456 t459 false t449 t450 t451 t452 t453 t454) else (laws_FnStores.j0 k t446 t456 t459 (decide ((t466.length : Int) < 30)) t449 t450 t451 t452 t453 t454)))) else (laws_FnStores.j0 k t446 t456 t459 true t449 t450 t451 t452 t453 t454))) else (laws_FnStores.j0 k t446 t456 t459 false t449 t450 t451 t452 t453 t454))))) = some r := H
  have A5 := Aside0.mk A50
  clear A50
  replace H := Option.bind_eq_some_iff.mp H
  obtain ⟨⟨t460, t461⟩, A60, H⟩ := H
  replace H : ((impl_MergeStores.f k t460 t461).bind fun t466 => ((impl_IsStore.f k t460).bind fun t469 => (if t469 = true then ((impl_IsStore.f k t466).bind fun t470 => (if t470 = true then ((impl_MergeStores.f k t466 t461).bind fun t471 => ((impl_EqualStores.f k t471 t466).bind fun t474 => (if t474 = true then (laws_FnStores.j0 k t446 t456 t459 false t449 t450 t451 t452 t453 t454) else (laws_FnStores.j0 k t446 t456 t459 (decide ((t466.length : Int) < 30)) t449 t450 t451 t452 t453 t454)))) else (laws_FnStores.j0 k t446 t456 t459 true t449 t450 t451 t452 t453 t454))) else (laws_FnStores.j0 k t446 t456 t459 false t449 t450 t451 t452 t453 t454)))) = some r := H
  have A6 := Aside0.mk A60
  clear A60
  replace H := Option.bind_eq_some_iff.mp H
  obtain ⟨t466, A70, H⟩ := H
  replace H : ((impl_IsStore.f k t460).bind fun t469 => (if t469 = true then ((impl_IsStore.f k t466).bind fun t470 => (if t470 = true then ((impl_MergeStores.f k t466 t461).bind fun t471 => ((impl_EqualStores.f k t471 t466).bind fun t474 => (if t474 = true then (laws_FnStores.j0 k t446 t456 t459 false t449 t450 t451 t452 t453 t454) else (laws_FnStores.j0 k t446 t456 t459 (decide ((t466.length : Int) < 30)) t449 t450 t451 t452 t453 t454)))) else (laws_FnStores.j0 k t446 t456 t459 true t449 t450 t451 t452 t453 t454))) else (laws_FnStores.j0 k t446 t456 t459 false t449 t450 t451 t452 t453 t454))) = some r := H
  have A7 := Aside0.mk A70
  clear A70
  have HC8 := Aside0.mk H
  clear H
  go_enter Try.func3, Try.ntmps3
  go_upto_region 7 with (first | ((with_reducible refine gate_callee (f := 8) rfl ?_); refine goesL_ (some 12) rfl rfl Try.func8 (by kernel_rfl) rfl #[.slice A0 l0.length c0] rfl (qq5) ?_; (with_reducible refine (laws_big.calls _ _ l0 false _ ?side1 ?side2 A2.out).mono ?_); (case side1 => exact qq147); (case side2 => exact HC0.out); rintro e w' ⟨rfl, ⟨nd, rfl⟩⟩; refine ⟨_, rfl, ?_⟩) | ((with_reducible refine gate_callee (f := 9) rfl ?_); refine goesL_ (some 15) rfl rfl Try.func9 (by kernel_rfl) rfl #[.slice A0 l0.length c0] rfl (qq5) ?_; (with_reducible refine (spec_DrawPutFact.calls k _ _ l0 t446 t449 t450 t451 t452 t453 t454 _ ?side1 ?side2 A4.out).mono ?_); (case side1 => exact qq147); (case side2 => exact HC0.out); rintro e w9 ⟨v447, rfl, ho0, hb⟩; refine ⟨_, rfl, ?_⟩; have n0_ := Aside0.mk (Kd.R_lower ho0 (below_size (qq1))); have n1_ := Aside0.mk (below_step (qq1) hb); clear HB; have HO448 := n0_; have HB := n1_; clear n0_ n1_; (try clear hb); (try clear hb2); (try clear hk); (try clear hi); (try clear ho0)) | ((with_reducible refine gate_dst (N := 4) rfl ?_); (try (refine gate_guard (by rfl) ?_; dsimp only)); refine box_event ?hg (N := 4) ?hd (cs := #[.int .i64 0, .int .i64 0, .int .i64 0, .int .i64 0, .int .i64 0, .int .i64 0]) (t := 26) ?hr ?_; (case hd => rfl); (case hg => rfl); (case hr => first | (go_simp; done) | (go_simp; rfl)); intro gb455 hg w10 hbox hb; have n0_ := Aside0.mk (Kd.R_below (Kd.R_elderB (qq35) gb455 (Nat.le_of_eq hg.symm)) hb); have n1_ := Aside0.mk (below_step (qq1) hb); have n2_ := Aside0.mk (hbox); have n3_ := Aside0.mk ((qq124 : w.heap.size ≤ gb455)); have n4_ := Aside0.mk ((qq124 : w.heap.size ≤ gb455)); clear HO448; clear HB; have HO448 := n0_; have HB := n1_; have BK455 := n2_; have GW455 := n3_; have GE455 := n4_; clear n0_ n1_ n2_ n3_ n4_; clear hb hbox hg; have hcz11_0 : w10.cell? ⟨gb455, 0, none⟩ = some (.int .i64 0) := (blk_cell BK455.out 0).trans rfl; have hcz11_1 : w10.cell? ⟨gb455, 1, none⟩ = some (.int .i64 0) := (blk_cell BK455.out 1).trans rfl; have hcz11_2 : w10.cell? ⟨gb455, 2, none⟩ = some (.int .i64 0) := (blk_cell BK455.out 2).trans rfl; have hcz11_3 : w10.cell? ⟨gb455, 3, none⟩ = some (.int .i64 0) := (blk_cell BK455.out 3).trans rfl; have hcz11_4 : w10.cell? ⟨gb455, 4, none⟩ = some (.int .i64 0) := (blk_cell BK455.out 4).trans rfl; have hcz11_5 : w10.cell? ⟨gb455, 5, none⟩ = some (.int .i64 0) := (blk_cell BK455.out 5).trans rfl; have hfz11_0 := blk_frozen BK455.out 0; have hfz11_1 := blk_frozen BK455.out 1; have hfz11_2 := blk_frozen BK455.out 2; have hfz11_3 := blk_frozen BK455.out 3; have hfz11_4 := blk_frozen BK455.out 4; have hfz11_5 := blk_frozen BK455.out 5; obtain ⟨Ao12, co12, eo12⟩ := Kd.R_slice HO448.out; subst eo12) | ((with_reducible refine gate_callee (f := 10) rfl ?_); refine goesL_ (some 21) rfl rfl Try.func10 (by kernel_rfl) rfl #[.slice Ao12 t446.length co12, .agg #[.int .i64 t449, .int .i64 t450, .int .i64 t451, .int .i64 t452, .int .i64 t453, .int .i64 t454]] rfl (qq5) ?_; (with_reducible refine (impl_PutFact.calls k _ _ t446 t449 t450 t451 t452 t453 t454 t456 t459 _ ?side1 ?side2 A5.out).mono ?_); (case side1 => refine (Kd.R_reads' (e := 26) (base := w.heap.size) (ok := fun k_ => (True ∧ k_ ≠ gb455)) (n := t446.length) (c := co12) ?_).2.2; exact (qq36)); (case side2 => exact (Kd.R_reads' HO448.out).2.1); rintro e w13 ⟨v457, rfl, ho0, hb⟩; refine ⟨_, rfl, ?_⟩; have n0_ := Aside0.mk (Kd.R_elder' (qq36) (Kd.R_base ho0) hb); have n1_ := Aside0.mk (Kd.R_lower (Kd.R_newB (Kd.R_new' ho0 (Kd.R_lt (qq36))) (g := gb455) (o := .cells #[.int .i64 t449, .int .i64 t450, .int .i64 t451, .int .i64 t452, .int .i64 t453, .int .i64 t454] 26 (0, 0)) (qq37)) (below_size (qq38))); have n2_ := Aside0.mk (blk_below (g := gb455) (o := .cells #[.int .i64 t449, .int .i64 t450, .int .i64 t451, .int .i64 t452, .int .i64 t453, .int .i64 t454] 26 (0, 0)) (qq37) hb); have n3_ := Aside0.mk (below_step (qq38) hb); clear HO448; clear BK455; clear HB; have HO448 := n0_; have HO458 := n1_; have BK455 := n2_; have HB := n3_; clear n0_ n1_ n2_ n3_; (try clear hb); (try clear hb2); (try clear hk); (try clear hi); (try clear ho0)) | ((with_reducible refine gate_callee (f := 11) rfl ?_); refine goesL_ (some 26) rfl rfl Try.func11 (by kernel_rfl) rfl #[.slice A0 l0.length c0] rfl (qq5) ?_; (with_reducible refine (spec_DrawMergeStores.calls k _ _ l0 t460 t461 _ ?side1 ?side2 A6.out).mono ?_); (case side1 => exact qq145); (case side2 => exact HC0.out); rintro e w14 ⟨v462, v464, rfl, ho0, ho1, hb⟩; refine ⟨_, rfl, ?_⟩; have n0_ := Aside0.mk (Kd.R_mono (Kd.R_told (Kd.R_told (Kd.R_old (qq35) hb) (Kd.R_base ho0)) (Kd.R_base ho1)) (fun _ h_ => h_.1)); have n1_ := Aside0.mk (Kd.R_mono (Kd.R_told (Kd.R_told (Kd.R_old (qq39) hb) (Kd.R_base ho0)) (Kd.R_base ho1)) (fun _ h_ => h_.1)); have n2_ := Aside0.mk (Kd.R_lower (Kd.R_newB (Kd.R_new' (Kd.R_new' ho0 (Kd.R_lt (qq35))) (Kd.R_lt (qq39))) (g := gb455) (o := .cells #[.int .i64 t449, .int .i64 t450, .int .i64 t451, .int .i64 t452, .int .i64 t453, .int .i64 t454] 26 (0, 0)) (qq40)) (below_size (qq38))); have n3_ := Aside0.mk (Kd.R_lower (Kd.R_newB (Kd.R_new' (Kd.R_new' ho1 (Kd.R_lt (qq35))) (Kd.R_lt (qq39))) (g := gb455) (o := .cells #[.int .i64 t449, .int .i64 t450, .int .i64 t451, .int .i64 t452, .int .i64 t453, .int .i64 t454] 26 (0, 0)) (qq40)) (below_size (qq38))); have n4_ := Aside0.mk (blk_below (g := gb455) (o := .cells #[.int .i64 t449, .int .i64 t450, .int .i64 t451, .int .i64 t452, .int .i64 t453, .int .i64 t454] 26 (0, 0)) (qq40) hb); have n5_ := Aside0.mk (below_step (qq38) hb); clear HO448; clear HO458; clear BK455; clear HB; have HO448 := n0_; have HO458 := n1_; have HO463 := n2_; have HO465 := n3_; have BK455 := n4_; have HB := n5_; clear n0_ n1_ n2_ n3_ n4_ n5_; (try clear hb); (try clear hb2); (try clear hk); (try clear hi); (try clear ho0); (try clear ho1); obtain ⟨Ao15, co15, eo15⟩ := Kd.R_slice HO463.out; subst eo15; obtain ⟨Ao16, co16, eo16⟩ := Kd.R_slice HO465.out; subst eo16) | ((with_reducible refine gate_callee (f := 12) rfl ?_); refine goesL_ (some 31) rfl rfl Try.func12 (by kernel_rfl) rfl #[.slice Ao15 t460.length co15, .slice Ao16 t461.length co16] rfl (qq5) ?_; (with_reducible refine (impl_MergeStores.calls k _ _ t460 _ _ t461 t466 _ ?side1 ?side2 ?side3 ?side4 A7.out).mono ?_); (case side1 => exact qq148); (case side2 => exact qq149); (case side3 => exact qq150); (case side4 => exact (Kd.R_reads' HO465.out).2.1); rintro e w17 ⟨v467, rfl, ho0, hb⟩; refine ⟨_, rfl, ?_⟩; have n0_ := Aside0.mk (Kd.R_elder' (qq35) (Kd.R_base ho0) hb); have n1_ := Aside0.mk (Kd.R_elder' (qq39) (Kd.R_base ho0) hb); have n2_ := Aside0.mk (Kd.R_elder' (qq41) (Kd.R_base ho0) hb); have n3_ := Aside0.mk (Kd.R_elder' (qq42) (Kd.R_base ho0) hb); have n4_ := Aside0.mk (Kd.R_lower (Kd.R_newB (Kd.R_new' (Kd.R_new' (Kd.R_new' (Kd.R_new' ho0 (Kd.R_lt (qq35))) (Kd.R_lt (qq39))) (Kd.R_lt (qq41))) (Kd.R_lt (qq42))) (g := gb455) (o := .cells #[.int .i64 t449, .int .i64 t450, .int .i64 t451, .int .i64 t452, .int .i64 t453, .int .i64 t454] 26 (0, 0)) (qq40)) (below_size (qq38))); have n5_ := Aside0.mk (blk_below (g := gb455) (o := .cells #[.int .i64 t449, .int .i64 t450, .int .i64 t451, .int .i64 t452, .int .i64 t453, .int .i64 t454] 26 (0, 0)) (qq40) hb); have n6_ := Aside0.mk (below_step (qq38) hb); clear HO448; clear HO458; clear HO463; clear HO465; clear BK455; clear HB; have HO448 := n0_; have HO458 := n1_; have HO463 := n2_; have HO465 := n3_; have HO468 := n4_; have BK455 := n5_; have HB := n6_; clear n0_ n1_ n2_ n3_ n4_ n5_ n6_; (try clear hb); (try clear hb2); (try clear hk); (try clear hi); (try clear ho0)))
  (try simp only [Act.put, List.setIfInBounds_toArray, List.set_cons_zero, List.set_cons_succ])
  go_cut [51] (fun v51 wc => ∃ (kq : Nat) (x51_7 : Bool), v51 = .bool x51_7 ∧ Aside0 (laws_FnStores.j0 kq t446 t456 t459 x51_7 t449 t450 t451 t452 t453 t454 = some r) ∧ Aside0 (kq ≤ k) ∧ Aside0 (Kd.R k26 26 wc w.heap.size (fun k_ => some k_ ≠ (v457 : Value).ownBlock ∧ k_ ≠ gb455) (.slice Ao12 t446.length co12) t446) ∧ Aside0 (Kd.R k26 26 wc w.heap.size (fun k_ => some k_ ≠ ((.slice Ao12 t446.length co12) : Value).ownBlock ∧ k_ ≠ gb455) v457 t456) ∧ Aside0 (wc.heap[gb455]? = some (.cells #[.int .i64 t449, .int .i64 t450, .int .i64 t451, .int .i64 t452, .int .i64 t453, .int .i64 t454] 26 (0, 0))) ∧ Aside0 (Below w.heap.size w wc))
  case first =>
   have H := HC8.out
   clear HC8
   replace H := Option.bind_eq_some_iff.mp H
   obtain ⟨t469, A180, H⟩ := H
   replace H : (if t469 = true then ((impl_IsStore.f k t466).bind fun t470 => (if t470 = true then ((impl_MergeStores.f k t466 t461).bind fun t471 => ((impl_EqualStores.f k t471 t466).bind fun t474 => (if t474 = true then (laws_FnStores.j0 k t446 t456 t459 false t449 t450 t451 t452 t453 t454) else (laws_FnStores.j0 k t446 t456 t459 (decide ((t466.length : Int) < 30)) t449 t450 t451 t452 t453 t454)))) else (laws_FnStores.j0 k t446 t456 t459 true t449 t450 t451 t452 t453 t454))) else (laws_FnStores.j0 k t446 t456 t459 false t449 t450 t451 t452 t453 t454)) = some r := H
   have A18 := Aside0.mk A180
   clear A180
   by_cases c19 : t469 = true
   ·subst c19
    have H1 : ((impl_IsStore.f k t466).bind fun t470 => (if t470 = true then ((impl_MergeStores.f k t466 t461).bind fun t471 => ((impl_EqualStores.f k t471 t466).bind fun t474 => (if t474 = true then (laws_FnStores.j0 k t446 t456 t459 false t449 t450 t451 t452 t453 t454) else (laws_FnStores.j0 k t446 t456 t459 (decide ((t466.length : Int) < 30)) t449 t450 t451 t452 t453 t454)))) else (laws_FnStores.j0 k t446 t456 t459 true t449 t450 t451 t452 t453 t454))) = some r := by rw [if_pos rfl] at H; exact H
    clear H
    have H := H1
    clear H1
    replace H := Option.bind_eq_some_iff.mp H
    obtain ⟨t470, A200, H⟩ := H
    replace H : (if t470 = true then ((impl_MergeStores.f k t466 t461).bind fun t471 => ((impl_EqualStores.f k t471 t466).bind fun t474 => (if t474 = true then (laws_FnStores.j0 k t446 t456 t459 false t449 t450 t451 t452 t453 t454) else (laws_FnStores.j0 k t446 t456 t459 (decide ((t466.length : Int) < 30)) t449 t450 t451 t452 t453 t454)))) else (laws_FnStores.j0 k t446 t456 t459 true t449 t450 t451 t452 t453 t454)) = some r := H
    have A20 := Aside0.mk A200
    clear A200
    by_cases c21 : t470 = true
    ·subst c21
     have H1 : ((impl_MergeStores.f k t466 t461).bind fun t471 => ((impl_EqualStores.f k t471 t466).bind fun t474 => (if t474 = true then (laws_FnStores.j0 k t446 t456 t459 false t449 t450 t451 t452 t453 t454) else (laws_FnStores.j0 k t446 t456 t459 (decide ((t466.length : Int) < 30)) t449 t450 t451 t452 t453 t454)))) = some r := by rw [if_pos rfl] at H; exact H
     clear H
     have H := H1
     clear H1
     replace H := Option.bind_eq_some_iff.mp H
     obtain ⟨t471, A220, H⟩ := H
     replace H : ((impl_EqualStores.f k t471 t466).bind fun t474 => (if t474 = true then (laws_FnStores.j0 k t446 t456 t459 false t449 t450 t451 t452 t453 t454) else (laws_FnStores.j0 k t446 t456 t459 (decide ((t466.length : Int) < 30)) t449 t450 t451 t452 t453 t454))) = some r := H
     have A22 := Aside0.mk A220
     clear A220
     replace H := Option.bind_eq_some_iff.mp H
     obtain ⟨t474, A230, H⟩ := H
     replace H : (if t474 = true then (laws_FnStores.j0 k t446 t456 t459 false t449 t450 t451 t452 t453 t454) else (laws_FnStores.j0 k t446 t456 t459 (decide ((t466.length : Int) < 30)) t449 t450 t451 t452 t453 t454)) = some r := H
     have A23 := Aside0.mk A230
     clear A230
     by_cases c24 : t474 = true
     ·subst c24
      have H1 : (laws_FnStores.j0 k t446 t456 t459 false t449 t450 t451 t452 t453 t454) = some r := by rw [if_pos rfl] at H; exact H
      clear H
      have H := H1
      clear H1
      have H' := Aside0.mk H
      clear H
      go_wp2_with (first | ((with_reducible refine gate_callee (f := 13) rfl ?_); refine goesL_ (some 33) rfl rfl Try.func13 (by kernel_rfl) rfl #[.slice Ao15 t460.length co15] rfl (qq5) ?_; (with_reducible refine (impl_IsStore.calls k _ _ t460 true _ ?side1 ?side2 A18.out).mono ?_); (case side1 => exact qq148); (case side2 => exact qq149); rintro e w25 ⟨rfl, hb⟩; refine ⟨_, rfl, ?_⟩; have n0_ := Aside0.mk (Kd.R_below (qq35) hb); have n1_ := Aside0.mk (Kd.R_below (qq39) hb); have n2_ := Aside0.mk (Kd.R_below (qq41) hb); have n3_ := Aside0.mk (Kd.R_below (qq42) hb); have n4_ := Aside0.mk (Kd.R_below (qq43) hb); have n5_ := Aside0.mk (blk_below (g := gb455) (o := .cells #[.int .i64 t449, .int .i64 t450, .int .i64 t451, .int .i64 t452, .int .i64 t453, .int .i64 t454] 26 (0, 0)) (qq40) hb); have n6_ := Aside0.mk (below_step (qq38) hb); clear HO448; clear HO458; clear HO463; clear HO465; clear HO468; clear BK455; clear HB; have HO448 := n0_; have HO458 := n1_; have HO463 := n2_; have HO465 := n3_; have HO468 := n4_; have BK455 := n5_; have HB := n6_; clear n0_ n1_ n2_ n3_ n4_ n5_ n6_; (try clear hb); (try clear hb2); (try clear hk); (try clear hi); obtain ⟨Ao26, co26, eo26⟩ := Kd.R_slice HO468.out; subst eo26) | (go_at_call 13; (with_reducible refine (impl_IsStore.calls k _ _ t466 true _ ?side1 ?side2 A20.out).mono ?_); (case side1 => exact qq151); (case side2 => exact qq152); rintro e w27 ⟨rfl, hb⟩; have n0_ := Aside0.mk (Kd.R_below (qq35) hb); have n1_ := Aside0.mk (Kd.R_below (qq39) hb); have n2_ := Aside0.mk (Kd.R_below (qq41) hb); have n3_ := Aside0.mk (Kd.R_below (qq42) hb); have n4_ := Aside0.mk (Kd.R_below (qq43) hb); have n5_ := Aside0.mk (blk_below (g := gb455) (o := .cells #[.int .i64 t449, .int .i64 t450, .int .i64 t451, .int .i64 t452, .int .i64 t453, .int .i64 t454] 26 (0, 0)) (qq40) hb); have n6_ := Aside0.mk (below_step (qq38) hb); clear HO448; clear HO458; clear HO463; clear HO465; clear HO468; clear BK455; clear HB; have HO448 := n0_; have HO458 := n1_; have HO463 := n2_; have HO465 := n3_; have HO468 := n4_; have BK455 := n5_; have HB := n6_; clear n0_ n1_ n2_ n3_ n4_ n5_ n6_; (try clear hb); (try clear hb2); (try clear hk); (try clear hi)) | (go_at_call 12; (with_reducible refine (impl_MergeStores.calls k _ _ t466 _ _ t461 t471 _ ?side1 ?side2 ?side3 ?side4 A22.out).mono ?_); (case side1 => exact qq151); (case side2 => exact qq152); (case side3 => exact qq150); (case side4 => exact (Kd.R_reads' HO465.out).2.1); rintro e w28 ⟨v472, rfl, ho0, hb⟩; have n0_ := Aside0.mk (Kd.R_elder' (qq35) (Kd.R_base ho0) hb); have n1_ := Aside0.mk (Kd.R_elder' (qq39) (Kd.R_base ho0) hb); have n2_ := Aside0.mk (Kd.R_elder' (qq41) (Kd.R_base ho0) hb); have n3_ := Aside0.mk (Kd.R_elder' (qq42) (Kd.R_base ho0) hb); have n4_ := Aside0.mk (Kd.R_elder' (qq43) (Kd.R_base ho0) hb); have n5_ := Aside0.mk (Kd.R_lower (Kd.R_newB (Kd.R_new' (Kd.R_new' (Kd.R_new' (Kd.R_new' (Kd.R_new' ho0 (Kd.R_lt (qq35))) (Kd.R_lt (qq39))) (Kd.R_lt (qq41))) (Kd.R_lt (qq42))) (Kd.R_lt (qq43))) (g := gb455) (o := .cells #[.int .i64 t449, .int .i64 t450, .int .i64 t451, .int .i64 t452, .int .i64 t453, .int .i64 t454] 26 (0, 0)) (qq40)) (below_size (qq38))); have n6_ := Aside0.mk (blk_below (g := gb455) (o := .cells #[.int .i64 t449, .int .i64 t450, .int .i64 t451, .int .i64 t452, .int .i64 t453, .int .i64 t454] 26 (0, 0)) (qq40) hb); have n7_ := Aside0.mk (below_step (qq38) hb); clear HO448; clear HO458; clear HO463; clear HO465; clear HO468; clear BK455; clear HB; have HO448 := n0_; have HO458 := n1_; have HO463 := n2_; have HO465 := n3_; have HO468 := n4_; have HO473 := n5_; have BK455 := n6_; have HB := n7_; clear n0_ n1_ n2_ n3_ n4_ n5_ n6_ n7_; (try clear hb); (try clear hb2); (try clear hk); (try clear hi); (try clear ho0); obtain ⟨Ao29, co29, eo29⟩ := Kd.R_slice HO473.out; subst eo29) | (go_at_call 14; (with_reducible refine (impl_EqualStores.calls k _ _ t471 _ _ t466 true _ ?side1 ?side2 ?side3 ?side4 A23.out).mono ?_); (case side1 => exact qq153); (case side2 => exact (Kd.R_reads' HO473.out).2.1); (case side3 => exact qq151); (case side4 => exact qq152); rintro e w' ⟨rfl, ⟨nd, rfl⟩⟩))
      go_meet
      case rel => exact ⟨_, (false), (qq0), H', ⟨qq22⟩, ⟨qq44⟩, ⟨qq45⟩, ⟨qq40⟩, ⟨qq38⟩⟩
     ·replace c24 := Bool.eq_false_iff.mpr c24
      subst c24
      have H1 : (laws_FnStores.j0 k t446 t456 t459 (decide ((t466.length : Int) < 30)) t449 t450 t451 t452 t453 t454) = some r := by rw [if_neg (show ¬ (false = true) by decide)] at H; exact H
      clear H
      have H := H1
      clear H1
      have H' := Aside0.mk H
      clear H
      go_wp2_with (first | ((with_reducible refine gate_callee (f := 13) rfl ?_); refine goesL_ (some 33) rfl rfl Try.func13 (by kernel_rfl) rfl #[.slice Ao15 t460.length co15] rfl (qq5) ?_; (with_reducible refine (impl_IsStore.calls k _ _ t460 true _ ?side1 ?side2 A18.out).mono ?_); (case side1 => exact qq148); (case side2 => exact qq149); rintro e w30 ⟨rfl, hb⟩; refine ⟨_, rfl, ?_⟩; have n0_ := Aside0.mk (Kd.R_below (qq35) hb); have n1_ := Aside0.mk (Kd.R_below (qq39) hb); have n2_ := Aside0.mk (Kd.R_below (qq41) hb); have n3_ := Aside0.mk (Kd.R_below (qq42) hb); have n4_ := Aside0.mk (Kd.R_below (qq43) hb); have n5_ := Aside0.mk (blk_below (g := gb455) (o := .cells #[.int .i64 t449, .int .i64 t450, .int .i64 t451, .int .i64 t452, .int .i64 t453, .int .i64 t454] 26 (0, 0)) (qq40) hb); have n6_ := Aside0.mk (below_step (qq38) hb); clear HO448; clear HO458; clear HO463; clear HO465; clear HO468; clear BK455; clear HB; have HO448 := n0_; have HO458 := n1_; have HO463 := n2_; have HO465 := n3_; have HO468 := n4_; have BK455 := n5_; have HB := n6_; clear n0_ n1_ n2_ n3_ n4_ n5_ n6_; (try clear hb); (try clear hb2); (try clear hk); (try clear hi); obtain ⟨Ao31, co31, eo31⟩ := Kd.R_slice HO468.out; subst eo31) | (go_at_call 13; (with_reducible refine (impl_IsStore.calls k _ _ t466 true _ ?side1 ?side2 A20.out).mono ?_); (case side1 => exact qq151); (case side2 => exact qq152); rintro e w32 ⟨rfl, hb⟩; have n0_ := Aside0.mk (Kd.R_below (qq35) hb); have n1_ := Aside0.mk (Kd.R_below (qq39) hb); have n2_ := Aside0.mk (Kd.R_below (qq41) hb); have n3_ := Aside0.mk (Kd.R_below (qq42) hb); have n4_ := Aside0.mk (Kd.R_below (qq43) hb); have n5_ := Aside0.mk (blk_below (g := gb455) (o := .cells #[.int .i64 t449, .int .i64 t450, .int .i64 t451, .int .i64 t452, .int .i64 t453, .int .i64 t454] 26 (0, 0)) (qq40) hb); have n6_ := Aside0.mk (below_step (qq38) hb); clear HO448; clear HO458; clear HO463; clear HO465; clear HO468; clear BK455; clear HB; have HO448 := n0_; have HO458 := n1_; have HO463 := n2_; have HO465 := n3_; have HO468 := n4_; have BK455 := n5_; have HB := n6_; clear n0_ n1_ n2_ n3_ n4_ n5_ n6_; (try clear hb); (try clear hb2); (try clear hk); (try clear hi)) | (go_at_call 12; (with_reducible refine (impl_MergeStores.calls k _ _ t466 _ _ t461 t471 _ ?side1 ?side2 ?side3 ?side4 A22.out).mono ?_); (case side1 => exact qq151); (case side2 => exact qq152); (case side3 => exact qq150); (case side4 => exact (Kd.R_reads' HO465.out).2.1); rintro e w33 ⟨v472, rfl, ho0, hb⟩; have n0_ := Aside0.mk (Kd.R_elder' (qq35) (Kd.R_base ho0) hb); have n1_ := Aside0.mk (Kd.R_elder' (qq39) (Kd.R_base ho0) hb); have n2_ := Aside0.mk (Kd.R_elder' (qq41) (Kd.R_base ho0) hb); have n3_ := Aside0.mk (Kd.R_elder' (qq42) (Kd.R_base ho0) hb); have n4_ := Aside0.mk (Kd.R_elder' (qq43) (Kd.R_base ho0) hb); have n5_ := Aside0.mk (Kd.R_lower (Kd.R_newB (Kd.R_new' (Kd.R_new' (Kd.R_new' (Kd.R_new' (Kd.R_new' ho0 (Kd.R_lt (qq35))) (Kd.R_lt (qq39))) (Kd.R_lt (qq41))) (Kd.R_lt (qq42))) (Kd.R_lt (qq43))) (g := gb455) (o := .cells #[.int .i64 t449, .int .i64 t450, .int .i64 t451, .int .i64 t452, .int .i64 t453, .int .i64 t454] 26 (0, 0)) (qq40)) (below_size (qq38))); have n6_ := Aside0.mk (blk_below (g := gb455) (o := .cells #[.int .i64 t449, .int .i64 t450, .int .i64 t451, .int .i64 t452, .int .i64 t453, .int .i64 t454] 26 (0, 0)) (qq40) hb); have n7_ := Aside0.mk (below_step (qq38) hb); clear HO448; clear HO458; clear HO463; clear HO465; clear HO468; clear BK455; clear HB; have HO448 := n0_; have HO458 := n1_; have HO463 := n2_; have HO465 := n3_; have HO468 := n4_; have HO473 := n5_; have BK455 := n6_; have HB := n7_; clear n0_ n1_ n2_ n3_ n4_ n5_ n6_ n7_; (try clear hb); (try clear hb2); (try clear hk); (try clear hi); (try clear ho0); obtain ⟨Ao34, co34, eo34⟩ := Kd.R_slice HO473.out; subst eo34) | (go_at_call 14; (with_reducible refine (impl_EqualStores.calls k _ _ t471 _ _ t466 false _ ?side1 ?side2 ?side3 ?side4 A23.out).mono ?_); (case side1 => exact qq153); (case side2 => exact (Kd.R_reads' HO473.out).2.1); (case side3 => exact qq151); (case side4 => exact qq152); rintro e w' ⟨rfl, ⟨nd, rfl⟩⟩))
      go_meet
      case rel => exact ⟨_, (decide ((t466.length : Int) < 30)), (qq0), H', ⟨qq22⟩, ⟨qq44⟩, ⟨qq45⟩, ⟨qq40⟩, ⟨qq38⟩⟩
    ·replace c21 := Bool.eq_false_iff.mpr c21
     subst c21
     have H1 : (laws_FnStores.j0 k t446 t456 t459 true t449 t450 t451 t452 t453 t454) = some r := by rw [if_neg (show ¬ (false = true) by decide)] at H; exact H
     clear H
     have H := H1
     clear H1
     have H' := Aside0.mk H
     clear H
     go_wp2_with (first | ((with_reducible refine gate_callee (f := 13) rfl ?_); refine goesL_ (some 33) rfl rfl Try.func13 (by kernel_rfl) rfl #[.slice Ao15 t460.length co15] rfl (qq5) ?_; (with_reducible refine (impl_IsStore.calls k _ _ t460 true _ ?side1 ?side2 A18.out).mono ?_); (case side1 => exact qq148); (case side2 => exact qq149); rintro e w35 ⟨rfl, hb⟩; refine ⟨_, rfl, ?_⟩; have n0_ := Aside0.mk (Kd.R_below (qq35) hb); have n1_ := Aside0.mk (Kd.R_below (qq39) hb); have n2_ := Aside0.mk (Kd.R_below (qq41) hb); have n3_ := Aside0.mk (Kd.R_below (qq42) hb); have n4_ := Aside0.mk (Kd.R_below (qq43) hb); have n5_ := Aside0.mk (blk_below (g := gb455) (o := .cells #[.int .i64 t449, .int .i64 t450, .int .i64 t451, .int .i64 t452, .int .i64 t453, .int .i64 t454] 26 (0, 0)) (qq40) hb); have n6_ := Aside0.mk (below_step (qq38) hb); clear HO448; clear HO458; clear HO463; clear HO465; clear HO468; clear BK455; clear HB; have HO448 := n0_; have HO458 := n1_; have HO463 := n2_; have HO465 := n3_; have HO468 := n4_; have BK455 := n5_; have HB := n6_; clear n0_ n1_ n2_ n3_ n4_ n5_ n6_; (try clear hb); (try clear hb2); (try clear hk); (try clear hi); obtain ⟨Ao36, co36, eo36⟩ := Kd.R_slice HO468.out; subst eo36) | (go_at_call 13; (with_reducible refine (impl_IsStore.calls k _ _ t466 false _ ?side1 ?side2 A20.out).mono ?_); (case side1 => exact qq151); (case side2 => exact qq152); rintro e w37 ⟨rfl, hb⟩; have n0_ := Aside0.mk (Kd.R_below (qq35) hb); have n1_ := Aside0.mk (Kd.R_below (qq39) hb); have n2_ := Aside0.mk (Kd.R_below (qq41) hb); have n3_ := Aside0.mk (Kd.R_below (qq42) hb); have n4_ := Aside0.mk (Kd.R_below (qq43) hb); have n5_ := Aside0.mk (blk_below (g := gb455) (o := .cells #[.int .i64 t449, .int .i64 t450, .int .i64 t451, .int .i64 t452, .int .i64 t453, .int .i64 t454] 26 (0, 0)) (qq40) hb); have n6_ := Aside0.mk (below_step (qq38) hb); clear HO448; clear HO458; clear HO463; clear HO465; clear HO468; clear BK455; clear HB; have HO448 := n0_; have HO458 := n1_; have HO463 := n2_; have HO465 := n3_; have HO468 := n4_; have BK455 := n5_; have HB := n6_; clear n0_ n1_ n2_ n3_ n4_ n5_ n6_; (try clear hb); (try clear hb2); (try clear hk); (try clear hi)))
     go_meet
     case rel => exact ⟨_, (true), (qq0), H', ⟨qq22⟩, ⟨qq46⟩, ⟨qq47⟩, ⟨qq40⟩, ⟨qq38⟩⟩
   ·replace c19 := Bool.eq_false_iff.mpr c19
    subst c19
    have H1 : (laws_FnStores.j0 k t446 t456 t459 false t449 t450 t451 t452 t453 t454) = some r := by rw [if_neg (show ¬ (false = true) by decide)] at H; exact H
    clear H
    have H := H1
    clear H1
    have H' := Aside0.mk H
    clear H
    go_wp2_with (first | ((with_reducible refine gate_callee (f := 13) rfl ?_); refine goesL_ (some 33) rfl rfl Try.func13 (by kernel_rfl) rfl #[.slice Ao15 t460.length co15] rfl (qq5) ?_; (with_reducible refine (impl_IsStore.calls k _ _ t460 false _ ?side1 ?side2 A18.out).mono ?_); (case side1 => exact qq148); (case side2 => exact qq149); rintro e w38 ⟨rfl, hb⟩; refine ⟨_, rfl, ?_⟩; have n0_ := Aside0.mk (Kd.R_below (qq35) hb); have n1_ := Aside0.mk (Kd.R_below (qq39) hb); have n2_ := Aside0.mk (Kd.R_below (qq41) hb); have n3_ := Aside0.mk (Kd.R_below (qq42) hb); have n4_ := Aside0.mk (Kd.R_below (qq43) hb); have n5_ := Aside0.mk (blk_below (g := gb455) (o := .cells #[.int .i64 t449, .int .i64 t450, .int .i64 t451, .int .i64 t452, .int .i64 t453, .int .i64 t454] 26 (0, 0)) (qq40) hb); have n6_ := Aside0.mk (below_step (qq38) hb); clear HO448; clear HO458; clear HO463; clear HO465; clear HO468; clear BK455; clear HB; have HO448 := n0_; have HO458 := n1_; have HO463 := n2_; have HO465 := n3_; have HO468 := n4_; have BK455 := n5_; have HB := n6_; clear n0_ n1_ n2_ n3_ n4_ n5_ n6_; (try clear hb); (try clear hb2); (try clear hk); (try clear hi)))
    go_meet
    case rel => exact ⟨_, (false), (qq0), H', ⟨qq22⟩, ⟨qq46⟩, ⟨qq47⟩, ⟨qq40⟩, ⟨qq38⟩⟩
  case rest =>
   clear HC8
   try clear c1
   try clear c2
   try clear p2
   try clear c3
   try clear c8
   try clear c9
   try clear c10
   try clear c11
   try clear c12
   try clear c13
   try clear c19
   try clear c21
   try clear c24
   try clear hcz11_0
   try clear hcz11_1
   try clear hcz11_2
   try clear hcz11_3
   try clear hcz11_4
   try clear hcz11_5
   try clear hfz11_0
   try clear hfz11_1
   try clear hfz11_2
   try clear hfz11_3
   try clear hfz11_4
   try clear hfz11_5
   obtain ⟨kq, x51_7, rfl, HA, HJ7, HO_3, HO_5, BK455, HB⟩ := hcut
   cases kq with
   | zero => exact absurd HA.out (by simp [laws_FnStores.j0])
   | succ kj7 =>
    have H := HA.out
    clear HA
    simp only [laws_FnStores.j0] at H
    by_cases c39 : x51_7 = true
    ·subst c39
     have H1 : (some false) = some r := by rw [if_pos rfl] at H; exact H
     clear H
     have H := H1
     clear H1
     obtain rfl := Option.some.inj H
     go_wp2
     go_ret
     exact ⟨qq9, qq38⟩
    ·replace c39 := Bool.eq_false_iff.mpr c39
     subst c39
     have H1 : (if t459 = true then ((impl_IsStore.f kj7 t456).bind fun t476 => (if t476 = true then (laws_FnStores.j1 kj7 t456 (decide ((t456.length : Int) > (wrap64 ((t446.length : Int) + 1)))) t449 t450 t451 t452 t453 t454) else (laws_FnStores.j1 kj7 t456 true t449 t450 t451 t452 t453 t454))) else ((laws_sameFacts.f kj7 t456 t446).bind fun t475 => (some t475))) = some r := by rw [if_neg (show ¬ (false = true) by decide)] at H; exact H
     clear H
     have H := H1
     clear H1
     by_cases c40 : t459 = true
     ·subst c40
      have H1 : ((impl_IsStore.f kj7 t456).bind fun t476 => (if t476 = true then (laws_FnStores.j1 kj7 t456 (decide ((t456.length : Int) > (wrap64 ((t446.length : Int) + 1)))) t449 t450 t451 t452 t453 t454) else (laws_FnStores.j1 kj7 t456 true t449 t450 t451 t452 t453 t454))) = some r := by rw [if_pos rfl] at H; exact H
      clear H
      have H := H1
      clear H1
      have HC41 := Aside0.mk H
      clear H
      go_upto_region 11 with (fail)
      go_cut [67] (fun v67 wc => ∃ (kq : Nat) (x67_40 : Bool), v67 = .bool x67_40 ∧ Aside0 (laws_FnStores.j1 kq t456 x67_40 t449 t450 t451 t452 t453 t454 = some r) ∧ Aside0 (kq ≤ kj7) ∧ Aside0 (Kd.R k26 26 wc w.heap.size (fun k_ => k_ ≠ gb455) v457 t456) ∧ Aside0 (wc.heap[gb455]? = some (.cells #[.int .i64 t449, .int .i64 t450, .int .i64 t451, .int .i64 t452, .int .i64 t453, .int .i64 t454] 26 (0, 0))) ∧ Aside0 (Below w.heap.size w wc))
      case first =>
       have H := HC41.out
       clear HC41
       replace H := Option.bind_eq_some_iff.mp H
       obtain ⟨t476, A420, H⟩ := H
       replace H : (if t476 = true then (laws_FnStores.j1 kj7 t456 (decide ((t456.length : Int) > (wrap64 ((t446.length : Int) + 1)))) t449 t450 t451 t452 t453 t454) else (laws_FnStores.j1 kj7 t456 true t449 t450 t451 t452 t453 t454)) = some r := H
       have A42 := Aside0.mk A420
       clear A420
       by_cases c43 : t476 = true
       ·subst c43
        have H1 : (laws_FnStores.j1 kj7 t456 (decide ((t456.length : Int) > (wrap64 ((t446.length : Int) + 1)))) t449 t450 t451 t452 t453 t454) = some r := by rw [if_pos rfl] at H; exact H
        clear H
        have H := H1
        clear H1
        have H' := Aside0.mk H
        clear H
        obtain ⟨Ao44, co44, eo44⟩ := Kd.R_slice HO_5.out
        subst eo44
        go_wp2_with (first | ((with_reducible refine gate_callee (f := 13) rfl ?_); refine goesL_ (some 58) rfl rfl Try.func13 (by kernel_rfl) rfl #[.slice Ao44 t456.length co44] rfl (qq5) ?_; (with_reducible refine (impl_IsStore.calls kj7 _ _ t456 true _ ?side1 ?side2 A42.out).mono ?_); (case side1 => exact qq154); (case side2 => exact (Kd.R_reads' HO_5.out).2.1); rintro e w45 ⟨rfl, hb⟩; refine ⟨_, rfl, ?_⟩; have n0_ := Aside0.mk (Kd.R_below (qq48) hb); have n1_ := Aside0.mk (Kd.R_below (qq30) hb); have n2_ := Aside0.mk (blk_below (g := gb455) (o := .cells #[.int .i64 t449, .int .i64 t450, .int .i64 t451, .int .i64 t452, .int .i64 t453, .int .i64 t454] 26 (0, 0)) (qq40) hb); have n3_ := Aside0.mk (below_step (qq38) hb); clear HO_3; clear HO_5; clear BK455; clear HB; have HO_3 := n0_; have HO_5 := n1_; have BK455 := n2_; have HB := n3_; clear n0_ n1_ n2_ n3_; (try clear hb); (try clear hb2); (try clear hk); (try clear hi)))
        go_meet
        case rel => exact ⟨_, (decide ((t456.length : Int) > (wrap64 ((t446.length : Int) + 1)))), (qq0), H', ⟨by have := HJ7.out; first | omega | exact Nat.le_refl _⟩, ⟨qq49⟩, ⟨qq40⟩, ⟨qq38⟩⟩
       ·replace c43 := Bool.eq_false_iff.mpr c43
        subst c43
        have H1 : (laws_FnStores.j1 kj7 t456 true t449 t450 t451 t452 t453 t454) = some r := by rw [if_neg (show ¬ (false = true) by decide)] at H; exact H
        clear H
        have H := H1
        clear H1
        have H' := Aside0.mk H
        clear H
        obtain ⟨Ao46, co46, eo46⟩ := Kd.R_slice HO_5.out
        subst eo46
        go_wp2_with (first | ((with_reducible refine gate_callee (f := 13) rfl ?_); refine goesL_ (some 58) rfl rfl Try.func13 (by kernel_rfl) rfl #[.slice Ao46 t456.length co46] rfl (qq5) ?_; (with_reducible refine (impl_IsStore.calls kj7 _ _ t456 false _ ?side1 ?side2 A42.out).mono ?_); (case side1 => exact qq154); (case side2 => exact (Kd.R_reads' HO_5.out).2.1); rintro e w47 ⟨rfl, hb⟩; refine ⟨_, rfl, ?_⟩; have n0_ := Aside0.mk (Kd.R_below (qq48) hb); have n1_ := Aside0.mk (Kd.R_below (qq30) hb); have n2_ := Aside0.mk (blk_below (g := gb455) (o := .cells #[.int .i64 t449, .int .i64 t450, .int .i64 t451, .int .i64 t452, .int .i64 t453, .int .i64 t454] 26 (0, 0)) (qq40) hb); have n3_ := Aside0.mk (below_step (qq38) hb); clear HO_3; clear HO_5; clear BK455; clear HB; have HO_3 := n0_; have HO_5 := n1_; have BK455 := n2_; have HB := n3_; clear n0_ n1_ n2_ n3_; (try clear hb); (try clear hb2); (try clear hk); (try clear hi)))
        go_meet
        case rel => exact ⟨_, (true), (qq0), H', ⟨by have := HJ7.out; first | omega | exact Nat.le_refl _⟩, ⟨qq49⟩, ⟨qq40⟩, ⟨qq38⟩⟩
      case rest =>
       clear HC41
       try clear c1
       try clear c2
       try clear p2
       try clear c3
       try clear c4
       try clear p6
       try clear c8
       try clear c9
       try clear c10
       try clear c11
       try clear c12
       try clear c13
       try clear c19
       try clear c21
       try clear c24
       try clear c39
       try clear c40
       try clear c43
       try clear hcz11_0
       try clear hcz11_1
       try clear hcz11_2
       try clear hcz11_3
       try clear hcz11_4
       try clear hcz11_5
       try clear hfz11_0
       try clear hfz11_1
       try clear hfz11_2
       try clear hfz11_3
       try clear hfz11_4
       try clear hfz11_5
       try clear p2
       obtain ⟨kq, x67_40, rfl, HA, HJ40, HO_5, BK455, HB⟩ := hcut
       cases kq with
       | zero => exact absurd HA.out (by simp [laws_FnStores.j1])
       | succ kj40 =>
        have H := HA.out
        clear HA
        simp only [laws_FnStores.j1] at H
        by_cases c48 : x67_40 = true
        ·subst c48
         have H1 : (some false) = some r := by rw [if_pos rfl] at H; exact H
         clear H
         have H := H1
         clear H1
         obtain rfl := Option.some.inj H
         go_wp2
         go_ret
         exact ⟨qq9, qq38⟩
        ·replace c48 := Bool.eq_false_iff.mpr c48
         subst c48
         have H1 : (laws_FnStores.l0 kj40 t456 0 t449 t450 t451 t452 t453 t454) = some r := by rw [if_neg (show ¬ (false = true) by decide)] at H; exact H
         clear H
         have H := H1
         clear H1
         have H' := Aside0.mk H
         clear H
         go_wp2
         go_loopg [10] kj40 (fun kq v10 w' => ∃ (x10_3 : Int), v10 = .int .i64 x10_3 ∧ Aside0 (laws_FnStores.l0 kq t456 x10_3 t449 t450 t451 t452 t453 t454 = some r) ∧ Aside0 (kq ≤ kj40) ∧ Aside0 (Kd.R k26 26 w' w.heap.size (fun k_ => k_ ≠ gb455) v457 t456) ∧ Aside0 (w'.heap[gb455]? = some (.cells #[.int .i64 t449, .int .i64 t450, .int .i64 t451, .int .i64 t452, .int .i64 t453, .int .i64 t454] 26 (0, 0))) ∧ Aside0 (Below w.heap.size w w'))
         case atStart => exact ⟨(0), (qq0), H', ⟨Nat.le_refl _⟩, ⟨qq30⟩, ⟨qq40⟩, ⟨qq38⟩⟩
         case round =>
          clear H'
          try clear c1
          try clear c2
          try clear p2
          try clear c3
          try clear c4
          try clear p6
          try clear c8
          try clear c9
          try clear c10
          try clear c11
          try clear c12
          try clear c13
          try clear c19
          try clear c21
          try clear c24
          try clear c39
          try clear c40
          try clear c43
          try clear c48
          try clear hcz11_0
          try clear hcz11_1
          try clear hcz11_2
          try clear hcz11_3
          try clear hcz11_4
          try clear hcz11_5
          try clear hfz11_0
          try clear hfz11_1
          try clear hfz11_2
          try clear hfz11_3
          try clear hfz11_4
          try clear hfz11_5
          try clear p2
          try clear p6
          obtain ⟨x10_3, rfl, HA, HK3, HO_5, BK455, HB⟩ := hrel
          cases gk with
          | zero => exact absurd HA.out (by simp [laws_FnStores.l0])
          | succ k3 =>
           have H := HA.out
           clear HA
           simp only [laws_FnStores.l0] at H
           by_cases c49 : x10_3 < (t456.length : Int)
           ·rw [if_pos c49] at H
            have c49b0 : decide (x10_3 < (t456.length : Int)) = true := decide_eq_true c49
            clear c49
            by_cases c50 : 0 ≤ x10_3
            ·rw [if_pos c50] at H
             have c50b0 : decide (0 ≤ x10_3) = true := decide_eq_true c50
             clear c50
             replace H := Option.bind_eq_some_iff.mp H
             obtain ⟨t478, A510, H⟩ := H
             replace H : (if t478 = true then (if ((rd_T26 t456 x10_3).f4) ≥ t453 then (if (((rd_T26 t456 x10_3).f0) == t449 && (((rd_T26 t456 x10_3).f1) == t450 && (((rd_T26 t456 x10_3).f2) == t451 && (((rd_T26 t456 x10_3).f3) == t452 && (((rd_T26 t456 x10_3).f4) == t453 && (((rd_T26 t456 x10_3).f5) == t454)))))) = true then (some true) else (if ((rd_T26 t456 x10_3).f4) > t453 then (some true) else (some (decide (((rd_T26 t456 x10_3).f5) ≥ t454))))) else (some false)) else (laws_FnStores.l0 k3 t456 (wrap64 (x10_3 + 1)) t449 t450 t451 t452 t453 t454)) = some r := H
             have A51 := Aside0.mk A510
             clear A510
             by_cases c52 : t478 = true
             ·subst c52
              have H1 : (if ((rd_T26 t456 x10_3).f4) ≥ t453 then (if (((rd_T26 t456 x10_3).f0) == t449 && (((rd_T26 t456 x10_3).f1) == t450 && (((rd_T26 t456 x10_3).f2) == t451 && (((rd_T26 t456 x10_3).f3) == t452 && (((rd_T26 t456 x10_3).f4) == t453 && (((rd_T26 t456 x10_3).f5) == t454)))))) = true then (some true) else (if ((rd_T26 t456 x10_3).f4) > t453 then (some true) else (some (decide (((rd_T26 t456 x10_3).f5) ≥ t454))))) else (some false)) = some r := by rw [if_pos rfl] at H; exact H
              clear H
              have H := H1
              clear H1
              by_cases c53 : ((rd_T26 t456 x10_3).f4) ≥ t453
              ·rw [if_pos c53] at H
               have c53b0 : decide (t453 ≤ ((rd_T26 t456 x10_3).f4)) = true := decide_eq_true c53
               clear c53
               by_cases c54 : (((rd_T26 t456 x10_3).f0) == t449 && (((rd_T26 t456 x10_3).f1) == t450 && (((rd_T26 t456 x10_3).f2) == t451 && (((rd_T26 t456 x10_3).f3) == t452 && (((rd_T26 t456 x10_3).f4) == t453 && (((rd_T26 t456 x10_3).f5) == t454)))))) = true
               ·rw [if_pos c54] at H
                have c54b0 : (((rd_T26 t456 x10_3).f0) == t449 && (((rd_T26 t456 x10_3).f1) == t450 && (((rd_T26 t456 x10_3).f2) == t451 && (((rd_T26 t456 x10_3).f3) == t452 && (((rd_T26 t456 x10_3).f4) == t453 && (((rd_T26 t456 x10_3).f5) == t454)))))) = true := c54
                (try (have c54b1 : decide (((rd_T26 t456 x10_3).f0) = t449 && (((rd_T26 t456 x10_3).f1) == t450 && (((rd_T26 t456 x10_3).f2) == t451 && (((rd_T26 t456 x10_3).f3) == t452 && (((rd_T26 t456 x10_3).f4) == t453 && (((rd_T26 t456 x10_3).f5) == t454)))))) = true := by simpa using c54))
                (try (have c54b2 : (((rd_T26 t456 x10_3).f0) == t449 && (((rd_T26 t456 x10_3).f1) == t450 && (((rd_T26 t456 x10_3).f2) == t451 && (((rd_T26 t456 x10_3).f3) == t452 && (((rd_T26 t456 x10_3).f4) == t453 && (((rd_T26 t456 x10_3).f5) == t454)))))) = true := by simpa using c54))
                clear c54
                obtain rfl := Option.some.inj H
                obtain ⟨Ao55, co55, eo55⟩ := Kd.R_slice HO_5.out
                subst eo55
                try go_wp2
                have n0_ := Aside0.mk (Kd.R_drew HO_5.out)
                have n1_ := Aside0.mk (blk_drew BK455.out)
                have n2_ := Aside0.mk (below_drew1 HB.out)
                clear HO_5
                clear BK455
                clear HB
                have HO_5 := n0_
                have BK455 := n1_
                have HB := n2_
                clear n0_ n1_ n2_
                have p477 : 0 ≤ (x10_3 : Int) := of_decide_eq_true (qq2)
                have q477 : x10_3 < (t456.length : Int) := of_decide_eq_true (qq2)
                obtain ⟨ad477, e477, hx477_0, hx477_1, hx477_2, hx477_3, hx477_4, hx477_5⟩ := at_T26 (Kd.R_reads' HO_5.out).2.2 x10_3 p477 q477
                cases e477
                replace p477 := eq_true p477
                replace q477 := eq_true q477
                refine start_ (n := 6) (S := fun w' => w'.cell? ⟨gb455, 0, none⟩ = some (.int .i64 t449) ∧ w'.cell? ⟨gb455, 1, none⟩ = some (.int .i64 t450) ∧ w'.cell? ⟨gb455, 2, none⟩ = some (.int .i64 t451) ∧ w'.cell? ⟨gb455, 3, none⟩ = some (.int .i64 t452) ∧ w'.cell? ⟨gb455, 4, none⟩ = some (.int .i64 t453) ∧ w'.cell? ⟨gb455, 5, none⟩ = some (.int .i64 t454) ∧ w'.cell? (ad477.add ((x10_3).toNat * 6)) = some (.int .i64 ((rd_T26 t456 x10_3).f0)) ∧ w'.cell? ⟨(ad477.add ((x10_3).toNat * 6)).block, (ad477.add ((x10_3).toNat * 6)).off + 1, none⟩ = some (.int .i64 ((rd_T26 t456 x10_3).f1)) ∧ w'.cell? ⟨(ad477.add ((x10_3).toNat * 6)).block, (ad477.add ((x10_3).toNat * 6)).off + 2, none⟩ = some (.int .i64 ((rd_T26 t456 x10_3).f2)) ∧ w'.cell? ⟨(ad477.add ((x10_3).toNat * 6)).block, (ad477.add ((x10_3).toNat * 6)).off + 3, none⟩ = some (.int .i64 ((rd_T26 t456 x10_3).f3)) ∧ w'.cell? ⟨(ad477.add ((x10_3).toNat * 6)).block, (ad477.add ((x10_3).toNat * 6)).off + 4, none⟩ = some (.int .i64 ((rd_T26 t456 x10_3).f4)) ∧ w'.cell? ⟨(ad477.add ((x10_3).toNat * 6)).block, (ad477.add ((x10_3).toNat * 6)).off + 5, none⟩ = some (.int .i64 ((rd_T26 t456 x10_3).f5))) (ds := []) mm31 (by kernel_rfl) rfl rfl ⟨(blk_cell BK455.out 0).trans rfl, (blk_cell BK455.out 1).trans rfl, (blk_cell BK455.out 2).trans rfl, (blk_cell BK455.out 3).trans rfl, (blk_cell BK455.out 4).trans rfl, (blk_cell BK455.out 5).trans rfl, hx477_0, hx477_1, hx477_2, hx477_3, hx477_4, hx477_5⟩ (fun hHeld => ?_)
                generalize wr.drew = w56 at HO_5 BK455 HB hx477_0 hx477_1 hx477_2 hx477_3 hx477_4 hx477_5 hHeld ⊢
                refine pure_ (i := 0) (N := some 74) (v := ?_) (a' := ?_) mm34 rfl rfl (by kernel_rfl) (fun _ _ _ h => h) (Or.inl ⟨by rfl, ?_⟩) ?_ ?_
                rotate_left
                ·intro w'
                 go_simp
                 with_reducible rfl
                rotate_left
                ·exact qq161
                refine pure_ (i := 1) (N := some 75) (v := ?_) (a' := ?_) mm35 rfl rfl (by kernel_rfl) (fun _ _ _ h => h) (Or.inl ⟨by rfl, ?_⟩) ?_ ?_
                rotate_left
                ·intro w'
                 go_simp
                 with_reducible rfl
                rotate_left
                ·exact qq161
                refine pure_ (i := 2) (N := some 76) (v := ?_) (a' := ?_) #[true, true, true, false, false, false] rfl rfl (by kernel_rfl) (fun _ _ _ h => h) (Or.inl ⟨by rfl, ?_⟩) ?_ ?_
                rotate_left
                ·intro w'
                 go_simp
                 with_reducible rfl
                rotate_left
                ·exact qq161
                refine take_ (i := 3) (N := some 77) (v := ?_) (a' := ?_) #[true, true, true, true, false, false] rfl rfl (by kernel_rfl) (fun _ _ _ h => h) (Or.inl ⟨by rfl, ?_⟩) hHeld ?_ ?_
                rotate_left
                ·rintro w' ⟨s0, s1, s2, s3, s4, s5, s6, s7, s8, s9, s10, s11⟩
                 go_simp
                 with_reducible rfl
                rotate_left
                ·exact qq161
                refine take_ (i := 4) (N := some 78) (v := ?_) (a' := ?_) #[true, true, true, true, true, false] rfl rfl (by kernel_rfl) (fun _ _ _ h => h) (Or.inl ⟨by rfl, ?_⟩) hHeld ?_ ?_
                rotate_left
                ·rintro w' ⟨s0, s1, s2, s3, s4, s5, s6, s7, s8, s9, s10, s11⟩
                 go_simp
                 with_reducible rfl
                rotate_left
                ·exact qq161
                refine one_ (i := 5) (N := some 79) #[true, true, true, true, true, true] rfl rfl (by kernel_rfl) (by decide) (fun K hK => ?_)
                refine goes_ Try.func16 (by kernel_rfl) rfl #[.agg #[.int .i64 ((rd_T26 t456 x10_3).f0), .int .i64 ((rd_T26 t456 x10_3).f1), .int .i64 ((rd_T26 t456 x10_3).f2), .int .i64 ((rd_T26 t456 x10_3).f3), .int .i64 ((rd_T26 t456 x10_3).f4), .int .i64 ((rd_T26 t456 x10_3).f5)], .agg #[.int .i64 t449, .int .i64 t450, .int .i64 t451, .int .i64 t452, .int .i64 t453, .int .i64 t454]] (by rfl) rfl rfl (qq5) ?_
                with_reducible refine (impl_SameClaim.calls ((rd_T26 t456 x10_3).f0) ((rd_T26 t456 x10_3).f1) ((rd_T26 t456 x10_3).f2) ((rd_T26 t456 x10_3).f3) ((rd_T26 t456 x10_3).f4) ((rd_T26 t456 x10_3).f5) t449 t450 t451 t452 t453 t454 true _ A51.out).mono ?_
                rintro e w57 ⟨rfl, hb⟩
                have HS6_ := (hb.cell (World.block_lt_of_cell? _ _ (hHeld.2.2.2.2.2.2.1))).trans (hHeld.2.2.2.2.2.2.1)
                have HS7_ := (hb.cell (World.block_lt_of_cell? _ _ (hHeld.2.2.2.2.2.2.2.1))).trans (hHeld.2.2.2.2.2.2.2.1)
                have HS8_ := (hb.cell (World.block_lt_of_cell? _ _ (hHeld.2.2.2.2.2.2.2.2.1))).trans (hHeld.2.2.2.2.2.2.2.2.1)
                have HS9_ := (hb.cell (World.block_lt_of_cell? _ _ (hHeld.2.2.2.2.2.2.2.2.2.1))).trans (hHeld.2.2.2.2.2.2.2.2.2.1)
                have HS10_ := (hb.cell (World.block_lt_of_cell? _ _ (hHeld.2.2.2.2.2.2.2.2.2.2.1))).trans (hHeld.2.2.2.2.2.2.2.2.2.2.1)
                have HS11_ := (hb.cell (World.block_lt_of_cell? _ _ (hHeld.2.2.2.2.2.2.2.2.2.2.2))).trans (hHeld.2.2.2.2.2.2.2.2.2.2.2)
                refine ⟨_, rfl, ?_⟩
                have n0_ := Aside0.mk (Kd.R_below (qq30) hb)
                have n1_ := Aside0.mk (blk_below (g := gb455) (o := .cells #[.int .i64 t449, .int .i64 t450, .int .i64 t451, .int .i64 t452, .int .i64 t453, .int .i64 t454] 26 (0, 0)) (qq40) hb)
                have n2_ := Aside0.mk (below_step (qq38) hb)
                clear HO_5
                clear BK455
                clear HB
                have HO_5 := n0_
                have BK455 := n1_
                have HB := n2_
                clear n0_ n1_ n2_
                (try clear hb)
                (try clear hb2)
                (try clear hk)
                (try clear hi)
                refine hK.out _ _ ⟨(blk_cell BK455.out 0).trans rfl, (blk_cell BK455.out 1).trans rfl, (blk_cell BK455.out 2).trans rfl, (blk_cell BK455.out 3).trans rfl, (blk_cell BK455.out 4).trans rfl, (blk_cell BK455.out 5).trans rfl, HS6_, HS7_, HS8_, HS9_, HS10_, HS11_⟩ (fun hHeld => ?_)
                clear hK K
                refine norm_ (a' := ?_) ?_ ?_
                rotate_left
                ·show Act.put _ (some 79) _ = _
                 simp only [Act.put, List.setIfInBounds_toArray, List.set_cons_zero, List.set_cons_succ, i64_w, i32_w]
                 rfl
                refine done_ (by kernel_rfl) ?_
                try go_wp2
                have n0_ := Aside0.mk (Kd.R_drew HO_5.out)
                have n1_ := Aside0.mk (blk_drew BK455.out)
                have n2_ := Aside0.mk (below_drew1 HB.out)
                clear HO_5
                clear BK455
                clear HB
                have HO_5 := n0_
                have BK455 := n1_
                have HB := n2_
                clear n0_ n1_ n2_
                have p479 : 0 ≤ (x10_3 : Int) := of_decide_eq_true (qq2)
                have q479 : x10_3 < (t456.length : Int) := of_decide_eq_true (qq2)
                obtain ⟨ad479, e479, hx479_0, hx479_1, hx479_2, hx479_3, hx479_4, hx479_5⟩ := at_T26 (Kd.R_reads' HO_5.out).2.2 x10_3 p479 q479
                obtain rfl : ad477 = ad479 := (by injection e479)
                replace p479 := eq_true p479
                replace q479 := eq_true q479
                have p480 : 0 ≤ (x10_3 : Int) := of_decide_eq_true (qq2)
                have q480 : x10_3 < (t456.length : Int) := of_decide_eq_true (qq2)
                obtain ⟨ad480, e480, hx480_0, hx480_1, hx480_2, hx480_3, hx480_4, hx480_5⟩ := at_T26 (Kd.R_reads' HO_5.out).2.2 x10_3 p480 q480
                obtain rfl : ad477 = ad480 := (by injection e480)
                replace p480 := eq_true p480
                replace q480 := eq_true q480
                refine start_ (n := 37) (S := fun w' => w'.cell? ⟨gb455, 0, none⟩ = some (.int .i64 t449) ∧ w'.cell? ⟨gb455, 1, none⟩ = some (.int .i64 t450) ∧ w'.cell? ⟨gb455, 2, none⟩ = some (.int .i64 t451) ∧ w'.cell? ⟨gb455, 3, none⟩ = some (.int .i64 t452) ∧ w'.cell? ⟨gb455, 4, none⟩ = some (.int .i64 t453) ∧ w'.cell? ⟨gb455, 5, none⟩ = some (.int .i64 t454) ∧ w'.cell? (ad477.add ((x10_3).toNat * 6)) = some (.int .i64 ((rd_T26 t456 x10_3).f0)) ∧ w'.cell? ⟨(ad477.add ((x10_3).toNat * 6)).block, (ad477.add ((x10_3).toNat * 6)).off + 1, none⟩ = some (.int .i64 ((rd_T26 t456 x10_3).f1)) ∧ w'.cell? ⟨(ad477.add ((x10_3).toNat * 6)).block, (ad477.add ((x10_3).toNat * 6)).off + 2, none⟩ = some (.int .i64 ((rd_T26 t456 x10_3).f2)) ∧ w'.cell? ⟨(ad477.add ((x10_3).toNat * 6)).block, (ad477.add ((x10_3).toNat * 6)).off + 3, none⟩ = some (.int .i64 ((rd_T26 t456 x10_3).f3)) ∧ w'.cell? ⟨(ad477.add ((x10_3).toNat * 6)).block, (ad477.add ((x10_3).toNat * 6)).off + 4, none⟩ = some (.int .i64 ((rd_T26 t456 x10_3).f4)) ∧ w'.cell? ⟨(ad477.add ((x10_3).toNat * 6)).block, (ad477.add ((x10_3).toNat * 6)).off + 5, none⟩ = some (.int .i64 ((rd_T26 t456 x10_3).f5)) ∧ w'.cell? (ad477.add ((x10_3).toNat * 6)) = some (.int .i64 ((rd_T26 t456 x10_3).f0)) ∧ w'.cell? ⟨(ad477.add ((x10_3).toNat * 6)).block, (ad477.add ((x10_3).toNat * 6)).off + 1, none⟩ = some (.int .i64 ((rd_T26 t456 x10_3).f1)) ∧ w'.cell? ⟨(ad477.add ((x10_3).toNat * 6)).block, (ad477.add ((x10_3).toNat * 6)).off + 2, none⟩ = some (.int .i64 ((rd_T26 t456 x10_3).f2)) ∧ w'.cell? ⟨(ad477.add ((x10_3).toNat * 6)).block, (ad477.add ((x10_3).toNat * 6)).off + 3, none⟩ = some (.int .i64 ((rd_T26 t456 x10_3).f3)) ∧ w'.cell? ⟨(ad477.add ((x10_3).toNat * 6)).block, (ad477.add ((x10_3).toNat * 6)).off + 4, none⟩ = some (.int .i64 ((rd_T26 t456 x10_3).f4)) ∧ w'.cell? ⟨(ad477.add ((x10_3).toNat * 6)).block, (ad477.add ((x10_3).toNat * 6)).off + 5, none⟩ = some (.int .i64 ((rd_T26 t456 x10_3).f5))) (ds := []) mm36 (by kernel_rfl) rfl rfl ⟨(blk_cell BK455.out 0).trans rfl, (blk_cell BK455.out 1).trans rfl, (blk_cell BK455.out 2).trans rfl, (blk_cell BK455.out 3).trans rfl, (blk_cell BK455.out 4).trans rfl, (blk_cell BK455.out 5).trans rfl, hx479_0, hx479_1, hx479_2, hx479_3, hx479_4, hx479_5, hx480_0, hx480_1, hx480_2, hx480_3, hx480_4, hx480_5⟩ (fun hHeld => ?_); refine with_tabW laws_FnStores.tab17 laws_FnStores.bits17 (fun HT_ HW_ => ?_)
                generalize w57.drew = w58 at HO_5 BK455 HB hx479_0 hx479_1 hx479_2 hx479_3 hx479_4 hx479_5 hx480_0 hx480_1 hx480_2 hx480_3 hx480_4 hx480_5 hHeld ⊢
                refine pure_ (i := 0) (N := some 80) (v := ?_) (a' := ?_) mm37 rfl rfl (any_of HT_.out (by kernel_rfl)) (fun _ _ _ h => h) (Or.inl ⟨by rfl, ?_⟩) ?_ ?_
                rotate_left
                ·intro w'
                 go_simp
                 with_reducible rfl
                rotate_left
                ·exact qq161
                refine pure_ (i := 1) (N := some 81) (v := ?_) (a' := ?_) mm38 rfl rfl (any_of HT_.out (by kernel_rfl)) (fun _ _ _ h => h) (Or.inl ⟨by rfl, ?_⟩) ?_ ?_
                rotate_left
                ·intro w'
                 go_simp
                 with_reducible rfl
                rotate_left
                ·exact qq161
                refine pure_ (i := 2) (N := some 82) (v := ?_) (a' := ?_) mm39 rfl rfl (any_of HT_.out (by kernel_rfl)) (fun _ _ _ h => h) (Or.inl ⟨by rfl, ?_⟩) ?_ ?_
                rotate_left
                ·intro w'
                 go_simp
                 with_reducible rfl
                rotate_left
                ·exact qq161
                refine pure_ (i := 3) (N := some 83) (v := ?_) (a' := ?_) mm40 rfl rfl (any_of HT_.out (by kernel_rfl)) (fun _ _ _ h => h) (Or.inl ⟨by rfl, ?_⟩) ?_ ?_
                rotate_left
                ·intro w'
                 go_simp
                 with_reducible rfl
                rotate_left
                ·exact qq161
                refine pure_ (i := 5) (N := some 85) (v := ?_) (a' := ?_) mm41 rfl rfl (any_of HT_.out (by kernel_rfl)) (fun _ _ _ h => h) (Or.inl ⟨by rfl, ?_⟩) ?_ ?_
                rotate_left
                ·intro w'
                 go_simp
                 with_reducible rfl
                rotate_left
                ·exact qq161
                refine take_ (i := 4) (N := some 84) (v := ?_) (a' := ?_) mm42 rfl rfl (take_ofW HT_.out HW_.out (by kernel_rfl)) (fun _ _ _ h => h) (Or.inl ⟨by rfl, ?_⟩) hHeld ?_ ?_
                rotate_left
                ·rintro w' ⟨s0, s1, s2, s3, s4, s5, s6, s7, s8, s9, s10, s11, s12, s13, s14, s15, s16, s17⟩
                 go_simp
                 with_reducible rfl
                rotate_left
                ·exact qq161
                refine take_ (i := 6) (N := some 86) (v := ?_) (a' := ?_) mm43 rfl rfl (take_ofW HT_.out HW_.out (by kernel_rfl)) (fun _ _ _ h => h) (Or.inl ⟨by rfl, ?_⟩) hHeld ?_ ?_
                rotate_left
                ·rintro w' ⟨s0, s1, s2, s3, s4, s5, s6, s7, s8, s9, s10, s11, s12, s13, s14, s15, s16, s17⟩
                 go_simp
                 with_reducible rfl
                rotate_left
                ·exact qq161
                refine pure_ (i := 7) (N := some 87) (v := ?_) (a' := ?_) mm44 rfl rfl (any_of HT_.out (by kernel_rfl)) (fun _ _ _ h => h) (Or.inl ⟨by rfl, ?_⟩) ?_ ?_
                rotate_left
                ·intro w'
                 go_simp
                 with_reducible rfl
                rotate_left
                ·exact qq161
                refine pure_ (i := 8) (N := some 88) (v := ?_) (a' := ?_) mm45 rfl rfl (any_of HT_.out (by kernel_rfl)) (fun _ _ _ h => h) (Or.inl ⟨by rfl, ?_⟩) ?_ ?_
                rotate_left
                ·intro w'
                 go_simp
                 with_reducible rfl
                rotate_left
                ·exact qq161
                refine pure_ (i := 9) (N := some 89) (v := ?_) (a' := ?_) mm46 rfl rfl (any_of HT_.out (by kernel_rfl)) (fun _ _ _ h => h) (Or.inl ⟨by rfl, ?_⟩) ?_ ?_
                rotate_left
                ·intro w'
                 go_simp
                 with_reducible rfl
                rotate_left
                ·exact qq161
                refine pure_ (i := 10) (N := some 90) (v := ?_) (a' := ?_) mm47 rfl rfl (any_of HT_.out (by kernel_rfl)) (fun _ _ _ h => h) (Or.inl ⟨by rfl, ?_⟩) ?_ ?_
                rotate_left
                ·intro w'
                 go_simp
                 with_reducible rfl
                rotate_left
                ·exact qq161
                refine pure_ (i := 11) (N := some 91) (v := ?_) (a' := ?_) mm48 rfl rfl (any_of HT_.out (by kernel_rfl)) (fun _ _ _ h => h) (Or.inl ⟨by rfl, ?_⟩) ?_ ?_
                rotate_left
                ·intro w'
                 go_simp
                 with_reducible rfl
                rotate_left
                ·exact qq161
                refine take_ (i := 12) (N := some 92) (v := ?_) (a' := ?_) mm49 rfl rfl (take_ofW HT_.out HW_.out (by kernel_rfl)) (fun _ _ _ h => h) (Or.inl ⟨by rfl, ?_⟩) hHeld ?_ ?_
                rotate_left
                ·rintro w' ⟨s0, s1, s2, s3, s4, s5, s6, s7, s8, s9, s10, s11, s12, s13, s14, s15, s16, s17⟩
                 go_simp
                 with_reducible rfl
                rotate_left
                ·exact qq161
                refine take_ (i := 13) (N := some 93) (v := ?_) (a' := ?_) mm50 rfl rfl (take_ofW HT_.out HW_.out (by kernel_rfl)) (fun _ _ _ h => h) (Or.inl ⟨by rfl, ?_⟩) hHeld ?_ ?_
                rotate_left
                ·rintro w' ⟨s0, s1, s2, s3, s4, s5, s6, s7, s8, s9, s10, s11, s12, s13, s14, s15, s16, s17⟩
                 go_simp
                 with_reducible rfl
                rotate_left
                ·exact qq161
                refine pure_ (i := 14) (N := some 94) (v := ?_) (a' := ?_) mm51 rfl rfl (any_of HT_.out (by kernel_rfl)) (fun _ _ _ h => h) (Or.inl ⟨by rfl, ?_⟩) ?_ ?_
                rotate_left
                ·intro w'
                 go_simp
                 with_reducible rfl
                rotate_left
                ·exact qq161
                refine pure_ (i := 15) (N := some 95) (v := ?_) (a' := ?_) mm52 rfl rfl (any_of HT_.out (by kernel_rfl)) (fun _ _ _ h => h) (Or.inl ⟨by rfl, ?_⟩) ?_ ?_
                rotate_left
                ·intro w'
                 go_simp
                 with_reducible rfl
                rotate_left
                ·exact qq161
                refine pure_ (i := 16) (N := some 96) (v := undef) (a' := ?_) mm53 rfl rfl (any_of HT_.out (by kernel_rfl)) (fun _ _ _ h => h) (Or.inr ⟨by rfl, rfl⟩) ?_ ?_
                rotate_left
                ·exact qq161
                refine pure_ (i := 17) (N := some 97) (v := undef) (a' := ?_) mm54 rfl rfl (any_of HT_.out (by kernel_rfl)) (fun _ _ _ h => h) (Or.inr ⟨by rfl, rfl⟩) ?_ ?_
                rotate_left
                ·exact qq161
                refine pure_ (i := 18) (N := some 98) (v := undef) (a' := ?_) mm55 rfl rfl (any_of HT_.out (by kernel_rfl)) (fun _ _ _ h => h) (Or.inr ⟨by rfl, rfl⟩) ?_ ?_
                rotate_left
                ·exact qq161
                refine pure_ (i := 19) (N := some 99) (v := undef) (a' := ?_) mm56 rfl rfl (any_of HT_.out (by kernel_rfl)) (fun _ _ _ h => h) (Or.inr ⟨by rfl, rfl⟩) ?_ ?_
                rotate_left
                ·exact qq161
                refine pure_ (i := 20) (N := some 100) (v := undef) (a' := ?_) mm57 rfl rfl (any_of HT_.out (by kernel_rfl)) (fun _ _ _ h => h) (Or.inr ⟨by rfl, rfl⟩) ?_ ?_
                rotate_left
                ·exact qq161
                refine pure_ (i := 21) (N := some 101) (v := undef) (a' := ?_) mm58 rfl rfl (any_of HT_.out (by kernel_rfl)) (fun _ _ _ h => h) (Or.inr ⟨by rfl, rfl⟩) ?_ ?_
                rotate_left
                ·exact qq161
                refine pure_ (i := 22) (N := some 102) (v := undef) (a' := ?_) mm59 rfl rfl (any_of HT_.out (by kernel_rfl)) (fun _ _ _ h => h) (Or.inr ⟨by rfl, rfl⟩) ?_ ?_
                rotate_left
                ·exact qq161
                refine pure_ (i := 23) (N := some 103) (v := undef) (a' := ?_) mm60 rfl rfl (any_of HT_.out (by kernel_rfl)) (fun _ _ _ h => h) (Or.inr ⟨by rfl, rfl⟩) ?_ ?_
                rotate_left
                ·exact qq161
                refine pure_ (i := 24) (N := some 104) (v := ?_) (a' := ?_) mm61 rfl rfl (any_of HT_.out (by kernel_rfl)) (fun _ _ _ h => h) (Or.inl ⟨by rfl, ?_⟩) ?_ ?_
                rotate_left
                ·intro w'
                 go_simp
                 with_reducible rfl
                rotate_left
                ·exact qq161
                refine pure_ (i := 25) (N := some 105) (v := ?_) (a' := ?_) mm62 rfl rfl (any_of HT_.out (by kernel_rfl)) (fun _ _ _ h => h) (Or.inl ⟨by rfl, ?_⟩) ?_ ?_
                rotate_left
                ·intro w'
                 go_simp
                 with_reducible rfl
                rotate_left
                ·exact qq161
                refine pure_ (i := 26) (N := some 106) (v := undef) (a' := ?_) mm63 rfl rfl (any_of HT_.out (by kernel_rfl)) (fun _ _ _ h => h) (Or.inr ⟨by rfl, rfl⟩) ?_ ?_
                rotate_left
                ·exact qq161
                refine pure_ (i := 27) (N := some 107) (v := undef) (a' := ?_) mm64 rfl rfl (any_of HT_.out (by kernel_rfl)) (fun _ _ _ h => h) (Or.inr ⟨by rfl, rfl⟩) ?_ ?_
                rotate_left
                ·exact qq161
                refine pure_ (i := 28) (N := some 108) (v := undef) (a' := ?_) mm65 rfl rfl (any_of HT_.out (by kernel_rfl)) (fun _ _ _ h => h) (Or.inr ⟨by rfl, rfl⟩) ?_ ?_
                rotate_left
                ·exact qq161
                refine pure_ (i := 29) (N := some 109) (v := undef) (a' := ?_) mm66 rfl rfl (any_of HT_.out (by kernel_rfl)) (fun _ _ _ h => h) (Or.inr ⟨by rfl, rfl⟩) ?_ ?_
                rotate_left
                ·exact qq161
                refine pure_ (i := 30) (N := some 110) (v := undef) (a' := ?_) mm67 rfl rfl (any_of HT_.out (by kernel_rfl)) (fun _ _ _ h => h) (Or.inr ⟨by rfl, rfl⟩) ?_ ?_
                rotate_left
                ·exact qq161
                refine pure_ (i := 31) (N := some 111) (v := undef) (a' := ?_) mm68 rfl rfl (any_of HT_.out (by kernel_rfl)) (fun _ _ _ h => h) (Or.inr ⟨by rfl, rfl⟩) ?_ ?_
                rotate_left
                ·exact qq161
                refine pure_ (i := 32) (N := some 112) (v := undef) (a' := ?_) mm69 rfl rfl (any_of HT_.out (by kernel_rfl)) (fun _ _ _ h => h) (Or.inr ⟨by rfl, rfl⟩) ?_ ?_
                rotate_left
                ·exact qq161
                refine pure_ (i := 33) (N := some 113) (v := undef) (a' := ?_) mm70 rfl rfl (any_of HT_.out (by kernel_rfl)) (fun _ _ _ h => h) (Or.inr ⟨by rfl, rfl⟩) ?_ ?_
                rotate_left
                ·exact qq161
                refine pure_ (i := 34) (N := some 114) (v := ?_) (a' := ?_) mm71 rfl rfl (any_of HT_.out (by kernel_rfl)) (fun _ _ _ h => h) (Or.inl ⟨by rfl, ?_⟩) ?_ ?_
                rotate_left
                ·intro w'
                 go_simp
                 with_reducible rfl
                rotate_left
                ·exact qq161
                refine pure_ (i := 35) (N := some 115) (v := ?_) (a' := ?_) mm72 rfl rfl (any_of HT_.out (by kernel_rfl)) (fun _ _ _ h => h) (Or.inl ⟨by rfl, ?_⟩) ?_ ?_
                rotate_left
                ·intro w'
                 go_simp
                 with_reducible rfl
                rotate_left
                ·exact qq161
                refine pure_ (i := 36) (N := some 2) (v := ?_) (a' := ?_) mm73 rfl rfl (any_of HT_.out (by kernel_rfl)) (fun _ _ _ h => h) (Or.inl ⟨by rfl, ?_⟩) ?_ ?_
                rotate_left
                ·intro w'
                 go_simp
                 with_reducible rfl
                rotate_left
                ·exact qq161
                refine done_ (done_of HT_.out (by kernel_rfl)) ?_
                try go_wp2
                go_ret
                exact ⟨qq9, qq38⟩
               ·rw [if_neg c54] at H
                have c54b0 : (((rd_T26 t456 x10_3).f0) == t449 && (((rd_T26 t456 x10_3).f1) == t450 && (((rd_T26 t456 x10_3).f2) == t451 && (((rd_T26 t456 x10_3).f3) == t452 && (((rd_T26 t456 x10_3).f4) == t453 && (((rd_T26 t456 x10_3).f5) == t454)))))) = false := by simpa using c54
                (try (have c54b1 : decide (((rd_T26 t456 x10_3).f0) = t449 && (((rd_T26 t456 x10_3).f1) == t450 && (((rd_T26 t456 x10_3).f2) == t451 && (((rd_T26 t456 x10_3).f3) == t452 && (((rd_T26 t456 x10_3).f4) == t453 && (((rd_T26 t456 x10_3).f5) == t454)))))) = false := by simpa using c54))
                (try (have c54b2 : (((rd_T26 t456 x10_3).f0) == t449 && (((rd_T26 t456 x10_3).f1) == t450 && (((rd_T26 t456 x10_3).f2) == t451 && (((rd_T26 t456 x10_3).f3) == t452 && (((rd_T26 t456 x10_3).f4) == t453 && (((rd_T26 t456 x10_3).f5) == t454)))))) = false := by simpa using c54))
                (try (have c54b3 : ¬ (((rd_T26 t456 x10_3).f0) = t449 && (((rd_T26 t456 x10_3).f1) == t450 && (((rd_T26 t456 x10_3).f2) == t451 && (((rd_T26 t456 x10_3).f3) == t452 && (((rd_T26 t456 x10_3).f4) == t453 && (((rd_T26 t456 x10_3).f5) == t454)))))) := by simpa using c54))
                clear c54
                by_cases c59 : ((rd_T26 t456 x10_3).f4) > t453
                ·rw [if_pos c59] at H
                 have c59b0 : decide (t453 < ((rd_T26 t456 x10_3).f4)) = true := decide_eq_true c59
                 clear c59
                 obtain rfl := Option.some.inj H
                 obtain ⟨Ao60, co60, eo60⟩ := Kd.R_slice HO_5.out
                 subst eo60
                 try go_wp2
                 have n0_ := Aside0.mk (Kd.R_drew HO_5.out)
                 have n1_ := Aside0.mk (blk_drew BK455.out)
                 have n2_ := Aside0.mk (below_drew1 HB.out)
                 clear HO_5
                 clear BK455
                 clear HB
                 have HO_5 := n0_
                 have BK455 := n1_
                 have HB := n2_
                 clear n0_ n1_ n2_
                 have p477 : 0 ≤ (x10_3 : Int) := of_decide_eq_true (qq2)
                 have q477 : x10_3 < (t456.length : Int) := of_decide_eq_true (qq2)
                 obtain ⟨ad477, e477, hx477_0, hx477_1, hx477_2, hx477_3, hx477_4, hx477_5⟩ := at_T26 (Kd.R_reads' HO_5.out).2.2 x10_3 p477 q477
                 cases e477
                 replace p477 := eq_true p477
                 replace q477 := eq_true q477
                 refine start_ (n := 6) (S := fun w' => w'.cell? ⟨gb455, 0, none⟩ = some (.int .i64 t449) ∧ w'.cell? ⟨gb455, 1, none⟩ = some (.int .i64 t450) ∧ w'.cell? ⟨gb455, 2, none⟩ = some (.int .i64 t451) ∧ w'.cell? ⟨gb455, 3, none⟩ = some (.int .i64 t452) ∧ w'.cell? ⟨gb455, 4, none⟩ = some (.int .i64 t453) ∧ w'.cell? ⟨gb455, 5, none⟩ = some (.int .i64 t454) ∧ w'.cell? (ad477.add ((x10_3).toNat * 6)) = some (.int .i64 ((rd_T26 t456 x10_3).f0)) ∧ w'.cell? ⟨(ad477.add ((x10_3).toNat * 6)).block, (ad477.add ((x10_3).toNat * 6)).off + 1, none⟩ = some (.int .i64 ((rd_T26 t456 x10_3).f1)) ∧ w'.cell? ⟨(ad477.add ((x10_3).toNat * 6)).block, (ad477.add ((x10_3).toNat * 6)).off + 2, none⟩ = some (.int .i64 ((rd_T26 t456 x10_3).f2)) ∧ w'.cell? ⟨(ad477.add ((x10_3).toNat * 6)).block, (ad477.add ((x10_3).toNat * 6)).off + 3, none⟩ = some (.int .i64 ((rd_T26 t456 x10_3).f3)) ∧ w'.cell? ⟨(ad477.add ((x10_3).toNat * 6)).block, (ad477.add ((x10_3).toNat * 6)).off + 4, none⟩ = some (.int .i64 ((rd_T26 t456 x10_3).f4)) ∧ w'.cell? ⟨(ad477.add ((x10_3).toNat * 6)).block, (ad477.add ((x10_3).toNat * 6)).off + 5, none⟩ = some (.int .i64 ((rd_T26 t456 x10_3).f5))) (ds := []) mm31 (by kernel_rfl) rfl rfl ⟨(blk_cell BK455.out 0).trans rfl, (blk_cell BK455.out 1).trans rfl, (blk_cell BK455.out 2).trans rfl, (blk_cell BK455.out 3).trans rfl, (blk_cell BK455.out 4).trans rfl, (blk_cell BK455.out 5).trans rfl, hx477_0, hx477_1, hx477_2, hx477_3, hx477_4, hx477_5⟩ (fun hHeld => ?_)
                 generalize wr.drew = w61 at HO_5 BK455 HB hx477_0 hx477_1 hx477_2 hx477_3 hx477_4 hx477_5 hHeld ⊢
                 refine pure_ (i := 0) (N := some 74) (v := ?_) (a' := ?_) mm34 rfl rfl (by kernel_rfl) (fun _ _ _ h => h) (Or.inl ⟨by rfl, ?_⟩) ?_ ?_
                 rotate_left
                 ·intro w'
                  go_simp
                  with_reducible rfl
                 rotate_left
                 ·exact qq161
                 refine pure_ (i := 1) (N := some 75) (v := ?_) (a' := ?_) mm35 rfl rfl (by kernel_rfl) (fun _ _ _ h => h) (Or.inl ⟨by rfl, ?_⟩) ?_ ?_
                 rotate_left
                 ·intro w'
                  go_simp
                  with_reducible rfl
                 rotate_left
                 ·exact qq161
                 refine pure_ (i := 2) (N := some 76) (v := ?_) (a' := ?_) #[true, true, true, false, false, false] rfl rfl (by kernel_rfl) (fun _ _ _ h => h) (Or.inl ⟨by rfl, ?_⟩) ?_ ?_
                 rotate_left
                 ·intro w'
                  go_simp
                  with_reducible rfl
                 rotate_left
                 ·exact qq161
                 refine take_ (i := 3) (N := some 77) (v := ?_) (a' := ?_) #[true, true, true, true, false, false] rfl rfl (by kernel_rfl) (fun _ _ _ h => h) (Or.inl ⟨by rfl, ?_⟩) hHeld ?_ ?_
                 rotate_left
                 ·rintro w' ⟨s0, s1, s2, s3, s4, s5, s6, s7, s8, s9, s10, s11⟩
                  go_simp
                  with_reducible rfl
                 rotate_left
                 ·exact qq161
                 refine take_ (i := 4) (N := some 78) (v := ?_) (a' := ?_) #[true, true, true, true, true, false] rfl rfl (by kernel_rfl) (fun _ _ _ h => h) (Or.inl ⟨by rfl, ?_⟩) hHeld ?_ ?_
                 rotate_left
                 ·rintro w' ⟨s0, s1, s2, s3, s4, s5, s6, s7, s8, s9, s10, s11⟩
                  go_simp
                  with_reducible rfl
                 rotate_left
                 ·exact qq161
                 refine one_ (i := 5) (N := some 79) #[true, true, true, true, true, true] rfl rfl (by kernel_rfl) (by decide) (fun K hK => ?_)
                 refine goes_ Try.func16 (by kernel_rfl) rfl #[.agg #[.int .i64 ((rd_T26 t456 x10_3).f0), .int .i64 ((rd_T26 t456 x10_3).f1), .int .i64 ((rd_T26 t456 x10_3).f2), .int .i64 ((rd_T26 t456 x10_3).f3), .int .i64 ((rd_T26 t456 x10_3).f4), .int .i64 ((rd_T26 t456 x10_3).f5)], .agg #[.int .i64 t449, .int .i64 t450, .int .i64 t451, .int .i64 t452, .int .i64 t453, .int .i64 t454]] (by rfl) rfl rfl (qq5) ?_
                 with_reducible refine (impl_SameClaim.calls ((rd_T26 t456 x10_3).f0) ((rd_T26 t456 x10_3).f1) ((rd_T26 t456 x10_3).f2) ((rd_T26 t456 x10_3).f3) ((rd_T26 t456 x10_3).f4) ((rd_T26 t456 x10_3).f5) t449 t450 t451 t452 t453 t454 true _ A51.out).mono ?_
                 rintro e w62 ⟨rfl, hb⟩
                 have HS6_ := (hb.cell (World.block_lt_of_cell? _ _ (hHeld.2.2.2.2.2.2.1))).trans (hHeld.2.2.2.2.2.2.1)
                 have HS7_ := (hb.cell (World.block_lt_of_cell? _ _ (hHeld.2.2.2.2.2.2.2.1))).trans (hHeld.2.2.2.2.2.2.2.1)
                 have HS8_ := (hb.cell (World.block_lt_of_cell? _ _ (hHeld.2.2.2.2.2.2.2.2.1))).trans (hHeld.2.2.2.2.2.2.2.2.1)
                 have HS9_ := (hb.cell (World.block_lt_of_cell? _ _ (hHeld.2.2.2.2.2.2.2.2.2.1))).trans (hHeld.2.2.2.2.2.2.2.2.2.1)
                 have HS10_ := (hb.cell (World.block_lt_of_cell? _ _ (hHeld.2.2.2.2.2.2.2.2.2.2.1))).trans (hHeld.2.2.2.2.2.2.2.2.2.2.1)
                 have HS11_ := (hb.cell (World.block_lt_of_cell? _ _ (hHeld.2.2.2.2.2.2.2.2.2.2.2))).trans (hHeld.2.2.2.2.2.2.2.2.2.2.2)
                 refine ⟨_, rfl, ?_⟩
                 have n0_ := Aside0.mk (Kd.R_below (qq30) hb)
                 have n1_ := Aside0.mk (blk_below (g := gb455) (o := .cells #[.int .i64 t449, .int .i64 t450, .int .i64 t451, .int .i64 t452, .int .i64 t453, .int .i64 t454] 26 (0, 0)) (qq40) hb)
                 have n2_ := Aside0.mk (below_step (qq38) hb)
                 clear HO_5
                 clear BK455
                 clear HB
                 have HO_5 := n0_
                 have BK455 := n1_
                 have HB := n2_
                 clear n0_ n1_ n2_
                 (try clear hb)
                 (try clear hb2)
                 (try clear hk)
                 (try clear hi)
                 refine hK.out _ _ ⟨(blk_cell BK455.out 0).trans rfl, (blk_cell BK455.out 1).trans rfl, (blk_cell BK455.out 2).trans rfl, (blk_cell BK455.out 3).trans rfl, (blk_cell BK455.out 4).trans rfl, (blk_cell BK455.out 5).trans rfl, HS6_, HS7_, HS8_, HS9_, HS10_, HS11_⟩ (fun hHeld => ?_)
                 clear hK K
                 refine norm_ (a' := ?_) ?_ ?_
                 rotate_left
                 ·show Act.put _ (some 79) _ = _
                  simp only [Act.put, List.setIfInBounds_toArray, List.set_cons_zero, List.set_cons_succ, i64_w, i32_w]
                  rfl
                 refine done_ (by kernel_rfl) ?_
                 try go_wp2
                 have n0_ := Aside0.mk (Kd.R_drew HO_5.out)
                 have n1_ := Aside0.mk (blk_drew BK455.out)
                 have n2_ := Aside0.mk (below_drew1 HB.out)
                 clear HO_5
                 clear BK455
                 clear HB
                 have HO_5 := n0_
                 have BK455 := n1_
                 have HB := n2_
                 clear n0_ n1_ n2_
                 have p479 : 0 ≤ (x10_3 : Int) := of_decide_eq_true (qq2)
                 have q479 : x10_3 < (t456.length : Int) := of_decide_eq_true (qq2)
                 obtain ⟨ad479, e479, hx479_0, hx479_1, hx479_2, hx479_3, hx479_4, hx479_5⟩ := at_T26 (Kd.R_reads' HO_5.out).2.2 x10_3 p479 q479
                 obtain rfl : ad477 = ad479 := (by injection e479)
                 replace p479 := eq_true p479
                 replace q479 := eq_true q479
                 have p480 : 0 ≤ (x10_3 : Int) := of_decide_eq_true (qq2)
                 have q480 : x10_3 < (t456.length : Int) := of_decide_eq_true (qq2)
                 obtain ⟨ad480, e480, hx480_0, hx480_1, hx480_2, hx480_3, hx480_4, hx480_5⟩ := at_T26 (Kd.R_reads' HO_5.out).2.2 x10_3 p480 q480
                 obtain rfl : ad477 = ad480 := (by injection e480)
                 replace p480 := eq_true p480
                 replace q480 := eq_true q480
                 have p481 : 0 ≤ (x10_3 : Int) := of_decide_eq_true (qq2)
                 have q481 : x10_3 < (t456.length : Int) := of_decide_eq_true (qq2)
                 obtain ⟨ad481, e481, hx481_0, hx481_1, hx481_2, hx481_3, hx481_4, hx481_5⟩ := at_T26 (Kd.R_reads' HO_5.out).2.2 x10_3 p481 q481
                 obtain rfl : ad477 = ad481 := (by injection e481)
                 replace p481 := eq_true p481
                 replace q481 := eq_true q481
                 refine start_ (n := 37) (S := fun w' => w'.cell? ⟨gb455, 0, none⟩ = some (.int .i64 t449) ∧ w'.cell? ⟨gb455, 1, none⟩ = some (.int .i64 t450) ∧ w'.cell? ⟨gb455, 2, none⟩ = some (.int .i64 t451) ∧ w'.cell? ⟨gb455, 3, none⟩ = some (.int .i64 t452) ∧ w'.cell? ⟨gb455, 4, none⟩ = some (.int .i64 t453) ∧ w'.cell? ⟨gb455, 5, none⟩ = some (.int .i64 t454) ∧ w'.cell? (ad477.add ((x10_3).toNat * 6)) = some (.int .i64 ((rd_T26 t456 x10_3).f0)) ∧ w'.cell? ⟨(ad477.add ((x10_3).toNat * 6)).block, (ad477.add ((x10_3).toNat * 6)).off + 1, none⟩ = some (.int .i64 ((rd_T26 t456 x10_3).f1)) ∧ w'.cell? ⟨(ad477.add ((x10_3).toNat * 6)).block, (ad477.add ((x10_3).toNat * 6)).off + 2, none⟩ = some (.int .i64 ((rd_T26 t456 x10_3).f2)) ∧ w'.cell? ⟨(ad477.add ((x10_3).toNat * 6)).block, (ad477.add ((x10_3).toNat * 6)).off + 3, none⟩ = some (.int .i64 ((rd_T26 t456 x10_3).f3)) ∧ w'.cell? ⟨(ad477.add ((x10_3).toNat * 6)).block, (ad477.add ((x10_3).toNat * 6)).off + 4, none⟩ = some (.int .i64 ((rd_T26 t456 x10_3).f4)) ∧ w'.cell? ⟨(ad477.add ((x10_3).toNat * 6)).block, (ad477.add ((x10_3).toNat * 6)).off + 5, none⟩ = some (.int .i64 ((rd_T26 t456 x10_3).f5)) ∧ w'.cell? (ad477.add ((x10_3).toNat * 6)) = some (.int .i64 ((rd_T26 t456 x10_3).f0)) ∧ w'.cell? ⟨(ad477.add ((x10_3).toNat * 6)).block, (ad477.add ((x10_3).toNat * 6)).off + 1, none⟩ = some (.int .i64 ((rd_T26 t456 x10_3).f1)) ∧ w'.cell? ⟨(ad477.add ((x10_3).toNat * 6)).block, (ad477.add ((x10_3).toNat * 6)).off + 2, none⟩ = some (.int .i64 ((rd_T26 t456 x10_3).f2)) ∧ w'.cell? ⟨(ad477.add ((x10_3).toNat * 6)).block, (ad477.add ((x10_3).toNat * 6)).off + 3, none⟩ = some (.int .i64 ((rd_T26 t456 x10_3).f3)) ∧ w'.cell? ⟨(ad477.add ((x10_3).toNat * 6)).block, (ad477.add ((x10_3).toNat * 6)).off + 4, none⟩ = some (.int .i64 ((rd_T26 t456 x10_3).f4)) ∧ w'.cell? ⟨(ad477.add ((x10_3).toNat * 6)).block, (ad477.add ((x10_3).toNat * 6)).off + 5, none⟩ = some (.int .i64 ((rd_T26 t456 x10_3).f5)) ∧ w'.cell? (ad477.add ((x10_3).toNat * 6)) = some (.int .i64 ((rd_T26 t456 x10_3).f0)) ∧ w'.cell? ⟨(ad477.add ((x10_3).toNat * 6)).block, (ad477.add ((x10_3).toNat * 6)).off + 1, none⟩ = some (.int .i64 ((rd_T26 t456 x10_3).f1)) ∧ w'.cell? ⟨(ad477.add ((x10_3).toNat * 6)).block, (ad477.add ((x10_3).toNat * 6)).off + 2, none⟩ = some (.int .i64 ((rd_T26 t456 x10_3).f2)) ∧ w'.cell? ⟨(ad477.add ((x10_3).toNat * 6)).block, (ad477.add ((x10_3).toNat * 6)).off + 3, none⟩ = some (.int .i64 ((rd_T26 t456 x10_3).f3)) ∧ w'.cell? ⟨(ad477.add ((x10_3).toNat * 6)).block, (ad477.add ((x10_3).toNat * 6)).off + 4, none⟩ = some (.int .i64 ((rd_T26 t456 x10_3).f4)) ∧ w'.cell? ⟨(ad477.add ((x10_3).toNat * 6)).block, (ad477.add ((x10_3).toNat * 6)).off + 5, none⟩ = some (.int .i64 ((rd_T26 t456 x10_3).f5))) (ds := []) mm36 (by kernel_rfl) rfl rfl ⟨(blk_cell BK455.out 0).trans rfl, (blk_cell BK455.out 1).trans rfl, (blk_cell BK455.out 2).trans rfl, (blk_cell BK455.out 3).trans rfl, (blk_cell BK455.out 4).trans rfl, (blk_cell BK455.out 5).trans rfl, hx479_0, hx479_1, hx479_2, hx479_3, hx479_4, hx479_5, hx480_0, hx480_1, hx480_2, hx480_3, hx480_4, hx480_5, hx481_0, hx481_1, hx481_2, hx481_3, hx481_4, hx481_5⟩ (fun hHeld => ?_); refine with_tabW laws_FnStores.tab17 laws_FnStores.bits17 (fun HT_ HW_ => ?_)
                 generalize w62.drew = w63 at HO_5 BK455 HB hx479_0 hx479_1 hx479_2 hx479_3 hx479_4 hx479_5 hx480_0 hx480_1 hx480_2 hx480_3 hx480_4 hx480_5 hx481_0 hx481_1 hx481_2 hx481_3 hx481_4 hx481_5 hHeld ⊢
                 refine pure_ (i := 0) (N := some 80) (v := ?_) (a' := ?_) mm37 rfl rfl (any_of HT_.out (by kernel_rfl)) (fun _ _ _ h => h) (Or.inl ⟨by rfl, ?_⟩) ?_ ?_
                 rotate_left
                 ·intro w'
                  go_simp
                  with_reducible rfl
                 rotate_left
                 ·exact qq161
                 refine pure_ (i := 1) (N := some 81) (v := ?_) (a' := ?_) mm38 rfl rfl (any_of HT_.out (by kernel_rfl)) (fun _ _ _ h => h) (Or.inl ⟨by rfl, ?_⟩) ?_ ?_
                 rotate_left
                 ·intro w'
                  go_simp
                  with_reducible rfl
                 rotate_left
                 ·exact qq161
                 refine pure_ (i := 2) (N := some 82) (v := ?_) (a' := ?_) mm39 rfl rfl (any_of HT_.out (by kernel_rfl)) (fun _ _ _ h => h) (Or.inl ⟨by rfl, ?_⟩) ?_ ?_
                 rotate_left
                 ·intro w'
                  go_simp
                  with_reducible rfl
                 rotate_left
                 ·exact qq161
                 refine pure_ (i := 3) (N := some 83) (v := ?_) (a' := ?_) mm40 rfl rfl (any_of HT_.out (by kernel_rfl)) (fun _ _ _ h => h) (Or.inl ⟨by rfl, ?_⟩) ?_ ?_
                 rotate_left
                 ·intro w'
                  go_simp
                  with_reducible rfl
                 rotate_left
                 ·exact qq161
                 refine pure_ (i := 5) (N := some 85) (v := ?_) (a' := ?_) mm41 rfl rfl (any_of HT_.out (by kernel_rfl)) (fun _ _ _ h => h) (Or.inl ⟨by rfl, ?_⟩) ?_ ?_
                 rotate_left
                 ·intro w'
                  go_simp
                  with_reducible rfl
                 rotate_left
                 ·exact qq161
                 refine take_ (i := 4) (N := some 84) (v := ?_) (a' := ?_) mm42 rfl rfl (take_ofW HT_.out HW_.out (by kernel_rfl)) (fun _ _ _ h => h) (Or.inl ⟨by rfl, ?_⟩) hHeld ?_ ?_
                 rotate_left
                 ·rintro w' ⟨s0, s1, s2, s3, s4, s5, s6, s7, s8, s9, s10, s11, s12, s13, s14, s15, s16, s17, s18, s19, s20, s21, s22, s23⟩
                  go_simp
                  with_reducible rfl
                 rotate_left
                 ·exact qq161
                 refine take_ (i := 6) (N := some 86) (v := ?_) (a' := ?_) mm43 rfl rfl (take_ofW HT_.out HW_.out (by kernel_rfl)) (fun _ _ _ h => h) (Or.inl ⟨by rfl, ?_⟩) hHeld ?_ ?_
                 rotate_left
                 ·rintro w' ⟨s0, s1, s2, s3, s4, s5, s6, s7, s8, s9, s10, s11, s12, s13, s14, s15, s16, s17, s18, s19, s20, s21, s22, s23⟩
                  go_simp
                  with_reducible rfl
                 rotate_left
                 ·exact qq161
                 refine pure_ (i := 7) (N := some 87) (v := ?_) (a' := ?_) mm44 rfl rfl (any_of HT_.out (by kernel_rfl)) (fun _ _ _ h => h) (Or.inl ⟨by rfl, ?_⟩) ?_ ?_
                 rotate_left
                 ·intro w'
                  go_simp
                  with_reducible rfl
                 rotate_left
                 ·exact qq161
                 refine pure_ (i := 8) (N := some 88) (v := ?_) (a' := ?_) mm45 rfl rfl (any_of HT_.out (by kernel_rfl)) (fun _ _ _ h => h) (Or.inl ⟨by rfl, ?_⟩) ?_ ?_
                 rotate_left
                 ·intro w'
                  go_simp
                  with_reducible rfl
                 rotate_left
                 ·exact qq161
                 refine pure_ (i := 9) (N := some 89) (v := ?_) (a' := ?_) mm46 rfl rfl (any_of HT_.out (by kernel_rfl)) (fun _ _ _ h => h) (Or.inl ⟨by rfl, ?_⟩) ?_ ?_
                 rotate_left
                 ·intro w'
                  go_simp
                  with_reducible rfl
                 rotate_left
                 ·exact qq161
                 refine pure_ (i := 10) (N := some 90) (v := ?_) (a' := ?_) mm47 rfl rfl (any_of HT_.out (by kernel_rfl)) (fun _ _ _ h => h) (Or.inl ⟨by rfl, ?_⟩) ?_ ?_
                 rotate_left
                 ·intro w'
                  go_simp
                  with_reducible rfl
                 rotate_left
                 ·exact qq161
                 refine pure_ (i := 11) (N := some 91) (v := ?_) (a' := ?_) mm48 rfl rfl (any_of HT_.out (by kernel_rfl)) (fun _ _ _ h => h) (Or.inl ⟨by rfl, ?_⟩) ?_ ?_
                 rotate_left
                 ·intro w'
                  go_simp
                  with_reducible rfl
                 rotate_left
                 ·exact qq161
                 refine take_ (i := 12) (N := some 92) (v := ?_) (a' := ?_) mm49 rfl rfl (take_ofW HT_.out HW_.out (by kernel_rfl)) (fun _ _ _ h => h) (Or.inl ⟨by rfl, ?_⟩) hHeld ?_ ?_
                 rotate_left
                 ·rintro w' ⟨s0, s1, s2, s3, s4, s5, s6, s7, s8, s9, s10, s11, s12, s13, s14, s15, s16, s17, s18, s19, s20, s21, s22, s23⟩
                  go_simp
                  with_reducible rfl
                 rotate_left
                 ·exact qq161
                 refine take_ (i := 13) (N := some 93) (v := ?_) (a' := ?_) mm50 rfl rfl (take_ofW HT_.out HW_.out (by kernel_rfl)) (fun _ _ _ h => h) (Or.inl ⟨by rfl, ?_⟩) hHeld ?_ ?_
                 rotate_left
                 ·rintro w' ⟨s0, s1, s2, s3, s4, s5, s6, s7, s8, s9, s10, s11, s12, s13, s14, s15, s16, s17, s18, s19, s20, s21, s22, s23⟩
                  go_simp
                  with_reducible rfl
                 rotate_left
                 ·exact qq161
                 refine pure_ (i := 14) (N := some 94) (v := ?_) (a' := ?_) mm51 rfl rfl (any_of HT_.out (by kernel_rfl)) (fun _ _ _ h => h) (Or.inl ⟨by rfl, ?_⟩) ?_ ?_
                 rotate_left
                 ·intro w'
                  go_simp
                  with_reducible rfl
                 rotate_left
                 ·exact qq161
                 refine pure_ (i := 15) (N := some 95) (v := ?_) (a' := ?_) mm52 rfl rfl (any_of HT_.out (by kernel_rfl)) (fun _ _ _ h => h) (Or.inl ⟨by rfl, ?_⟩) ?_ ?_
                 rotate_left
                 ·intro w'
                  go_simp
                  with_reducible rfl
                 rotate_left
                 ·exact qq161
                 refine pure_ (i := 16) (N := some 96) (v := ?_) (a' := ?_) mm53 rfl rfl (any_of HT_.out (by kernel_rfl)) (fun _ _ _ h => h) (Or.inl ⟨by rfl, ?_⟩) ?_ ?_
                 rotate_left
                 ·intro w'
                  go_simp
                  with_reducible rfl
                 rotate_left
                 ·exact qq161
                 refine pure_ (i := 17) (N := some 97) (v := ?_) (a' := ?_) mm54 rfl rfl (any_of HT_.out (by kernel_rfl)) (fun _ _ _ h => h) (Or.inl ⟨by rfl, ?_⟩) ?_ ?_
                 rotate_left
                 ·intro w'
                  go_simp
                  with_reducible rfl
                 rotate_left
                 ·exact qq161
                 refine pure_ (i := 18) (N := some 98) (v := ?_) (a' := ?_) mm55 rfl rfl (any_of HT_.out (by kernel_rfl)) (fun _ _ _ h => h) (Or.inl ⟨by rfl, ?_⟩) ?_ ?_
                 rotate_left
                 ·intro w'
                  go_simp
                  with_reducible rfl
                 rotate_left
                 ·exact qq161
                 refine pure_ (i := 19) (N := some 99) (v := ?_) (a' := ?_) mm56 rfl rfl (any_of HT_.out (by kernel_rfl)) (fun _ _ _ h => h) (Or.inl ⟨by rfl, ?_⟩) ?_ ?_
                 rotate_left
                 ·intro w'
                  go_simp
                  with_reducible rfl
                 rotate_left
                 ·exact qq161
                 refine pure_ (i := 21) (N := some 101) (v := ?_) (a' := ?_) mm74 rfl rfl (any_of HT_.out (by kernel_rfl)) (fun _ _ _ h => h) (Or.inl ⟨by rfl, ?_⟩) ?_ ?_
                 rotate_left
                 ·intro w'
                  go_simp
                  with_reducible rfl
                 rotate_left
                 ·exact qq161
                 refine take_ (i := 20) (N := some 100) (v := ?_) (a' := ?_) mm58 rfl rfl (take_ofW HT_.out HW_.out (by kernel_rfl)) (fun _ _ _ h => h) (Or.inl ⟨by rfl, ?_⟩) hHeld ?_ ?_
                 rotate_left
                 ·rintro w' ⟨s0, s1, s2, s3, s4, s5, s6, s7, s8, s9, s10, s11, s12, s13, s14, s15, s16, s17, s18, s19, s20, s21, s22, s23⟩
                  go_simp
                  with_reducible rfl
                 rotate_left
                 ·exact qq161
                 refine take_ (i := 22) (N := some 102) (v := ?_) (a' := ?_) mm59 rfl rfl (take_ofW HT_.out HW_.out (by kernel_rfl)) (fun _ _ _ h => h) (Or.inl ⟨by rfl, ?_⟩) hHeld ?_ ?_
                 rotate_left
                 ·rintro w' ⟨s0, s1, s2, s3, s4, s5, s6, s7, s8, s9, s10, s11, s12, s13, s14, s15, s16, s17, s18, s19, s20, s21, s22, s23⟩
                  go_simp
                  with_reducible rfl
                 rotate_left
                 ·exact qq161
                 refine pure_ (i := 23) (N := some 103) (v := ?_) (a' := ?_) mm60 rfl rfl (any_of HT_.out (by kernel_rfl)) (fun _ _ _ h => h) (Or.inl ⟨by rfl, ?_⟩) ?_ ?_
                 rotate_left
                 ·intro w'
                  go_simp
                  with_reducible rfl
                 rotate_left
                 ·exact qq161
                 refine pure_ (i := 24) (N := some 104) (v := ?_) (a' := ?_) mm61 rfl rfl (any_of HT_.out (by kernel_rfl)) (fun _ _ _ h => h) (Or.inl ⟨by rfl, ?_⟩) ?_ ?_
                 rotate_left
                 ·intro w'
                  go_simp
                  with_reducible rfl
                 rotate_left
                 ·exact qq161
                 refine pure_ (i := 25) (N := some 105) (v := ?_) (a' := ?_) mm62 rfl rfl (any_of HT_.out (by kernel_rfl)) (fun _ _ _ h => h) (Or.inl ⟨by rfl, ?_⟩) ?_ ?_
                 rotate_left
                 ·intro w'
                  go_simp
                  with_reducible rfl
                 rotate_left
                 ·exact qq161
                 refine pure_ (i := 26) (N := some 106) (v := undef) (a' := ?_) mm63 rfl rfl (any_of HT_.out (by kernel_rfl)) (fun _ _ _ h => h) (Or.inr ⟨by rfl, rfl⟩) ?_ ?_
                 rotate_left
                 ·exact qq161
                 refine pure_ (i := 27) (N := some 107) (v := undef) (a' := ?_) mm64 rfl rfl (any_of HT_.out (by kernel_rfl)) (fun _ _ _ h => h) (Or.inr ⟨by rfl, rfl⟩) ?_ ?_
                 rotate_left
                 ·exact qq161
                 refine pure_ (i := 28) (N := some 108) (v := undef) (a' := ?_) mm65 rfl rfl (any_of HT_.out (by kernel_rfl)) (fun _ _ _ h => h) (Or.inr ⟨by rfl, rfl⟩) ?_ ?_
                 rotate_left
                 ·exact qq161
                 refine pure_ (i := 29) (N := some 109) (v := undef) (a' := ?_) mm66 rfl rfl (any_of HT_.out (by kernel_rfl)) (fun _ _ _ h => h) (Or.inr ⟨by rfl, rfl⟩) ?_ ?_
                 rotate_left
                 ·exact qq161
                 refine pure_ (i := 30) (N := some 110) (v := undef) (a' := ?_) mm67 rfl rfl (any_of HT_.out (by kernel_rfl)) (fun _ _ _ h => h) (Or.inr ⟨by rfl, rfl⟩) ?_ ?_
                 rotate_left
                 ·exact qq161
                 refine pure_ (i := 31) (N := some 111) (v := undef) (a' := ?_) mm68 rfl rfl (any_of HT_.out (by kernel_rfl)) (fun _ _ _ h => h) (Or.inr ⟨by rfl, rfl⟩) ?_ ?_
                 rotate_left
                 ·exact qq161
                 refine pure_ (i := 32) (N := some 112) (v := undef) (a' := ?_) mm69 rfl rfl (any_of HT_.out (by kernel_rfl)) (fun _ _ _ h => h) (Or.inr ⟨by rfl, rfl⟩) ?_ ?_
                 rotate_left
                 ·exact qq161
                 refine pure_ (i := 33) (N := some 113) (v := undef) (a' := ?_) mm70 rfl rfl (any_of HT_.out (by kernel_rfl)) (fun _ _ _ h => h) (Or.inr ⟨by rfl, rfl⟩) ?_ ?_
                 rotate_left
                 ·exact qq161
                 refine pure_ (i := 34) (N := some 114) (v := ?_) (a' := ?_) mm71 rfl rfl (any_of HT_.out (by kernel_rfl)) (fun _ _ _ h => h) (Or.inl ⟨by rfl, ?_⟩) ?_ ?_
                 rotate_left
                 ·intro w'
                  go_simp
                  with_reducible rfl
                 rotate_left
                 ·exact qq161
                 refine pure_ (i := 35) (N := some 115) (v := ?_) (a' := ?_) mm72 rfl rfl (any_of HT_.out (by kernel_rfl)) (fun _ _ _ h => h) (Or.inl ⟨by rfl, ?_⟩) ?_ ?_
                 rotate_left
                 ·intro w'
                  go_simp
                  with_reducible rfl
                 rotate_left
                 ·exact qq161
                 refine pure_ (i := 36) (N := some 2) (v := ?_) (a' := ?_) mm73 rfl rfl (any_of HT_.out (by kernel_rfl)) (fun _ _ _ h => h) (Or.inl ⟨by rfl, ?_⟩) ?_ ?_
                 rotate_left
                 ·intro w'
                  go_simp
                  with_reducible rfl
                 rotate_left
                 ·exact qq161
                 refine done_ (done_of HT_.out (by kernel_rfl)) ?_
                 try go_wp2
                 go_ret
                 exact ⟨qq9, qq38⟩
                ·rw [if_neg c59] at H
                 have c59b0 : decide (t453 < ((rd_T26 t456 x10_3).f4)) = false := decide_eq_false c59
                 clear c59
                 obtain rfl := Option.some.inj H
                 obtain ⟨Ao64, co64, eo64⟩ := Kd.R_slice HO_5.out
                 subst eo64
                 try go_wp2
                 have n0_ := Aside0.mk (Kd.R_drew HO_5.out)
                 have n1_ := Aside0.mk (blk_drew BK455.out)
                 have n2_ := Aside0.mk (below_drew1 HB.out)
                 clear HO_5
                 clear BK455
                 clear HB
                 have HO_5 := n0_
                 have BK455 := n1_
                 have HB := n2_
                 clear n0_ n1_ n2_
                 have p477 : 0 ≤ (x10_3 : Int) := of_decide_eq_true (qq2)
                 have q477 : x10_3 < (t456.length : Int) := of_decide_eq_true (qq2)
                 obtain ⟨ad477, e477, hx477_0, hx477_1, hx477_2, hx477_3, hx477_4, hx477_5⟩ := at_T26 (Kd.R_reads' HO_5.out).2.2 x10_3 p477 q477
                 cases e477
                 replace p477 := eq_true p477
                 replace q477 := eq_true q477
                 refine start_ (n := 6) (S := fun w' => w'.cell? ⟨gb455, 0, none⟩ = some (.int .i64 t449) ∧ w'.cell? ⟨gb455, 1, none⟩ = some (.int .i64 t450) ∧ w'.cell? ⟨gb455, 2, none⟩ = some (.int .i64 t451) ∧ w'.cell? ⟨gb455, 3, none⟩ = some (.int .i64 t452) ∧ w'.cell? ⟨gb455, 4, none⟩ = some (.int .i64 t453) ∧ w'.cell? ⟨gb455, 5, none⟩ = some (.int .i64 t454) ∧ w'.cell? (ad477.add ((x10_3).toNat * 6)) = some (.int .i64 ((rd_T26 t456 x10_3).f0)) ∧ w'.cell? ⟨(ad477.add ((x10_3).toNat * 6)).block, (ad477.add ((x10_3).toNat * 6)).off + 1, none⟩ = some (.int .i64 ((rd_T26 t456 x10_3).f1)) ∧ w'.cell? ⟨(ad477.add ((x10_3).toNat * 6)).block, (ad477.add ((x10_3).toNat * 6)).off + 2, none⟩ = some (.int .i64 ((rd_T26 t456 x10_3).f2)) ∧ w'.cell? ⟨(ad477.add ((x10_3).toNat * 6)).block, (ad477.add ((x10_3).toNat * 6)).off + 3, none⟩ = some (.int .i64 ((rd_T26 t456 x10_3).f3)) ∧ w'.cell? ⟨(ad477.add ((x10_3).toNat * 6)).block, (ad477.add ((x10_3).toNat * 6)).off + 4, none⟩ = some (.int .i64 ((rd_T26 t456 x10_3).f4)) ∧ w'.cell? ⟨(ad477.add ((x10_3).toNat * 6)).block, (ad477.add ((x10_3).toNat * 6)).off + 5, none⟩ = some (.int .i64 ((rd_T26 t456 x10_3).f5))) (ds := []) mm31 (by kernel_rfl) rfl rfl ⟨(blk_cell BK455.out 0).trans rfl, (blk_cell BK455.out 1).trans rfl, (blk_cell BK455.out 2).trans rfl, (blk_cell BK455.out 3).trans rfl, (blk_cell BK455.out 4).trans rfl, (blk_cell BK455.out 5).trans rfl, hx477_0, hx477_1, hx477_2, hx477_3, hx477_4, hx477_5⟩ (fun hHeld => ?_)
                 generalize wr.drew = w65 at HO_5 BK455 HB hx477_0 hx477_1 hx477_2 hx477_3 hx477_4 hx477_5 hHeld ⊢
                 refine pure_ (i := 0) (N := some 74) (v := ?_) (a' := ?_) mm34 rfl rfl (by kernel_rfl) (fun _ _ _ h => h) (Or.inl ⟨by rfl, ?_⟩) ?_ ?_
                 rotate_left
                 ·intro w'
                  go_simp
                  with_reducible rfl
                 rotate_left
                 ·exact qq161
                 refine pure_ (i := 1) (N := some 75) (v := ?_) (a' := ?_) mm35 rfl rfl (by kernel_rfl) (fun _ _ _ h => h) (Or.inl ⟨by rfl, ?_⟩) ?_ ?_
                 rotate_left
                 ·intro w'
                  go_simp
                  with_reducible rfl
                 rotate_left
                 ·exact qq161
                 refine pure_ (i := 2) (N := some 76) (v := ?_) (a' := ?_) #[true, true, true, false, false, false] rfl rfl (by kernel_rfl) (fun _ _ _ h => h) (Or.inl ⟨by rfl, ?_⟩) ?_ ?_
                 rotate_left
                 ·intro w'
                  go_simp
                  with_reducible rfl
                 rotate_left
                 ·exact qq161
                 refine take_ (i := 3) (N := some 77) (v := ?_) (a' := ?_) #[true, true, true, true, false, false] rfl rfl (by kernel_rfl) (fun _ _ _ h => h) (Or.inl ⟨by rfl, ?_⟩) hHeld ?_ ?_
                 rotate_left
                 ·rintro w' ⟨s0, s1, s2, s3, s4, s5, s6, s7, s8, s9, s10, s11⟩
                  go_simp
                  with_reducible rfl
                 rotate_left
                 ·exact qq161
                 refine take_ (i := 4) (N := some 78) (v := ?_) (a' := ?_) #[true, true, true, true, true, false] rfl rfl (by kernel_rfl) (fun _ _ _ h => h) (Or.inl ⟨by rfl, ?_⟩) hHeld ?_ ?_
                 rotate_left
                 ·rintro w' ⟨s0, s1, s2, s3, s4, s5, s6, s7, s8, s9, s10, s11⟩
                  go_simp
                  with_reducible rfl
                 rotate_left
                 ·exact qq161
                 refine one_ (i := 5) (N := some 79) #[true, true, true, true, true, true] rfl rfl (by kernel_rfl) (by decide) (fun K hK => ?_)
                 refine goes_ Try.func16 (by kernel_rfl) rfl #[.agg #[.int .i64 ((rd_T26 t456 x10_3).f0), .int .i64 ((rd_T26 t456 x10_3).f1), .int .i64 ((rd_T26 t456 x10_3).f2), .int .i64 ((rd_T26 t456 x10_3).f3), .int .i64 ((rd_T26 t456 x10_3).f4), .int .i64 ((rd_T26 t456 x10_3).f5)], .agg #[.int .i64 t449, .int .i64 t450, .int .i64 t451, .int .i64 t452, .int .i64 t453, .int .i64 t454]] (by rfl) rfl rfl (qq5) ?_
                 with_reducible refine (impl_SameClaim.calls ((rd_T26 t456 x10_3).f0) ((rd_T26 t456 x10_3).f1) ((rd_T26 t456 x10_3).f2) ((rd_T26 t456 x10_3).f3) ((rd_T26 t456 x10_3).f4) ((rd_T26 t456 x10_3).f5) t449 t450 t451 t452 t453 t454 true _ A51.out).mono ?_
                 rintro e w66 ⟨rfl, hb⟩
                 have HS6_ := (hb.cell (World.block_lt_of_cell? _ _ (hHeld.2.2.2.2.2.2.1))).trans (hHeld.2.2.2.2.2.2.1)
                 have HS7_ := (hb.cell (World.block_lt_of_cell? _ _ (hHeld.2.2.2.2.2.2.2.1))).trans (hHeld.2.2.2.2.2.2.2.1)
                 have HS8_ := (hb.cell (World.block_lt_of_cell? _ _ (hHeld.2.2.2.2.2.2.2.2.1))).trans (hHeld.2.2.2.2.2.2.2.2.1)
                 have HS9_ := (hb.cell (World.block_lt_of_cell? _ _ (hHeld.2.2.2.2.2.2.2.2.2.1))).trans (hHeld.2.2.2.2.2.2.2.2.2.1)
                 have HS10_ := (hb.cell (World.block_lt_of_cell? _ _ (hHeld.2.2.2.2.2.2.2.2.2.2.1))).trans (hHeld.2.2.2.2.2.2.2.2.2.2.1)
                 have HS11_ := (hb.cell (World.block_lt_of_cell? _ _ (hHeld.2.2.2.2.2.2.2.2.2.2.2))).trans (hHeld.2.2.2.2.2.2.2.2.2.2.2)
                 refine ⟨_, rfl, ?_⟩
                 have n0_ := Aside0.mk (Kd.R_below (qq30) hb)
                 have n1_ := Aside0.mk (blk_below (g := gb455) (o := .cells #[.int .i64 t449, .int .i64 t450, .int .i64 t451, .int .i64 t452, .int .i64 t453, .int .i64 t454] 26 (0, 0)) (qq40) hb)
                 have n2_ := Aside0.mk (below_step (qq38) hb)
                 clear HO_5
                 clear BK455
                 clear HB
                 have HO_5 := n0_
                 have BK455 := n1_
                 have HB := n2_
                 clear n0_ n1_ n2_
                 (try clear hb)
                 (try clear hb2)
                 (try clear hk)
                 (try clear hi)
                 refine hK.out _ _ ⟨(blk_cell BK455.out 0).trans rfl, (blk_cell BK455.out 1).trans rfl, (blk_cell BK455.out 2).trans rfl, (blk_cell BK455.out 3).trans rfl, (blk_cell BK455.out 4).trans rfl, (blk_cell BK455.out 5).trans rfl, HS6_, HS7_, HS8_, HS9_, HS10_, HS11_⟩ (fun hHeld => ?_)
                 clear hK K
                 refine norm_ (a' := ?_) ?_ ?_
                 rotate_left
                 ·show Act.put _ (some 79) _ = _
                  simp only [Act.put, List.setIfInBounds_toArray, List.set_cons_zero, List.set_cons_succ, i64_w, i32_w]
                  rfl
                 refine done_ (by kernel_rfl) ?_
                 try go_wp2
                 have n0_ := Aside0.mk (Kd.R_drew HO_5.out)
                 have n1_ := Aside0.mk (blk_drew BK455.out)
                 have n2_ := Aside0.mk (below_drew1 HB.out)
                 clear HO_5
                 clear BK455
                 clear HB
                 have HO_5 := n0_
                 have BK455 := n1_
                 have HB := n2_
                 clear n0_ n1_ n2_
                 have p479 : 0 ≤ (x10_3 : Int) := of_decide_eq_true (qq2)
                 have q479 : x10_3 < (t456.length : Int) := of_decide_eq_true (qq2)
                 obtain ⟨ad479, e479, hx479_0, hx479_1, hx479_2, hx479_3, hx479_4, hx479_5⟩ := at_T26 (Kd.R_reads' HO_5.out).2.2 x10_3 p479 q479
                 obtain rfl : ad477 = ad479 := (by injection e479)
                 replace p479 := eq_true p479
                 replace q479 := eq_true q479
                 have p480 : 0 ≤ (x10_3 : Int) := of_decide_eq_true (qq2)
                 have q480 : x10_3 < (t456.length : Int) := of_decide_eq_true (qq2)
                 obtain ⟨ad480, e480, hx480_0, hx480_1, hx480_2, hx480_3, hx480_4, hx480_5⟩ := at_T26 (Kd.R_reads' HO_5.out).2.2 x10_3 p480 q480
                 obtain rfl : ad477 = ad480 := (by injection e480)
                 replace p480 := eq_true p480
                 replace q480 := eq_true q480
                 have p481 : 0 ≤ (x10_3 : Int) := of_decide_eq_true (qq2)
                 have q481 : x10_3 < (t456.length : Int) := of_decide_eq_true (qq2)
                 obtain ⟨ad481, e481, hx481_0, hx481_1, hx481_2, hx481_3, hx481_4, hx481_5⟩ := at_T26 (Kd.R_reads' HO_5.out).2.2 x10_3 p481 q481
                 obtain rfl : ad477 = ad481 := (by injection e481)
                 replace p481 := eq_true p481
                 replace q481 := eq_true q481
                 have p482 : 0 ≤ (x10_3 : Int) := of_decide_eq_true (qq2)
                 have q482 : x10_3 < (t456.length : Int) := of_decide_eq_true (qq2)
                 obtain ⟨ad482, e482, hx482_0, hx482_1, hx482_2, hx482_3, hx482_4, hx482_5⟩ := at_T26 (Kd.R_reads' HO_5.out).2.2 x10_3 p482 q482
                 obtain rfl : ad477 = ad482 := (by injection e482)
                 replace p482 := eq_true p482
                 replace q482 := eq_true q482
                 refine start_ (n := 37) (S := fun w' => w'.cell? ⟨gb455, 0, none⟩ = some (.int .i64 t449) ∧ w'.cell? ⟨gb455, 1, none⟩ = some (.int .i64 t450) ∧ w'.cell? ⟨gb455, 2, none⟩ = some (.int .i64 t451) ∧ w'.cell? ⟨gb455, 3, none⟩ = some (.int .i64 t452) ∧ w'.cell? ⟨gb455, 4, none⟩ = some (.int .i64 t453) ∧ w'.cell? ⟨gb455, 5, none⟩ = some (.int .i64 t454) ∧ w'.cell? (ad477.add ((x10_3).toNat * 6)) = some (.int .i64 ((rd_T26 t456 x10_3).f0)) ∧ w'.cell? ⟨(ad477.add ((x10_3).toNat * 6)).block, (ad477.add ((x10_3).toNat * 6)).off + 1, none⟩ = some (.int .i64 ((rd_T26 t456 x10_3).f1)) ∧ w'.cell? ⟨(ad477.add ((x10_3).toNat * 6)).block, (ad477.add ((x10_3).toNat * 6)).off + 2, none⟩ = some (.int .i64 ((rd_T26 t456 x10_3).f2)) ∧ w'.cell? ⟨(ad477.add ((x10_3).toNat * 6)).block, (ad477.add ((x10_3).toNat * 6)).off + 3, none⟩ = some (.int .i64 ((rd_T26 t456 x10_3).f3)) ∧ w'.cell? ⟨(ad477.add ((x10_3).toNat * 6)).block, (ad477.add ((x10_3).toNat * 6)).off + 4, none⟩ = some (.int .i64 ((rd_T26 t456 x10_3).f4)) ∧ w'.cell? ⟨(ad477.add ((x10_3).toNat * 6)).block, (ad477.add ((x10_3).toNat * 6)).off + 5, none⟩ = some (.int .i64 ((rd_T26 t456 x10_3).f5)) ∧ w'.cell? (ad477.add ((x10_3).toNat * 6)) = some (.int .i64 ((rd_T26 t456 x10_3).f0)) ∧ w'.cell? ⟨(ad477.add ((x10_3).toNat * 6)).block, (ad477.add ((x10_3).toNat * 6)).off + 1, none⟩ = some (.int .i64 ((rd_T26 t456 x10_3).f1)) ∧ w'.cell? ⟨(ad477.add ((x10_3).toNat * 6)).block, (ad477.add ((x10_3).toNat * 6)).off + 2, none⟩ = some (.int .i64 ((rd_T26 t456 x10_3).f2)) ∧ w'.cell? ⟨(ad477.add ((x10_3).toNat * 6)).block, (ad477.add ((x10_3).toNat * 6)).off + 3, none⟩ = some (.int .i64 ((rd_T26 t456 x10_3).f3)) ∧ w'.cell? ⟨(ad477.add ((x10_3).toNat * 6)).block, (ad477.add ((x10_3).toNat * 6)).off + 4, none⟩ = some (.int .i64 ((rd_T26 t456 x10_3).f4)) ∧ w'.cell? ⟨(ad477.add ((x10_3).toNat * 6)).block, (ad477.add ((x10_3).toNat * 6)).off + 5, none⟩ = some (.int .i64 ((rd_T26 t456 x10_3).f5)) ∧ w'.cell? (ad477.add ((x10_3).toNat * 6)) = some (.int .i64 ((rd_T26 t456 x10_3).f0)) ∧ w'.cell? ⟨(ad477.add ((x10_3).toNat * 6)).block, (ad477.add ((x10_3).toNat * 6)).off + 1, none⟩ = some (.int .i64 ((rd_T26 t456 x10_3).f1)) ∧ w'.cell? ⟨(ad477.add ((x10_3).toNat * 6)).block, (ad477.add ((x10_3).toNat * 6)).off + 2, none⟩ = some (.int .i64 ((rd_T26 t456 x10_3).f2)) ∧ w'.cell? ⟨(ad477.add ((x10_3).toNat * 6)).block, (ad477.add ((x10_3).toNat * 6)).off + 3, none⟩ = some (.int .i64 ((rd_T26 t456 x10_3).f3)) ∧ w'.cell? ⟨(ad477.add ((x10_3).toNat * 6)).block, (ad477.add ((x10_3).toNat * 6)).off + 4, none⟩ = some (.int .i64 ((rd_T26 t456 x10_3).f4)) ∧ w'.cell? ⟨(ad477.add ((x10_3).toNat * 6)).block, (ad477.add ((x10_3).toNat * 6)).off + 5, none⟩ = some (.int .i64 ((rd_T26 t456 x10_3).f5)) ∧ w'.cell? (ad477.add ((x10_3).toNat * 6)) = some (.int .i64 ((rd_T26 t456 x10_3).f0)) ∧ w'.cell? ⟨(ad477.add ((x10_3).toNat * 6)).block, (ad477.add ((x10_3).toNat * 6)).off + 1, none⟩ = some (.int .i64 ((rd_T26 t456 x10_3).f1)) ∧ w'.cell? ⟨(ad477.add ((x10_3).toNat * 6)).block, (ad477.add ((x10_3).toNat * 6)).off + 2, none⟩ = some (.int .i64 ((rd_T26 t456 x10_3).f2)) ∧ w'.cell? ⟨(ad477.add ((x10_3).toNat * 6)).block, (ad477.add ((x10_3).toNat * 6)).off + 3, none⟩ = some (.int .i64 ((rd_T26 t456 x10_3).f3)) ∧ w'.cell? ⟨(ad477.add ((x10_3).toNat * 6)).block, (ad477.add ((x10_3).toNat * 6)).off + 4, none⟩ = some (.int .i64 ((rd_T26 t456 x10_3).f4)) ∧ w'.cell? ⟨(ad477.add ((x10_3).toNat * 6)).block, (ad477.add ((x10_3).toNat * 6)).off + 5, none⟩ = some (.int .i64 ((rd_T26 t456 x10_3).f5))) (ds := []) mm36 (by kernel_rfl) rfl rfl ⟨(blk_cell BK455.out 0).trans rfl, (blk_cell BK455.out 1).trans rfl, (blk_cell BK455.out 2).trans rfl, (blk_cell BK455.out 3).trans rfl, (blk_cell BK455.out 4).trans rfl, (blk_cell BK455.out 5).trans rfl, hx479_0, hx479_1, hx479_2, hx479_3, hx479_4, hx479_5, hx480_0, hx480_1, hx480_2, hx480_3, hx480_4, hx480_5, hx481_0, hx481_1, hx481_2, hx481_3, hx481_4, hx481_5, hx482_0, hx482_1, hx482_2, hx482_3, hx482_4, hx482_5⟩ (fun hHeld => ?_); refine with_tabW laws_FnStores.tab17 laws_FnStores.bits17 (fun HT_ HW_ => ?_)
                 generalize w66.drew = w67 at HO_5 BK455 HB hx479_0 hx479_1 hx479_2 hx479_3 hx479_4 hx479_5 hx480_0 hx480_1 hx480_2 hx480_3 hx480_4 hx480_5 hx481_0 hx481_1 hx481_2 hx481_3 hx481_4 hx481_5 hx482_0 hx482_1 hx482_2 hx482_3 hx482_4 hx482_5 hHeld ⊢
                 refine pure_ (i := 0) (N := some 80) (v := ?_) (a' := ?_) mm37 rfl rfl (any_of HT_.out (by kernel_rfl)) (fun _ _ _ h => h) (Or.inl ⟨by rfl, ?_⟩) ?_ ?_
                 rotate_left
                 ·intro w'
                  go_simp
                  with_reducible rfl
                 rotate_left
                 ·exact qq161
                 refine pure_ (i := 1) (N := some 81) (v := ?_) (a' := ?_) mm38 rfl rfl (any_of HT_.out (by kernel_rfl)) (fun _ _ _ h => h) (Or.inl ⟨by rfl, ?_⟩) ?_ ?_
                 rotate_left
                 ·intro w'
                  go_simp
                  with_reducible rfl
                 rotate_left
                 ·exact qq161
                 refine pure_ (i := 2) (N := some 82) (v := ?_) (a' := ?_) mm39 rfl rfl (any_of HT_.out (by kernel_rfl)) (fun _ _ _ h => h) (Or.inl ⟨by rfl, ?_⟩) ?_ ?_
                 rotate_left
                 ·intro w'
                  go_simp
                  with_reducible rfl
                 rotate_left
                 ·exact qq161
                 refine pure_ (i := 3) (N := some 83) (v := ?_) (a' := ?_) mm40 rfl rfl (any_of HT_.out (by kernel_rfl)) (fun _ _ _ h => h) (Or.inl ⟨by rfl, ?_⟩) ?_ ?_
                 rotate_left
                 ·intro w'
                  go_simp
                  with_reducible rfl
                 rotate_left
                 ·exact qq161
                 refine pure_ (i := 5) (N := some 85) (v := ?_) (a' := ?_) mm41 rfl rfl (any_of HT_.out (by kernel_rfl)) (fun _ _ _ h => h) (Or.inl ⟨by rfl, ?_⟩) ?_ ?_
                 rotate_left
                 ·intro w'
                  go_simp
                  with_reducible rfl
                 rotate_left
                 ·exact qq161
                 refine take_ (i := 4) (N := some 84) (v := ?_) (a' := ?_) mm42 rfl rfl (take_ofW HT_.out HW_.out (by kernel_rfl)) (fun _ _ _ h => h) (Or.inl ⟨by rfl, ?_⟩) hHeld ?_ ?_
                 rotate_left
                 ·rintro w' ⟨s0, s1, s2, s3, s4, s5, s6, s7, s8, s9, s10, s11, s12, s13, s14, s15, s16, s17, s18, s19, s20, s21, s22, s23, s24, s25, s26, s27, s28, s29⟩
                  go_simp
                  with_reducible rfl
                 rotate_left
                 ·exact qq161
                 refine take_ (i := 6) (N := some 86) (v := ?_) (a' := ?_) mm43 rfl rfl (take_ofW HT_.out HW_.out (by kernel_rfl)) (fun _ _ _ h => h) (Or.inl ⟨by rfl, ?_⟩) hHeld ?_ ?_
                 rotate_left
                 ·rintro w' ⟨s0, s1, s2, s3, s4, s5, s6, s7, s8, s9, s10, s11, s12, s13, s14, s15, s16, s17, s18, s19, s20, s21, s22, s23, s24, s25, s26, s27, s28, s29⟩
                  go_simp
                  with_reducible rfl
                 rotate_left
                 ·exact qq161
                 refine pure_ (i := 7) (N := some 87) (v := ?_) (a' := ?_) mm44 rfl rfl (any_of HT_.out (by kernel_rfl)) (fun _ _ _ h => h) (Or.inl ⟨by rfl, ?_⟩) ?_ ?_
                 rotate_left
                 ·intro w'
                  go_simp
                  with_reducible rfl
                 rotate_left
                 ·exact qq161
                 refine pure_ (i := 8) (N := some 88) (v := ?_) (a' := ?_) mm45 rfl rfl (any_of HT_.out (by kernel_rfl)) (fun _ _ _ h => h) (Or.inl ⟨by rfl, ?_⟩) ?_ ?_
                 rotate_left
                 ·intro w'
                  go_simp
                  with_reducible rfl
                 rotate_left
                 ·exact qq161
                 refine pure_ (i := 9) (N := some 89) (v := ?_) (a' := ?_) mm46 rfl rfl (any_of HT_.out (by kernel_rfl)) (fun _ _ _ h => h) (Or.inl ⟨by rfl, ?_⟩) ?_ ?_
                 rotate_left
                 ·intro w'
                  go_simp
                  with_reducible rfl
                 rotate_left
                 ·exact qq161
                 refine pure_ (i := 10) (N := some 90) (v := ?_) (a' := ?_) mm47 rfl rfl (any_of HT_.out (by kernel_rfl)) (fun _ _ _ h => h) (Or.inl ⟨by rfl, ?_⟩) ?_ ?_
                 rotate_left
                 ·intro w'
                  go_simp
                  with_reducible rfl
                 rotate_left
                 ·exact qq161
                 refine pure_ (i := 11) (N := some 91) (v := ?_) (a' := ?_) mm48 rfl rfl (any_of HT_.out (by kernel_rfl)) (fun _ _ _ h => h) (Or.inl ⟨by rfl, ?_⟩) ?_ ?_
                 rotate_left
                 ·intro w'
                  go_simp
                  with_reducible rfl
                 rotate_left
                 ·exact qq161
                 refine take_ (i := 12) (N := some 92) (v := ?_) (a' := ?_) mm49 rfl rfl (take_ofW HT_.out HW_.out (by kernel_rfl)) (fun _ _ _ h => h) (Or.inl ⟨by rfl, ?_⟩) hHeld ?_ ?_
                 rotate_left
                 ·rintro w' ⟨s0, s1, s2, s3, s4, s5, s6, s7, s8, s9, s10, s11, s12, s13, s14, s15, s16, s17, s18, s19, s20, s21, s22, s23, s24, s25, s26, s27, s28, s29⟩
                  go_simp
                  with_reducible rfl
                 rotate_left
                 ·exact qq161
                 refine take_ (i := 13) (N := some 93) (v := ?_) (a' := ?_) mm50 rfl rfl (take_ofW HT_.out HW_.out (by kernel_rfl)) (fun _ _ _ h => h) (Or.inl ⟨by rfl, ?_⟩) hHeld ?_ ?_
                 rotate_left
                 ·rintro w' ⟨s0, s1, s2, s3, s4, s5, s6, s7, s8, s9, s10, s11, s12, s13, s14, s15, s16, s17, s18, s19, s20, s21, s22, s23, s24, s25, s26, s27, s28, s29⟩
                  go_simp
                  with_reducible rfl
                 rotate_left
                 ·exact qq161
                 refine pure_ (i := 14) (N := some 94) (v := ?_) (a' := ?_) mm51 rfl rfl (any_of HT_.out (by kernel_rfl)) (fun _ _ _ h => h) (Or.inl ⟨by rfl, ?_⟩) ?_ ?_
                 rotate_left
                 ·intro w'
                  go_simp
                  with_reducible rfl
                 rotate_left
                 ·exact qq161
                 refine pure_ (i := 15) (N := some 95) (v := ?_) (a' := ?_) mm52 rfl rfl (any_of HT_.out (by kernel_rfl)) (fun _ _ _ h => h) (Or.inl ⟨by rfl, ?_⟩) ?_ ?_
                 rotate_left
                 ·intro w'
                  go_simp
                  with_reducible rfl
                 rotate_left
                 ·exact qq161
                 refine pure_ (i := 16) (N := some 96) (v := ?_) (a' := ?_) mm53 rfl rfl (any_of HT_.out (by kernel_rfl)) (fun _ _ _ h => h) (Or.inl ⟨by rfl, ?_⟩) ?_ ?_
                 rotate_left
                 ·intro w'
                  go_simp
                  with_reducible rfl
                 rotate_left
                 ·exact qq161
                 refine pure_ (i := 17) (N := some 97) (v := ?_) (a' := ?_) mm54 rfl rfl (any_of HT_.out (by kernel_rfl)) (fun _ _ _ h => h) (Or.inl ⟨by rfl, ?_⟩) ?_ ?_
                 rotate_left
                 ·intro w'
                  go_simp
                  with_reducible rfl
                 rotate_left
                 ·exact qq161
                 refine pure_ (i := 18) (N := some 98) (v := ?_) (a' := ?_) mm55 rfl rfl (any_of HT_.out (by kernel_rfl)) (fun _ _ _ h => h) (Or.inl ⟨by rfl, ?_⟩) ?_ ?_
                 rotate_left
                 ·intro w'
                  go_simp
                  with_reducible rfl
                 rotate_left
                 ·exact qq161
                 refine pure_ (i := 19) (N := some 99) (v := ?_) (a' := ?_) mm56 rfl rfl (any_of HT_.out (by kernel_rfl)) (fun _ _ _ h => h) (Or.inl ⟨by rfl, ?_⟩) ?_ ?_
                 rotate_left
                 ·intro w'
                  go_simp
                  with_reducible rfl
                 rotate_left
                 ·exact qq161
                 refine pure_ (i := 21) (N := some 101) (v := ?_) (a' := ?_) mm74 rfl rfl (any_of HT_.out (by kernel_rfl)) (fun _ _ _ h => h) (Or.inl ⟨by rfl, ?_⟩) ?_ ?_
                 rotate_left
                 ·intro w'
                  go_simp
                  with_reducible rfl
                 rotate_left
                 ·exact qq161
                 refine take_ (i := 20) (N := some 100) (v := ?_) (a' := ?_) mm58 rfl rfl (take_ofW HT_.out HW_.out (by kernel_rfl)) (fun _ _ _ h => h) (Or.inl ⟨by rfl, ?_⟩) hHeld ?_ ?_
                 rotate_left
                 ·rintro w' ⟨s0, s1, s2, s3, s4, s5, s6, s7, s8, s9, s10, s11, s12, s13, s14, s15, s16, s17, s18, s19, s20, s21, s22, s23, s24, s25, s26, s27, s28, s29⟩
                  go_simp
                  with_reducible rfl
                 rotate_left
                 ·exact qq161
                 refine take_ (i := 22) (N := some 102) (v := ?_) (a' := ?_) mm59 rfl rfl (take_ofW HT_.out HW_.out (by kernel_rfl)) (fun _ _ _ h => h) (Or.inl ⟨by rfl, ?_⟩) hHeld ?_ ?_
                 rotate_left
                 ·rintro w' ⟨s0, s1, s2, s3, s4, s5, s6, s7, s8, s9, s10, s11, s12, s13, s14, s15, s16, s17, s18, s19, s20, s21, s22, s23, s24, s25, s26, s27, s28, s29⟩
                  go_simp
                  with_reducible rfl
                 rotate_left
                 ·exact qq161
                 refine pure_ (i := 23) (N := some 103) (v := ?_) (a' := ?_) mm60 rfl rfl (any_of HT_.out (by kernel_rfl)) (fun _ _ _ h => h) (Or.inl ⟨by rfl, ?_⟩) ?_ ?_
                 rotate_left
                 ·intro w'
                  go_simp
                  with_reducible rfl
                 rotate_left
                 ·exact qq161
                 refine pure_ (i := 24) (N := some 104) (v := ?_) (a' := ?_) mm61 rfl rfl (any_of HT_.out (by kernel_rfl)) (fun _ _ _ h => h) (Or.inl ⟨by rfl, ?_⟩) ?_ ?_
                 rotate_left
                 ·intro w'
                  go_simp
                  with_reducible rfl
                 rotate_left
                 ·exact qq161
                 refine pure_ (i := 25) (N := some 105) (v := ?_) (a' := ?_) mm62 rfl rfl (any_of HT_.out (by kernel_rfl)) (fun _ _ _ h => h) (Or.inl ⟨by rfl, ?_⟩) ?_ ?_
                 rotate_left
                 ·intro w'
                  go_simp
                  with_reducible rfl
                 rotate_left
                 ·exact qq161
                 refine pure_ (i := 26) (N := some 106) (v := ?_) (a' := ?_) mm63 rfl rfl (any_of HT_.out (by kernel_rfl)) (fun _ _ _ h => h) (Or.inl ⟨by rfl, ?_⟩) ?_ ?_
                 rotate_left
                 ·intro w'
                  go_simp
                  with_reducible rfl
                 rotate_left
                 ·exact qq161
                 refine pure_ (i := 27) (N := some 107) (v := ?_) (a' := ?_) mm64 rfl rfl (any_of HT_.out (by kernel_rfl)) (fun _ _ _ h => h) (Or.inl ⟨by rfl, ?_⟩) ?_ ?_
                 rotate_left
                 ·intro w'
                  go_simp
                  with_reducible rfl
                 rotate_left
                 ·exact qq161
                 refine pure_ (i := 28) (N := some 108) (v := ?_) (a' := ?_) mm65 rfl rfl (any_of HT_.out (by kernel_rfl)) (fun _ _ _ h => h) (Or.inl ⟨by rfl, ?_⟩) ?_ ?_
                 rotate_left
                 ·intro w'
                  go_simp
                  with_reducible rfl
                 rotate_left
                 ·exact qq161
                 refine pure_ (i := 29) (N := some 109) (v := ?_) (a' := ?_) mm66 rfl rfl (any_of HT_.out (by kernel_rfl)) (fun _ _ _ h => h) (Or.inl ⟨by rfl, ?_⟩) ?_ ?_
                 rotate_left
                 ·intro w'
                  go_simp
                  with_reducible rfl
                 rotate_left
                 ·exact qq161
                 refine pure_ (i := 31) (N := some 111) (v := ?_) (a' := ?_) #[true, true, true, true, true, true, true, true, true, true, true, true, true, true, true, true, true, true, true, true, true, true, true, true, true, true, true, true, true, true, false, true, false, false, false, false, false] rfl rfl (any_of HT_.out (by kernel_rfl)) (fun _ _ _ h => h) (Or.inl ⟨by rfl, ?_⟩) ?_ ?_
                 rotate_left
                 ·intro w'
                  go_simp
                  with_reducible rfl
                 rotate_left
                 ·exact qq161
                 refine take_ (i := 30) (N := some 110) (v := ?_) (a' := ?_) mm68 rfl rfl (take_ofW HT_.out HW_.out (by kernel_rfl)) (fun _ _ _ h => h) (Or.inl ⟨by rfl, ?_⟩) hHeld ?_ ?_
                 rotate_left
                 ·rintro w' ⟨s0, s1, s2, s3, s4, s5, s6, s7, s8, s9, s10, s11, s12, s13, s14, s15, s16, s17, s18, s19, s20, s21, s22, s23, s24, s25, s26, s27, s28, s29⟩
                  go_simp
                  with_reducible rfl
                 rotate_left
                 ·exact qq161
                 refine take_ (i := 32) (N := some 112) (v := ?_) (a' := ?_) mm69 rfl rfl (take_ofW HT_.out HW_.out (by kernel_rfl)) (fun _ _ _ h => h) (Or.inl ⟨by rfl, ?_⟩) hHeld ?_ ?_
                 rotate_left
                 ·rintro w' ⟨s0, s1, s2, s3, s4, s5, s6, s7, s8, s9, s10, s11, s12, s13, s14, s15, s16, s17, s18, s19, s20, s21, s22, s23, s24, s25, s26, s27, s28, s29⟩
                  go_simp
                  with_reducible rfl
                 rotate_left
                 ·exact qq161
                 refine pure_ (i := 33) (N := some 113) (v := ?_) (a' := ?_) mm70 rfl rfl (any_of HT_.out (by kernel_rfl)) (fun _ _ _ h => h) (Or.inl ⟨by rfl, ?_⟩) ?_ ?_
                 rotate_left
                 ·intro w'
                  go_simp
                  with_reducible rfl
                 rotate_left
                 ·exact qq161
                 refine pure_ (i := 34) (N := some 114) (v := ?_) (a' := ?_) mm71 rfl rfl (any_of HT_.out (by kernel_rfl)) (fun _ _ _ h => h) (Or.inl ⟨by rfl, ?_⟩) ?_ ?_
                 rotate_left
                 ·intro w'
                  go_simp
                  with_reducible rfl
                 rotate_left
                 ·exact qq161
                 refine pure_ (i := 35) (N := some 115) (v := ?_) (a' := ?_) mm72 rfl rfl (any_of HT_.out (by kernel_rfl)) (fun _ _ _ h => h) (Or.inl ⟨by rfl, ?_⟩) ?_ ?_
                 rotate_left
                 ·intro w'
                  go_simp
                  with_reducible rfl
                 rotate_left
                 ·exact qq161
                 refine pure_ (i := 36) (N := some 2) (v := ?_) (a' := ?_) mm73 rfl rfl (any_of HT_.out (by kernel_rfl)) (fun _ _ _ h => h) (Or.inl ⟨by rfl, ?_⟩) ?_ ?_
                 rotate_left
                 ·intro w'
                  go_simp
                  with_reducible rfl
                 rotate_left
                 ·exact qq161
                 refine done_ (done_of HT_.out (by kernel_rfl)) ?_
                 try go_wp2
                 go_ret
                 exact ⟨qq9, qq38⟩
              ·rw [if_neg c53] at H
               have c53b0 : decide (t453 ≤ ((rd_T26 t456 x10_3).f4)) = false := decide_eq_false c53
               clear c53
               obtain rfl := Option.some.inj H
               obtain ⟨Ao68, co68, eo68⟩ := Kd.R_slice HO_5.out
               subst eo68
               try go_wp2
               have n0_ := Aside0.mk (Kd.R_drew HO_5.out)
               have n1_ := Aside0.mk (blk_drew BK455.out)
               have n2_ := Aside0.mk (below_drew1 HB.out)
               clear HO_5
               clear BK455
               clear HB
               have HO_5 := n0_
               have BK455 := n1_
               have HB := n2_
               clear n0_ n1_ n2_
               have p477 : 0 ≤ (x10_3 : Int) := of_decide_eq_true (qq2)
               have q477 : x10_3 < (t456.length : Int) := of_decide_eq_true (qq2)
               obtain ⟨ad477, e477, hx477_0, hx477_1, hx477_2, hx477_3, hx477_4, hx477_5⟩ := at_T26 (Kd.R_reads' HO_5.out).2.2 x10_3 p477 q477
               cases e477
               replace p477 := eq_true p477
               replace q477 := eq_true q477
               refine start_ (n := 6) (S := fun w' => w'.cell? ⟨gb455, 0, none⟩ = some (.int .i64 t449) ∧ w'.cell? ⟨gb455, 1, none⟩ = some (.int .i64 t450) ∧ w'.cell? ⟨gb455, 2, none⟩ = some (.int .i64 t451) ∧ w'.cell? ⟨gb455, 3, none⟩ = some (.int .i64 t452) ∧ w'.cell? ⟨gb455, 4, none⟩ = some (.int .i64 t453) ∧ w'.cell? ⟨gb455, 5, none⟩ = some (.int .i64 t454) ∧ w'.cell? (ad477.add ((x10_3).toNat * 6)) = some (.int .i64 ((rd_T26 t456 x10_3).f0)) ∧ w'.cell? ⟨(ad477.add ((x10_3).toNat * 6)).block, (ad477.add ((x10_3).toNat * 6)).off + 1, none⟩ = some (.int .i64 ((rd_T26 t456 x10_3).f1)) ∧ w'.cell? ⟨(ad477.add ((x10_3).toNat * 6)).block, (ad477.add ((x10_3).toNat * 6)).off + 2, none⟩ = some (.int .i64 ((rd_T26 t456 x10_3).f2)) ∧ w'.cell? ⟨(ad477.add ((x10_3).toNat * 6)).block, (ad477.add ((x10_3).toNat * 6)).off + 3, none⟩ = some (.int .i64 ((rd_T26 t456 x10_3).f3)) ∧ w'.cell? ⟨(ad477.add ((x10_3).toNat * 6)).block, (ad477.add ((x10_3).toNat * 6)).off + 4, none⟩ = some (.int .i64 ((rd_T26 t456 x10_3).f4)) ∧ w'.cell? ⟨(ad477.add ((x10_3).toNat * 6)).block, (ad477.add ((x10_3).toNat * 6)).off + 5, none⟩ = some (.int .i64 ((rd_T26 t456 x10_3).f5))) (ds := []) mm31 (by kernel_rfl) rfl rfl ⟨(blk_cell BK455.out 0).trans rfl, (blk_cell BK455.out 1).trans rfl, (blk_cell BK455.out 2).trans rfl, (blk_cell BK455.out 3).trans rfl, (blk_cell BK455.out 4).trans rfl, (blk_cell BK455.out 5).trans rfl, hx477_0, hx477_1, hx477_2, hx477_3, hx477_4, hx477_5⟩ (fun hHeld => ?_)
               generalize wr.drew = w69 at HO_5 BK455 HB hx477_0 hx477_1 hx477_2 hx477_3 hx477_4 hx477_5 hHeld ⊢
               refine pure_ (i := 0) (N := some 74) (v := ?_) (a' := ?_) mm34 rfl rfl (by kernel_rfl) (fun _ _ _ h => h) (Or.inl ⟨by rfl, ?_⟩) ?_ ?_
               rotate_left
               ·intro w'
                go_simp
                with_reducible rfl
               rotate_left
               ·exact qq161
               refine pure_ (i := 1) (N := some 75) (v := ?_) (a' := ?_) mm35 rfl rfl (by kernel_rfl) (fun _ _ _ h => h) (Or.inl ⟨by rfl, ?_⟩) ?_ ?_
               rotate_left
               ·intro w'
                go_simp
                with_reducible rfl
               rotate_left
               ·exact qq161
               refine pure_ (i := 2) (N := some 76) (v := ?_) (a' := ?_) #[true, true, true, false, false, false] rfl rfl (by kernel_rfl) (fun _ _ _ h => h) (Or.inl ⟨by rfl, ?_⟩) ?_ ?_
               rotate_left
               ·intro w'
                go_simp
                with_reducible rfl
               rotate_left
               ·exact qq161
               refine take_ (i := 3) (N := some 77) (v := ?_) (a' := ?_) #[true, true, true, true, false, false] rfl rfl (by kernel_rfl) (fun _ _ _ h => h) (Or.inl ⟨by rfl, ?_⟩) hHeld ?_ ?_
               rotate_left
               ·rintro w' ⟨s0, s1, s2, s3, s4, s5, s6, s7, s8, s9, s10, s11⟩
                go_simp
                with_reducible rfl
               rotate_left
               ·exact qq161
               refine take_ (i := 4) (N := some 78) (v := ?_) (a' := ?_) #[true, true, true, true, true, false] rfl rfl (by kernel_rfl) (fun _ _ _ h => h) (Or.inl ⟨by rfl, ?_⟩) hHeld ?_ ?_
               rotate_left
               ·rintro w' ⟨s0, s1, s2, s3, s4, s5, s6, s7, s8, s9, s10, s11⟩
                go_simp
                with_reducible rfl
               rotate_left
               ·exact qq161
               refine one_ (i := 5) (N := some 79) #[true, true, true, true, true, true] rfl rfl (by kernel_rfl) (by decide) (fun K hK => ?_)
               refine goes_ Try.func16 (by kernel_rfl) rfl #[.agg #[.int .i64 ((rd_T26 t456 x10_3).f0), .int .i64 ((rd_T26 t456 x10_3).f1), .int .i64 ((rd_T26 t456 x10_3).f2), .int .i64 ((rd_T26 t456 x10_3).f3), .int .i64 ((rd_T26 t456 x10_3).f4), .int .i64 ((rd_T26 t456 x10_3).f5)], .agg #[.int .i64 t449, .int .i64 t450, .int .i64 t451, .int .i64 t452, .int .i64 t453, .int .i64 t454]] (by rfl) rfl rfl (qq5) ?_
               with_reducible refine (impl_SameClaim.calls ((rd_T26 t456 x10_3).f0) ((rd_T26 t456 x10_3).f1) ((rd_T26 t456 x10_3).f2) ((rd_T26 t456 x10_3).f3) ((rd_T26 t456 x10_3).f4) ((rd_T26 t456 x10_3).f5) t449 t450 t451 t452 t453 t454 true _ A51.out).mono ?_
               rintro e w70 ⟨rfl, hb⟩
               have HS6_ := (hb.cell (World.block_lt_of_cell? _ _ (hHeld.2.2.2.2.2.2.1))).trans (hHeld.2.2.2.2.2.2.1)
               have HS7_ := (hb.cell (World.block_lt_of_cell? _ _ (hHeld.2.2.2.2.2.2.2.1))).trans (hHeld.2.2.2.2.2.2.2.1)
               have HS8_ := (hb.cell (World.block_lt_of_cell? _ _ (hHeld.2.2.2.2.2.2.2.2.1))).trans (hHeld.2.2.2.2.2.2.2.2.1)
               have HS9_ := (hb.cell (World.block_lt_of_cell? _ _ (hHeld.2.2.2.2.2.2.2.2.2.1))).trans (hHeld.2.2.2.2.2.2.2.2.2.1)
               have HS10_ := (hb.cell (World.block_lt_of_cell? _ _ (hHeld.2.2.2.2.2.2.2.2.2.2.1))).trans (hHeld.2.2.2.2.2.2.2.2.2.2.1)
               have HS11_ := (hb.cell (World.block_lt_of_cell? _ _ (hHeld.2.2.2.2.2.2.2.2.2.2.2))).trans (hHeld.2.2.2.2.2.2.2.2.2.2.2)
               refine ⟨_, rfl, ?_⟩
               have n0_ := Aside0.mk (Kd.R_below (qq30) hb)
               have n1_ := Aside0.mk (blk_below (g := gb455) (o := .cells #[.int .i64 t449, .int .i64 t450, .int .i64 t451, .int .i64 t452, .int .i64 t453, .int .i64 t454] 26 (0, 0)) (qq40) hb)
               have n2_ := Aside0.mk (below_step (qq38) hb)
               clear HO_5
               clear BK455
               clear HB
               have HO_5 := n0_
               have BK455 := n1_
               have HB := n2_
               clear n0_ n1_ n2_
               (try clear hb)
               (try clear hb2)
               (try clear hk)
               (try clear hi)
               refine hK.out _ _ ⟨(blk_cell BK455.out 0).trans rfl, (blk_cell BK455.out 1).trans rfl, (blk_cell BK455.out 2).trans rfl, (blk_cell BK455.out 3).trans rfl, (blk_cell BK455.out 4).trans rfl, (blk_cell BK455.out 5).trans rfl, HS6_, HS7_, HS8_, HS9_, HS10_, HS11_⟩ (fun hHeld => ?_)
               clear hK K
               refine norm_ (a' := ?_) ?_ ?_
               rotate_left
               ·show Act.put _ (some 79) _ = _
                simp only [Act.put, List.setIfInBounds_toArray, List.set_cons_zero, List.set_cons_succ, i64_w, i32_w]
                rfl
               refine done_ (by kernel_rfl) ?_
               try go_wp2
               have n0_ := Aside0.mk (Kd.R_drew HO_5.out)
               have n1_ := Aside0.mk (blk_drew BK455.out)
               have n2_ := Aside0.mk (below_drew1 HB.out)
               clear HO_5
               clear BK455
               clear HB
               have HO_5 := n0_
               have BK455 := n1_
               have HB := n2_
               clear n0_ n1_ n2_
               have p479 : 0 ≤ (x10_3 : Int) := of_decide_eq_true (qq2)
               have q479 : x10_3 < (t456.length : Int) := of_decide_eq_true (qq2)
               obtain ⟨ad479, e479, hx479_0, hx479_1, hx479_2, hx479_3, hx479_4, hx479_5⟩ := at_T26 (Kd.R_reads' HO_5.out).2.2 x10_3 p479 q479
               obtain rfl : ad477 = ad479 := (by injection e479)
               replace p479 := eq_true p479
               replace q479 := eq_true q479
               refine start_ (n := 37) (S := fun w' => w'.cell? ⟨gb455, 0, none⟩ = some (.int .i64 t449) ∧ w'.cell? ⟨gb455, 1, none⟩ = some (.int .i64 t450) ∧ w'.cell? ⟨gb455, 2, none⟩ = some (.int .i64 t451) ∧ w'.cell? ⟨gb455, 3, none⟩ = some (.int .i64 t452) ∧ w'.cell? ⟨gb455, 4, none⟩ = some (.int .i64 t453) ∧ w'.cell? ⟨gb455, 5, none⟩ = some (.int .i64 t454) ∧ w'.cell? (ad477.add ((x10_3).toNat * 6)) = some (.int .i64 ((rd_T26 t456 x10_3).f0)) ∧ w'.cell? ⟨(ad477.add ((x10_3).toNat * 6)).block, (ad477.add ((x10_3).toNat * 6)).off + 1, none⟩ = some (.int .i64 ((rd_T26 t456 x10_3).f1)) ∧ w'.cell? ⟨(ad477.add ((x10_3).toNat * 6)).block, (ad477.add ((x10_3).toNat * 6)).off + 2, none⟩ = some (.int .i64 ((rd_T26 t456 x10_3).f2)) ∧ w'.cell? ⟨(ad477.add ((x10_3).toNat * 6)).block, (ad477.add ((x10_3).toNat * 6)).off + 3, none⟩ = some (.int .i64 ((rd_T26 t456 x10_3).f3)) ∧ w'.cell? ⟨(ad477.add ((x10_3).toNat * 6)).block, (ad477.add ((x10_3).toNat * 6)).off + 4, none⟩ = some (.int .i64 ((rd_T26 t456 x10_3).f4)) ∧ w'.cell? ⟨(ad477.add ((x10_3).toNat * 6)).block, (ad477.add ((x10_3).toNat * 6)).off + 5, none⟩ = some (.int .i64 ((rd_T26 t456 x10_3).f5))) (ds := []) mm36 (by kernel_rfl) rfl rfl ⟨(blk_cell BK455.out 0).trans rfl, (blk_cell BK455.out 1).trans rfl, (blk_cell BK455.out 2).trans rfl, (blk_cell BK455.out 3).trans rfl, (blk_cell BK455.out 4).trans rfl, (blk_cell BK455.out 5).trans rfl, hx479_0, hx479_1, hx479_2, hx479_3, hx479_4, hx479_5⟩ (fun hHeld => ?_); refine with_tabW laws_FnStores.tab17 laws_FnStores.bits17 (fun HT_ HW_ => ?_)
               generalize w70.drew = w71 at HO_5 BK455 HB hx479_0 hx479_1 hx479_2 hx479_3 hx479_4 hx479_5 hHeld ⊢
               refine pure_ (i := 0) (N := some 80) (v := ?_) (a' := ?_) mm37 rfl rfl (any_of HT_.out (by kernel_rfl)) (fun _ _ _ h => h) (Or.inl ⟨by rfl, ?_⟩) ?_ ?_
               rotate_left
               ·intro w'
                go_simp
                with_reducible rfl
               rotate_left
               ·exact qq161
               refine pure_ (i := 1) (N := some 81) (v := ?_) (a' := ?_) mm38 rfl rfl (any_of HT_.out (by kernel_rfl)) (fun _ _ _ h => h) (Or.inl ⟨by rfl, ?_⟩) ?_ ?_
               rotate_left
               ·intro w'
                go_simp
                with_reducible rfl
               rotate_left
               ·exact qq161
               refine pure_ (i := 2) (N := some 82) (v := ?_) (a' := ?_) mm39 rfl rfl (any_of HT_.out (by kernel_rfl)) (fun _ _ _ h => h) (Or.inl ⟨by rfl, ?_⟩) ?_ ?_
               rotate_left
               ·intro w'
                go_simp
                with_reducible rfl
               rotate_left
               ·exact qq161
               refine pure_ (i := 3) (N := some 83) (v := ?_) (a' := ?_) mm40 rfl rfl (any_of HT_.out (by kernel_rfl)) (fun _ _ _ h => h) (Or.inl ⟨by rfl, ?_⟩) ?_ ?_
               rotate_left
               ·intro w'
                go_simp
                with_reducible rfl
               rotate_left
               ·exact qq161
               refine pure_ (i := 5) (N := some 85) (v := ?_) (a' := ?_) mm41 rfl rfl (any_of HT_.out (by kernel_rfl)) (fun _ _ _ h => h) (Or.inl ⟨by rfl, ?_⟩) ?_ ?_
               rotate_left
               ·intro w'
                go_simp
                with_reducible rfl
               rotate_left
               ·exact qq161
               refine take_ (i := 4) (N := some 84) (v := ?_) (a' := ?_) mm42 rfl rfl (take_ofW HT_.out HW_.out (by kernel_rfl)) (fun _ _ _ h => h) (Or.inl ⟨by rfl, ?_⟩) hHeld ?_ ?_
               rotate_left
               ·rintro w' ⟨s0, s1, s2, s3, s4, s5, s6, s7, s8, s9, s10, s11⟩
                go_simp
                with_reducible rfl
               rotate_left
               ·exact qq161
               refine take_ (i := 6) (N := some 86) (v := ?_) (a' := ?_) mm43 rfl rfl (take_ofW HT_.out HW_.out (by kernel_rfl)) (fun _ _ _ h => h) (Or.inl ⟨by rfl, ?_⟩) hHeld ?_ ?_
               rotate_left
               ·rintro w' ⟨s0, s1, s2, s3, s4, s5, s6, s7, s8, s9, s10, s11⟩
                go_simp
                with_reducible rfl
               rotate_left
               ·exact qq161
               refine pure_ (i := 7) (N := some 87) (v := ?_) (a' := ?_) mm44 rfl rfl (any_of HT_.out (by kernel_rfl)) (fun _ _ _ h => h) (Or.inl ⟨by rfl, ?_⟩) ?_ ?_
               rotate_left
               ·intro w'
                go_simp
                with_reducible rfl
               rotate_left
               ·exact qq161
               refine pure_ (i := 8) (N := some 88) (v := ?_) (a' := ?_) mm45 rfl rfl (any_of HT_.out (by kernel_rfl)) (fun _ _ _ h => h) (Or.inl ⟨by rfl, ?_⟩) ?_ ?_
               rotate_left
               ·intro w'
                go_simp
                with_reducible rfl
               rotate_left
               ·exact qq161
               refine pure_ (i := 9) (N := some 89) (v := undef) (a' := ?_) mm46 rfl rfl (any_of HT_.out (by kernel_rfl)) (fun _ _ _ h => h) (Or.inr ⟨by rfl, rfl⟩) ?_ ?_
               rotate_left
               ·exact qq161
               refine pure_ (i := 10) (N := some 90) (v := undef) (a' := ?_) mm47 rfl rfl (any_of HT_.out (by kernel_rfl)) (fun _ _ _ h => h) (Or.inr ⟨by rfl, rfl⟩) ?_ ?_
               rotate_left
               ·exact qq161
               refine pure_ (i := 11) (N := some 91) (v := undef) (a' := ?_) mm48 rfl rfl (any_of HT_.out (by kernel_rfl)) (fun _ _ _ h => h) (Or.inr ⟨by rfl, rfl⟩) ?_ ?_
               rotate_left
               ·exact qq161
               refine pure_ (i := 12) (N := some 92) (v := undef) (a' := ?_) mm49 rfl rfl (any_of HT_.out (by kernel_rfl)) (fun _ _ _ h => h) (Or.inr ⟨by rfl, rfl⟩) ?_ ?_
               rotate_left
               ·exact qq161
               refine pure_ (i := 13) (N := some 93) (v := undef) (a' := ?_) mm50 rfl rfl (any_of HT_.out (by kernel_rfl)) (fun _ _ _ h => h) (Or.inr ⟨by rfl, rfl⟩) ?_ ?_
               rotate_left
               ·exact qq161
               refine pure_ (i := 14) (N := some 94) (v := undef) (a' := ?_) mm51 rfl rfl (any_of HT_.out (by kernel_rfl)) (fun _ _ _ h => h) (Or.inr ⟨by rfl, rfl⟩) ?_ ?_
               rotate_left
               ·exact qq161
               refine pure_ (i := 15) (N := some 95) (v := undef) (a' := ?_) mm52 rfl rfl (any_of HT_.out (by kernel_rfl)) (fun _ _ _ h => h) (Or.inr ⟨by rfl, rfl⟩) ?_ ?_
               rotate_left
               ·exact qq161
               refine pure_ (i := 16) (N := some 96) (v := undef) (a' := ?_) mm53 rfl rfl (any_of HT_.out (by kernel_rfl)) (fun _ _ _ h => h) (Or.inr ⟨by rfl, rfl⟩) ?_ ?_
               rotate_left
               ·exact qq161
               refine pure_ (i := 17) (N := some 97) (v := undef) (a' := ?_) mm54 rfl rfl (any_of HT_.out (by kernel_rfl)) (fun _ _ _ h => h) (Or.inr ⟨by rfl, rfl⟩) ?_ ?_
               rotate_left
               ·exact qq161
               refine pure_ (i := 18) (N := some 98) (v := undef) (a' := ?_) mm55 rfl rfl (any_of HT_.out (by kernel_rfl)) (fun _ _ _ h => h) (Or.inr ⟨by rfl, rfl⟩) ?_ ?_
               rotate_left
               ·exact qq161
               refine pure_ (i := 19) (N := some 99) (v := undef) (a' := ?_) mm56 rfl rfl (any_of HT_.out (by kernel_rfl)) (fun _ _ _ h => h) (Or.inr ⟨by rfl, rfl⟩) ?_ ?_
               rotate_left
               ·exact qq161
               refine pure_ (i := 20) (N := some 100) (v := undef) (a' := ?_) mm57 rfl rfl (any_of HT_.out (by kernel_rfl)) (fun _ _ _ h => h) (Or.inr ⟨by rfl, rfl⟩) ?_ ?_
               rotate_left
               ·exact qq161
               refine pure_ (i := 21) (N := some 101) (v := undef) (a' := ?_) mm58 rfl rfl (any_of HT_.out (by kernel_rfl)) (fun _ _ _ h => h) (Or.inr ⟨by rfl, rfl⟩) ?_ ?_
               rotate_left
               ·exact qq161
               refine pure_ (i := 22) (N := some 102) (v := undef) (a' := ?_) mm59 rfl rfl (any_of HT_.out (by kernel_rfl)) (fun _ _ _ h => h) (Or.inr ⟨by rfl, rfl⟩) ?_ ?_
               rotate_left
               ·exact qq161
               refine pure_ (i := 23) (N := some 103) (v := undef) (a' := ?_) mm60 rfl rfl (any_of HT_.out (by kernel_rfl)) (fun _ _ _ h => h) (Or.inr ⟨by rfl, rfl⟩) ?_ ?_
               rotate_left
               ·exact qq161
               refine pure_ (i := 24) (N := some 104) (v := undef) (a' := ?_) mm61 rfl rfl (any_of HT_.out (by kernel_rfl)) (fun _ _ _ h => h) (Or.inr ⟨by rfl, rfl⟩) ?_ ?_
               rotate_left
               ·exact qq161
               refine pure_ (i := 25) (N := some 105) (v := undef) (a' := ?_) mm62 rfl rfl (any_of HT_.out (by kernel_rfl)) (fun _ _ _ h => h) (Or.inr ⟨by rfl, rfl⟩) ?_ ?_
               rotate_left
               ·exact qq161
               refine pure_ (i := 26) (N := some 106) (v := undef) (a' := ?_) mm63 rfl rfl (any_of HT_.out (by kernel_rfl)) (fun _ _ _ h => h) (Or.inr ⟨by rfl, rfl⟩) ?_ ?_
               rotate_left
               ·exact qq161
               refine pure_ (i := 27) (N := some 107) (v := undef) (a' := ?_) mm64 rfl rfl (any_of HT_.out (by kernel_rfl)) (fun _ _ _ h => h) (Or.inr ⟨by rfl, rfl⟩) ?_ ?_
               rotate_left
               ·exact qq161
               refine pure_ (i := 28) (N := some 108) (v := undef) (a' := ?_) mm65 rfl rfl (any_of HT_.out (by kernel_rfl)) (fun _ _ _ h => h) (Or.inr ⟨by rfl, rfl⟩) ?_ ?_
               rotate_left
               ·exact qq161
               refine pure_ (i := 29) (N := some 109) (v := undef) (a' := ?_) mm66 rfl rfl (any_of HT_.out (by kernel_rfl)) (fun _ _ _ h => h) (Or.inr ⟨by rfl, rfl⟩) ?_ ?_
               rotate_left
               ·exact qq161
               refine pure_ (i := 30) (N := some 110) (v := undef) (a' := ?_) mm67 rfl rfl (any_of HT_.out (by kernel_rfl)) (fun _ _ _ h => h) (Or.inr ⟨by rfl, rfl⟩) ?_ ?_
               rotate_left
               ·exact qq161
               refine pure_ (i := 31) (N := some 111) (v := undef) (a' := ?_) mm68 rfl rfl (any_of HT_.out (by kernel_rfl)) (fun _ _ _ h => h) (Or.inr ⟨by rfl, rfl⟩) ?_ ?_
               rotate_left
               ·exact qq161
               refine pure_ (i := 32) (N := some 112) (v := undef) (a' := ?_) mm69 rfl rfl (any_of HT_.out (by kernel_rfl)) (fun _ _ _ h => h) (Or.inr ⟨by rfl, rfl⟩) ?_ ?_
               rotate_left
               ·exact qq161
               refine pure_ (i := 33) (N := some 113) (v := undef) (a' := ?_) mm70 rfl rfl (any_of HT_.out (by kernel_rfl)) (fun _ _ _ h => h) (Or.inr ⟨by rfl, rfl⟩) ?_ ?_
               rotate_left
               ·exact qq161
               refine pure_ (i := 34) (N := some 114) (v := undef) (a' := ?_) mm71 rfl rfl (any_of HT_.out (by kernel_rfl)) (fun _ _ _ h => h) (Or.inr ⟨by rfl, rfl⟩) ?_ ?_
               rotate_left
               ·exact qq161
               refine pure_ (i := 35) (N := some 115) (v := ?_) (a' := ?_) mm72 rfl rfl (any_of HT_.out (by kernel_rfl)) (fun _ _ _ h => h) (Or.inl ⟨by rfl, ?_⟩) ?_ ?_
               rotate_left
               ·intro w'
                go_simp
                with_reducible rfl
               rotate_left
               ·exact qq161
               refine pure_ (i := 36) (N := some 2) (v := ?_) (a' := ?_) mm73 rfl rfl (any_of HT_.out (by kernel_rfl)) (fun _ _ _ h => h) (Or.inl ⟨by rfl, ?_⟩) ?_ ?_
               rotate_left
               ·intro w'
                go_simp
                with_reducible rfl
               rotate_left
               ·exact qq161
               refine done_ (done_of HT_.out (by kernel_rfl)) ?_
               try go_wp2
               go_ret
               exact ⟨qq9, qq38⟩
             ·replace c52 := Bool.eq_false_iff.mpr c52
              subst c52
              have H1 : (laws_FnStores.l0 k3 t456 (wrap64 (x10_3 + 1)) t449 t450 t451 t452 t453 t454) = some r := by rw [if_neg (show ¬ (false = true) by decide)] at H; exact H
              clear H
              have H := H1
              clear H1
              have H' := Aside0.mk H
              clear H
              obtain ⟨Ao72, co72, eo72⟩ := Kd.R_slice HO_5.out
              subst eo72
              try go_wp2
              have n0_ := Aside0.mk (Kd.R_drew HO_5.out)
              have n1_ := Aside0.mk (blk_drew BK455.out)
              have n2_ := Aside0.mk (below_drew1 HB.out)
              clear HO_5
              clear BK455
              clear HB
              have HO_5 := n0_
              have BK455 := n1_
              have HB := n2_
              clear n0_ n1_ n2_
              have p477 : 0 ≤ (x10_3 : Int) := of_decide_eq_true (qq2)
              have q477 : x10_3 < (t456.length : Int) := of_decide_eq_true (qq2)
              obtain ⟨ad477, e477, hx477_0, hx477_1, hx477_2, hx477_3, hx477_4, hx477_5⟩ := at_T26 (Kd.R_reads' HO_5.out).2.2 x10_3 p477 q477
              cases e477
              replace p477 := eq_true p477
              replace q477 := eq_true q477
              refine start_ (n := 6) (S := fun w' => w'.cell? ⟨gb455, 0, none⟩ = some (.int .i64 t449) ∧ w'.cell? ⟨gb455, 1, none⟩ = some (.int .i64 t450) ∧ w'.cell? ⟨gb455, 2, none⟩ = some (.int .i64 t451) ∧ w'.cell? ⟨gb455, 3, none⟩ = some (.int .i64 t452) ∧ w'.cell? ⟨gb455, 4, none⟩ = some (.int .i64 t453) ∧ w'.cell? ⟨gb455, 5, none⟩ = some (.int .i64 t454) ∧ w'.cell? (ad477.add ((x10_3).toNat * 6)) = some (.int .i64 ((rd_T26 t456 x10_3).f0)) ∧ w'.cell? ⟨(ad477.add ((x10_3).toNat * 6)).block, (ad477.add ((x10_3).toNat * 6)).off + 1, none⟩ = some (.int .i64 ((rd_T26 t456 x10_3).f1)) ∧ w'.cell? ⟨(ad477.add ((x10_3).toNat * 6)).block, (ad477.add ((x10_3).toNat * 6)).off + 2, none⟩ = some (.int .i64 ((rd_T26 t456 x10_3).f2)) ∧ w'.cell? ⟨(ad477.add ((x10_3).toNat * 6)).block, (ad477.add ((x10_3).toNat * 6)).off + 3, none⟩ = some (.int .i64 ((rd_T26 t456 x10_3).f3)) ∧ w'.cell? ⟨(ad477.add ((x10_3).toNat * 6)).block, (ad477.add ((x10_3).toNat * 6)).off + 4, none⟩ = some (.int .i64 ((rd_T26 t456 x10_3).f4)) ∧ w'.cell? ⟨(ad477.add ((x10_3).toNat * 6)).block, (ad477.add ((x10_3).toNat * 6)).off + 5, none⟩ = some (.int .i64 ((rd_T26 t456 x10_3).f5))) (ds := []) mm31 (by kernel_rfl) rfl rfl ⟨(blk_cell BK455.out 0).trans rfl, (blk_cell BK455.out 1).trans rfl, (blk_cell BK455.out 2).trans rfl, (blk_cell BK455.out 3).trans rfl, (blk_cell BK455.out 4).trans rfl, (blk_cell BK455.out 5).trans rfl, hx477_0, hx477_1, hx477_2, hx477_3, hx477_4, hx477_5⟩ (fun hHeld => ?_)
              generalize wr.drew = w73 at HO_5 BK455 HB hx477_0 hx477_1 hx477_2 hx477_3 hx477_4 hx477_5 hHeld ⊢
              refine pure_ (i := 0) (N := some 74) (v := ?_) (a' := ?_) mm34 rfl rfl (by kernel_rfl) (fun _ _ _ h => h) (Or.inl ⟨by rfl, ?_⟩) ?_ ?_
              rotate_left
              ·intro w'
               go_simp
               with_reducible rfl
              rotate_left
              ·exact qq161
              refine pure_ (i := 1) (N := some 75) (v := ?_) (a' := ?_) mm35 rfl rfl (by kernel_rfl) (fun _ _ _ h => h) (Or.inl ⟨by rfl, ?_⟩) ?_ ?_
              rotate_left
              ·intro w'
               go_simp
               with_reducible rfl
              rotate_left
              ·exact qq161
              refine pure_ (i := 2) (N := some 76) (v := ?_) (a' := ?_) #[true, true, true, false, false, false] rfl rfl (by kernel_rfl) (fun _ _ _ h => h) (Or.inl ⟨by rfl, ?_⟩) ?_ ?_
              rotate_left
              ·intro w'
               go_simp
               with_reducible rfl
              rotate_left
              ·exact qq161
              refine take_ (i := 3) (N := some 77) (v := ?_) (a' := ?_) #[true, true, true, true, false, false] rfl rfl (by kernel_rfl) (fun _ _ _ h => h) (Or.inl ⟨by rfl, ?_⟩) hHeld ?_ ?_
              rotate_left
              ·rintro w' ⟨s0, s1, s2, s3, s4, s5, s6, s7, s8, s9, s10, s11⟩
               go_simp
               with_reducible rfl
              rotate_left
              ·exact qq161
              refine take_ (i := 4) (N := some 78) (v := ?_) (a' := ?_) #[true, true, true, true, true, false] rfl rfl (by kernel_rfl) (fun _ _ _ h => h) (Or.inl ⟨by rfl, ?_⟩) hHeld ?_ ?_
              rotate_left
              ·rintro w' ⟨s0, s1, s2, s3, s4, s5, s6, s7, s8, s9, s10, s11⟩
               go_simp
               with_reducible rfl
              rotate_left
              ·exact qq161
              refine one_ (i := 5) (N := some 79) #[true, true, true, true, true, true] rfl rfl (by kernel_rfl) (by decide) (fun K hK => ?_)
              refine goes_ Try.func16 (by kernel_rfl) rfl #[.agg #[.int .i64 ((rd_T26 t456 x10_3).f0), .int .i64 ((rd_T26 t456 x10_3).f1), .int .i64 ((rd_T26 t456 x10_3).f2), .int .i64 ((rd_T26 t456 x10_3).f3), .int .i64 ((rd_T26 t456 x10_3).f4), .int .i64 ((rd_T26 t456 x10_3).f5)], .agg #[.int .i64 t449, .int .i64 t450, .int .i64 t451, .int .i64 t452, .int .i64 t453, .int .i64 t454]] (by rfl) rfl rfl (qq5) ?_
              with_reducible refine (impl_SameClaim.calls ((rd_T26 t456 x10_3).f0) ((rd_T26 t456 x10_3).f1) ((rd_T26 t456 x10_3).f2) ((rd_T26 t456 x10_3).f3) ((rd_T26 t456 x10_3).f4) ((rd_T26 t456 x10_3).f5) t449 t450 t451 t452 t453 t454 false _ A51.out).mono ?_
              rintro e w74 ⟨rfl, hb⟩
              have HS6_ := (hb.cell (World.block_lt_of_cell? _ _ (hHeld.2.2.2.2.2.2.1))).trans (hHeld.2.2.2.2.2.2.1)
              have HS7_ := (hb.cell (World.block_lt_of_cell? _ _ (hHeld.2.2.2.2.2.2.2.1))).trans (hHeld.2.2.2.2.2.2.2.1)
              have HS8_ := (hb.cell (World.block_lt_of_cell? _ _ (hHeld.2.2.2.2.2.2.2.2.1))).trans (hHeld.2.2.2.2.2.2.2.2.1)
              have HS9_ := (hb.cell (World.block_lt_of_cell? _ _ (hHeld.2.2.2.2.2.2.2.2.2.1))).trans (hHeld.2.2.2.2.2.2.2.2.2.1)
              have HS10_ := (hb.cell (World.block_lt_of_cell? _ _ (hHeld.2.2.2.2.2.2.2.2.2.2.1))).trans (hHeld.2.2.2.2.2.2.2.2.2.2.1)
              have HS11_ := (hb.cell (World.block_lt_of_cell? _ _ (hHeld.2.2.2.2.2.2.2.2.2.2.2))).trans (hHeld.2.2.2.2.2.2.2.2.2.2.2)
              refine ⟨_, rfl, ?_⟩
              have n0_ := Aside0.mk (Kd.R_below (qq30) hb)
              have n1_ := Aside0.mk (blk_below (g := gb455) (o := .cells #[.int .i64 t449, .int .i64 t450, .int .i64 t451, .int .i64 t452, .int .i64 t453, .int .i64 t454] 26 (0, 0)) (qq40) hb)
              have n2_ := Aside0.mk (below_step (qq38) hb)
              clear HO_5
              clear BK455
              clear HB
              have HO_5 := n0_
              have BK455 := n1_
              have HB := n2_
              clear n0_ n1_ n2_
              (try clear hb)
              (try clear hb2)
              (try clear hk)
              (try clear hi)
              refine hK.out _ _ ⟨(blk_cell BK455.out 0).trans rfl, (blk_cell BK455.out 1).trans rfl, (blk_cell BK455.out 2).trans rfl, (blk_cell BK455.out 3).trans rfl, (blk_cell BK455.out 4).trans rfl, (blk_cell BK455.out 5).trans rfl, HS6_, HS7_, HS8_, HS9_, HS10_, HS11_⟩ (fun hHeld => ?_)
              clear hK K
              refine norm_ (a' := ?_) ?_ ?_
              rotate_left
              ·show Act.put _ (some 79) _ = _
               simp only [Act.put, List.setIfInBounds_toArray, List.set_cons_zero, List.set_cons_succ, i64_w, i32_w]
               rfl
              refine done_ (by kernel_rfl) ?_
              try go_wp2
              go_roundg k3
              case measure => have := HJ7.out; have := HJ40.out; have := HK3.out; omega
              case rel => exact ⟨(wrap64 (x10_3 + 1)), (qq0), H', ⟨by have := HJ7.out; have := HJ40.out; have := HK3.out; omega⟩, ⟨qq30⟩, ⟨qq40⟩, ⟨qq38⟩⟩
            ·rw [if_neg c50] at H
             exact absurd H (by simp)
           ·rw [if_neg c49] at H
            have c49b0 : decide (x10_3 < (t456.length : Int)) = false := decide_eq_false c49
            clear c49
            obtain rfl := Option.some.inj H
            obtain ⟨Ao75, co75, eo75⟩ := Kd.R_slice HO_5.out
            subst eo75
            go_wp2
            go_ret
            exact ⟨qq9, qq38⟩
     ·replace c40 := Bool.eq_false_iff.mpr c40
      subst c40
      have H1 : ((laws_sameFacts.f kj7 t456 t446).bind fun t475 => (some t475)) = some r := by rw [if_neg (show ¬ (false = true) by decide)] at H; exact H
      clear H
      have H := H1
      clear H1
      replace H := Option.bind_eq_some_iff.mp H
      obtain ⟨t475, A760, H⟩ := H
      replace H : (some t475) = some r := H
      have A76 := Aside0.mk A760
      clear A760
      obtain rfl := Option.some.inj H
      obtain ⟨Ao77, co77, eo77⟩ := Kd.R_slice HO_5.out
      subst eo77
      go_wp2_with (first | ((with_reducible refine gate_callee (f := 15) rfl ?_); refine goesL_ (some 56) rfl rfl Try.func15 (by kernel_rfl) rfl #[.slice Ao77 t456.length co77, .slice Ao12 t446.length co12] rfl (qq5) ?_; (with_reducible refine (laws_sameFacts.calls kj7 _ _ t456 _ _ t446 t475 _ ?side1 ?side2 ?side3 ?side4 A76.out).mono ?_); (case side1 => exact qq154); (case side2 => exact (Kd.R_reads' HO_5.out).2.1); (case side3 => exact qq155); (case side4 => exact (Kd.R_reads' HO_3.out).2.1); rintro e w' ⟨rfl, ⟨nd, rfl⟩⟩; refine ⟨_, rfl, ?_⟩))
      go_ret
      exact ⟨qq9, qq38⟩
/-- THE ONE PURE STATEMENT of laws_FnStores: yours. -/
def laws_FnStores.Pure : Prop := ∀ (l0 : List Int), l0.length ≤ maxLen → l0.length * 1 ≤ 140737488351232 → (∀ x ∈ l0, (Lit.int .u8 x).wf = true) → ∃ k, laws_FnStores.f k l0 = some true
theorem laws_FnStores.walk (P : laws_FnStores.Pure) (a0 : Option Addr) (len0 cap0 : Nat) (z0 : List Int) (w : World) (w0 : (a0 = none ∧ len0 = 0 ∧ cap0 = 0 ∧ z0 = []) ∨ ∃ x, a0 = some x ∧ len0 ≤ cap0 ∧ cap0 ≤ maxLen ∧ z0.length = cap0 ∧ (∀ i, i < z0.length → w.cell? (x.add i) = some (.int .u8 (z0.getD i 0))) ∧ ∀ n ∈ z0, (Lit.int .u8 n).wf = true) (y0 : len0 * 1 ≤ 140737488351232) :
  Calls Try.prog 3 #[.slice a0 len0 cap0] w fun e w' => e = .returned (.bool true) ∧ Below w.heap.size w w' := by
 obtain ⟨l0, rfl, hr0, hm0, hw0, hc0⟩ := ReadsInt.ofRowC w0
 obtain ⟨k, h⟩ := P l0 hm0 y0 hw0
 refine (laws_FnStores.calls k _ _ l0 true w (Kd.C_of_reads (d := (0 : Int)) (h1 := fun _ => rfl) hr0) hc0 h).mono ?_
 rintro e w' ⟨rfl, hd⟩
 exact ⟨rfl, hd⟩
end Go.Proofs.Ythanecnkknimpaa.PFnStores
