/- What this law reaches, as plain Lean functions, and the proofs that the machine's calls answer what they answer; laid by a program of this session over the kit's print, some functions by hand. Conditions: none beyond each theorem's own. -/
import Derived.Test.YthanecnkknimpaaPFnStoresx0
import Derived.Test.YthanecnkknimpaaPFnStoresx5
import Derived.Test.YthanecnkknimpaaPFnStoresx6
import Derived.Test.YthanecnkknimpaaPFnStoresx7
-- half the blanks
namespace Go.Proofs.Ythanecnkknimpaa.PFnStores
open Go.RowKit Go.Proofs.YthanecnkknimpaaW.PrintWords Go.Proofs.YthanecnkknimpaaW.PrintLast Go.Proofs.YthanecnkknimpaaW.PrintMore
attribute [local go_sem] max2_int min2_int max_two min_two max_three min_three max_four min_four   -- for this text's walks alone
set_option linter.unusedVariables false
set_option linter.unusedSimpArgs false
/-! ### spec_l5Any: function 59 -/
def spec_l5Any.f (s0_0 : List Int) (s0_1 : Int) (s0_2 : Int) : Option (Int × Int × Int) := (spec_l1Once.f s0_0 s0_1 s0_2 6).bind fun bt272 => (if bt272.1 = true then ((spec_l1Int.f s0_0 bt272.2.1 bt272.2.2 (([(-1), 9, 10, 49, 50, 19] : List Int))).bind fun bt278 => (some (bt278.1, bt278.2.1, bt278.2.2))) else ((spec_l1Below.f s0_0 bt272.2.1 bt272.2.2 4).bind fun bt281 => ((spec_l5Name.f s0_0 bt281.2.1 bt281.2.2 (wrap64 (1 + bt281.1))).bind fun bt284 => (some (bt284.1, bt284.2.1, bt284.2.2)))))
set_option maxHeartbeats 8000000 in
set_option maxRecDepth 100000 in
theorem spec_l5Any.calls (g : Nat) (s0_0 : List Int) (s0_1 : Int) (s0_2 : Int) (r1 : Int) (r2 : Int) (r3 : Int) (w0 w : World) (hI : IsS72 w0 w g s0_0 s0_1 s0_2) (hB : Below w0.heap.size w0 w) (h : spec_l5Any.f s0_0 s0_1 s0_2 = some (r1, r2, r3)) :
  Calls Try.prog 59 #[.pointer (some ⟨g, 0, none⟩)] w fun e w' => e = .returned (.int .i64 r1) ∧ IsS72 w0 w' g s0_0 r2 r3 ∧ Below w0.heap.size w0 w' ∧ KeepBut w w' g none := by
 have HI0 := Aside0.mk hI
 have HK := Aside0.mk (KeepBut.refl w g none)
 have HL := Aside0.mk hB.size
 clear hI
 have HW0 := Aside0.mk hB.size
 have HB := Aside0.mk hB
 clear hB
 have H : ((spec_l1Once.f s0_0 s0_1 s0_2 6).bind fun bt272 => (if bt272.1 = true then ((spec_l1Int.f s0_0 bt272.2.1 bt272.2.2 (([(-1), 9, 10, 49, 50, 19] : List Int))).bind fun bt278 => (some (bt278.1, bt278.2.1, bt278.2.2))) else ((spec_l1Below.f s0_0 bt272.2.1 bt272.2.2 4).bind fun bt281 => ((spec_l5Name.f s0_0 bt281.2.1 bt281.2.2 (wrap64 (1 + bt281.1))).bind fun bt284 => (some (bt284.1, bt284.2.1, bt284.2.2)))))) = some (r1, r2, r3) := h
 clear h
 replace H := Option.bind_eq_some_iff.mp H
 obtain ⟨⟨t272, t273, t274⟩, A20, H⟩ := H
 replace H : (if t272 = true then ((spec_l1Int.f s0_0 t273 t274 (([(-1), 9, 10, 49, 50, 19] : List Int))).bind fun bt278 => (some (bt278.1, bt278.2.1, bt278.2.2))) else ((spec_l1Below.f s0_0 t273 t274 4).bind fun bt281 => ((spec_l5Name.f s0_0 bt281.2.1 bt281.2.2 (wrap64 (1 + bt281.1))).bind fun bt284 => (some (bt284.1, bt284.2.1, bt284.2.2))))) = some (r1, r2, r3) := H
 have A2 := Aside0.mk A20
 clear A20
 by_cases c3 : t272 = true
 ·subst c3
  have H1 : ((spec_l1Int.f s0_0 t273 t274 (([(-1), 9, 10, 49, 50, 19] : List Int))).bind fun bt278 => (some (bt278.1, bt278.2.1, bt278.2.2))) = some (r1, r2, r3) := by rw [if_pos rfl] at H; exact H
  clear H
  have H := H1
  clear H1
  obtain ⟨y275, hy275⟩ : ∃ y_ : List Int, y_ = (([(-1), 9, 10, 49, 50, 19] : List Int)) := ⟨_, rfl⟩
  replace H : ((spec_l1Int.f s0_0 t273 t274 y275).bind fun bt278 => (some (bt278.1, bt278.2.1, bt278.2.2))) = some (r1, r2, r3) := by first | (rw [hy275]; with_reducible exact H) | (have H2_ := (Option.bind_some _ _).symm.trans H; rw [hy275]; with_reducible exact H2_) | (have H2_ := (Option.bind_some _ _).symm.trans H; with_reducible exact H2_) | with_reducible exact H | (rw [hy275]; exact H) | exact H
  have Ny275 := Aside0.mk hy275
  clear hy275
  replace H := Option.bind_eq_some_iff.mp H
  obtain ⟨⟨t278, t279, t280⟩, A40, H⟩ := H
  replace H : (some (t278, t279, t280)) = some (r1, r2, r3) := H
  have A4 := Aside0.mk A40
  clear A40
  simp only [Option.some.injEq, Prod.mk.injEq] at H
  obtain ⟨rfl, rfl, rfl⟩ := H
  go_enter Try.func59, Try.ntmps59
  go_wp2_with (first | ((with_reducible refine gate_callee (f := 34) rfl ?_); refine goesL_ (some 4) rfl rfl Try.func34 (by kernel_rfl) rfl #[.pointer (some ⟨g, 0, none⟩), .int .i64 6] rfl (qq5) ?_; (with_reducible refine (spec_l1Once.calls g s0_0 s0_1 s0_2 6 true t273 t274 w0 _ ?side1 ?side2 A2.out).mono ?_); (case side1 => exact qq72); (case side2 => exact qq73); rintro e w5 ⟨rfl, hi, hb, hk⟩; refine ⟨_, rfl, ?_⟩; have n0_ := Aside0.mk (KeepBut.trans (qq74) hk (.inl rfl)); have n1_ := Aside0.mk (hb); have n2_ := Aside0.mk (hi); clear HK; clear HB; clear HI0; have HK := n0_; have HB := n1_; have HI0 := n2_; clear n0_ n1_ n2_; (try clear hb); (try clear hb2); (try clear hk); (try clear hi)) | ((with_reducible refine gate_dst (N := 6) rfl ?_); refine Kd.R_lit (Kd.int .i64) _ 3 ?hg (N := 6) ?hd (xs := ([(-1), 9, 10, 49, 50, 19] : List Int)) (inner := [.int .i64 (-1), .int .i64 9, .int .i64 10, .int .i64 49, .int .i64 50, .int .i64 19]) (ok := fun _ => True) (okp := fun _ => True) ?hr ?hp (fun _ hk => hk) trivial (Below.refl _ _) (Nat.le_refl _) (by simp) ?_; (case hd => rfl); (case hg => rfl); (case hr => first | (go_simp; done) | (go_simp; rfl)); (case hp => exact (Reps.one (show Kd.M (Kd.int .i64) _ _ _ (-1) [.int .i64 (-1)] from rfl) (Reps.one (show Kd.M (Kd.int .i64) _ _ _ 9 [.int .i64 9] from rfl) (Reps.one (show Kd.M (Kd.int .i64) _ _ _ 10 [.int .i64 10] from rfl) (Reps.one (show Kd.M (Kd.int .i64) _ _ _ 49 [.int .i64 49] from rfl) (Reps.one (show Kd.M (Kd.int .i64) _ _ _ 50 [.int .i64 50] from rfl) (Reps.one (show Kd.M (Kd.int .i64) _ _ _ 19 [.int .i64 19] from rfl) (Reps.none _ _)))))))); intro v276 w6 ho7 hb hg_ hnew_; clear hg_ hnew_; (first | rw [← Ny275.out] at ho7 | (simp only [Int.reduceToNat] at ho7; rw [← Ny275.out] at ho7)); have n0_ := Aside0.mk (Kd.R_lower ho7 (keep_size (w := w) (g := g) (row := none) (qq74))); have n1_ := Aside0.mk (IsS72.below (qq72) hb); have n2_ := Aside0.mk (KeepBut.trans (qq74) (KeepBut.of_below hb g none) (.inl rfl)); have n3_ := Aside0.mk (below_step (qq73) hb); clear HI0; clear HK; clear HB; have HO277 := n0_; have HI0 := n1_; have HK := n2_; have HB := n3_; clear n0_ n1_ n2_ n3_; clear hb ho7; obtain ⟨Ao8, co8, eo8⟩ := Kd.R_slice HO277.out; subst eo8) | ((with_reducible refine gate_callee (f := 48) rfl ?_); refine goesL_ (some 7) rfl rfl Try.func48 (by kernel_rfl) rfl #[.pointer (some ⟨g, 0, none⟩), .slice Ao8 y275.length co8] rfl (qq5) ?_; (with_reducible refine (spec_l1Int.calls g s0_0 t273 t274 _ _ y275 t278 t279 t280 w0 _ ?side1 ?side2 ?side3 ?side4 ?side5 A4.out).mono ?_); (case side1 => exact qq72); (case side2 => exact qq73); (case side3 => repeat (first | exact (Kd.R_reads' HO277.out).2.2 | (with_reducible refine Kd.C_alloc ?_ _) | (with_reducible refine Kd.C_drewN ?_ _) | (with_reducible refine Kd.C_drew ?_))); (case side4 => exact (Kd.R_reads' HO277.out).2.1); (case side5 => exact far_slice (IsS72.own_ne HI0.out HO277.out (by decide))); rintro e w9 ⟨rfl, hi, hb, hk⟩; refine ⟨_, rfl, ?_⟩; have n0_ := Aside0.mk (Kd.R_mono (Kd.R_keep (IsS72.apart (show IsS72 w0 _ g s0_0 t273 t274 from by repeat (first | (with_reducible first | exact HI0.out | apply IsS72.alloc | apply IsS72.drewN | apply IsS72.drew | apply IsS72.set_1 | apply IsS72.set_2) | exact HI0.out)) (by (with_reducible repeat (first | apply Kd.R_alloc | apply Kd.R_drewN | apply Kd.R_drew)); exact HO277.out) (by decide)) hk (fun _ h => h.2)) (fun _ h => h.1)); have n1_ := Aside0.mk (KeepBut.trans (qq74) hk (.inl rfl)); have n2_ := Aside0.mk (hb); have n3_ := Aside0.mk (hi); clear HO277; clear HK; clear HB; clear HI0; have HO277 := n0_; have HK := n1_; have HB := n2_; have HI0 := n3_; clear n0_ n1_ n2_ n3_; (try clear hb); (try clear hb2); (try clear hk); (try clear hi)))
  go_ret
  exact qq158
 ·replace c3 := Bool.eq_false_iff.mpr c3
  subst c3
  have H1 : ((spec_l1Below.f s0_0 t273 t274 4).bind fun bt281 => ((spec_l5Name.f s0_0 bt281.2.1 bt281.2.2 (wrap64 (1 + bt281.1))).bind fun bt284 => (some (bt284.1, bt284.2.1, bt284.2.2)))) = some (r1, r2, r3) := by rw [if_neg (show ¬ (false = true) by decide)] at H; exact H
  clear H
  have H := H1
  clear H1
  replace H := Option.bind_eq_some_iff.mp H
  obtain ⟨⟨t281, t282, t283⟩, A100, H⟩ := H
  replace H : ((spec_l5Name.f s0_0 t282 t283 (wrap64 (1 + t281))).bind fun bt284 => (some (bt284.1, bt284.2.1, bt284.2.2))) = some (r1, r2, r3) := H
  have A10 := Aside0.mk A100
  clear A100
  replace H := Option.bind_eq_some_iff.mp H
  obtain ⟨⟨t284, t285, t286⟩, A110, H⟩ := H
  replace H : (some (t284, t285, t286)) = some (r1, r2, r3) := H
  have A11 := Aside0.mk A110
  clear A110
  simp only [Option.some.injEq, Prod.mk.injEq] at H
  obtain ⟨rfl, rfl, rfl⟩ := H
  go_enter Try.func59, Try.ntmps59
  go_wp2_with (first | ((with_reducible refine gate_callee (f := 34) rfl ?_); refine goesL_ (some 4) rfl rfl Try.func34 (by kernel_rfl) rfl #[.pointer (some ⟨g, 0, none⟩), .int .i64 6] rfl (qq5) ?_; (with_reducible refine (spec_l1Once.calls g s0_0 s0_1 s0_2 6 false t273 t274 w0 _ ?side1 ?side2 A2.out).mono ?_); (case side1 => exact qq72); (case side2 => exact qq73); rintro e w12 ⟨rfl, hi, hb, hk⟩; refine ⟨_, rfl, ?_⟩; have n0_ := Aside0.mk (KeepBut.trans (qq74) hk (.inl rfl)); have n1_ := Aside0.mk (hb); have n2_ := Aside0.mk (hi); clear HK; clear HB; clear HI0; have HK := n0_; have HB := n1_; have HI0 := n2_; clear n0_ n1_ n2_; (try clear hb); (try clear hb2); (try clear hk); (try clear hi)) | ((with_reducible refine gate_callee (f := 36) rfl ?_); refine goesL_ (some 10) rfl rfl Try.func36 (by kernel_rfl) rfl #[.pointer (some ⟨g, 0, none⟩), .int .i64 4] rfl (qq5) ?_; (with_reducible refine (spec_l1Below.calls g s0_0 t273 t274 4 t281 t282 t283 w0 _ ?side1 ?side2 A10.out).mono ?_); (case side1 => exact qq72); (case side2 => exact qq73); rintro e w13 ⟨rfl, hi, hb, hk⟩; refine ⟨_, rfl, ?_⟩; have n0_ := Aside0.mk (KeepBut.trans (qq74) hk (.inl rfl)); have n1_ := Aside0.mk (hb); have n2_ := Aside0.mk (hi); clear HK; clear HB; clear HI0; have HK := n0_; have HB := n1_; have HI0 := n2_; clear n0_ n1_ n2_; (try clear hb); (try clear hb2); (try clear hk); (try clear hi)) | ((with_reducible refine gate_callee (f := 66) rfl ?_); refine goesL_ (some 12) rfl rfl Try.func66 (by kernel_rfl) rfl #[.pointer (some ⟨g, 0, none⟩), .int .i64 (wrap64 (1 + t281))] rfl (qq5) ?_; (with_reducible refine (spec_l5Name.calls g s0_0 t282 t283 (wrap64 (1 + t281)) t284 t285 t286 w0 _ ?side1 ?side2 A11.out).mono ?_); (case side1 => exact qq72); (case side2 => exact qq73); rintro e w14 ⟨rfl, hi, hb, hk⟩; refine ⟨_, rfl, ?_⟩; have n0_ := Aside0.mk (KeepBut.trans (qq74) hk (.inl rfl)); have n1_ := Aside0.mk (hb); have n2_ := Aside0.mk (hi); clear HK; clear HB; clear HI0; have HK := n0_; have HB := n1_; have HI0 := n2_; clear n0_ n1_ n2_; (try clear hb); (try clear hb2); (try clear hk); (try clear hi)))
  go_ret
  exact qq158
/-! ### spec_l6Any: function 35 -/
def spec_l6Any.f (s0_0 : List Int) (s0_1 : Int) (s0_2 : Int) : Option (Int × Int × Int × Int × Int × Int × Int × Int) := (spec_l6Fact.f s0_0 s0_1 s0_2).bind fun bt288 => ((spec_l1Below.f s0_0 bt288.2.2.2.2.2.2.1 bt288.2.2.2.2.2.2.2 12).bind fun bt297 => (if bt297.1 = 0 then ((spec_l1Below.f s0_0 bt297.2.1 bt297.2.2 6).bind fun bt300 => (some (bt300.1, bt288.2.1, bt288.2.2.1, bt288.2.2.2.1, bt288.2.2.2.2.1, bt288.2.2.2.2.2.1, bt300.2.1, bt300.2.2))) else (if bt297.1 = 1 then ((spec_l5Any.f s0_0 bt297.2.1 bt297.2.2).bind fun bt303 => (some (bt288.1, bt303.1, bt288.2.2.1, bt288.2.2.2.1, bt288.2.2.2.2.1, bt288.2.2.2.2.2.1, bt303.2.1, bt303.2.2))) else (if bt297.1 = 2 then ((spec_l1Int.f s0_0 bt297.2.1 bt297.2.2 (([(-1), 3, 4, 5, 6, 20] : List Int))).bind fun bt309 => (some (bt288.1, bt288.2.1, bt309.1, bt288.2.2.2.1, bt288.2.2.2.2.1, bt288.2.2.2.2.2.1, bt309.2.1, bt309.2.2))) else (if bt297.1 = 3 then ((spec_l1Int.f s0_0 bt297.2.1 bt297.2.2 (([(-1), 9, 10] : List Int))).bind fun bt315 => (some (bt288.1, bt288.2.1, bt288.2.2.1, bt315.1, bt288.2.2.2.2.1, bt288.2.2.2.2.2.1, bt315.2.1, bt315.2.2))) else (if bt297.1 = 4 then ((spec_l4Time.f s0_0 bt297.2.1 bt297.2.2).bind fun bt318 => (some (bt288.1, bt288.2.1, bt288.2.2.1, bt288.2.2.2.1, bt318.1, bt288.2.2.2.2.2.1, bt318.2.1, bt318.2.2))) else (if bt297.1 = 5 then ((spec_l4Time.f s0_0 bt297.2.1 bt297.2.2).bind fun bt321 => (some (bt288.1, bt288.2.1, bt288.2.2.1, bt288.2.2.2.1, bt288.2.2.2.2.1, bt321.1, bt321.2.1, bt321.2.2))) else (some (bt288.1, bt288.2.1, bt288.2.2.1, bt288.2.2.2.1, bt288.2.2.2.2.1, bt288.2.2.2.2.2.1, bt297.2.1, bt297.2.2)))))))))
set_option maxHeartbeats 8000000 in
set_option maxRecDepth 100000 in
theorem spec_l6Any.calls (g : Nat) (s0_0 : List Int) (s0_1 : Int) (s0_2 : Int) (r1 : Int) (r2 : Int) (r3 : Int) (r4 : Int) (r5 : Int) (r6 : Int) (r7 : Int) (r8 : Int) (w0 w : World) (hI : IsS72 w0 w g s0_0 s0_1 s0_2) (hB : Below w0.heap.size w0 w) (h : spec_l6Any.f s0_0 s0_1 s0_2 = some (r1, r2, r3, r4, r5, r6, r7, r8)) :
  Calls Try.prog 35 #[.pointer (some ⟨g, 0, none⟩)] w fun e w' => e = .returned (.agg #[.int .i64 r1, .int .i64 r2, .int .i64 r3, .int .i64 r4, .int .i64 r5, .int .i64 r6]) ∧ IsS72 w0 w' g s0_0 r7 r8 ∧ Below w0.heap.size w0 w' ∧ KeepBut w w' g none := by
 have hu26 := Try.underlying26
 have HI0 := Aside0.mk hI
 have HK := Aside0.mk (KeepBut.refl w g none)
 have HL := Aside0.mk hB.size
 clear hI
 have HW0 := Aside0.mk hB.size
 have HB := Aside0.mk hB
 clear hB
 have H : ((spec_l6Fact.f s0_0 s0_1 s0_2).bind fun bt288 => ((spec_l1Below.f s0_0 bt288.2.2.2.2.2.2.1 bt288.2.2.2.2.2.2.2 12).bind fun bt297 => (if bt297.1 = 0 then ((spec_l1Below.f s0_0 bt297.2.1 bt297.2.2 6).bind fun bt300 => (some (bt300.1, bt288.2.1, bt288.2.2.1, bt288.2.2.2.1, bt288.2.2.2.2.1, bt288.2.2.2.2.2.1, bt300.2.1, bt300.2.2))) else (if bt297.1 = 1 then ((spec_l5Any.f s0_0 bt297.2.1 bt297.2.2).bind fun bt303 => (some (bt288.1, bt303.1, bt288.2.2.1, bt288.2.2.2.1, bt288.2.2.2.2.1, bt288.2.2.2.2.2.1, bt303.2.1, bt303.2.2))) else (if bt297.1 = 2 then ((spec_l1Int.f s0_0 bt297.2.1 bt297.2.2 (([(-1), 3, 4, 5, 6, 20] : List Int))).bind fun bt309 => (some (bt288.1, bt288.2.1, bt309.1, bt288.2.2.2.1, bt288.2.2.2.2.1, bt288.2.2.2.2.2.1, bt309.2.1, bt309.2.2))) else (if bt297.1 = 3 then ((spec_l1Int.f s0_0 bt297.2.1 bt297.2.2 (([(-1), 9, 10] : List Int))).bind fun bt315 => (some (bt288.1, bt288.2.1, bt288.2.2.1, bt315.1, bt288.2.2.2.2.1, bt288.2.2.2.2.2.1, bt315.2.1, bt315.2.2))) else (if bt297.1 = 4 then ((spec_l4Time.f s0_0 bt297.2.1 bt297.2.2).bind fun bt318 => (some (bt288.1, bt288.2.1, bt288.2.2.1, bt288.2.2.2.1, bt318.1, bt288.2.2.2.2.2.1, bt318.2.1, bt318.2.2))) else (if bt297.1 = 5 then ((spec_l4Time.f s0_0 bt297.2.1 bt297.2.2).bind fun bt321 => (some (bt288.1, bt288.2.1, bt288.2.2.1, bt288.2.2.2.1, bt288.2.2.2.2.1, bt321.1, bt321.2.1, bt321.2.2))) else (some (bt288.1, bt288.2.1, bt288.2.2.1, bt288.2.2.2.1, bt288.2.2.2.2.1, bt288.2.2.2.2.2.1, bt297.2.1, bt297.2.2)))))))))) = some (r1, r2, r3, r4, r5, r6, r7, r8) := h
 clear h
 replace H := Option.bind_eq_some_iff.mp H
 obtain ⟨⟨t288, t289, t290, t291, t292, t293, t294, t295⟩, A20, H⟩ := H
 replace H : ((spec_l1Below.f s0_0 t294 t295 12).bind fun bt297 => (if bt297.1 = 0 then ((spec_l1Below.f s0_0 bt297.2.1 bt297.2.2 6).bind fun bt300 => (some (bt300.1, t289, t290, t291, t292, t293, bt300.2.1, bt300.2.2))) else (if bt297.1 = 1 then ((spec_l5Any.f s0_0 bt297.2.1 bt297.2.2).bind fun bt303 => (some (t288, bt303.1, t290, t291, t292, t293, bt303.2.1, bt303.2.2))) else (if bt297.1 = 2 then ((spec_l1Int.f s0_0 bt297.2.1 bt297.2.2 (([(-1), 3, 4, 5, 6, 20] : List Int))).bind fun bt309 => (some (t288, t289, bt309.1, t291, t292, t293, bt309.2.1, bt309.2.2))) else (if bt297.1 = 3 then ((spec_l1Int.f s0_0 bt297.2.1 bt297.2.2 (([(-1), 9, 10] : List Int))).bind fun bt315 => (some (t288, t289, t290, bt315.1, t292, t293, bt315.2.1, bt315.2.2))) else (if bt297.1 = 4 then ((spec_l4Time.f s0_0 bt297.2.1 bt297.2.2).bind fun bt318 => (some (t288, t289, t290, t291, bt318.1, t293, bt318.2.1, bt318.2.2))) else (if bt297.1 = 5 then ((spec_l4Time.f s0_0 bt297.2.1 bt297.2.2).bind fun bt321 => (some (t288, t289, t290, t291, t292, bt321.1, bt321.2.1, bt321.2.2))) else (some (t288, t289, t290, t291, t292, t293, bt297.2.1, bt297.2.2))))))))) = some (r1, r2, r3, r4, r5, r6, r7, r8) := H
 have A2 := Aside0.mk A20
 clear A20
 replace H := Option.bind_eq_some_iff.mp H
 obtain ⟨⟨t297, t298, t299⟩, A30, H⟩ := H
 replace H : (if t297 = 0 then ((spec_l1Below.f s0_0 t298 t299 6).bind fun bt300 => (some (bt300.1, t289, t290, t291, t292, t293, bt300.2.1, bt300.2.2))) else (if t297 = 1 then ((spec_l5Any.f s0_0 t298 t299).bind fun bt303 => (some (t288, bt303.1, t290, t291, t292, t293, bt303.2.1, bt303.2.2))) else (if t297 = 2 then ((spec_l1Int.f s0_0 t298 t299 (([(-1), 3, 4, 5, 6, 20] : List Int))).bind fun bt309 => (some (t288, t289, bt309.1, t291, t292, t293, bt309.2.1, bt309.2.2))) else (if t297 = 3 then ((spec_l1Int.f s0_0 t298 t299 (([(-1), 9, 10] : List Int))).bind fun bt315 => (some (t288, t289, t290, bt315.1, t292, t293, bt315.2.1, bt315.2.2))) else (if t297 = 4 then ((spec_l4Time.f s0_0 t298 t299).bind fun bt318 => (some (t288, t289, t290, t291, bt318.1, t293, bt318.2.1, bt318.2.2))) else (if t297 = 5 then ((spec_l4Time.f s0_0 t298 t299).bind fun bt321 => (some (t288, t289, t290, t291, t292, bt321.1, bt321.2.1, bt321.2.2))) else (some (t288, t289, t290, t291, t292, t293, t298, t299)))))))) = some (r1, r2, r3, r4, r5, r6, r7, r8) := H
 have A3 := Aside0.mk A30
 clear A30
 by_cases c4 : t297 = 0
 ·rw [if_pos c4] at H
  have c4b0 : (t297 == 0) = true := beq_iff_eq.mpr c4
  have c4b1 : (t297 != 0) = false := bne_eq_false_iff_eq.mpr c4
  clear c4
  replace H := Option.bind_eq_some_iff.mp H
  obtain ⟨⟨t300, t301, t302⟩, A50, H⟩ := H
  replace H : (some (t300, t289, t290, t291, t292, t293, t301, t302)) = some (r1, r2, r3, r4, r5, r6, r7, r8) := H
  have A5 := Aside0.mk A50
  clear A50
  simp only [Option.some.injEq, Prod.mk.injEq] at H
  obtain ⟨rfl, rfl, rfl, rfl, rfl, rfl, rfl, rfl⟩ := H
  go_enter Try.func35, Try.ntmps35
  go_wp2_with (first | ((with_reducible refine gate_dst (N := 2) rfl ?_); refine box_event ?hg (N := 2) ?hd (cs := #[.int .i64 0, .int .i64 0, .int .i64 0, .int .i64 0, .int .i64 0, .int .i64 0]) (t := 26) ?hr ?_; (case hd => rfl); (case hg => rfl); (case hr => first | (go_simp; done) | (go_simp; rfl)); intro gb287 hg w6 hbox hb; have n0_ := Aside0.mk (IsS72.below (qq72) hb); have n1_ := Aside0.mk (KeepBut.trans (qq74) (KeepBut.of_below hb g none) (.inl rfl)); have n2_ := Aside0.mk (below_step (qq73) hb); have n3_ := Aside0.mk (hbox); have n4_ := Aside0.mk ((qq138 : w.heap.size ≤ gb287)); have n5_ := Aside0.mk ((Nat.le_trans HW0.out (qq138 : w.heap.size ≤ gb287) : w0.heap.size ≤ gb287)); have n6_ := Aside0.mk ((qq75 : g ≠ gb287)); have n7_ := Aside0.mk ((qq76 : gb287 ≠ g)); clear HI0; clear HK; clear HB; have HI0 := n0_; have HK := n1_; have HB := n2_; have BK287 := n3_; have GW287 := n4_; have GE287 := n5_; have NB0_287 := n6_; have NB287_0 := n7_; clear n0_ n1_ n2_ n3_ n4_ n5_ n6_ n7_; clear hb hbox hg) | ((with_reducible refine gate_callee (f := 47) rfl ?_); refine goesL_ (some 5) rfl rfl Try.func47 (by kernel_rfl) rfl #[.pointer (some ⟨g, 0, none⟩)] rfl (qq5) ?_; (with_reducible refine (spec_l6Fact.calls g s0_0 s0_1 s0_2 t288 t289 t290 t291 t292 t293 t294 t295 w0 _ ?side1 ?side2 A2.out).mono ?_); (case side1 => exact qq95); (case side2 => exact qq96); rintro e w7 ⟨rfl, hi, hb, hk⟩; refine ⟨_, rfl, ?_⟩; have n0_ := Aside0.mk (KeepBut.blk hk (g' := gb287) (o := .cells #[.int .i64 0, .int .i64 0, .int .i64 0, .int .i64 0, .int .i64 0, .int .i64 0] 26 (0, 0)) (qq93) NB287_0.out (by simp)); have n1_ := Aside0.mk (KeepBut.trans (qq94) hk (.inl rfl)); have n2_ := Aside0.mk (hb); have n3_ := Aside0.mk (hi); clear BK287; clear HK; clear HB; clear HI0; have BK287 := n0_; have HK := n1_; have HB := n2_; have HI0 := n3_; clear n0_ n1_ n2_ n3_; (try clear hb); (try clear hb2); (try clear hk); (try clear hi)) | ((with_reducible refine gate_dst (N := 3) rfl ?_); refine box_event ?hg (N := 3) ?hd (cs := #[.int .i64 0, .int .i64 0, .int .i64 0, .int .i64 0, .int .i64 0, .int .i64 0]) (t := 26) ?hr ?_; (case hd => rfl); (case hg => rfl); (case hr => first | (go_simp; done) | (go_simp; rfl)); intro gb296 hg w8 hbox hb; have n0_ := Aside0.mk (IsS72.below (qq95) hb); have n1_ := Aside0.mk (blk_below (g := gb287) (o := .cells #[.int .i64 0, .int .i64 0, .int .i64 0, .int .i64 0, .int .i64 0, .int .i64 0] 26 (0, 0)) (qq93) hb); have n2_ := Aside0.mk (KeepBut.trans (qq94) (KeepBut.of_below hb g none) (.inl rfl)); have n3_ := Aside0.mk (below_step (qq96) hb); have n4_ := Aside0.mk (hbox); have n5_ := Aside0.mk ((qq142 : w.heap.size ≤ gb296)); have n6_ := Aside0.mk ((Nat.le_trans HW0.out (qq142 : w.heap.size ≤ gb296) : w0.heap.size ≤ gb296)); have n7_ := Aside0.mk ((qq143 : gb287 ≠ gb296)); have n8_ := Aside0.mk ((qq144 : gb296 ≠ gb287)); have n9_ := Aside0.mk ((qq97 : g ≠ gb296)); have n10_ := Aside0.mk ((qq98 : gb296 ≠ g)); clear HI0; clear BK287; clear HK; clear HB; have HI0 := n0_; have BK287 := n1_; have HK := n2_; have HB := n3_; have BK296 := n4_; have GW296 := n5_; have GE296 := n6_; have NB287_296 := n7_; have NB296_287 := n8_; have NB0_296 := n9_; have NB296_0 := n10_; clear n0_ n1_ n2_ n3_ n4_ n5_ n6_ n7_ n8_ n9_ n10_; clear hb hbox hg; have hnb9 := NB296_287.out; have hnc9 := NB287_296.out; have hnb10 := NB296_0.out; have hnc10 := NB0_296.out; have hcz11_0 : w8.cell? ⟨gb296, 0, none⟩ = some (.int .i64 0) := (blk_cell BK296.out 0).trans rfl; have hcz11_1 : w8.cell? ⟨gb296, 1, none⟩ = some (.int .i64 0) := (blk_cell BK296.out 1).trans rfl; have hcz11_2 : w8.cell? ⟨gb296, 2, none⟩ = some (.int .i64 0) := (blk_cell BK296.out 2).trans rfl; have hcz11_3 : w8.cell? ⟨gb296, 3, none⟩ = some (.int .i64 0) := (blk_cell BK296.out 3).trans rfl; have hcz11_4 : w8.cell? ⟨gb296, 4, none⟩ = some (.int .i64 0) := (blk_cell BK296.out 4).trans rfl; have hcz11_5 : w8.cell? ⟨gb296, 5, none⟩ = some (.int .i64 0) := (blk_cell BK296.out 5).trans rfl; have hfz11_0 := blk_frozen BK296.out 0; have hfz11_1 := blk_frozen BK296.out 1; have hfz11_2 := blk_frozen BK296.out 2; have hfz11_3 := blk_frozen BK296.out 3; have hfz11_4 := blk_frozen BK296.out 4; have hfz11_5 := blk_frozen BK296.out 5) | ((with_reducible refine gate_callee (f := 36) rfl ?_); refine goesL_ (some 7) rfl rfl Try.func36 (by kernel_rfl) rfl #[.pointer (some ⟨g, 0, none⟩), .int .i64 12] rfl (qq5) ?_; (with_reducible refine (spec_l1Below.calls g s0_0 t294 t295 12 t297 t298 t299 w0 _ ?side1 ?side2 A3.out).mono ?_); (case side1 => exact qq103); (case side2 => exact qq104); rintro e w12 ⟨rfl, hi, hb, hk⟩; refine ⟨_, rfl, ?_⟩; have n0_ := Aside0.mk (KeepBut.blk hk (g' := gb287) (o := .cells #[.int .i64 0, .int .i64 0, .int .i64 0, .int .i64 0, .int .i64 0, .int .i64 0] 26 (0, 0)) (qq99) NB287_0.out (by simp)); have n1_ := Aside0.mk (KeepBut.blk hk (g' := gb296) (o := .cells #[.int .i64 t288, .int .i64 t289, .int .i64 t290, .int .i64 t291, .int .i64 t292, .int .i64 t293] 26 (0, 0)) (qq100) NB296_0.out (by simp)); have n2_ := Aside0.mk (KeepBut.trans (qq101) hk (.inl rfl)); have n3_ := Aside0.mk (hb); have n4_ := Aside0.mk (hi); clear BK287; clear BK296; clear HK; clear HB; clear HI0; have BK287 := n0_; have BK296 := n1_; have HK := n2_; have HB := n3_; have HI0 := n4_; clear n0_ n1_ n2_ n3_ n4_; (try clear hb); (try clear hb2); (try clear hk); (try clear hi)) | ((with_reducible refine gate_callee (f := 36) rfl ?_); refine goesL_ (some 11) rfl rfl Try.func36 (by kernel_rfl) rfl #[.pointer (some ⟨g, 0, none⟩), .int .i64 6] rfl (qq5) ?_; (with_reducible refine (spec_l1Below.calls g s0_0 t298 t299 6 t300 t301 t302 w0 _ ?side1 ?side2 A5.out).mono ?_); (case side1 => exact qq103); (case side2 => exact qq104); rintro e w13 ⟨rfl, hi, hb, hk⟩; refine ⟨_, rfl, ?_⟩; have n0_ := Aside0.mk (KeepBut.blk hk (g' := gb287) (o := .cells #[.int .i64 0, .int .i64 0, .int .i64 0, .int .i64 0, .int .i64 0, .int .i64 0] 26 (0, 0)) (qq93) NB287_0.out (by simp)); have n1_ := Aside0.mk (KeepBut.blk hk (g' := gb296) (o := .cells #[.int .i64 t288, .int .i64 t289, .int .i64 t290, .int .i64 t291, .int .i64 t292, .int .i64 t293] 26 (0, 0)) (qq102) NB296_0.out (by simp)); have n2_ := Aside0.mk (KeepBut.trans (qq101) hk (.inl rfl)); have n3_ := Aside0.mk (hb); have n4_ := Aside0.mk (hi); clear BK287; clear BK296; clear HK; clear HB; clear HI0; have BK287 := n0_; have BK296 := n1_; have HK := n2_; have HB := n3_; have HI0 := n4_; clear n0_ n1_ n2_ n3_ n4_; (try clear hb); (try clear hb2); (try clear hk); (try clear hi); have hcz14_0 : w13.cell? ⟨gb296, 0, none⟩ = some (.int .i64 t288) := (blk_cell BK296.out 0).trans rfl; have hcz14_1 : w13.cell? ⟨gb296, 1, none⟩ = some (.int .i64 t289) := (blk_cell BK296.out 1).trans rfl; have hcz14_2 : w13.cell? ⟨gb296, 2, none⟩ = some (.int .i64 t290) := (blk_cell BK296.out 2).trans rfl; have hcz14_3 : w13.cell? ⟨gb296, 3, none⟩ = some (.int .i64 t291) := (blk_cell BK296.out 3).trans rfl; have hcz14_4 : w13.cell? ⟨gb296, 4, none⟩ = some (.int .i64 t292) := (blk_cell BK296.out 4).trans rfl; have hcz14_5 : w13.cell? ⟨gb296, 5, none⟩ = some (.int .i64 t293) := (blk_cell BK296.out 5).trans rfl; have hfz14_0 := blk_frozen BK296.out 0; have hfz14_1 := blk_frozen BK296.out 1; have hfz14_2 := blk_frozen BK296.out 2; have hfz14_3 := blk_frozen BK296.out 3; have hfz14_4 := blk_frozen BK296.out 4; have hfz14_5 := blk_frozen BK296.out 5; have hnb15 := NB287_0.out; have hnc15 := NB0_287.out; have hcz16_0 : w13.cell? ⟨gb287, 0, none⟩ = some (.int .i64 0) := (blk_cell BK287.out 0).trans rfl; have hcz16_1 : w13.cell? ⟨gb287, 1, none⟩ = some (.int .i64 0) := (blk_cell BK287.out 1).trans rfl; have hcz16_2 : w13.cell? ⟨gb287, 2, none⟩ = some (.int .i64 0) := (blk_cell BK287.out 2).trans rfl; have hcz16_3 : w13.cell? ⟨gb287, 3, none⟩ = some (.int .i64 0) := (blk_cell BK287.out 3).trans rfl; have hcz16_4 : w13.cell? ⟨gb287, 4, none⟩ = some (.int .i64 0) := (blk_cell BK287.out 4).trans rfl; have hcz16_5 : w13.cell? ⟨gb287, 5, none⟩ = some (.int .i64 0) := (blk_cell BK287.out 5).trans rfl; have hfz16_0 := blk_frozen BK287.out 0; have hfz16_1 := blk_frozen BK287.out 1; have hfz16_2 := blk_frozen BK287.out 2; have hfz16_3 := blk_frozen BK287.out 3; have hfz16_4 := blk_frozen BK287.out 4; have hfz16_5 := blk_frozen BK287.out 5))
  refine bodyPost_ret (results_cell_row rfl _ _ gb287 26 #[.int .i64 t300, .int .i64 t289, .int .i64 t290, .int .i64 t291, .int .i64 t292, .int .i64 t293] (0, 0) _ rfl (by (with_reducible repeat (first | refine blk_drewN ?_ _ | refine blk_drew ?_ | refine blk_alloc ?_ _)); refine blk_put (cs := #[.int .i64 t300, .int .i64 t289, .int .i64 t290, .int .i64 t291, .int .i64 t292, .int .i64 0]) ?_ 5 _ rfl; (with_reducible repeat (first | refine blk_drewN ?_ _ | refine blk_drew ?_ | refine blk_alloc ?_ _)); refine blk_put (cs := #[.int .i64 t300, .int .i64 t289, .int .i64 t290, .int .i64 t291, .int .i64 0, .int .i64 0]) ?_ 4 _ rfl; (with_reducible repeat (first | refine blk_drewN ?_ _ | refine blk_drew ?_ | refine blk_alloc ?_ _)); refine blk_put (cs := #[.int .i64 t300, .int .i64 t289, .int .i64 t290, .int .i64 0, .int .i64 0, .int .i64 0]) ?_ 3 _ rfl; (with_reducible repeat (first | refine blk_drewN ?_ _ | refine blk_drew ?_ | refine blk_alloc ?_ _)); refine blk_put (cs := #[.int .i64 t300, .int .i64 t289, .int .i64 0, .int .i64 0, .int .i64 0, .int .i64 0]) ?_ 2 _ rfl; (with_reducible repeat (first | refine blk_drewN ?_ _ | refine blk_drew ?_ | refine blk_alloc ?_ _)); refine blk_put (cs := #[.int .i64 t300, .int .i64 0, .int .i64 0, .int .i64 0, .int .i64 0, .int .i64 0]) ?_ 1 _ rfl; (with_reducible repeat (first | refine blk_drewN ?_ _ | refine blk_drew ?_ | refine blk_alloc ?_ _)); refine blk_put (cs := #[.int .i64 0, .int .i64 0, .int .i64 0, .int .i64 0, .int .i64 0, .int .i64 0]) ?_ 0 _ rfl; (with_reducible repeat (first | refine blk_drewN ?_ _ | refine blk_drew ?_ | refine blk_alloc ?_ _)); refine blk_far ?_ NB287_296.out _; (with_reducible repeat (first | refine blk_drewN ?_ _ | refine blk_drew ?_ | refine blk_alloc ?_ _)); exact BK287.out) Try.underlying26 rfl (by kernel_rfl)) rfl ?_
  exact qq159
 ·rw [if_neg c4] at H
  have c4b0 : (t297 == 0) = false := beq_eq_false_iff_ne.mpr c4
  have c4b1 : (t297 != 0) = true := bne_iff_ne.mpr c4
  by_cases c17 : t297 = 1
  ·rw [if_pos c17] at H
   have c17b0 : (t297 == 1) = true := beq_iff_eq.mpr c17
   have c17b1 : (t297 != 1) = false := bne_eq_false_iff_eq.mpr c17
   clear c17
   replace H := Option.bind_eq_some_iff.mp H
   obtain ⟨⟨t303, t304, t305⟩, A180, H⟩ := H
   replace H : (some (t288, t303, t290, t291, t292, t293, t304, t305)) = some (r1, r2, r3, r4, r5, r6, r7, r8) := H
   have A18 := Aside0.mk A180
   clear A180
   simp only [Option.some.injEq, Prod.mk.injEq] at H
   obtain ⟨rfl, rfl, rfl, rfl, rfl, rfl, rfl, rfl⟩ := H
   go_enter Try.func35, Try.ntmps35
   go_wp2_with (first | ((with_reducible refine gate_dst (N := 2) rfl ?_); refine box_event ?hg (N := 2) ?hd (cs := #[.int .i64 0, .int .i64 0, .int .i64 0, .int .i64 0, .int .i64 0, .int .i64 0]) (t := 26) ?hr ?_; (case hd => rfl); (case hg => rfl); (case hr => first | (go_simp; done) | (go_simp; rfl)); intro gb287 hg w19 hbox hb; have n0_ := Aside0.mk (IsS72.below (qq72) hb); have n1_ := Aside0.mk (KeepBut.trans (qq74) (KeepBut.of_below hb g none) (.inl rfl)); have n2_ := Aside0.mk (below_step (qq73) hb); have n3_ := Aside0.mk (hbox); have n4_ := Aside0.mk ((qq138 : w.heap.size ≤ gb287)); have n5_ := Aside0.mk ((Nat.le_trans HW0.out (qq138 : w.heap.size ≤ gb287) : w0.heap.size ≤ gb287)); have n6_ := Aside0.mk ((qq75 : g ≠ gb287)); have n7_ := Aside0.mk ((qq76 : gb287 ≠ g)); clear HI0; clear HK; clear HB; have HI0 := n0_; have HK := n1_; have HB := n2_; have BK287 := n3_; have GW287 := n4_; have GE287 := n5_; have NB0_287 := n6_; have NB287_0 := n7_; clear n0_ n1_ n2_ n3_ n4_ n5_ n6_ n7_; clear hb hbox hg) | ((with_reducible refine gate_callee (f := 47) rfl ?_); refine goesL_ (some 5) rfl rfl Try.func47 (by kernel_rfl) rfl #[.pointer (some ⟨g, 0, none⟩)] rfl (qq5) ?_; (with_reducible refine (spec_l6Fact.calls g s0_0 s0_1 s0_2 t288 t289 t290 t291 t292 t293 t294 t295 w0 _ ?side1 ?side2 A2.out).mono ?_); (case side1 => exact qq95); (case side2 => exact qq96); rintro e w20 ⟨rfl, hi, hb, hk⟩; refine ⟨_, rfl, ?_⟩; have n0_ := Aside0.mk (KeepBut.blk hk (g' := gb287) (o := .cells #[.int .i64 0, .int .i64 0, .int .i64 0, .int .i64 0, .int .i64 0, .int .i64 0] 26 (0, 0)) (qq93) NB287_0.out (by simp)); have n1_ := Aside0.mk (KeepBut.trans (qq94) hk (.inl rfl)); have n2_ := Aside0.mk (hb); have n3_ := Aside0.mk (hi); clear BK287; clear HK; clear HB; clear HI0; have BK287 := n0_; have HK := n1_; have HB := n2_; have HI0 := n3_; clear n0_ n1_ n2_ n3_; (try clear hb); (try clear hb2); (try clear hk); (try clear hi)) | ((with_reducible refine gate_dst (N := 3) rfl ?_); refine box_event ?hg (N := 3) ?hd (cs := #[.int .i64 0, .int .i64 0, .int .i64 0, .int .i64 0, .int .i64 0, .int .i64 0]) (t := 26) ?hr ?_; (case hd => rfl); (case hg => rfl); (case hr => first | (go_simp; done) | (go_simp; rfl)); intro gb296 hg w21 hbox hb; have n0_ := Aside0.mk (IsS72.below (qq95) hb); have n1_ := Aside0.mk (blk_below (g := gb287) (o := .cells #[.int .i64 0, .int .i64 0, .int .i64 0, .int .i64 0, .int .i64 0, .int .i64 0] 26 (0, 0)) (qq93) hb); have n2_ := Aside0.mk (KeepBut.trans (qq94) (KeepBut.of_below hb g none) (.inl rfl)); have n3_ := Aside0.mk (below_step (qq96) hb); have n4_ := Aside0.mk (hbox); have n5_ := Aside0.mk ((qq142 : w.heap.size ≤ gb296)); have n6_ := Aside0.mk ((Nat.le_trans HW0.out (qq142 : w.heap.size ≤ gb296) : w0.heap.size ≤ gb296)); have n7_ := Aside0.mk ((qq143 : gb287 ≠ gb296)); have n8_ := Aside0.mk ((qq144 : gb296 ≠ gb287)); have n9_ := Aside0.mk ((qq97 : g ≠ gb296)); have n10_ := Aside0.mk ((qq98 : gb296 ≠ g)); clear HI0; clear BK287; clear HK; clear HB; have HI0 := n0_; have BK287 := n1_; have HK := n2_; have HB := n3_; have BK296 := n4_; have GW296 := n5_; have GE296 := n6_; have NB287_296 := n7_; have NB296_287 := n8_; have NB0_296 := n9_; have NB296_0 := n10_; clear n0_ n1_ n2_ n3_ n4_ n5_ n6_ n7_ n8_ n9_ n10_; clear hb hbox hg; have hnb22 := NB296_287.out; have hnc22 := NB287_296.out; have hnb23 := NB296_0.out; have hnc23 := NB0_296.out; have hcz24_0 : w21.cell? ⟨gb296, 0, none⟩ = some (.int .i64 0) := (blk_cell BK296.out 0).trans rfl; have hcz24_1 : w21.cell? ⟨gb296, 1, none⟩ = some (.int .i64 0) := (blk_cell BK296.out 1).trans rfl; have hcz24_2 : w21.cell? ⟨gb296, 2, none⟩ = some (.int .i64 0) := (blk_cell BK296.out 2).trans rfl; have hcz24_3 : w21.cell? ⟨gb296, 3, none⟩ = some (.int .i64 0) := (blk_cell BK296.out 3).trans rfl; have hcz24_4 : w21.cell? ⟨gb296, 4, none⟩ = some (.int .i64 0) := (blk_cell BK296.out 4).trans rfl; have hcz24_5 : w21.cell? ⟨gb296, 5, none⟩ = some (.int .i64 0) := (blk_cell BK296.out 5).trans rfl; have hfz24_0 := blk_frozen BK296.out 0; have hfz24_1 := blk_frozen BK296.out 1; have hfz24_2 := blk_frozen BK296.out 2; have hfz24_3 := blk_frozen BK296.out 3; have hfz24_4 := blk_frozen BK296.out 4; have hfz24_5 := blk_frozen BK296.out 5) | ((with_reducible refine gate_callee (f := 36) rfl ?_); refine goesL_ (some 7) rfl rfl Try.func36 (by kernel_rfl) rfl #[.pointer (some ⟨g, 0, none⟩), .int .i64 12] rfl (qq5) ?_; (with_reducible refine (spec_l1Below.calls g s0_0 t294 t295 12 t297 t298 t299 w0 _ ?side1 ?side2 A3.out).mono ?_); (case side1 => exact qq103); (case side2 => exact qq104); rintro e w25 ⟨rfl, hi, hb, hk⟩; refine ⟨_, rfl, ?_⟩; have n0_ := Aside0.mk (KeepBut.blk hk (g' := gb287) (o := .cells #[.int .i64 0, .int .i64 0, .int .i64 0, .int .i64 0, .int .i64 0, .int .i64 0] 26 (0, 0)) (qq99) NB287_0.out (by simp)); have n1_ := Aside0.mk (KeepBut.blk hk (g' := gb296) (o := .cells #[.int .i64 t288, .int .i64 t289, .int .i64 t290, .int .i64 t291, .int .i64 t292, .int .i64 t293] 26 (0, 0)) (qq100) NB296_0.out (by simp)); have n2_ := Aside0.mk (KeepBut.trans (qq101) hk (.inl rfl)); have n3_ := Aside0.mk (hb); have n4_ := Aside0.mk (hi); clear BK287; clear BK296; clear HK; clear HB; clear HI0; have BK287 := n0_; have BK296 := n1_; have HK := n2_; have HB := n3_; have HI0 := n4_; clear n0_ n1_ n2_ n3_ n4_; (try clear hb); (try clear hb2); (try clear hk); (try clear hi)) | ((with_reducible refine gate_callee (f := 59) rfl ?_); refine goesL_ (some 16) rfl rfl Try.func59 (by kernel_rfl) rfl #[.pointer (some ⟨g, 0, none⟩)] rfl (qq5) ?_; (with_reducible refine (spec_l5Any.calls g s0_0 t298 t299 t303 t304 t305 w0 _ ?side1 ?side2 A18.out).mono ?_); (case side1 => exact qq103); (case side2 => exact qq104); rintro e w26 ⟨rfl, hi, hb, hk⟩; refine ⟨_, rfl, ?_⟩; have n0_ := Aside0.mk (KeepBut.blk hk (g' := gb287) (o := .cells #[.int .i64 0, .int .i64 0, .int .i64 0, .int .i64 0, .int .i64 0, .int .i64 0] 26 (0, 0)) (qq93) NB287_0.out (by simp)); have n1_ := Aside0.mk (KeepBut.blk hk (g' := gb296) (o := .cells #[.int .i64 t288, .int .i64 t289, .int .i64 t290, .int .i64 t291, .int .i64 t292, .int .i64 t293] 26 (0, 0)) (qq102) NB296_0.out (by simp)); have n2_ := Aside0.mk (KeepBut.trans (qq101) hk (.inl rfl)); have n3_ := Aside0.mk (hb); have n4_ := Aside0.mk (hi); clear BK287; clear BK296; clear HK; clear HB; clear HI0; have BK287 := n0_; have BK296 := n1_; have HK := n2_; have HB := n3_; have HI0 := n4_; clear n0_ n1_ n2_ n3_ n4_; (try clear hb); (try clear hb2); (try clear hk); (try clear hi); have hcz27_0 : w26.cell? ⟨gb296, 0, none⟩ = some (.int .i64 t288) := (blk_cell BK296.out 0).trans rfl; have hcz27_1 : w26.cell? ⟨gb296, 1, none⟩ = some (.int .i64 t289) := (blk_cell BK296.out 1).trans rfl; have hcz27_2 : w26.cell? ⟨gb296, 2, none⟩ = some (.int .i64 t290) := (blk_cell BK296.out 2).trans rfl; have hcz27_3 : w26.cell? ⟨gb296, 3, none⟩ = some (.int .i64 t291) := (blk_cell BK296.out 3).trans rfl; have hcz27_4 : w26.cell? ⟨gb296, 4, none⟩ = some (.int .i64 t292) := (blk_cell BK296.out 4).trans rfl; have hcz27_5 : w26.cell? ⟨gb296, 5, none⟩ = some (.int .i64 t293) := (blk_cell BK296.out 5).trans rfl; have hfz27_0 := blk_frozen BK296.out 0; have hfz27_1 := blk_frozen BK296.out 1; have hfz27_2 := blk_frozen BK296.out 2; have hfz27_3 := blk_frozen BK296.out 3; have hfz27_4 := blk_frozen BK296.out 4; have hfz27_5 := blk_frozen BK296.out 5; have hnb28 := NB287_0.out; have hnc28 := NB0_287.out; have hcz29_0 : w26.cell? ⟨gb287, 0, none⟩ = some (.int .i64 0) := (blk_cell BK287.out 0).trans rfl; have hcz29_1 : w26.cell? ⟨gb287, 1, none⟩ = some (.int .i64 0) := (blk_cell BK287.out 1).trans rfl; have hcz29_2 : w26.cell? ⟨gb287, 2, none⟩ = some (.int .i64 0) := (blk_cell BK287.out 2).trans rfl; have hcz29_3 : w26.cell? ⟨gb287, 3, none⟩ = some (.int .i64 0) := (blk_cell BK287.out 3).trans rfl; have hcz29_4 : w26.cell? ⟨gb287, 4, none⟩ = some (.int .i64 0) := (blk_cell BK287.out 4).trans rfl; have hcz29_5 : w26.cell? ⟨gb287, 5, none⟩ = some (.int .i64 0) := (blk_cell BK287.out 5).trans rfl; have hfz29_0 := blk_frozen BK287.out 0; have hfz29_1 := blk_frozen BK287.out 1; have hfz29_2 := blk_frozen BK287.out 2; have hfz29_3 := blk_frozen BK287.out 3; have hfz29_4 := blk_frozen BK287.out 4; have hfz29_5 := blk_frozen BK287.out 5))
   refine bodyPost_ret (results_cell_row rfl _ _ gb287 26 #[.int .i64 t288, .int .i64 t303, .int .i64 t290, .int .i64 t291, .int .i64 t292, .int .i64 t293] (0, 0) _ rfl (by (with_reducible repeat (first | refine blk_drewN ?_ _ | refine blk_drew ?_ | refine blk_alloc ?_ _)); refine blk_put (cs := #[.int .i64 t288, .int .i64 t303, .int .i64 t290, .int .i64 t291, .int .i64 t292, .int .i64 0]) ?_ 5 _ rfl; (with_reducible repeat (first | refine blk_drewN ?_ _ | refine blk_drew ?_ | refine blk_alloc ?_ _)); refine blk_put (cs := #[.int .i64 t288, .int .i64 t303, .int .i64 t290, .int .i64 t291, .int .i64 0, .int .i64 0]) ?_ 4 _ rfl; (with_reducible repeat (first | refine blk_drewN ?_ _ | refine blk_drew ?_ | refine blk_alloc ?_ _)); refine blk_put (cs := #[.int .i64 t288, .int .i64 t303, .int .i64 t290, .int .i64 0, .int .i64 0, .int .i64 0]) ?_ 3 _ rfl; (with_reducible repeat (first | refine blk_drewN ?_ _ | refine blk_drew ?_ | refine blk_alloc ?_ _)); refine blk_put (cs := #[.int .i64 t288, .int .i64 t303, .int .i64 0, .int .i64 0, .int .i64 0, .int .i64 0]) ?_ 2 _ rfl; (with_reducible repeat (first | refine blk_drewN ?_ _ | refine blk_drew ?_ | refine blk_alloc ?_ _)); refine blk_put (cs := #[.int .i64 t288, .int .i64 0, .int .i64 0, .int .i64 0, .int .i64 0, .int .i64 0]) ?_ 1 _ rfl; (with_reducible repeat (first | refine blk_drewN ?_ _ | refine blk_drew ?_ | refine blk_alloc ?_ _)); refine blk_put (cs := #[.int .i64 0, .int .i64 0, .int .i64 0, .int .i64 0, .int .i64 0, .int .i64 0]) ?_ 0 _ rfl; (with_reducible repeat (first | refine blk_drewN ?_ _ | refine blk_drew ?_ | refine blk_alloc ?_ _)); refine blk_far ?_ NB287_296.out _; (with_reducible repeat (first | refine blk_drewN ?_ _ | refine blk_drew ?_ | refine blk_alloc ?_ _)); exact BK287.out) Try.underlying26 rfl (by kernel_rfl)) rfl ?_
   exact qq159
  ·rw [if_neg c17] at H
   have c17b0 : (t297 == 1) = false := beq_eq_false_iff_ne.mpr c17
   have c17b1 : (t297 != 1) = true := bne_iff_ne.mpr c17
   by_cases c30 : t297 = 2
   ·rw [if_pos c30] at H
    have c30b0 : (t297 == 2) = true := beq_iff_eq.mpr c30
    have c30b1 : (t297 != 2) = false := bne_eq_false_iff_eq.mpr c30
    clear c30
    obtain ⟨y306, hy306⟩ : ∃ y_ : List Int, y_ = (([(-1), 3, 4, 5, 6, 20] : List Int)) := ⟨_, rfl⟩
    replace H : ((spec_l1Int.f s0_0 t298 t299 y306).bind fun bt309 => (some (t288, t289, bt309.1, t291, t292, t293, bt309.2.1, bt309.2.2))) = some (r1, r2, r3, r4, r5, r6, r7, r8) := by first | (rw [hy306]; with_reducible exact H) | (have H2_ := (Option.bind_some _ _).symm.trans H; rw [hy306]; with_reducible exact H2_) | (have H2_ := (Option.bind_some _ _).symm.trans H; with_reducible exact H2_) | with_reducible exact H | (rw [hy306]; exact H) | exact H
    have Ny306 := Aside0.mk hy306
    clear hy306
    replace H := Option.bind_eq_some_iff.mp H
    obtain ⟨⟨t309, t310, t311⟩, A310, H⟩ := H
    replace H : (some (t288, t289, t309, t291, t292, t293, t310, t311)) = some (r1, r2, r3, r4, r5, r6, r7, r8) := H
    have A31 := Aside0.mk A310
    clear A310
    simp only [Option.some.injEq, Prod.mk.injEq] at H
    obtain ⟨rfl, rfl, rfl, rfl, rfl, rfl, rfl, rfl⟩ := H
    go_enter Try.func35, Try.ntmps35
    go_wp2_with (first | ((with_reducible refine gate_dst (N := 2) rfl ?_); refine box_event ?hg (N := 2) ?hd (cs := #[.int .i64 0, .int .i64 0, .int .i64 0, .int .i64 0, .int .i64 0, .int .i64 0]) (t := 26) ?hr ?_; (case hd => rfl); (case hg => rfl); (case hr => first | (go_simp; done) | (go_simp; rfl)); intro gb287 hg w32 hbox hb; have n0_ := Aside0.mk (IsS72.below (qq72) hb); have n1_ := Aside0.mk (KeepBut.trans (qq74) (KeepBut.of_below hb g none) (.inl rfl)); have n2_ := Aside0.mk (below_step (qq73) hb); have n3_ := Aside0.mk (hbox); have n4_ := Aside0.mk ((qq138 : w.heap.size ≤ gb287)); have n5_ := Aside0.mk ((Nat.le_trans HW0.out (qq138 : w.heap.size ≤ gb287) : w0.heap.size ≤ gb287)); have n6_ := Aside0.mk ((qq75 : g ≠ gb287)); have n7_ := Aside0.mk ((qq76 : gb287 ≠ g)); clear HI0; clear HK; clear HB; have HI0 := n0_; have HK := n1_; have HB := n2_; have BK287 := n3_; have GW287 := n4_; have GE287 := n5_; have NB0_287 := n6_; have NB287_0 := n7_; clear n0_ n1_ n2_ n3_ n4_ n5_ n6_ n7_; clear hb hbox hg) | ((with_reducible refine gate_callee (f := 47) rfl ?_); refine goesL_ (some 5) rfl rfl Try.func47 (by kernel_rfl) rfl #[.pointer (some ⟨g, 0, none⟩)] rfl (qq5) ?_; (with_reducible refine (spec_l6Fact.calls g s0_0 s0_1 s0_2 t288 t289 t290 t291 t292 t293 t294 t295 w0 _ ?side1 ?side2 A2.out).mono ?_); (case side1 => exact qq95); (case side2 => exact qq96); rintro e w33 ⟨rfl, hi, hb, hk⟩; refine ⟨_, rfl, ?_⟩; have n0_ := Aside0.mk (KeepBut.blk hk (g' := gb287) (o := .cells #[.int .i64 0, .int .i64 0, .int .i64 0, .int .i64 0, .int .i64 0, .int .i64 0] 26 (0, 0)) (qq93) NB287_0.out (by simp)); have n1_ := Aside0.mk (KeepBut.trans (qq94) hk (.inl rfl)); have n2_ := Aside0.mk (hb); have n3_ := Aside0.mk (hi); clear BK287; clear HK; clear HB; clear HI0; have BK287 := n0_; have HK := n1_; have HB := n2_; have HI0 := n3_; clear n0_ n1_ n2_ n3_; (try clear hb); (try clear hb2); (try clear hk); (try clear hi)) | ((with_reducible refine gate_dst (N := 3) rfl ?_); refine box_event ?hg (N := 3) ?hd (cs := #[.int .i64 0, .int .i64 0, .int .i64 0, .int .i64 0, .int .i64 0, .int .i64 0]) (t := 26) ?hr ?_; (case hd => rfl); (case hg => rfl); (case hr => first | (go_simp; done) | (go_simp; rfl)); intro gb296 hg w34 hbox hb; have n0_ := Aside0.mk (IsS72.below (qq95) hb); have n1_ := Aside0.mk (blk_below (g := gb287) (o := .cells #[.int .i64 0, .int .i64 0, .int .i64 0, .int .i64 0, .int .i64 0, .int .i64 0] 26 (0, 0)) (qq93) hb); have n2_ := Aside0.mk (KeepBut.trans (qq94) (KeepBut.of_below hb g none) (.inl rfl)); have n3_ := Aside0.mk (below_step (qq96) hb); have n4_ := Aside0.mk (hbox); have n5_ := Aside0.mk ((qq142 : w.heap.size ≤ gb296)); have n6_ := Aside0.mk ((Nat.le_trans HW0.out (qq142 : w.heap.size ≤ gb296) : w0.heap.size ≤ gb296)); have n7_ := Aside0.mk ((qq143 : gb287 ≠ gb296)); have n8_ := Aside0.mk ((qq144 : gb296 ≠ gb287)); have n9_ := Aside0.mk ((qq97 : g ≠ gb296)); have n10_ := Aside0.mk ((qq98 : gb296 ≠ g)); clear HI0; clear BK287; clear HK; clear HB; have HI0 := n0_; have BK287 := n1_; have HK := n2_; have HB := n3_; have BK296 := n4_; have GW296 := n5_; have GE296 := n6_; have NB287_296 := n7_; have NB296_287 := n8_; have NB0_296 := n9_; have NB296_0 := n10_; clear n0_ n1_ n2_ n3_ n4_ n5_ n6_ n7_ n8_ n9_ n10_; clear hb hbox hg; have hnb35 := NB296_287.out; have hnc35 := NB287_296.out; have hnb36 := NB296_0.out; have hnc36 := NB0_296.out; have hcz37_0 : w34.cell? ⟨gb296, 0, none⟩ = some (.int .i64 0) := (blk_cell BK296.out 0).trans rfl; have hcz37_1 : w34.cell? ⟨gb296, 1, none⟩ = some (.int .i64 0) := (blk_cell BK296.out 1).trans rfl; have hcz37_2 : w34.cell? ⟨gb296, 2, none⟩ = some (.int .i64 0) := (blk_cell BK296.out 2).trans rfl; have hcz37_3 : w34.cell? ⟨gb296, 3, none⟩ = some (.int .i64 0) := (blk_cell BK296.out 3).trans rfl; have hcz37_4 : w34.cell? ⟨gb296, 4, none⟩ = some (.int .i64 0) := (blk_cell BK296.out 4).trans rfl; have hcz37_5 : w34.cell? ⟨gb296, 5, none⟩ = some (.int .i64 0) := (blk_cell BK296.out 5).trans rfl; have hfz37_0 := blk_frozen BK296.out 0; have hfz37_1 := blk_frozen BK296.out 1; have hfz37_2 := blk_frozen BK296.out 2; have hfz37_3 := blk_frozen BK296.out 3; have hfz37_4 := blk_frozen BK296.out 4; have hfz37_5 := blk_frozen BK296.out 5) | ((with_reducible refine gate_callee (f := 36) rfl ?_); refine goesL_ (some 7) rfl rfl Try.func36 (by kernel_rfl) rfl #[.pointer (some ⟨g, 0, none⟩), .int .i64 12] rfl (qq5) ?_; (with_reducible refine (spec_l1Below.calls g s0_0 t294 t295 12 t297 t298 t299 w0 _ ?side1 ?side2 A3.out).mono ?_); (case side1 => exact qq103); (case side2 => exact qq104); rintro e w38 ⟨rfl, hi, hb, hk⟩; refine ⟨_, rfl, ?_⟩; have n0_ := Aside0.mk (KeepBut.blk hk (g' := gb287) (o := .cells #[.int .i64 0, .int .i64 0, .int .i64 0, .int .i64 0, .int .i64 0, .int .i64 0] 26 (0, 0)) (qq99) NB287_0.out (by simp)); have n1_ := Aside0.mk (KeepBut.blk hk (g' := gb296) (o := .cells #[.int .i64 t288, .int .i64 t289, .int .i64 t290, .int .i64 t291, .int .i64 t292, .int .i64 t293] 26 (0, 0)) (qq100) NB296_0.out (by simp)); have n2_ := Aside0.mk (KeepBut.trans (qq101) hk (.inl rfl)); have n3_ := Aside0.mk (hb); have n4_ := Aside0.mk (hi); clear BK287; clear BK296; clear HK; clear HB; clear HI0; have BK287 := n0_; have BK296 := n1_; have HK := n2_; have HB := n3_; have HI0 := n4_; clear n0_ n1_ n2_ n3_ n4_; (try clear hb); (try clear hb2); (try clear hk); (try clear hi)) | ((with_reducible refine gate_dst (N := 21) rfl ?_); refine Kd.R_lit (Kd.int .i64) _ 3 ?hg (N := 21) ?hd (xs := ([(-1), 3, 4, 5, 6, 20] : List Int)) (inner := [.int .i64 (-1), .int .i64 3, .int .i64 4, .int .i64 5, .int .i64 6, .int .i64 20]) (ok := fun _ => True) (okp := fun _ => True) ?hr ?hp (fun _ hk => hk) trivial (Below.refl _ _) (Nat.le_refl _) (by simp) ?_; (case hd => rfl); (case hg => rfl); (case hr => first | (go_simp; done) | (go_simp; rfl)); (case hp => exact (Reps.one (show Kd.M (Kd.int .i64) _ _ _ (-1) [.int .i64 (-1)] from rfl) (Reps.one (show Kd.M (Kd.int .i64) _ _ _ 3 [.int .i64 3] from rfl) (Reps.one (show Kd.M (Kd.int .i64) _ _ _ 4 [.int .i64 4] from rfl) (Reps.one (show Kd.M (Kd.int .i64) _ _ _ 5 [.int .i64 5] from rfl) (Reps.one (show Kd.M (Kd.int .i64) _ _ _ 6 [.int .i64 6] from rfl) (Reps.one (show Kd.M (Kd.int .i64) _ _ _ 20 [.int .i64 20] from rfl) (Reps.none _ _)))))))); intro v307 w39 ho40 hb hg_ hnew_; clear hg_ hnew_; (first | rw [← Ny306.out] at ho40 | (simp only [Int.reduceToNat] at ho40; rw [← Ny306.out] at ho40)); have n0_ := Aside0.mk (Kd.R_lower ho40 (keep_size (w := w) (g := g) (row := none) (qq101))); have n1_ := Aside0.mk (IsS72.below (qq103) hb); have n2_ := Aside0.mk (blk_below (g := gb287) (o := .cells #[.int .i64 0, .int .i64 0, .int .i64 0, .int .i64 0, .int .i64 0, .int .i64 0] 26 (0, 0)) (qq93) hb); have n3_ := Aside0.mk (blk_below (g := gb296) (o := .cells #[.int .i64 t288, .int .i64 t289, .int .i64 t290, .int .i64 t291, .int .i64 t292, .int .i64 t293] 26 (0, 0)) (qq102) hb); have n4_ := Aside0.mk (KeepBut.trans (qq101) (KeepBut.of_below hb g none) (.inl rfl)); have n5_ := Aside0.mk (below_step (qq104) hb); clear HI0; clear BK287; clear BK296; clear HK; clear HB; have HO308 := n0_; have HI0 := n1_; have BK287 := n2_; have BK296 := n3_; have HK := n4_; have HB := n5_; clear n0_ n1_ n2_ n3_ n4_ n5_; clear hb ho40; obtain ⟨Ao41, co41, eo41⟩ := Kd.R_slice HO308.out; subst eo41) | ((with_reducible refine gate_callee (f := 48) rfl ?_); refine goesL_ (some 22) rfl rfl Try.func48 (by kernel_rfl) rfl #[.pointer (some ⟨g, 0, none⟩), .slice Ao41 y306.length co41] rfl (qq5) ?_; (with_reducible refine (spec_l1Int.calls g s0_0 t298 t299 _ _ y306 t309 t310 t311 w0 _ ?side1 ?side2 ?side3 ?side4 ?side5 A31.out).mono ?_); (case side1 => exact qq103); (case side2 => exact qq104); (case side3 => repeat (first | exact (Kd.R_reads' HO308.out).2.2 | (with_reducible refine Kd.C_alloc ?_ _) | (with_reducible refine Kd.C_drewN ?_ _) | (with_reducible refine Kd.C_drew ?_))); (case side4 => exact (Kd.R_reads' HO308.out).2.1); (case side5 => exact far_slice (IsS72.own_ne HI0.out HO308.out (by decide))); rintro e w42 ⟨rfl, hi, hb, hk⟩; refine ⟨_, rfl, ?_⟩; have n0_ := Aside0.mk (KeepBut.blk hk (g' := gb287) (o := .cells #[.int .i64 0, .int .i64 0, .int .i64 0, .int .i64 0, .int .i64 0, .int .i64 0] 26 (0, 0)) (qq93) NB287_0.out (by simp)); have n1_ := Aside0.mk (KeepBut.blk hk (g' := gb296) (o := .cells #[.int .i64 t288, .int .i64 t289, .int .i64 t290, .int .i64 t291, .int .i64 t292, .int .i64 t293] 26 (0, 0)) (qq102) NB296_0.out (by simp)); have n2_ := Aside0.mk (Kd.R_mono (Kd.R_keep (IsS72.apart (show IsS72 w0 _ g s0_0 t298 t299 from by repeat (first | (with_reducible first | exact HI0.out | apply IsS72.alloc | apply IsS72.drewN | apply IsS72.drew | apply IsS72.set_1 | apply IsS72.set_2 | refine IsS72.far ?_ NB0_287.out _ | refine IsS72.far ?_ NB0_296.out _) | exact HI0.out)) (by (with_reducible repeat (first | apply Kd.R_alloc | apply Kd.R_drewN | apply Kd.R_drew)); exact HO308.out) (by decide)) hk (fun _ h => h.2)) (fun _ h => h.1)); have n3_ := Aside0.mk (KeepBut.trans (qq101) hk (.inl rfl)); have n4_ := Aside0.mk (hb); have n5_ := Aside0.mk (hi); clear BK287; clear BK296; clear HO308; clear HK; clear HB; clear HI0; have BK287 := n0_; have BK296 := n1_; have HO308 := n2_; have HK := n3_; have HB := n4_; have HI0 := n5_; clear n0_ n1_ n2_ n3_ n4_ n5_; (try clear hb); (try clear hb2); (try clear hk); (try clear hi); have hcz43_0 : w42.cell? ⟨gb296, 0, none⟩ = some (.int .i64 t288) := (blk_cell BK296.out 0).trans rfl; have hcz43_1 : w42.cell? ⟨gb296, 1, none⟩ = some (.int .i64 t289) := (blk_cell BK296.out 1).trans rfl; have hcz43_2 : w42.cell? ⟨gb296, 2, none⟩ = some (.int .i64 t290) := (blk_cell BK296.out 2).trans rfl; have hcz43_3 : w42.cell? ⟨gb296, 3, none⟩ = some (.int .i64 t291) := (blk_cell BK296.out 3).trans rfl; have hcz43_4 : w42.cell? ⟨gb296, 4, none⟩ = some (.int .i64 t292) := (blk_cell BK296.out 4).trans rfl; have hcz43_5 : w42.cell? ⟨gb296, 5, none⟩ = some (.int .i64 t293) := (blk_cell BK296.out 5).trans rfl; have hfz43_0 := blk_frozen BK296.out 0; have hfz43_1 := blk_frozen BK296.out 1; have hfz43_2 := blk_frozen BK296.out 2; have hfz43_3 := blk_frozen BK296.out 3; have hfz43_4 := blk_frozen BK296.out 4; have hfz43_5 := blk_frozen BK296.out 5; have hnb44 := NB287_0.out; have hnc44 := NB0_287.out; have hcz45_0 : w42.cell? ⟨gb287, 0, none⟩ = some (.int .i64 0) := (blk_cell BK287.out 0).trans rfl; have hcz45_1 : w42.cell? ⟨gb287, 1, none⟩ = some (.int .i64 0) := (blk_cell BK287.out 1).trans rfl; have hcz45_2 : w42.cell? ⟨gb287, 2, none⟩ = some (.int .i64 0) := (blk_cell BK287.out 2).trans rfl; have hcz45_3 : w42.cell? ⟨gb287, 3, none⟩ = some (.int .i64 0) := (blk_cell BK287.out 3).trans rfl; have hcz45_4 : w42.cell? ⟨gb287, 4, none⟩ = some (.int .i64 0) := (blk_cell BK287.out 4).trans rfl; have hcz45_5 : w42.cell? ⟨gb287, 5, none⟩ = some (.int .i64 0) := (blk_cell BK287.out 5).trans rfl; have hfz45_0 := blk_frozen BK287.out 0; have hfz45_1 := blk_frozen BK287.out 1; have hfz45_2 := blk_frozen BK287.out 2; have hfz45_3 := blk_frozen BK287.out 3; have hfz45_4 := blk_frozen BK287.out 4; have hfz45_5 := blk_frozen BK287.out 5))
    refine bodyPost_ret (results_cell_row rfl _ _ gb287 26 #[.int .i64 t288, .int .i64 t289, .int .i64 t309, .int .i64 t291, .int .i64 t292, .int .i64 t293] (0, 0) _ rfl (by (with_reducible repeat (first | refine blk_drewN ?_ _ | refine blk_drew ?_ | refine blk_alloc ?_ _)); refine blk_put (cs := #[.int .i64 t288, .int .i64 t289, .int .i64 t309, .int .i64 t291, .int .i64 t292, .int .i64 0]) ?_ 5 _ rfl; (with_reducible repeat (first | refine blk_drewN ?_ _ | refine blk_drew ?_ | refine blk_alloc ?_ _)); refine blk_put (cs := #[.int .i64 t288, .int .i64 t289, .int .i64 t309, .int .i64 t291, .int .i64 0, .int .i64 0]) ?_ 4 _ rfl; (with_reducible repeat (first | refine blk_drewN ?_ _ | refine blk_drew ?_ | refine blk_alloc ?_ _)); refine blk_put (cs := #[.int .i64 t288, .int .i64 t289, .int .i64 t309, .int .i64 0, .int .i64 0, .int .i64 0]) ?_ 3 _ rfl; (with_reducible repeat (first | refine blk_drewN ?_ _ | refine blk_drew ?_ | refine blk_alloc ?_ _)); refine blk_put (cs := #[.int .i64 t288, .int .i64 t289, .int .i64 0, .int .i64 0, .int .i64 0, .int .i64 0]) ?_ 2 _ rfl; (with_reducible repeat (first | refine blk_drewN ?_ _ | refine blk_drew ?_ | refine blk_alloc ?_ _)); refine blk_put (cs := #[.int .i64 t288, .int .i64 0, .int .i64 0, .int .i64 0, .int .i64 0, .int .i64 0]) ?_ 1 _ rfl; (with_reducible repeat (first | refine blk_drewN ?_ _ | refine blk_drew ?_ | refine blk_alloc ?_ _)); refine blk_put (cs := #[.int .i64 0, .int .i64 0, .int .i64 0, .int .i64 0, .int .i64 0, .int .i64 0]) ?_ 0 _ rfl; (with_reducible repeat (first | refine blk_drewN ?_ _ | refine blk_drew ?_ | refine blk_alloc ?_ _)); refine blk_far ?_ NB287_296.out _; (with_reducible repeat (first | refine blk_drewN ?_ _ | refine blk_drew ?_ | refine blk_alloc ?_ _)); exact BK287.out) Try.underlying26 rfl (by kernel_rfl)) rfl ?_
    exact qq159
   ·rw [if_neg c30] at H
    have c30b0 : (t297 == 2) = false := beq_eq_false_iff_ne.mpr c30
    have c30b1 : (t297 != 2) = true := bne_iff_ne.mpr c30
    by_cases c46 : t297 = 3
    ·rw [if_pos c46] at H
     have c46b0 : (t297 == 3) = true := beq_iff_eq.mpr c46
     have c46b1 : (t297 != 3) = false := bne_eq_false_iff_eq.mpr c46
     clear c46
     obtain ⟨y312, hy312⟩ : ∃ y_ : List Int, y_ = (([(-1), 9, 10] : List Int)) := ⟨_, rfl⟩
     replace H : ((spec_l1Int.f s0_0 t298 t299 y312).bind fun bt315 => (some (t288, t289, t290, bt315.1, t292, t293, bt315.2.1, bt315.2.2))) = some (r1, r2, r3, r4, r5, r6, r7, r8) := by first | (rw [hy312]; with_reducible exact H) | (have H2_ := (Option.bind_some _ _).symm.trans H; rw [hy312]; with_reducible exact H2_) | (have H2_ := (Option.bind_some _ _).symm.trans H; with_reducible exact H2_) | with_reducible exact H | (rw [hy312]; exact H) | exact H
     have Ny312 := Aside0.mk hy312
     clear hy312
     replace H := Option.bind_eq_some_iff.mp H
     obtain ⟨⟨t315, t316, t317⟩, A470, H⟩ := H
     replace H : (some (t288, t289, t290, t315, t292, t293, t316, t317)) = some (r1, r2, r3, r4, r5, r6, r7, r8) := H
     have A47 := Aside0.mk A470
     clear A470
     simp only [Option.some.injEq, Prod.mk.injEq] at H
     obtain ⟨rfl, rfl, rfl, rfl, rfl, rfl, rfl, rfl⟩ := H
     go_enter Try.func35, Try.ntmps35
     go_wp2_with (first | ((with_reducible refine gate_dst (N := 2) rfl ?_); refine box_event ?hg (N := 2) ?hd (cs := #[.int .i64 0, .int .i64 0, .int .i64 0, .int .i64 0, .int .i64 0, .int .i64 0]) (t := 26) ?hr ?_; (case hd => rfl); (case hg => rfl); (case hr => first | (go_simp; done) | (go_simp; rfl)); intro gb287 hg w48 hbox hb; have n0_ := Aside0.mk (IsS72.below (qq72) hb); have n1_ := Aside0.mk (KeepBut.trans (qq74) (KeepBut.of_below hb g none) (.inl rfl)); have n2_ := Aside0.mk (below_step (qq73) hb); have n3_ := Aside0.mk (hbox); have n4_ := Aside0.mk ((qq138 : w.heap.size ≤ gb287)); have n5_ := Aside0.mk ((Nat.le_trans HW0.out (qq138 : w.heap.size ≤ gb287) : w0.heap.size ≤ gb287)); have n6_ := Aside0.mk ((qq75 : g ≠ gb287)); have n7_ := Aside0.mk ((qq76 : gb287 ≠ g)); clear HI0; clear HK; clear HB; have HI0 := n0_; have HK := n1_; have HB := n2_; have BK287 := n3_; have GW287 := n4_; have GE287 := n5_; have NB0_287 := n6_; have NB287_0 := n7_; clear n0_ n1_ n2_ n3_ n4_ n5_ n6_ n7_; clear hb hbox hg) | ((with_reducible refine gate_callee (f := 47) rfl ?_); refine goesL_ (some 5) rfl rfl Try.func47 (by kernel_rfl) rfl #[.pointer (some ⟨g, 0, none⟩)] rfl (qq5) ?_; (with_reducible refine (spec_l6Fact.calls g s0_0 s0_1 s0_2 t288 t289 t290 t291 t292 t293 t294 t295 w0 _ ?side1 ?side2 A2.out).mono ?_); (case side1 => exact qq95); (case side2 => exact qq96); rintro e w49 ⟨rfl, hi, hb, hk⟩; refine ⟨_, rfl, ?_⟩; have n0_ := Aside0.mk (KeepBut.blk hk (g' := gb287) (o := .cells #[.int .i64 0, .int .i64 0, .int .i64 0, .int .i64 0, .int .i64 0, .int .i64 0] 26 (0, 0)) (qq93) NB287_0.out (by simp)); have n1_ := Aside0.mk (KeepBut.trans (qq94) hk (.inl rfl)); have n2_ := Aside0.mk (hb); have n3_ := Aside0.mk (hi); clear BK287; clear HK; clear HB; clear HI0; have BK287 := n0_; have HK := n1_; have HB := n2_; have HI0 := n3_; clear n0_ n1_ n2_ n3_; (try clear hb); (try clear hb2); (try clear hk); (try clear hi)) | ((with_reducible refine gate_dst (N := 3) rfl ?_); refine box_event ?hg (N := 3) ?hd (cs := #[.int .i64 0, .int .i64 0, .int .i64 0, .int .i64 0, .int .i64 0, .int .i64 0]) (t := 26) ?hr ?_; (case hd => rfl); (case hg => rfl); (case hr => first | (go_simp; done) | (go_simp; rfl)); intro gb296 hg w50 hbox hb; have n0_ := Aside0.mk (IsS72.below (qq95) hb); have n1_ := Aside0.mk (blk_below (g := gb287) (o := .cells #[.int .i64 0, .int .i64 0, .int .i64 0, .int .i64 0, .int .i64 0, .int .i64 0] 26 (0, 0)) (qq93) hb); have n2_ := Aside0.mk (KeepBut.trans (qq94) (KeepBut.of_below hb g none) (.inl rfl)); have n3_ := Aside0.mk (below_step (qq96) hb); have n4_ := Aside0.mk (hbox); have n5_ := Aside0.mk ((qq142 : w.heap.size ≤ gb296)); have n6_ := Aside0.mk ((Nat.le_trans HW0.out (qq142 : w.heap.size ≤ gb296) : w0.heap.size ≤ gb296)); have n7_ := Aside0.mk ((qq143 : gb287 ≠ gb296)); have n8_ := Aside0.mk ((qq144 : gb296 ≠ gb287)); have n9_ := Aside0.mk ((qq97 : g ≠ gb296)); have n10_ := Aside0.mk ((qq98 : gb296 ≠ g)); clear HI0; clear BK287; clear HK; clear HB; have HI0 := n0_; have BK287 := n1_; have HK := n2_; have HB := n3_; have BK296 := n4_; have GW296 := n5_; have GE296 := n6_; have NB287_296 := n7_; have NB296_287 := n8_; have NB0_296 := n9_; have NB296_0 := n10_; clear n0_ n1_ n2_ n3_ n4_ n5_ n6_ n7_ n8_ n9_ n10_; clear hb hbox hg; have hnb51 := NB296_287.out; have hnc51 := NB287_296.out; have hnb52 := NB296_0.out; have hnc52 := NB0_296.out; have hcz53_0 : w50.cell? ⟨gb296, 0, none⟩ = some (.int .i64 0) := (blk_cell BK296.out 0).trans rfl; have hcz53_1 : w50.cell? ⟨gb296, 1, none⟩ = some (.int .i64 0) := (blk_cell BK296.out 1).trans rfl; have hcz53_2 : w50.cell? ⟨gb296, 2, none⟩ = some (.int .i64 0) := (blk_cell BK296.out 2).trans rfl; have hcz53_3 : w50.cell? ⟨gb296, 3, none⟩ = some (.int .i64 0) := (blk_cell BK296.out 3).trans rfl; have hcz53_4 : w50.cell? ⟨gb296, 4, none⟩ = some (.int .i64 0) := (blk_cell BK296.out 4).trans rfl; have hcz53_5 : w50.cell? ⟨gb296, 5, none⟩ = some (.int .i64 0) := (blk_cell BK296.out 5).trans rfl; have hfz53_0 := blk_frozen BK296.out 0; have hfz53_1 := blk_frozen BK296.out 1; have hfz53_2 := blk_frozen BK296.out 2; have hfz53_3 := blk_frozen BK296.out 3; have hfz53_4 := blk_frozen BK296.out 4; have hfz53_5 := blk_frozen BK296.out 5) | ((with_reducible refine gate_callee (f := 36) rfl ?_); refine goesL_ (some 7) rfl rfl Try.func36 (by kernel_rfl) rfl #[.pointer (some ⟨g, 0, none⟩), .int .i64 12] rfl (qq5) ?_; (with_reducible refine (spec_l1Below.calls g s0_0 t294 t295 12 t297 t298 t299 w0 _ ?side1 ?side2 A3.out).mono ?_); (case side1 => exact qq103); (case side2 => exact qq104); rintro e w54 ⟨rfl, hi, hb, hk⟩; refine ⟨_, rfl, ?_⟩; have n0_ := Aside0.mk (KeepBut.blk hk (g' := gb287) (o := .cells #[.int .i64 0, .int .i64 0, .int .i64 0, .int .i64 0, .int .i64 0, .int .i64 0] 26 (0, 0)) (qq99) NB287_0.out (by simp)); have n1_ := Aside0.mk (KeepBut.blk hk (g' := gb296) (o := .cells #[.int .i64 t288, .int .i64 t289, .int .i64 t290, .int .i64 t291, .int .i64 t292, .int .i64 t293] 26 (0, 0)) (qq100) NB296_0.out (by simp)); have n2_ := Aside0.mk (KeepBut.trans (qq101) hk (.inl rfl)); have n3_ := Aside0.mk (hb); have n4_ := Aside0.mk (hi); clear BK287; clear BK296; clear HK; clear HB; clear HI0; have BK287 := n0_; have BK296 := n1_; have HK := n2_; have HB := n3_; have HI0 := n4_; clear n0_ n1_ n2_ n3_ n4_; (try clear hb); (try clear hb2); (try clear hk); (try clear hi)) | ((with_reducible refine gate_dst (N := 27) rfl ?_); refine Kd.R_lit (Kd.int .i64) _ 3 ?hg (N := 27) ?hd (xs := ([(-1), 9, 10] : List Int)) (inner := [.int .i64 (-1), .int .i64 9, .int .i64 10]) (ok := fun _ => True) (okp := fun _ => True) ?hr ?hp (fun _ hk => hk) trivial (Below.refl _ _) (Nat.le_refl _) (by simp) ?_; (case hd => rfl); (case hg => rfl); (case hr => first | (go_simp; done) | (go_simp; rfl)); (case hp => exact (Reps.one (show Kd.M (Kd.int .i64) _ _ _ (-1) [.int .i64 (-1)] from rfl) (Reps.one (show Kd.M (Kd.int .i64) _ _ _ 9 [.int .i64 9] from rfl) (Reps.one (show Kd.M (Kd.int .i64) _ _ _ 10 [.int .i64 10] from rfl) (Reps.none _ _))))); intro v313 w55 ho56 hb hg_ hnew_; clear hg_ hnew_; (first | rw [← Ny312.out] at ho56 | (simp only [Int.reduceToNat] at ho56; rw [← Ny312.out] at ho56)); have n0_ := Aside0.mk (Kd.R_lower ho56 (keep_size (w := w) (g := g) (row := none) (qq101))); have n1_ := Aside0.mk (IsS72.below (qq103) hb); have n2_ := Aside0.mk (blk_below (g := gb287) (o := .cells #[.int .i64 0, .int .i64 0, .int .i64 0, .int .i64 0, .int .i64 0, .int .i64 0] 26 (0, 0)) (qq93) hb); have n3_ := Aside0.mk (blk_below (g := gb296) (o := .cells #[.int .i64 t288, .int .i64 t289, .int .i64 t290, .int .i64 t291, .int .i64 t292, .int .i64 t293] 26 (0, 0)) (qq102) hb); have n4_ := Aside0.mk (KeepBut.trans (qq101) (KeepBut.of_below hb g none) (.inl rfl)); have n5_ := Aside0.mk (below_step (qq104) hb); clear HI0; clear BK287; clear BK296; clear HK; clear HB; have HO314 := n0_; have HI0 := n1_; have BK287 := n2_; have BK296 := n3_; have HK := n4_; have HB := n5_; clear n0_ n1_ n2_ n3_ n4_ n5_; clear hb ho56; obtain ⟨Ao57, co57, eo57⟩ := Kd.R_slice HO314.out; subst eo57) | ((with_reducible refine gate_callee (f := 48) rfl ?_); refine goesL_ (some 28) rfl rfl Try.func48 (by kernel_rfl) rfl #[.pointer (some ⟨g, 0, none⟩), .slice Ao57 y312.length co57] rfl (qq5) ?_; (with_reducible refine (spec_l1Int.calls g s0_0 t298 t299 _ _ y312 t315 t316 t317 w0 _ ?side1 ?side2 ?side3 ?side4 ?side5 A47.out).mono ?_); (case side1 => exact qq103); (case side2 => exact qq104); (case side3 => repeat (first | exact (Kd.R_reads' HO314.out).2.2 | (with_reducible refine Kd.C_alloc ?_ _) | (with_reducible refine Kd.C_drewN ?_ _) | (with_reducible refine Kd.C_drew ?_))); (case side4 => exact (Kd.R_reads' HO314.out).2.1); (case side5 => exact far_slice (IsS72.own_ne HI0.out HO314.out (by decide))); rintro e w58 ⟨rfl, hi, hb, hk⟩; refine ⟨_, rfl, ?_⟩; have n0_ := Aside0.mk (KeepBut.blk hk (g' := gb287) (o := .cells #[.int .i64 0, .int .i64 0, .int .i64 0, .int .i64 0, .int .i64 0, .int .i64 0] 26 (0, 0)) (qq93) NB287_0.out (by simp)); have n1_ := Aside0.mk (KeepBut.blk hk (g' := gb296) (o := .cells #[.int .i64 t288, .int .i64 t289, .int .i64 t290, .int .i64 t291, .int .i64 t292, .int .i64 t293] 26 (0, 0)) (qq102) NB296_0.out (by simp)); have n2_ := Aside0.mk (Kd.R_mono (Kd.R_keep (IsS72.apart (show IsS72 w0 _ g s0_0 t298 t299 from by repeat (first | (with_reducible first | exact HI0.out | apply IsS72.alloc | apply IsS72.drewN | apply IsS72.drew | apply IsS72.set_1 | apply IsS72.set_2 | refine IsS72.far ?_ NB0_287.out _ | refine IsS72.far ?_ NB0_296.out _) | exact HI0.out)) (by (with_reducible repeat (first | apply Kd.R_alloc | apply Kd.R_drewN | apply Kd.R_drew)); exact HO314.out) (by decide)) hk (fun _ h => h.2)) (fun _ h => h.1)); have n3_ := Aside0.mk (KeepBut.trans (qq101) hk (.inl rfl)); have n4_ := Aside0.mk (hb); have n5_ := Aside0.mk (hi); clear BK287; clear BK296; clear HO314; clear HK; clear HB; clear HI0; have BK287 := n0_; have BK296 := n1_; have HO314 := n2_; have HK := n3_; have HB := n4_; have HI0 := n5_; clear n0_ n1_ n2_ n3_ n4_ n5_; (try clear hb); (try clear hb2); (try clear hk); (try clear hi); have hcz59_0 : w58.cell? ⟨gb296, 0, none⟩ = some (.int .i64 t288) := (blk_cell BK296.out 0).trans rfl; have hcz59_1 : w58.cell? ⟨gb296, 1, none⟩ = some (.int .i64 t289) := (blk_cell BK296.out 1).trans rfl; have hcz59_2 : w58.cell? ⟨gb296, 2, none⟩ = some (.int .i64 t290) := (blk_cell BK296.out 2).trans rfl; have hcz59_3 : w58.cell? ⟨gb296, 3, none⟩ = some (.int .i64 t291) := (blk_cell BK296.out 3).trans rfl; have hcz59_4 : w58.cell? ⟨gb296, 4, none⟩ = some (.int .i64 t292) := (blk_cell BK296.out 4).trans rfl; have hcz59_5 : w58.cell? ⟨gb296, 5, none⟩ = some (.int .i64 t293) := (blk_cell BK296.out 5).trans rfl; have hfz59_0 := blk_frozen BK296.out 0; have hfz59_1 := blk_frozen BK296.out 1; have hfz59_2 := blk_frozen BK296.out 2; have hfz59_3 := blk_frozen BK296.out 3; have hfz59_4 := blk_frozen BK296.out 4; have hfz59_5 := blk_frozen BK296.out 5; have hnb60 := NB287_0.out; have hnc60 := NB0_287.out; have hcz61_0 : w58.cell? ⟨gb287, 0, none⟩ = some (.int .i64 0) := (blk_cell BK287.out 0).trans rfl; have hcz61_1 : w58.cell? ⟨gb287, 1, none⟩ = some (.int .i64 0) := (blk_cell BK287.out 1).trans rfl; have hcz61_2 : w58.cell? ⟨gb287, 2, none⟩ = some (.int .i64 0) := (blk_cell BK287.out 2).trans rfl; have hcz61_3 : w58.cell? ⟨gb287, 3, none⟩ = some (.int .i64 0) := (blk_cell BK287.out 3).trans rfl; have hcz61_4 : w58.cell? ⟨gb287, 4, none⟩ = some (.int .i64 0) := (blk_cell BK287.out 4).trans rfl; have hcz61_5 : w58.cell? ⟨gb287, 5, none⟩ = some (.int .i64 0) := (blk_cell BK287.out 5).trans rfl; have hfz61_0 := blk_frozen BK287.out 0; have hfz61_1 := blk_frozen BK287.out 1; have hfz61_2 := blk_frozen BK287.out 2; have hfz61_3 := blk_frozen BK287.out 3; have hfz61_4 := blk_frozen BK287.out 4; have hfz61_5 := blk_frozen BK287.out 5))
     refine bodyPost_ret (results_cell_row rfl _ _ gb287 26 #[.int .i64 t288, .int .i64 t289, .int .i64 t290, .int .i64 t315, .int .i64 t292, .int .i64 t293] (0, 0) _ rfl (by (with_reducible repeat (first | refine blk_drewN ?_ _ | refine blk_drew ?_ | refine blk_alloc ?_ _)); refine blk_put (cs := #[.int .i64 t288, .int .i64 t289, .int .i64 t290, .int .i64 t315, .int .i64 t292, .int .i64 0]) ?_ 5 _ rfl; (with_reducible repeat (first | refine blk_drewN ?_ _ | refine blk_drew ?_ | refine blk_alloc ?_ _)); refine blk_put (cs := #[.int .i64 t288, .int .i64 t289, .int .i64 t290, .int .i64 t315, .int .i64 0, .int .i64 0]) ?_ 4 _ rfl; (with_reducible repeat (first | refine blk_drewN ?_ _ | refine blk_drew ?_ | refine blk_alloc ?_ _)); refine blk_put (cs := #[.int .i64 t288, .int .i64 t289, .int .i64 t290, .int .i64 0, .int .i64 0, .int .i64 0]) ?_ 3 _ rfl; (with_reducible repeat (first | refine blk_drewN ?_ _ | refine blk_drew ?_ | refine blk_alloc ?_ _)); refine blk_put (cs := #[.int .i64 t288, .int .i64 t289, .int .i64 0, .int .i64 0, .int .i64 0, .int .i64 0]) ?_ 2 _ rfl; (with_reducible repeat (first | refine blk_drewN ?_ _ | refine blk_drew ?_ | refine blk_alloc ?_ _)); refine blk_put (cs := #[.int .i64 t288, .int .i64 0, .int .i64 0, .int .i64 0, .int .i64 0, .int .i64 0]) ?_ 1 _ rfl; (with_reducible repeat (first | refine blk_drewN ?_ _ | refine blk_drew ?_ | refine blk_alloc ?_ _)); refine blk_put (cs := #[.int .i64 0, .int .i64 0, .int .i64 0, .int .i64 0, .int .i64 0, .int .i64 0]) ?_ 0 _ rfl; (with_reducible repeat (first | refine blk_drewN ?_ _ | refine blk_drew ?_ | refine blk_alloc ?_ _)); refine blk_far ?_ NB287_296.out _; (with_reducible repeat (first | refine blk_drewN ?_ _ | refine blk_drew ?_ | refine blk_alloc ?_ _)); exact BK287.out) Try.underlying26 rfl (by kernel_rfl)) rfl ?_
     exact qq159
    ·rw [if_neg c46] at H
     have c46b0 : (t297 == 3) = false := beq_eq_false_iff_ne.mpr c46
     have c46b1 : (t297 != 3) = true := bne_iff_ne.mpr c46
     by_cases c62 : t297 = 4
     ·rw [if_pos c62] at H
      have c62b0 : (t297 == 4) = true := beq_iff_eq.mpr c62
      have c62b1 : (t297 != 4) = false := bne_eq_false_iff_eq.mpr c62
      clear c62
      replace H := Option.bind_eq_some_iff.mp H
      obtain ⟨⟨t318, t319, t320⟩, A630, H⟩ := H
      replace H : (some (t288, t289, t290, t291, t318, t293, t319, t320)) = some (r1, r2, r3, r4, r5, r6, r7, r8) := H
      have A63 := Aside0.mk A630
      clear A630
      simp only [Option.some.injEq, Prod.mk.injEq] at H
      obtain ⟨rfl, rfl, rfl, rfl, rfl, rfl, rfl, rfl⟩ := H
      go_enter Try.func35, Try.ntmps35
      go_wp2_with (first | ((with_reducible refine gate_dst (N := 2) rfl ?_); refine box_event ?hg (N := 2) ?hd (cs := #[.int .i64 0, .int .i64 0, .int .i64 0, .int .i64 0, .int .i64 0, .int .i64 0]) (t := 26) ?hr ?_; (case hd => rfl); (case hg => rfl); (case hr => first | (go_simp; done) | (go_simp; rfl)); intro gb287 hg w64 hbox hb; have n0_ := Aside0.mk (IsS72.below (qq72) hb); have n1_ := Aside0.mk (KeepBut.trans (qq74) (KeepBut.of_below hb g none) (.inl rfl)); have n2_ := Aside0.mk (below_step (qq73) hb); have n3_ := Aside0.mk (hbox); have n4_ := Aside0.mk ((qq138 : w.heap.size ≤ gb287)); have n5_ := Aside0.mk ((Nat.le_trans HW0.out (qq138 : w.heap.size ≤ gb287) : w0.heap.size ≤ gb287)); have n6_ := Aside0.mk ((qq75 : g ≠ gb287)); have n7_ := Aside0.mk ((qq76 : gb287 ≠ g)); clear HI0; clear HK; clear HB; have HI0 := n0_; have HK := n1_; have HB := n2_; have BK287 := n3_; have GW287 := n4_; have GE287 := n5_; have NB0_287 := n6_; have NB287_0 := n7_; clear n0_ n1_ n2_ n3_ n4_ n5_ n6_ n7_; clear hb hbox hg) | ((with_reducible refine gate_callee (f := 47) rfl ?_); refine goesL_ (some 5) rfl rfl Try.func47 (by kernel_rfl) rfl #[.pointer (some ⟨g, 0, none⟩)] rfl (qq5) ?_; (with_reducible refine (spec_l6Fact.calls g s0_0 s0_1 s0_2 t288 t289 t290 t291 t292 t293 t294 t295 w0 _ ?side1 ?side2 A2.out).mono ?_); (case side1 => exact qq95); (case side2 => exact qq96); rintro e w65 ⟨rfl, hi, hb, hk⟩; refine ⟨_, rfl, ?_⟩; have n0_ := Aside0.mk (KeepBut.blk hk (g' := gb287) (o := .cells #[.int .i64 0, .int .i64 0, .int .i64 0, .int .i64 0, .int .i64 0, .int .i64 0] 26 (0, 0)) (qq93) NB287_0.out (by simp)); have n1_ := Aside0.mk (KeepBut.trans (qq94) hk (.inl rfl)); have n2_ := Aside0.mk (hb); have n3_ := Aside0.mk (hi); clear BK287; clear HK; clear HB; clear HI0; have BK287 := n0_; have HK := n1_; have HB := n2_; have HI0 := n3_; clear n0_ n1_ n2_ n3_; (try clear hb); (try clear hb2); (try clear hk); (try clear hi)) | ((with_reducible refine gate_dst (N := 3) rfl ?_); refine box_event ?hg (N := 3) ?hd (cs := #[.int .i64 0, .int .i64 0, .int .i64 0, .int .i64 0, .int .i64 0, .int .i64 0]) (t := 26) ?hr ?_; (case hd => rfl); (case hg => rfl); (case hr => first | (go_simp; done) | (go_simp; rfl)); intro gb296 hg w66 hbox hb; have n0_ := Aside0.mk (IsS72.below (qq95) hb); have n1_ := Aside0.mk (blk_below (g := gb287) (o := .cells #[.int .i64 0, .int .i64 0, .int .i64 0, .int .i64 0, .int .i64 0, .int .i64 0] 26 (0, 0)) (qq93) hb); have n2_ := Aside0.mk (KeepBut.trans (qq94) (KeepBut.of_below hb g none) (.inl rfl)); have n3_ := Aside0.mk (below_step (qq96) hb); have n4_ := Aside0.mk (hbox); have n5_ := Aside0.mk ((qq142 : w.heap.size ≤ gb296)); have n6_ := Aside0.mk ((Nat.le_trans HW0.out (qq142 : w.heap.size ≤ gb296) : w0.heap.size ≤ gb296)); have n7_ := Aside0.mk ((qq143 : gb287 ≠ gb296)); have n8_ := Aside0.mk ((qq144 : gb296 ≠ gb287)); have n9_ := Aside0.mk ((qq97 : g ≠ gb296)); have n10_ := Aside0.mk ((qq98 : gb296 ≠ g)); clear HI0; clear BK287; clear HK; clear HB; have HI0 := n0_; have BK287 := n1_; have HK := n2_; have HB := n3_; have BK296 := n4_; have GW296 := n5_; have GE296 := n6_; have NB287_296 := n7_; have NB296_287 := n8_; have NB0_296 := n9_; have NB296_0 := n10_; clear n0_ n1_ n2_ n3_ n4_ n5_ n6_ n7_ n8_ n9_ n10_; clear hb hbox hg; have hnb67 := NB296_287.out; have hnc67 := NB287_296.out; have hnb68 := NB296_0.out; have hnc68 := NB0_296.out; have hcz69_0 : w66.cell? ⟨gb296, 0, none⟩ = some (.int .i64 0) := (blk_cell BK296.out 0).trans rfl; have hcz69_1 : w66.cell? ⟨gb296, 1, none⟩ = some (.int .i64 0) := (blk_cell BK296.out 1).trans rfl; have hcz69_2 : w66.cell? ⟨gb296, 2, none⟩ = some (.int .i64 0) := (blk_cell BK296.out 2).trans rfl; have hcz69_3 : w66.cell? ⟨gb296, 3, none⟩ = some (.int .i64 0) := (blk_cell BK296.out 3).trans rfl; have hcz69_4 : w66.cell? ⟨gb296, 4, none⟩ = some (.int .i64 0) := (blk_cell BK296.out 4).trans rfl; have hcz69_5 : w66.cell? ⟨gb296, 5, none⟩ = some (.int .i64 0) := (blk_cell BK296.out 5).trans rfl; have hfz69_0 := blk_frozen BK296.out 0; have hfz69_1 := blk_frozen BK296.out 1; have hfz69_2 := blk_frozen BK296.out 2; have hfz69_3 := blk_frozen BK296.out 3; have hfz69_4 := blk_frozen BK296.out 4; have hfz69_5 := blk_frozen BK296.out 5) | ((with_reducible refine gate_callee (f := 36) rfl ?_); refine goesL_ (some 7) rfl rfl Try.func36 (by kernel_rfl) rfl #[.pointer (some ⟨g, 0, none⟩), .int .i64 12] rfl (qq5) ?_; (with_reducible refine (spec_l1Below.calls g s0_0 t294 t295 12 t297 t298 t299 w0 _ ?side1 ?side2 A3.out).mono ?_); (case side1 => exact qq103); (case side2 => exact qq104); rintro e w70 ⟨rfl, hi, hb, hk⟩; refine ⟨_, rfl, ?_⟩; have n0_ := Aside0.mk (KeepBut.blk hk (g' := gb287) (o := .cells #[.int .i64 0, .int .i64 0, .int .i64 0, .int .i64 0, .int .i64 0, .int .i64 0] 26 (0, 0)) (qq99) NB287_0.out (by simp)); have n1_ := Aside0.mk (KeepBut.blk hk (g' := gb296) (o := .cells #[.int .i64 t288, .int .i64 t289, .int .i64 t290, .int .i64 t291, .int .i64 t292, .int .i64 t293] 26 (0, 0)) (qq100) NB296_0.out (by simp)); have n2_ := Aside0.mk (KeepBut.trans (qq101) hk (.inl rfl)); have n3_ := Aside0.mk (hb); have n4_ := Aside0.mk (hi); clear BK287; clear BK296; clear HK; clear HB; clear HI0; have BK287 := n0_; have BK296 := n1_; have HK := n2_; have HB := n3_; have HI0 := n4_; clear n0_ n1_ n2_ n3_ n4_; (try clear hb); (try clear hb2); (try clear hk); (try clear hi)) | ((with_reducible refine gate_callee (f := 53) rfl ?_); refine goesL_ (some 33) rfl rfl Try.func53 (by kernel_rfl) rfl #[.pointer (some ⟨g, 0, none⟩)] rfl (qq5) ?_; (with_reducible refine (spec_l4Time.calls g s0_0 t298 t299 t318 t319 t320 w0 _ ?side1 ?side2 A63.out).mono ?_); (case side1 => exact qq103); (case side2 => exact qq104); rintro e w71 ⟨rfl, hi, hb, hk⟩; refine ⟨_, rfl, ?_⟩; have n0_ := Aside0.mk (KeepBut.blk hk (g' := gb287) (o := .cells #[.int .i64 0, .int .i64 0, .int .i64 0, .int .i64 0, .int .i64 0, .int .i64 0] 26 (0, 0)) (qq93) NB287_0.out (by simp)); have n1_ := Aside0.mk (KeepBut.blk hk (g' := gb296) (o := .cells #[.int .i64 t288, .int .i64 t289, .int .i64 t290, .int .i64 t291, .int .i64 t292, .int .i64 t293] 26 (0, 0)) (qq102) NB296_0.out (by simp)); have n2_ := Aside0.mk (KeepBut.trans (qq101) hk (.inl rfl)); have n3_ := Aside0.mk (hb); have n4_ := Aside0.mk (hi); clear BK287; clear BK296; clear HK; clear HB; clear HI0; have BK287 := n0_; have BK296 := n1_; have HK := n2_; have HB := n3_; have HI0 := n4_; clear n0_ n1_ n2_ n3_ n4_; (try clear hb); (try clear hb2); (try clear hk); (try clear hi); have hcz72_0 : w71.cell? ⟨gb296, 0, none⟩ = some (.int .i64 t288) := (blk_cell BK296.out 0).trans rfl; have hcz72_1 : w71.cell? ⟨gb296, 1, none⟩ = some (.int .i64 t289) := (blk_cell BK296.out 1).trans rfl; have hcz72_2 : w71.cell? ⟨gb296, 2, none⟩ = some (.int .i64 t290) := (blk_cell BK296.out 2).trans rfl; have hcz72_3 : w71.cell? ⟨gb296, 3, none⟩ = some (.int .i64 t291) := (blk_cell BK296.out 3).trans rfl; have hcz72_4 : w71.cell? ⟨gb296, 4, none⟩ = some (.int .i64 t292) := (blk_cell BK296.out 4).trans rfl; have hcz72_5 : w71.cell? ⟨gb296, 5, none⟩ = some (.int .i64 t293) := (blk_cell BK296.out 5).trans rfl; have hfz72_0 := blk_frozen BK296.out 0; have hfz72_1 := blk_frozen BK296.out 1; have hfz72_2 := blk_frozen BK296.out 2; have hfz72_3 := blk_frozen BK296.out 3; have hfz72_4 := blk_frozen BK296.out 4; have hfz72_5 := blk_frozen BK296.out 5; have hnb73 := NB287_0.out; have hnc73 := NB0_287.out; have hcz74_0 : w71.cell? ⟨gb287, 0, none⟩ = some (.int .i64 0) := (blk_cell BK287.out 0).trans rfl; have hcz74_1 : w71.cell? ⟨gb287, 1, none⟩ = some (.int .i64 0) := (blk_cell BK287.out 1).trans rfl; have hcz74_2 : w71.cell? ⟨gb287, 2, none⟩ = some (.int .i64 0) := (blk_cell BK287.out 2).trans rfl; have hcz74_3 : w71.cell? ⟨gb287, 3, none⟩ = some (.int .i64 0) := (blk_cell BK287.out 3).trans rfl; have hcz74_4 : w71.cell? ⟨gb287, 4, none⟩ = some (.int .i64 0) := (blk_cell BK287.out 4).trans rfl; have hcz74_5 : w71.cell? ⟨gb287, 5, none⟩ = some (.int .i64 0) := (blk_cell BK287.out 5).trans rfl; have hfz74_0 := blk_frozen BK287.out 0; have hfz74_1 := blk_frozen BK287.out 1; have hfz74_2 := blk_frozen BK287.out 2; have hfz74_3 := blk_frozen BK287.out 3; have hfz74_4 := blk_frozen BK287.out 4; have hfz74_5 := blk_frozen BK287.out 5))
      refine bodyPost_ret (results_cell_row rfl _ _ gb287 26 #[.int .i64 t288, .int .i64 t289, .int .i64 t290, .int .i64 t291, .int .i64 t318, .int .i64 t293] (0, 0) _ rfl (by (with_reducible repeat (first | refine blk_drewN ?_ _ | refine blk_drew ?_ | refine blk_alloc ?_ _)); refine blk_put (cs := #[.int .i64 t288, .int .i64 t289, .int .i64 t290, .int .i64 t291, .int .i64 t318, .int .i64 0]) ?_ 5 _ rfl; (with_reducible repeat (first | refine blk_drewN ?_ _ | refine blk_drew ?_ | refine blk_alloc ?_ _)); refine blk_put (cs := #[.int .i64 t288, .int .i64 t289, .int .i64 t290, .int .i64 t291, .int .i64 0, .int .i64 0]) ?_ 4 _ rfl; (with_reducible repeat (first | refine blk_drewN ?_ _ | refine blk_drew ?_ | refine blk_alloc ?_ _)); refine blk_put (cs := #[.int .i64 t288, .int .i64 t289, .int .i64 t290, .int .i64 0, .int .i64 0, .int .i64 0]) ?_ 3 _ rfl; (with_reducible repeat (first | refine blk_drewN ?_ _ | refine blk_drew ?_ | refine blk_alloc ?_ _)); refine blk_put (cs := #[.int .i64 t288, .int .i64 t289, .int .i64 0, .int .i64 0, .int .i64 0, .int .i64 0]) ?_ 2 _ rfl; (with_reducible repeat (first | refine blk_drewN ?_ _ | refine blk_drew ?_ | refine blk_alloc ?_ _)); refine blk_put (cs := #[.int .i64 t288, .int .i64 0, .int .i64 0, .int .i64 0, .int .i64 0, .int .i64 0]) ?_ 1 _ rfl; (with_reducible repeat (first | refine blk_drewN ?_ _ | refine blk_drew ?_ | refine blk_alloc ?_ _)); refine blk_put (cs := #[.int .i64 0, .int .i64 0, .int .i64 0, .int .i64 0, .int .i64 0, .int .i64 0]) ?_ 0 _ rfl; (with_reducible repeat (first | refine blk_drewN ?_ _ | refine blk_drew ?_ | refine blk_alloc ?_ _)); refine blk_far ?_ NB287_296.out _; (with_reducible repeat (first | refine blk_drewN ?_ _ | refine blk_drew ?_ | refine blk_alloc ?_ _)); exact BK287.out) Try.underlying26 rfl (by kernel_rfl)) rfl ?_
      exact qq159
     ·rw [if_neg c62] at H
      have c62b0 : (t297 == 4) = false := beq_eq_false_iff_ne.mpr c62
      have c62b1 : (t297 != 4) = true := bne_iff_ne.mpr c62
      by_cases c75 : t297 = 5
      ·rw [if_pos c75] at H
       have c75b0 : (t297 == 5) = true := beq_iff_eq.mpr c75
       have c75b1 : (t297 != 5) = false := bne_eq_false_iff_eq.mpr c75
       clear c75
       replace H := Option.bind_eq_some_iff.mp H
       obtain ⟨⟨t321, t322, t323⟩, A760, H⟩ := H
       replace H : (some (t288, t289, t290, t291, t292, t321, t322, t323)) = some (r1, r2, r3, r4, r5, r6, r7, r8) := H
       have A76 := Aside0.mk A760
       clear A760
       simp only [Option.some.injEq, Prod.mk.injEq] at H
       obtain ⟨rfl, rfl, rfl, rfl, rfl, rfl, rfl, rfl⟩ := H
       go_enter Try.func35, Try.ntmps35
       go_wp2_with (first | ((with_reducible refine gate_dst (N := 2) rfl ?_); refine box_event ?hg (N := 2) ?hd (cs := #[.int .i64 0, .int .i64 0, .int .i64 0, .int .i64 0, .int .i64 0, .int .i64 0]) (t := 26) ?hr ?_; (case hd => rfl); (case hg => rfl); (case hr => first | (go_simp; done) | (go_simp; rfl)); intro gb287 hg w77 hbox hb; have n0_ := Aside0.mk (IsS72.below (qq72) hb); have n1_ := Aside0.mk (KeepBut.trans (qq74) (KeepBut.of_below hb g none) (.inl rfl)); have n2_ := Aside0.mk (below_step (qq73) hb); have n3_ := Aside0.mk (hbox); have n4_ := Aside0.mk ((qq138 : w.heap.size ≤ gb287)); have n5_ := Aside0.mk ((Nat.le_trans HW0.out (qq138 : w.heap.size ≤ gb287) : w0.heap.size ≤ gb287)); have n6_ := Aside0.mk ((qq75 : g ≠ gb287)); have n7_ := Aside0.mk ((qq76 : gb287 ≠ g)); clear HI0; clear HK; clear HB; have HI0 := n0_; have HK := n1_; have HB := n2_; have BK287 := n3_; have GW287 := n4_; have GE287 := n5_; have NB0_287 := n6_; have NB287_0 := n7_; clear n0_ n1_ n2_ n3_ n4_ n5_ n6_ n7_; clear hb hbox hg) | ((with_reducible refine gate_callee (f := 47) rfl ?_); refine goesL_ (some 5) rfl rfl Try.func47 (by kernel_rfl) rfl #[.pointer (some ⟨g, 0, none⟩)] rfl (qq5) ?_; (with_reducible refine (spec_l6Fact.calls g s0_0 s0_1 s0_2 t288 t289 t290 t291 t292 t293 t294 t295 w0 _ ?side1 ?side2 A2.out).mono ?_); (case side1 => exact qq95); (case side2 => exact qq96); rintro e w78 ⟨rfl, hi, hb, hk⟩; refine ⟨_, rfl, ?_⟩; have n0_ := Aside0.mk (KeepBut.blk hk (g' := gb287) (o := .cells #[.int .i64 0, .int .i64 0, .int .i64 0, .int .i64 0, .int .i64 0, .int .i64 0] 26 (0, 0)) (qq93) NB287_0.out (by simp)); have n1_ := Aside0.mk (KeepBut.trans (qq94) hk (.inl rfl)); have n2_ := Aside0.mk (hb); have n3_ := Aside0.mk (hi); clear BK287; clear HK; clear HB; clear HI0; have BK287 := n0_; have HK := n1_; have HB := n2_; have HI0 := n3_; clear n0_ n1_ n2_ n3_; (try clear hb); (try clear hb2); (try clear hk); (try clear hi)) | ((with_reducible refine gate_dst (N := 3) rfl ?_); refine box_event ?hg (N := 3) ?hd (cs := #[.int .i64 0, .int .i64 0, .int .i64 0, .int .i64 0, .int .i64 0, .int .i64 0]) (t := 26) ?hr ?_; (case hd => rfl); (case hg => rfl); (case hr => first | (go_simp; done) | (go_simp; rfl)); intro gb296 hg w79 hbox hb; have n0_ := Aside0.mk (IsS72.below (qq95) hb); have n1_ := Aside0.mk (blk_below (g := gb287) (o := .cells #[.int .i64 0, .int .i64 0, .int .i64 0, .int .i64 0, .int .i64 0, .int .i64 0] 26 (0, 0)) (qq93) hb); have n2_ := Aside0.mk (KeepBut.trans (qq94) (KeepBut.of_below hb g none) (.inl rfl)); have n3_ := Aside0.mk (below_step (qq96) hb); have n4_ := Aside0.mk (hbox); have n5_ := Aside0.mk ((qq142 : w.heap.size ≤ gb296)); have n6_ := Aside0.mk ((Nat.le_trans HW0.out (qq142 : w.heap.size ≤ gb296) : w0.heap.size ≤ gb296)); have n7_ := Aside0.mk ((qq143 : gb287 ≠ gb296)); have n8_ := Aside0.mk ((qq144 : gb296 ≠ gb287)); have n9_ := Aside0.mk ((qq97 : g ≠ gb296)); have n10_ := Aside0.mk ((qq98 : gb296 ≠ g)); clear HI0; clear BK287; clear HK; clear HB; have HI0 := n0_; have BK287 := n1_; have HK := n2_; have HB := n3_; have BK296 := n4_; have GW296 := n5_; have GE296 := n6_; have NB287_296 := n7_; have NB296_287 := n8_; have NB0_296 := n9_; have NB296_0 := n10_; clear n0_ n1_ n2_ n3_ n4_ n5_ n6_ n7_ n8_ n9_ n10_; clear hb hbox hg; have hnb80 := NB296_287.out; have hnc80 := NB287_296.out; have hnb81 := NB296_0.out; have hnc81 := NB0_296.out; have hcz82_0 : w79.cell? ⟨gb296, 0, none⟩ = some (.int .i64 0) := (blk_cell BK296.out 0).trans rfl; have hcz82_1 : w79.cell? ⟨gb296, 1, none⟩ = some (.int .i64 0) := (blk_cell BK296.out 1).trans rfl; have hcz82_2 : w79.cell? ⟨gb296, 2, none⟩ = some (.int .i64 0) := (blk_cell BK296.out 2).trans rfl; have hcz82_3 : w79.cell? ⟨gb296, 3, none⟩ = some (.int .i64 0) := (blk_cell BK296.out 3).trans rfl; have hcz82_4 : w79.cell? ⟨gb296, 4, none⟩ = some (.int .i64 0) := (blk_cell BK296.out 4).trans rfl; have hcz82_5 : w79.cell? ⟨gb296, 5, none⟩ = some (.int .i64 0) := (blk_cell BK296.out 5).trans rfl; have hfz82_0 := blk_frozen BK296.out 0; have hfz82_1 := blk_frozen BK296.out 1; have hfz82_2 := blk_frozen BK296.out 2; have hfz82_3 := blk_frozen BK296.out 3; have hfz82_4 := blk_frozen BK296.out 4; have hfz82_5 := blk_frozen BK296.out 5) | ((with_reducible refine gate_callee (f := 36) rfl ?_); refine goesL_ (some 7) rfl rfl Try.func36 (by kernel_rfl) rfl #[.pointer (some ⟨g, 0, none⟩), .int .i64 12] rfl (qq5) ?_; (with_reducible refine (spec_l1Below.calls g s0_0 t294 t295 12 t297 t298 t299 w0 _ ?side1 ?side2 A3.out).mono ?_); (case side1 => exact qq103); (case side2 => exact qq104); rintro e w83 ⟨rfl, hi, hb, hk⟩; refine ⟨_, rfl, ?_⟩; have n0_ := Aside0.mk (KeepBut.blk hk (g' := gb287) (o := .cells #[.int .i64 0, .int .i64 0, .int .i64 0, .int .i64 0, .int .i64 0, .int .i64 0] 26 (0, 0)) (qq99) NB287_0.out (by simp)); have n1_ := Aside0.mk (KeepBut.blk hk (g' := gb296) (o := .cells #[.int .i64 t288, .int .i64 t289, .int .i64 t290, .int .i64 t291, .int .i64 t292, .int .i64 t293] 26 (0, 0)) (qq100) NB296_0.out (by simp)); have n2_ := Aside0.mk (KeepBut.trans (qq101) hk (.inl rfl)); have n3_ := Aside0.mk (hb); have n4_ := Aside0.mk (hi); clear BK287; clear BK296; clear HK; clear HB; clear HI0; have BK287 := n0_; have BK296 := n1_; have HK := n2_; have HB := n3_; have HI0 := n4_; clear n0_ n1_ n2_ n3_ n4_; (try clear hb); (try clear hb2); (try clear hk); (try clear hi)) | ((with_reducible refine gate_callee (f := 53) rfl ?_); refine goesL_ (some 38) rfl rfl Try.func53 (by kernel_rfl) rfl #[.pointer (some ⟨g, 0, none⟩)] rfl (qq5) ?_; (with_reducible refine (spec_l4Time.calls g s0_0 t298 t299 t321 t322 t323 w0 _ ?side1 ?side2 A76.out).mono ?_); (case side1 => exact qq103); (case side2 => exact qq104); rintro e w84 ⟨rfl, hi, hb, hk⟩; refine ⟨_, rfl, ?_⟩; have n0_ := Aside0.mk (KeepBut.blk hk (g' := gb287) (o := .cells #[.int .i64 0, .int .i64 0, .int .i64 0, .int .i64 0, .int .i64 0, .int .i64 0] 26 (0, 0)) (qq93) NB287_0.out (by simp)); have n1_ := Aside0.mk (KeepBut.blk hk (g' := gb296) (o := .cells #[.int .i64 t288, .int .i64 t289, .int .i64 t290, .int .i64 t291, .int .i64 t292, .int .i64 t293] 26 (0, 0)) (qq102) NB296_0.out (by simp)); have n2_ := Aside0.mk (KeepBut.trans (qq101) hk (.inl rfl)); have n3_ := Aside0.mk (hb); have n4_ := Aside0.mk (hi); clear BK287; clear BK296; clear HK; clear HB; clear HI0; have BK287 := n0_; have BK296 := n1_; have HK := n2_; have HB := n3_; have HI0 := n4_; clear n0_ n1_ n2_ n3_ n4_; (try clear hb); (try clear hb2); (try clear hk); (try clear hi); have hcz85_0 : w84.cell? ⟨gb296, 0, none⟩ = some (.int .i64 t288) := (blk_cell BK296.out 0).trans rfl; have hcz85_1 : w84.cell? ⟨gb296, 1, none⟩ = some (.int .i64 t289) := (blk_cell BK296.out 1).trans rfl; have hcz85_2 : w84.cell? ⟨gb296, 2, none⟩ = some (.int .i64 t290) := (blk_cell BK296.out 2).trans rfl; have hcz85_3 : w84.cell? ⟨gb296, 3, none⟩ = some (.int .i64 t291) := (blk_cell BK296.out 3).trans rfl; have hcz85_4 : w84.cell? ⟨gb296, 4, none⟩ = some (.int .i64 t292) := (blk_cell BK296.out 4).trans rfl; have hcz85_5 : w84.cell? ⟨gb296, 5, none⟩ = some (.int .i64 t293) := (blk_cell BK296.out 5).trans rfl; have hfz85_0 := blk_frozen BK296.out 0; have hfz85_1 := blk_frozen BK296.out 1; have hfz85_2 := blk_frozen BK296.out 2; have hfz85_3 := blk_frozen BK296.out 3; have hfz85_4 := blk_frozen BK296.out 4; have hfz85_5 := blk_frozen BK296.out 5; have hnb86 := NB287_0.out; have hnc86 := NB0_287.out; have hcz87_0 : w84.cell? ⟨gb287, 0, none⟩ = some (.int .i64 0) := (blk_cell BK287.out 0).trans rfl; have hcz87_1 : w84.cell? ⟨gb287, 1, none⟩ = some (.int .i64 0) := (blk_cell BK287.out 1).trans rfl; have hcz87_2 : w84.cell? ⟨gb287, 2, none⟩ = some (.int .i64 0) := (blk_cell BK287.out 2).trans rfl; have hcz87_3 : w84.cell? ⟨gb287, 3, none⟩ = some (.int .i64 0) := (blk_cell BK287.out 3).trans rfl; have hcz87_4 : w84.cell? ⟨gb287, 4, none⟩ = some (.int .i64 0) := (blk_cell BK287.out 4).trans rfl; have hcz87_5 : w84.cell? ⟨gb287, 5, none⟩ = some (.int .i64 0) := (blk_cell BK287.out 5).trans rfl; have hfz87_0 := blk_frozen BK287.out 0; have hfz87_1 := blk_frozen BK287.out 1; have hfz87_2 := blk_frozen BK287.out 2; have hfz87_3 := blk_frozen BK287.out 3; have hfz87_4 := blk_frozen BK287.out 4; have hfz87_5 := blk_frozen BK287.out 5))
       refine bodyPost_ret (results_cell_row rfl _ _ gb287 26 #[.int .i64 t288, .int .i64 t289, .int .i64 t290, .int .i64 t291, .int .i64 t292, .int .i64 t321] (0, 0) _ rfl (by (with_reducible repeat (first | refine blk_drewN ?_ _ | refine blk_drew ?_ | refine blk_alloc ?_ _)); refine blk_put (cs := #[.int .i64 t288, .int .i64 t289, .int .i64 t290, .int .i64 t291, .int .i64 t292, .int .i64 0]) ?_ 5 _ rfl; (with_reducible repeat (first | refine blk_drewN ?_ _ | refine blk_drew ?_ | refine blk_alloc ?_ _)); refine blk_put (cs := #[.int .i64 t288, .int .i64 t289, .int .i64 t290, .int .i64 t291, .int .i64 0, .int .i64 0]) ?_ 4 _ rfl; (with_reducible repeat (first | refine blk_drewN ?_ _ | refine blk_drew ?_ | refine blk_alloc ?_ _)); refine blk_put (cs := #[.int .i64 t288, .int .i64 t289, .int .i64 t290, .int .i64 0, .int .i64 0, .int .i64 0]) ?_ 3 _ rfl; (with_reducible repeat (first | refine blk_drewN ?_ _ | refine blk_drew ?_ | refine blk_alloc ?_ _)); refine blk_put (cs := #[.int .i64 t288, .int .i64 t289, .int .i64 0, .int .i64 0, .int .i64 0, .int .i64 0]) ?_ 2 _ rfl; (with_reducible repeat (first | refine blk_drewN ?_ _ | refine blk_drew ?_ | refine blk_alloc ?_ _)); refine blk_put (cs := #[.int .i64 t288, .int .i64 0, .int .i64 0, .int .i64 0, .int .i64 0, .int .i64 0]) ?_ 1 _ rfl; (with_reducible repeat (first | refine blk_drewN ?_ _ | refine blk_drew ?_ | refine blk_alloc ?_ _)); refine blk_put (cs := #[.int .i64 0, .int .i64 0, .int .i64 0, .int .i64 0, .int .i64 0, .int .i64 0]) ?_ 0 _ rfl; (with_reducible repeat (first | refine blk_drewN ?_ _ | refine blk_drew ?_ | refine blk_alloc ?_ _)); refine blk_far ?_ NB287_296.out _; (with_reducible repeat (first | refine blk_drewN ?_ _ | refine blk_drew ?_ | refine blk_alloc ?_ _)); exact BK287.out) Try.underlying26 rfl (by kernel_rfl)) rfl ?_
       exact qq159
      ·rw [if_neg c75] at H
       have c75b0 : (t297 == 5) = false := beq_eq_false_iff_ne.mpr c75
       have c75b1 : (t297 != 5) = true := bne_iff_ne.mpr c75
       simp only [Option.some.injEq, Prod.mk.injEq] at H
       obtain ⟨rfl, rfl, rfl, rfl, rfl, rfl, rfl, rfl⟩ := H
       go_enter Try.func35, Try.ntmps35
       go_wp2_with (first | ((with_reducible refine gate_dst (N := 2) rfl ?_); refine box_event ?hg (N := 2) ?hd (cs := #[.int .i64 0, .int .i64 0, .int .i64 0, .int .i64 0, .int .i64 0, .int .i64 0]) (t := 26) ?hr ?_; (case hd => rfl); (case hg => rfl); (case hr => first | (go_simp; done) | (go_simp; rfl)); intro gb287 hg w88 hbox hb; have n0_ := Aside0.mk (IsS72.below (qq72) hb); have n1_ := Aside0.mk (KeepBut.trans (qq74) (KeepBut.of_below hb g none) (.inl rfl)); have n2_ := Aside0.mk (below_step (qq73) hb); have n3_ := Aside0.mk (hbox); have n4_ := Aside0.mk ((qq138 : w.heap.size ≤ gb287)); have n5_ := Aside0.mk ((Nat.le_trans HW0.out (qq138 : w.heap.size ≤ gb287) : w0.heap.size ≤ gb287)); have n6_ := Aside0.mk ((qq75 : g ≠ gb287)); have n7_ := Aside0.mk ((qq76 : gb287 ≠ g)); clear HI0; clear HK; clear HB; have HI0 := n0_; have HK := n1_; have HB := n2_; have BK287 := n3_; have GW287 := n4_; have GE287 := n5_; have NB0_287 := n6_; have NB287_0 := n7_; clear n0_ n1_ n2_ n3_ n4_ n5_ n6_ n7_; clear hb hbox hg) | ((with_reducible refine gate_callee (f := 47) rfl ?_); refine goesL_ (some 5) rfl rfl Try.func47 (by kernel_rfl) rfl #[.pointer (some ⟨g, 0, none⟩)] rfl (qq5) ?_; (with_reducible refine (spec_l6Fact.calls g s0_0 s0_1 s0_2 t288 t289 t290 t291 t292 t293 t294 t295 w0 _ ?side1 ?side2 A2.out).mono ?_); (case side1 => exact qq95); (case side2 => exact qq96); rintro e w89 ⟨rfl, hi, hb, hk⟩; refine ⟨_, rfl, ?_⟩; have n0_ := Aside0.mk (KeepBut.blk hk (g' := gb287) (o := .cells #[.int .i64 0, .int .i64 0, .int .i64 0, .int .i64 0, .int .i64 0, .int .i64 0] 26 (0, 0)) (qq93) NB287_0.out (by simp)); have n1_ := Aside0.mk (KeepBut.trans (qq94) hk (.inl rfl)); have n2_ := Aside0.mk (hb); have n3_ := Aside0.mk (hi); clear BK287; clear HK; clear HB; clear HI0; have BK287 := n0_; have HK := n1_; have HB := n2_; have HI0 := n3_; clear n0_ n1_ n2_ n3_; (try clear hb); (try clear hb2); (try clear hk); (try clear hi)) | ((with_reducible refine gate_dst (N := 3) rfl ?_); refine box_event ?hg (N := 3) ?hd (cs := #[.int .i64 0, .int .i64 0, .int .i64 0, .int .i64 0, .int .i64 0, .int .i64 0]) (t := 26) ?hr ?_; (case hd => rfl); (case hg => rfl); (case hr => first | (go_simp; done) | (go_simp; rfl)); intro gb296 hg w90 hbox hb; have n0_ := Aside0.mk (IsS72.below (qq95) hb); have n1_ := Aside0.mk (blk_below (g := gb287) (o := .cells #[.int .i64 0, .int .i64 0, .int .i64 0, .int .i64 0, .int .i64 0, .int .i64 0] 26 (0, 0)) (qq93) hb); have n2_ := Aside0.mk (KeepBut.trans (qq94) (KeepBut.of_below hb g none) (.inl rfl)); have n3_ := Aside0.mk (below_step (qq96) hb); have n4_ := Aside0.mk (hbox); have n5_ := Aside0.mk ((qq142 : w.heap.size ≤ gb296)); have n6_ := Aside0.mk ((Nat.le_trans HW0.out (qq142 : w.heap.size ≤ gb296) : w0.heap.size ≤ gb296)); have n7_ := Aside0.mk ((qq143 : gb287 ≠ gb296)); have n8_ := Aside0.mk ((qq144 : gb296 ≠ gb287)); have n9_ := Aside0.mk ((qq97 : g ≠ gb296)); have n10_ := Aside0.mk ((qq98 : gb296 ≠ g)); clear HI0; clear BK287; clear HK; clear HB; have HI0 := n0_; have BK287 := n1_; have HK := n2_; have HB := n3_; have BK296 := n4_; have GW296 := n5_; have GE296 := n6_; have NB287_296 := n7_; have NB296_287 := n8_; have NB0_296 := n9_; have NB296_0 := n10_; clear n0_ n1_ n2_ n3_ n4_ n5_ n6_ n7_ n8_ n9_ n10_; clear hb hbox hg; have hnb91 := NB296_287.out; have hnc91 := NB287_296.out; have hnb92 := NB296_0.out; have hnc92 := NB0_296.out; have hcz93_0 : w90.cell? ⟨gb296, 0, none⟩ = some (.int .i64 0) := (blk_cell BK296.out 0).trans rfl; have hcz93_1 : w90.cell? ⟨gb296, 1, none⟩ = some (.int .i64 0) := (blk_cell BK296.out 1).trans rfl; have hcz93_2 : w90.cell? ⟨gb296, 2, none⟩ = some (.int .i64 0) := (blk_cell BK296.out 2).trans rfl; have hcz93_3 : w90.cell? ⟨gb296, 3, none⟩ = some (.int .i64 0) := (blk_cell BK296.out 3).trans rfl; have hcz93_4 : w90.cell? ⟨gb296, 4, none⟩ = some (.int .i64 0) := (blk_cell BK296.out 4).trans rfl; have hcz93_5 : w90.cell? ⟨gb296, 5, none⟩ = some (.int .i64 0) := (blk_cell BK296.out 5).trans rfl; have hfz93_0 := blk_frozen BK296.out 0; have hfz93_1 := blk_frozen BK296.out 1; have hfz93_2 := blk_frozen BK296.out 2; have hfz93_3 := blk_frozen BK296.out 3; have hfz93_4 := blk_frozen BK296.out 4; have hfz93_5 := blk_frozen BK296.out 5) | ((with_reducible refine gate_callee (f := 36) rfl ?_); refine goesL_ (some 7) rfl rfl Try.func36 (by kernel_rfl) rfl #[.pointer (some ⟨g, 0, none⟩), .int .i64 12] rfl (qq5) ?_; (with_reducible refine (spec_l1Below.calls g s0_0 t294 t295 12 t297 t298 t299 w0 _ ?side1 ?side2 A3.out).mono ?_); (case side1 => exact qq103); (case side2 => exact qq104); rintro e w94 ⟨rfl, hi, hb, hk⟩; refine ⟨_, rfl, ?_⟩; have n0_ := Aside0.mk (KeepBut.blk hk (g' := gb287) (o := .cells #[.int .i64 0, .int .i64 0, .int .i64 0, .int .i64 0, .int .i64 0, .int .i64 0] 26 (0, 0)) (qq99) NB287_0.out (by simp)); have n1_ := Aside0.mk (KeepBut.blk hk (g' := gb296) (o := .cells #[.int .i64 t288, .int .i64 t289, .int .i64 t290, .int .i64 t291, .int .i64 t292, .int .i64 t293] 26 (0, 0)) (qq100) NB296_0.out (by simp)); have n2_ := Aside0.mk (KeepBut.trans (qq101) hk (.inl rfl)); have n3_ := Aside0.mk (hb); have n4_ := Aside0.mk (hi); clear BK287; clear BK296; clear HK; clear HB; clear HI0; have BK287 := n0_; have BK296 := n1_; have HK := n2_; have HB := n3_; have HI0 := n4_; clear n0_ n1_ n2_ n3_ n4_; (try clear hb); (try clear hb2); (try clear hk); (try clear hi); have hcz95_0 : w94.cell? ⟨gb296, 0, none⟩ = some (.int .i64 t288) := (blk_cell BK296.out 0).trans rfl; have hcz95_1 : w94.cell? ⟨gb296, 1, none⟩ = some (.int .i64 t289) := (blk_cell BK296.out 1).trans rfl; have hcz95_2 : w94.cell? ⟨gb296, 2, none⟩ = some (.int .i64 t290) := (blk_cell BK296.out 2).trans rfl; have hcz95_3 : w94.cell? ⟨gb296, 3, none⟩ = some (.int .i64 t291) := (blk_cell BK296.out 3).trans rfl; have hcz95_4 : w94.cell? ⟨gb296, 4, none⟩ = some (.int .i64 t292) := (blk_cell BK296.out 4).trans rfl; have hcz95_5 : w94.cell? ⟨gb296, 5, none⟩ = some (.int .i64 t293) := (blk_cell BK296.out 5).trans rfl; have hfz95_0 := blk_frozen BK296.out 0; have hfz95_1 := blk_frozen BK296.out 1; have hfz95_2 := blk_frozen BK296.out 2; have hfz95_3 := blk_frozen BK296.out 3; have hfz95_4 := blk_frozen BK296.out 4; have hfz95_5 := blk_frozen BK296.out 5; have hnb96 := NB287_0.out; have hnc96 := NB0_287.out; have hcz97_0 : w94.cell? ⟨gb287, 0, none⟩ = some (.int .i64 0) := (blk_cell BK287.out 0).trans rfl; have hcz97_1 : w94.cell? ⟨gb287, 1, none⟩ = some (.int .i64 0) := (blk_cell BK287.out 1).trans rfl; have hcz97_2 : w94.cell? ⟨gb287, 2, none⟩ = some (.int .i64 0) := (blk_cell BK287.out 2).trans rfl; have hcz97_3 : w94.cell? ⟨gb287, 3, none⟩ = some (.int .i64 0) := (blk_cell BK287.out 3).trans rfl; have hcz97_4 : w94.cell? ⟨gb287, 4, none⟩ = some (.int .i64 0) := (blk_cell BK287.out 4).trans rfl; have hcz97_5 : w94.cell? ⟨gb287, 5, none⟩ = some (.int .i64 0) := (blk_cell BK287.out 5).trans rfl; have hfz97_0 := blk_frozen BK287.out 0; have hfz97_1 := blk_frozen BK287.out 1; have hfz97_2 := blk_frozen BK287.out 2; have hfz97_3 := blk_frozen BK287.out 3; have hfz97_4 := blk_frozen BK287.out 4; have hfz97_5 := blk_frozen BK287.out 5))
       refine bodyPost_ret (results_cell_row rfl _ _ gb287 26 #[.int .i64 t288, .int .i64 t289, .int .i64 t290, .int .i64 t291, .int .i64 t292, .int .i64 t293] (0, 0) _ rfl (by (with_reducible repeat (first | refine blk_drewN ?_ _ | refine blk_drew ?_ | refine blk_alloc ?_ _)); refine blk_put (cs := #[.int .i64 t288, .int .i64 t289, .int .i64 t290, .int .i64 t291, .int .i64 t292, .int .i64 0]) ?_ 5 _ rfl; (with_reducible repeat (first | refine blk_drewN ?_ _ | refine blk_drew ?_ | refine blk_alloc ?_ _)); refine blk_put (cs := #[.int .i64 t288, .int .i64 t289, .int .i64 t290, .int .i64 t291, .int .i64 0, .int .i64 0]) ?_ 4 _ rfl; (with_reducible repeat (first | refine blk_drewN ?_ _ | refine blk_drew ?_ | refine blk_alloc ?_ _)); refine blk_put (cs := #[.int .i64 t288, .int .i64 t289, .int .i64 t290, .int .i64 0, .int .i64 0, .int .i64 0]) ?_ 3 _ rfl; (with_reducible repeat (first | refine blk_drewN ?_ _ | refine blk_drew ?_ | refine blk_alloc ?_ _)); refine blk_put (cs := #[.int .i64 t288, .int .i64 t289, .int .i64 0, .int .i64 0, .int .i64 0, .int .i64 0]) ?_ 2 _ rfl; (with_reducible repeat (first | refine blk_drewN ?_ _ | refine blk_drew ?_ | refine blk_alloc ?_ _)); refine blk_put (cs := #[.int .i64 t288, .int .i64 0, .int .i64 0, .int .i64 0, .int .i64 0, .int .i64 0]) ?_ 1 _ rfl; (with_reducible repeat (first | refine blk_drewN ?_ _ | refine blk_drew ?_ | refine blk_alloc ?_ _)); refine blk_put (cs := #[.int .i64 0, .int .i64 0, .int .i64 0, .int .i64 0, .int .i64 0, .int .i64 0]) ?_ 0 _ rfl; (with_reducible repeat (first | refine blk_drewN ?_ _ | refine blk_drew ?_ | refine blk_alloc ?_ _)); exact BK287.out) Try.underlying26 rfl (by kernel_rfl)) rfl ?_
       exact qq159
/-! ### spec_DrawPutFact: function 9 -/
mutual
def spec_DrawPutFact.j1 : Nat → List (S26) → List Int → Int → Int → Option ((List (S26)) × Int × Int × Int × Int × Int × Int)
 | 0, _, _, _, _ => none
 | k + 1, x5, x329000, x329001, x329002 => (spec_l6Any.f x329000 x329001 x329002).bind fun bt341 => (if (x5.length : Int) > 0 then ((spec_l1Once.f x329000 bt341.2.2.2.2.2.2.1 bt341.2.2.2.2.2.2.2 3).bind fun bt350 => (spec_DrawPutFact.j2 k x5 bt350.1 x329000 bt350.2.1 bt350.2.2 bt341.1 bt341.2.1 bt341.2.2.1 bt341.2.2.2.1 bt341.2.2.2.2.1 bt341.2.2.2.2.2.1)) else (spec_DrawPutFact.j2 k x5 false x329000 bt341.2.2.2.2.2.2.1 bt341.2.2.2.2.2.2.2 bt341.1 bt341.2.1 bt341.2.2.1 bt341.2.2.2.1 bt341.2.2.2.2.1 bt341.2.2.2.2.2.1))
def spec_DrawPutFact.j2 : Nat → List (S26) → Bool → List Int → Int → Int → Int → Int → Int → Int → Int → Int → Option ((List (S26)) × Int × Int × Int × Int × Int × Int)
 | 0, _, _, _, _, _, _, _, _, _, _, _ => none
 | k + 1, x5, x37, x329000, x329001, x329002, x350000, x350001, x350002, x350003, x350004, x350005 => if x37 = true then ((spec_l1Below.f x329000 x329001 x329002 (x5.length : Int)).bind fun bt353 => (if 0 ≤ bt353.1 then (if bt353.1 < (x5.length : Int) then ((spec_l1Below.f x329000 bt353.2.1 bt353.2.2 30).bind fun bt357 => (some (x5, (rd_T26 x5 bt353.1).f0, (rd_T26 x5 bt353.1).f1, (rd_T26 x5 bt353.1).f2, (rd_T26 x5 bt353.1).f3, bt357.1, (rd_T26 x5 bt353.1).f5))) else (none)) else (none))) else (some (x5, x350000, x350001, x350002, x350003, x350004, x350005))
def spec_DrawPutFact.l0 : Nat → List (S26) → Int → List Int → Int → Int → Option ((List (S26)) × Int × Int × Int × Int × Int × Int)
 | 0, _, _, _, _, _ => none
 | k + 1, x5, x6, x329000, x329001, x329002 => if x6 < 30 then ((spec_PutFact.f k x5 1 (wrap64 (10 + (Int.tmod x6 10))) (wrap64 (Int.tdiv x6 10)) 9 0 5).bind fun bt337 => (spec_DrawPutFact.l0 k bt337.1 (wrap64 (x6 + 1)) x329000 x329001 x329002)) else (spec_DrawPutFact.j1 k x5 x329000 x329001 x329002)
end
def spec_DrawPutFact.f (k : Nat) (l0 : List Int) : Option ((List (S26)) × Int × Int × Int × Int × Int × Int) := (spec_l1New.f k l0).bind fun bt325 => ((spec_l7Store.f k bt325.1 bt325.2.1 bt325.2.2).bind fun bt329 => ((spec_l1Once.f bt325.1 bt329.2.1 bt329.2.2 10).bind fun bt334 => (if bt334.1 = true then (spec_DrawPutFact.l0 k bt329.1 0 bt325.1 bt334.2.1 bt334.2.2) else (spec_DrawPutFact.j1 k bt329.1 bt325.1 bt334.2.1 bt334.2.2))))
theorem spec_DrawPutFact.mono_l : ∀ k, (∀ y0 y1 y2 y3, LeO (spec_DrawPutFact.j1 k y0 y1 y2 y3) (spec_DrawPutFact.j1 (k + 1) y0 y1 y2 y3)) ∧ (∀ y0 y1 y2 y3 y4 y5 y6 y7 y8 y9 y10, LeO (spec_DrawPutFact.j2 k y0 y1 y2 y3 y4 y5 y6 y7 y8 y9 y10) (spec_DrawPutFact.j2 (k + 1) y0 y1 y2 y3 y4 y5 y6 y7 y8 y9 y10)) ∧ (∀ y0 y1 y2 y3 y4, LeO (spec_DrawPutFact.l0 k y0 y1 y2 y3 y4) (spec_DrawPutFact.l0 (k + 1) y0 y1 y2 y3 y4))
 | 0 => ⟨fun _ _ _ _ r h => by simp [spec_DrawPutFact.j1] at h, fun _ _ _ _ _ _ _ _ _ _ _ r h => by simp [spec_DrawPutFact.j2] at h, fun _ _ _ _ _ r h => by simp [spec_DrawPutFact.l0] at h⟩
 | k + 1 => by
  obtain ⟨ih0, ih1, ih2⟩ := spec_DrawPutFact.mono_l k
  refine ⟨?_, ?_, ?_⟩
  ·intro y0 y1 y2 y3
   unfold spec_DrawPutFact.j1
   repeat' first
   | (with_reducible exact ih0 _ _ _ _)
   | (with_reducible exact ih1 _ _ _ _ _ _ _ _ _ _ _)
   | (with_reducible exact ih2 _ _ _ _ _)
   | (with_reducible exact spec_PutFact.mono _ _ _ _ _ _ _ _)
   | (with_reducible exact spec_l1New.mono _ _)
   | (with_reducible exact spec_l7Store.mono _ _ _ _)
   | (with_reducible exact LeO.refl _)
   | (with_reducible exact LeO.none _)
   | (with_reducible refine LeO.ite ?_ ?_)
   | (with_reducible refine LeO.bind ?_ (fun _ => ?_))
   | exact ih0 _ _ _ _
   | exact ih1 _ _ _ _ _ _ _ _ _ _ _
   | exact ih2 _ _ _ _ _
   | exact spec_PutFact.mono _ _ _ _ _ _ _ _
   | exact spec_l1New.mono _ _
   | exact spec_l7Store.mono _ _ _ _
   | exact LeO.none _
   | refine LeO.ite ?_ ?_
   | refine LeO.bind ?_ (fun _ => ?_)
  ·intro y0 y1 y2 y3 y4 y5 y6 y7 y8 y9 y10
   unfold spec_DrawPutFact.j2
   repeat' first
   | (with_reducible exact ih0 _ _ _ _)
   | (with_reducible exact ih1 _ _ _ _ _ _ _ _ _ _ _)
   | (with_reducible exact ih2 _ _ _ _ _)
   | (with_reducible exact spec_PutFact.mono _ _ _ _ _ _ _ _)
   | (with_reducible exact spec_l1New.mono _ _)
   | (with_reducible exact spec_l7Store.mono _ _ _ _)
   | (with_reducible exact LeO.refl _)
   | (with_reducible exact LeO.none _)
   | (with_reducible refine LeO.ite ?_ ?_)
   | (with_reducible refine LeO.bind ?_ (fun _ => ?_))
   | exact ih0 _ _ _ _
   | exact ih1 _ _ _ _ _ _ _ _ _ _ _
   | exact ih2 _ _ _ _ _
   | exact spec_PutFact.mono _ _ _ _ _ _ _ _
   | exact spec_l1New.mono _ _
   | exact spec_l7Store.mono _ _ _ _
   | exact LeO.none _
   | refine LeO.ite ?_ ?_
   | refine LeO.bind ?_ (fun _ => ?_)
  ·intro y0 y1 y2 y3 y4
   unfold spec_DrawPutFact.l0
   repeat' first
   | (with_reducible exact ih0 _ _ _ _)
   | (with_reducible exact ih1 _ _ _ _ _ _ _ _ _ _ _)
   | (with_reducible exact ih2 _ _ _ _ _)
   | (with_reducible exact spec_PutFact.mono _ _ _ _ _ _ _ _)
   | (with_reducible exact spec_l1New.mono _ _)
   | (with_reducible exact spec_l7Store.mono _ _ _ _)
   | (with_reducible exact LeO.refl _)
   | (with_reducible exact LeO.none _)
   | (with_reducible refine LeO.ite ?_ ?_)
   | (with_reducible refine LeO.bind ?_ (fun _ => ?_))
   | exact ih0 _ _ _ _
   | exact ih1 _ _ _ _ _ _ _ _ _ _ _
   | exact ih2 _ _ _ _ _
   | exact spec_PutFact.mono _ _ _ _ _ _ _ _
   | exact spec_l1New.mono _ _
   | exact spec_l7Store.mono _ _ _ _
   | exact LeO.none _
   | refine LeO.ite ?_ ?_
   | refine LeO.bind ?_ (fun _ => ?_)
theorem spec_DrawPutFact.mono : ∀ a0 k, LeO (spec_DrawPutFact.f k a0) (spec_DrawPutFact.f (k + 1) a0) := by
 intro a0 k
 obtain ⟨ih0, ih1, ih2⟩ := spec_DrawPutFact.mono_l k
 unfold spec_DrawPutFact.f
 repeat' first
   | (with_reducible exact ih0 _ _ _ _)
   | (with_reducible exact ih1 _ _ _ _ _ _ _ _ _ _ _)
   | (with_reducible exact ih2 _ _ _ _ _)
   | (with_reducible exact spec_PutFact.mono _ _ _ _ _ _ _ _)
   | (with_reducible exact spec_l1New.mono _ _)
   | (with_reducible exact spec_l7Store.mono _ _ _ _)
   | (with_reducible exact LeO.refl _)
   | (with_reducible exact LeO.none _)
   | (with_reducible refine LeO.ite ?_ ?_)
   | (with_reducible refine LeO.bind ?_ (fun _ => ?_))
   | exact ih0 _ _ _ _
   | exact ih1 _ _ _ _ _ _ _ _ _ _ _
   | exact ih2 _ _ _ _ _
   | exact spec_PutFact.mono _ _ _ _ _ _ _ _
   | exact spec_l1New.mono _ _
   | exact spec_l7Store.mono _ _ _ _
   | exact LeO.none _
   | refine LeO.ite ?_ ?_
   | refine LeO.bind ?_ (fun _ => ?_)
set_option maxHeartbeats 8000000 in
set_option maxRecDepth 100000 in
theorem spec_DrawPutFact.calls (k : Nat) (A0 : Option Addr) (c0 : Nat) (l0 : List Int) (r1 : List (S26)) (r2 : Int) (r3 : Int) (r4 : Int) (r5 : Int) (r6 : Int) (r7 : Int) (w : World) (hr0 : Kd.C (Kd.int .u8) w A0 l0.length l0) (hc0 : l0.length ≤ c0) (h : spec_DrawPutFact.f k l0 = some (r1, r2, r3, r4, r5, r6, r7)) :
  Calls Try.prog 9 #[.slice A0 l0.length c0] w fun e w' => ∃ v0_ : Value, e = .returned (.tuple #[v0_, .agg #[.int .i64 r2, .int .i64 r3, .int .i64 r4, .int .i64 r5, .int .i64 r6, .int .i64 r7]]) ∧ Kd.R k26 26 w' w.heap.size (fun _ => True) v0_ r1 ∧ Below w.heap.size w w' := by
 have hu26 := Try.underlying26
 have HR0 := Aside0.mk hr0
 have HC0 := Aside0.mk hc0
 clear hr0 hc0
 have HB := Aside0.mk (Below.refl w.heap.size w)
 have H : ((spec_l1New.f k l0).bind fun bt325 => ((spec_l7Store.f k bt325.1 bt325.2.1 bt325.2.2).bind fun bt329 => ((spec_l1Once.f bt325.1 bt329.2.1 bt329.2.2 10).bind fun bt334 => (if bt334.1 = true then (spec_DrawPutFact.l0 k bt329.1 0 bt325.1 bt334.2.1 bt334.2.2) else (spec_DrawPutFact.j1 k bt329.1 bt325.1 bt334.2.1 bt334.2.2))))) = some (r1, r2, r3, r4, r5, r6, r7) := h
 clear h
 replace H := Option.bind_eq_some_iff.mp H
 obtain ⟨⟨t325, t326, t327⟩, A20, H⟩ := H
 replace H : ((spec_l7Store.f k t325 t326 t327).bind fun bt329 => ((spec_l1Once.f t325 bt329.2.1 bt329.2.2 10).bind fun bt334 => (if bt334.1 = true then (spec_DrawPutFact.l0 k bt329.1 0 t325 bt334.2.1 bt334.2.2) else (spec_DrawPutFact.j1 k bt329.1 t325 bt334.2.1 bt334.2.2)))) = some (r1, r2, r3, r4, r5, r6, r7) := H
 have A2 := Aside0.mk A20
 clear A20
 replace H := Option.bind_eq_some_iff.mp H
 obtain ⟨⟨t329, t332, t333⟩, A30, H⟩ := H
 replace H : ((spec_l1Once.f t325 t332 t333 10).bind fun bt334 => (if bt334.1 = true then (spec_DrawPutFact.l0 k t329 0 t325 bt334.2.1 bt334.2.2) else (spec_DrawPutFact.j1 k t329 t325 bt334.2.1 bt334.2.2))) = some (r1, r2, r3, r4, r5, r6, r7) := H
 have A3 := Aside0.mk A30
 clear A30
 replace H := Option.bind_eq_some_iff.mp H
 obtain ⟨⟨t334, t335, t336⟩, A40, H⟩ := H
 replace H : (if t334 = true then (spec_DrawPutFact.l0 k t329 0 t325 t335 t336) else (spec_DrawPutFact.j1 k t329 t325 t335 t336)) = some (r1, r2, r3, r4, r5, r6, r7) := H
 have A4 := Aside0.mk A40
 clear A40
 have HC5 := Aside0.mk H
 clear H
 go_enter Try.func9, Try.ntmps9
 go_upto_if 13 with (first | ((with_reducible refine gate_dst (N := 3) rfl ?_); refine box_event ?hg (N := 3) ?hd (cs := #[.int .i64 0, .int .i64 0, .int .i64 0, .int .i64 0, .int .i64 0, .int .i64 0]) (t := 26) ?hr ?_; (case hd => rfl); (case hg => rfl); (case hr => first | (go_simp; done) | (go_simp; rfl)); intro gb324 hg w6 hbox hb; have n0_ := Aside0.mk (below_step (qq1) hb); have n1_ := Aside0.mk (hbox); have n2_ := Aside0.mk ((qq124 : w.heap.size ≤ gb324)); have n3_ := Aside0.mk ((qq124 : w.heap.size ≤ gb324)); clear HB; have HB := n0_; have BK324 := n1_; have GW324 := n2_; have GE324 := n3_; clear n0_ n1_ n2_ n3_; clear hb hbox hg) | ((with_reducible refine gate_callee (f := 32) rfl ?_); refine goesL_ (some 9) rfl rfl Try.func32 (by kernel_rfl) rfl #[.slice A0 l0.length c0] rfl (qq5) ?_; (with_reducible refine (spec_l1New.calls k _ _ l0 t325 t326 t327 w _ ?side1 ?side2 ?side3 A2.out).mono ?_); (case side1 => repeat (first | (with_reducible first | exact HB.out | apply below_alloc | apply pw_below_drewN | apply below_drew1 | refine below_set ?_ GE324.out) | exact HB.out)); (case side2 => exact HR0.out); (case side3 => exact HC0.out); rintro e w7 ⟨g328, rfl, hi, hb, hb2⟩; refine ⟨_, rfl, ?_⟩; have n0_ := Aside0.mk (blk_below (g := gb324) (o := .cells #[.int .i64 0, .int .i64 0, .int .i64 0, .int .i64 0, .int .i64 0, .int .i64 0] 26 (0, 0)) (qq105) hb2); have n1_ := Aside0.mk (hb); have n2_ := Aside0.mk (hi); have n3_ := Aside0.mk (IsS72.ne_blk hi (blk_below (g := gb324) (o := .cells #[.int .i64 0, .int .i64 0, .int .i64 0, .int .i64 0, .int .i64 0, .int .i64 0] 26 (0, 0)) (qq105) hb2) (by decide)); have n4_ := Aside0.mk (Ne.symm (IsS72.ne_blk hi (blk_below (g := gb324) (o := .cells #[.int .i64 0, .int .i64 0, .int .i64 0, .int .i64 0, .int .i64 0, .int .i64 0] 26 (0, 0)) (qq105) hb2) (by decide))); clear BK324; clear HB; have BK324 := n0_; have HB := n1_; have HI328 := n2_; have NB328_324 := n3_; have NB324_328 := n4_; clear n0_ n1_ n2_ n3_ n4_; (try clear hb); (try clear hb2); (try clear hk); (try clear hi)) | ((with_reducible refine gate_callee (f := 33) rfl ?_); refine goesL_ (some 11) rfl rfl Try.func33 (by kernel_rfl) rfl #[.pointer (some ⟨g328, 0, none⟩)] rfl (qq5) ?_; (with_reducible refine (spec_l7Store.calls k g328 t325 t326 t327 t329 t332 t333 w _ ?side1 ?side2 A3.out).mono ?_); (case side1 => exact qq108); (case side2 => exact qq106); rintro e w8 ⟨v330, rfl, ho0, hi, hb, hk⟩; refine ⟨_, rfl, ?_⟩; have n0_ := Aside0.mk (KeepBut.blk hk (g' := gb324) (o := .cells #[.int .i64 0, .int .i64 0, .int .i64 0, .int .i64 0, .int .i64 0, .int .i64 0] 26 (0, 0)) (qq105) NB324_328.out (by simp)); have n1_ := Aside0.mk (Kd.R_lower (Kd.R_newB ho0 (g := gb324) (o := .cells #[.int .i64 0, .int .i64 0, .int .i64 0, .int .i64 0, .int .i64 0, .int .i64 0] 26 (0, 0)) (qq105)) (below_size (qq106))); have n2_ := Aside0.mk (hb); have n3_ := Aside0.mk (hi); clear BK324; clear HB; clear HI328; have BK324 := n0_; have HO331 := n1_; have HB := n2_; have HI328 := n3_; clear n0_ n1_ n2_ n3_; (try clear hb); (try clear hb2); (try clear hk); (try clear hi); (try clear ho0)) | ((with_reducible refine gate_callee (f := 34) rfl ?_); refine goesL_ (some 13) rfl rfl Try.func34 (by kernel_rfl) rfl #[.pointer (some ⟨g328, 0, none⟩), .int .i64 10] rfl (qq5) ?_; (with_reducible refine (spec_l1Once.calls g328 t325 t332 t333 10 t334 t335 t336 w _ ?side1 ?side2 A4.out).mono ?_); (case side1 => exact qq108); (case side2 => exact qq106); rintro e w9 ⟨rfl, hi, hb, hk⟩; refine ⟨_, rfl, ?_⟩; have n0_ := Aside0.mk (KeepBut.blk hk (g' := gb324) (o := .cells #[.int .i64 0, .int .i64 0, .int .i64 0, .int .i64 0, .int .i64 0, .int .i64 0] 26 (0, 0)) (qq105) NB324_328.out (by simp)); have n1_ := Aside0.mk (Kd.R_mono (Kd.R_keep (IsS72.apart (show IsS72 w _ g328 t325 t332 t333 from by repeat (first | (with_reducible first | exact HI328.out | apply IsS72.alloc | apply IsS72.drewN | apply IsS72.drew | apply IsS72.set_1 | apply IsS72.set_2 | refine IsS72.far ?_ NB328_324.out _) | exact HI328.out)) (by (with_reducible repeat (first | apply Kd.R_alloc | apply Kd.R_drewN | apply Kd.R_drew)); exact HO331.out) (by decide)) hk (fun _ h => h.2)) (fun _ h => h.1)); have n2_ := Aside0.mk (hb); have n3_ := Aside0.mk (hi); clear BK324; clear HO331; clear HB; clear HI328; have BK324 := n0_; have HO331 := n1_; have HB := n2_; have HI328 := n3_; clear n0_ n1_ n2_ n3_; (try clear hb); (try clear hb2); (try clear hk); (try clear hi)))
 (try simp only [Act.put, List.setIfInBounds_toArray, List.set_cons_zero, List.set_cons_succ])
 go_cut [5] (fun v5 wc => ∃ (kq : Nat) (x5_4 : List (S26)), Aside0 (spec_DrawPutFact.j1 kq x5_4 t325 t335 t336 = some (r1, r2, r3, r4, r5, r6, r7)) ∧ Aside0 (kq ≤ k) ∧ Aside0 (Kd.R k26 26 wc w.heap.size (fun k_ => k_ ≠ gb324) v5 x5_4) ∧ Aside0 (wc.heap[gb324]? = some (.cells #[.int .i64 0, .int .i64 0, .int .i64 0, .int .i64 0, .int .i64 0, .int .i64 0] 26 (0, 0))) ∧ Aside0 (IsS72 w wc g328 t325 t335 t336) ∧ Aside0 (Below w.heap.size w wc))
 case first =>
  have H := HC5.out
  clear HC5
  by_cases c10 : t334 = true
  ·subst c10
   have H1 : (spec_DrawPutFact.l0 k t329 0 t325 t335 t336) = some (r1, r2, r3, r4, r5, r6, r7) := by rw [if_pos rfl] at H; exact H
   clear H
   have H := H1
   clear H1
   have H' := Aside0.mk H
   clear H
   go_wp2
   go_loopg [5, 6] k (fun kq v5 v6 w' => ∃ (x5_1 : List (S26)) (x6_1 : Int), v6 = .int .i64 x6_1 ∧ Aside0 (spec_DrawPutFact.l0 kq x5_1 x6_1 t325 t335 t336 = some (r1, r2, r3, r4, r5, r6, r7)) ∧ Aside0 (kq ≤ k) ∧ Aside0 (Kd.R k26 26 w' w.heap.size (fun k_ => k_ ≠ gb324) v5 x5_1) ∧ Aside0 (w'.heap[gb324]? = some (.cells #[.int .i64 0, .int .i64 0, .int .i64 0, .int .i64 0, .int .i64 0, .int .i64 0] 26 (0, 0))) ∧ Aside0 (IsS72 w w' g328 t325 t335 t336) ∧ Aside0 (Below w.heap.size w w'))
   case atStart => exact ⟨(t329), (0), (qq0), H', ⟨Nat.le_refl _⟩, ⟨qq107⟩, ⟨qq105⟩, ⟨qq108⟩, ⟨qq106⟩⟩
   case round =>
    clear H'
    try clear c1
    try clear p2
    try clear c3
    try clear c9
    try clear c10
    obtain ⟨x5_1, x6_1, rfl, HA, HK1, HO_5, BK324, HI328, HB⟩ := hrel
    cases gk with
    | zero => exact absurd HA.out (by simp [spec_DrawPutFact.l0])
    | succ k1 =>
     have H := HA.out
     clear HA
     simp only [spec_DrawPutFact.l0] at H
     by_cases c11 : x6_1 < 30
     ·rw [if_pos c11] at H
      have c11b0 : decide (x6_1 < 30) = true := decide_eq_true c11
      clear c11
      (first | rw [c11b0] | (simp only [i64_w, i32_w]; rw [c11b0]) | skip)
      replace H := Option.bind_eq_some_iff.mp H
      obtain ⟨⟨t337, t340⟩, A120, H⟩ := H
      replace H : (spec_DrawPutFact.l0 k1 t337 (wrap64 (x6_1 + 1)) t325 t335 t336) = some (r1, r2, r3, r4, r5, r6, r7) := H
      have A12 := Aside0.mk A120
      clear A120
      have H' := Aside0.mk H
      clear H
      obtain ⟨Ao13, co13, eo13⟩ := Kd.R_slice HO_5.out
      subst eo13
      go_wp2_with (first | ((with_reducible refine gate_callee (f := 29) rfl ?_); refine goesL_ (some 26) rfl rfl Try.func29 (by kernel_rfl) rfl #[.slice Ao13 x5_1.length co13, .agg #[.int .i64 1, .int .i64 (wrap64 (10 + (Int.tmod x6_1 10))), .int .i64 (wrap64 (Int.tdiv x6_1 10)), .int .i64 9, .int .i64 0, .int .i64 5]] rfl (qq5) ?_; (with_reducible refine (spec_PutFact.calls k1 _ _ x5_1 1 (wrap64 (10 + (Int.tmod x6_1 10))) (wrap64 (Int.tdiv x6_1 10)) 9 0 5 t337 t340 _ ?side1 ?side2 A12.out).mono ?_); (case side1 => exact qq154); (case side2 => exact (Kd.R_reads' HO_5.out).2.1); rintro e w14 ⟨v338, rfl, ho0, hb⟩; refine ⟨_, rfl, ?_⟩; have n0_ := Aside0.mk (Kd.R_elder' (qq30) (Kd.R_base ho0) hb); have n1_ := Aside0.mk (Kd.R_lower (Kd.R_newB (Kd.R_new' ho0 (Kd.R_lt (qq30))) (g := gb324) (o := .cells #[.int .i64 0, .int .i64 0, .int .i64 0, .int .i64 0, .int .i64 0, .int .i64 0] 26 (0, 0)) (qq105)) (below_size (qq106))); have n2_ := Aside0.mk (blk_below (g := gb324) (o := .cells #[.int .i64 0, .int .i64 0, .int .i64 0, .int .i64 0, .int .i64 0, .int .i64 0] 26 (0, 0)) (qq105) hb); have n3_ := Aside0.mk (IsS72.below (qq108) hb); have n4_ := Aside0.mk (below_step (qq106) hb); clear HO_5; clear BK324; clear HI328; clear HB; have HO_5 := n0_; have HO339 := n1_; have BK324 := n2_; have HI328 := n3_; have HB := n4_; clear n0_ n1_ n2_ n3_ n4_; (try clear hb); (try clear hb2); (try clear hk); (try clear hi); (try clear ho0)))
      go_roundg k1
      case measure => have := HK1.out; omega
      case rel => exact ⟨(t337), (wrap64 (x6_1 + 1)), (qq0), H', ⟨qq8⟩, ⟨by (with_reducible repeat (first | apply Kd.R_alloc | apply Kd.R_drewN | apply Kd.R_drew)); exact Kd.R_mono HO339.out (fun _ hk => hk.2)⟩, ⟨qq105⟩, ⟨qq108⟩, ⟨qq106⟩⟩
     ·rw [if_neg c11] at H
      have c11b0 : decide (x6_1 < 30) = false := decide_eq_false c11
      clear c11
      (first | rw [c11b0] | (simp only [i64_w, i32_w]; rw [c11b0]) | skip)
      have H' := Aside0.mk H
      clear H
      go_wp2
      go_meet
      case rel => exact ⟨_, (x5_1), H', ⟨by have := HK1.out; first | omega | exact Nat.le_refl _⟩, ⟨qq30⟩, ⟨qq105⟩, ⟨qq108⟩, ⟨qq106⟩⟩
  ·replace c10 := Bool.eq_false_iff.mpr c10
   subst c10
   have H1 : (spec_DrawPutFact.j1 k t329 t325 t335 t336) = some (r1, r2, r3, r4, r5, r6, r7) := by rw [if_neg (show ¬ (false = true) by decide)] at H; exact H
   clear H
   have H := H1
   clear H1
   have H' := Aside0.mk H
   clear H
   go_wp2
   go_meet
   case rel => exact ⟨_, (t329), H', ⟨qq22⟩, ⟨qq107⟩, ⟨qq105⟩, ⟨qq108⟩, ⟨qq106⟩⟩
 case rest =>
  clear HC5
  try clear c1
  try clear c2
  try clear p2
  try clear c3
  try clear p6
  try clear c9
  try clear c10
  try clear c11
  try clear c11b0
  try clear p2
  obtain ⟨kq, x5_4, HA, HJ4, HO_5, BK324, HI328, HB⟩ := hcut
  cases kq with
  | zero => exact absurd HA.out (by simp [spec_DrawPutFact.j1])
  | succ kj4 =>
   have H := HA.out
   clear HA
   simp only [spec_DrawPutFact.j1] at H
   replace H := Option.bind_eq_some_iff.mp H
   obtain ⟨⟨t341, t342, t343, t344, t345, t346, t347, t348⟩, A150, H⟩ := H
   replace H : (if (x5_4.length : Int) > 0 then ((spec_l1Once.f t325 t347 t348 3).bind fun bt350 => (spec_DrawPutFact.j2 kj4 x5_4 bt350.1 t325 bt350.2.1 bt350.2.2 t341 t342 t343 t344 t345 t346)) else (spec_DrawPutFact.j2 kj4 x5_4 false t325 t347 t348 t341 t342 t343 t344 t345 t346)) = some (r1, r2, r3, r4, r5, r6, r7) := H
   have A15 := Aside0.mk A150
   clear A150
   have HC16 := Aside0.mk H
   clear H
   go_upto_region 9 with (first | ((with_reducible refine gate_callee (f := 35) rfl ?_); refine goesL_ (some 30) rfl rfl Try.func35 (by kernel_rfl) rfl #[.pointer (some ⟨g328, 0, none⟩)] rfl (qq5) ?_; (with_reducible refine (spec_l6Any.calls g328 t325 t335 t336 t341 t342 t343 t344 t345 t346 t347 t348 w _ ?side1 ?side2 A15.out).mono ?_); (case side1 => exact qq108); (case side2 => exact qq106); rintro e w17 ⟨rfl, hi, hb, hk⟩; refine ⟨_, rfl, ?_⟩; have n0_ := Aside0.mk (Kd.R_mono (Kd.R_keep (IsS72.apart (show IsS72 w _ g328 t325 t335 t336 from by repeat (first | (with_reducible first | exact HI328.out | apply IsS72.alloc | apply IsS72.drewN | apply IsS72.drew | apply IsS72.set_1 | apply IsS72.set_2 | refine IsS72.far ?_ NB328_324.out _) | exact HI328.out)) (qq30) (by decide)) hk (fun _ h => h.2)) (fun _ h => h.1)); have n1_ := Aside0.mk (KeepBut.blk hk (g' := gb324) (o := .cells #[.int .i64 0, .int .i64 0, .int .i64 0, .int .i64 0, .int .i64 0, .int .i64 0] 26 (0, 0)) (qq105) NB324_328.out (by simp)); have n2_ := Aside0.mk (hb); have n3_ := Aside0.mk (hi); clear HO_5; clear BK324; clear HB; clear HI328; have HO_5 := n0_; have BK324 := n1_; have HB := n2_; have HI328 := n3_; clear n0_ n1_ n2_ n3_; (try clear hb); (try clear hb2); (try clear hk); (try clear hi)) | ((with_reducible refine gate_dst (N := 7) rfl ?_); refine box_event ?hg (N := 7) ?hd (cs := #[.int .i64 0, .int .i64 0, .int .i64 0, .int .i64 0, .int .i64 0, .int .i64 0]) (t := 26) ?hr ?_; (case hd => rfl); (case hg => rfl); (case hr => first | (go_simp; done) | (go_simp; rfl)); intro gb349 hg w18 hbox hb; have n0_ := Aside0.mk (Kd.R_below (Kd.R_elderB (qq30) gb349 (Nat.le_of_eq hg.symm)) hb); have n1_ := Aside0.mk (blk_below (g := gb324) (o := .cells #[.int .i64 0, .int .i64 0, .int .i64 0, .int .i64 0, .int .i64 0, .int .i64 0] 26 (0, 0)) (qq105) hb); have n2_ := Aside0.mk (IsS72.below (qq108) hb); have n3_ := Aside0.mk (below_step (qq106) hb); have n4_ := Aside0.mk (hbox); have n5_ := Aside0.mk ((by rw [hg]; exact (below_size (qq106)) : w.heap.size ≤ gb349)); have n6_ := Aside0.mk ((by rw [hg]; exact (below_size (qq106)) : w.heap.size ≤ gb349)); have n7_ := Aside0.mk ((by rw [hg]; exact Nat.ne_of_lt (blk_lt (g := gb324) (o := .cells #[.int .i64 0, .int .i64 0, .int .i64 0, .int .i64 0, .int .i64 0, .int .i64 0] 26 (0, 0)) (qq105)) : gb324 ≠ gb349)); have n8_ := Aside0.mk ((by rw [hg]; exact Nat.ne_of_gt (blk_lt (g := gb324) (o := .cells #[.int .i64 0, .int .i64 0, .int .i64 0, .int .i64 0, .int .i64 0, .int .i64 0] 26 (0, 0)) (qq105)) : gb349 ≠ gb324)); have n9_ := Aside0.mk ((by rw [hg]; exact Nat.ne_of_lt (IsS72.lt (show IsS72 w _ g328 t325 t347 t348 from by repeat (first | (with_reducible first | exact HI328.out | apply IsS72.alloc | apply IsS72.drewN | apply IsS72.drew | apply IsS72.set_1 | apply IsS72.set_2 | refine IsS72.far ?_ NB328_324.out _) | exact HI328.out))) : g328 ≠ gb349)); have n10_ := Aside0.mk ((by rw [hg]; exact Nat.ne_of_gt (IsS72.lt (show IsS72 w _ g328 t325 t347 t348 from by repeat (first | (with_reducible first | exact HI328.out | apply IsS72.alloc | apply IsS72.drewN | apply IsS72.drew | apply IsS72.set_1 | apply IsS72.set_2 | refine IsS72.far ?_ NB328_324.out _) | exact HI328.out))) : gb349 ≠ g328)); clear HO_5; clear BK324; clear HI328; clear HB; have HO_5 := n0_; have BK324 := n1_; have HI328 := n2_; have HB := n3_; have BK349 := n4_; have GW349 := n5_; have GE349 := n6_; have NB324_349 := n7_; have NB349_324 := n8_; have NB328_349 := n9_; have NB349_328 := n10_; clear n0_ n1_ n2_ n3_ n4_ n5_ n6_ n7_ n8_ n9_ n10_; clear hb hbox hg; have hnb19 := NB349_324.out; have hnc19 := NB324_349.out; have hnb20 := NB349_328.out; have hnc20 := NB328_349.out; have hcz21_0 : w18.cell? ⟨gb349, 0, none⟩ = some (.int .i64 0) := (blk_cell BK349.out 0).trans rfl; have hcz21_1 : w18.cell? ⟨gb349, 1, none⟩ = some (.int .i64 0) := (blk_cell BK349.out 1).trans rfl; have hcz21_2 : w18.cell? ⟨gb349, 2, none⟩ = some (.int .i64 0) := (blk_cell BK349.out 2).trans rfl; have hcz21_3 : w18.cell? ⟨gb349, 3, none⟩ = some (.int .i64 0) := (blk_cell BK349.out 3).trans rfl; have hcz21_4 : w18.cell? ⟨gb349, 4, none⟩ = some (.int .i64 0) := (blk_cell BK349.out 4).trans rfl; have hcz21_5 : w18.cell? ⟨gb349, 5, none⟩ = some (.int .i64 0) := (blk_cell BK349.out 5).trans rfl; have hfz21_0 := blk_frozen BK349.out 0; have hfz21_1 := blk_frozen BK349.out 1; have hfz21_2 := blk_frozen BK349.out 2; have hfz21_3 := blk_frozen BK349.out 3; have hfz21_4 := blk_frozen BK349.out 4; have hfz21_5 := blk_frozen BK349.out 5))
   (try simp only [Act.put, List.setIfInBounds_toArray, List.set_cons_zero, List.set_cons_succ])
   go_cut [37] (fun v37 wc => ∃ (kq : Nat) (x37_15 : Bool) (x329001_15 : Int) (x329002_15 : Int), v37 = .bool x37_15 ∧ Aside0 (spec_DrawPutFact.j2 kq x5_4 x37_15 t325 x329001_15 x329002_15 t341 t342 t343 t344 t345 t346 = some (r1, r2, r3, r4, r5, r6, r7)) ∧ Aside0 (kq ≤ kj4) ∧ Aside0 (Kd.R k26 26 wc w.heap.size (fun k_ => k_ ≠ gb324 ∧ k_ ≠ gb349) u5 x5_4) ∧ Aside0 (wc.heap[gb324]? = some (.cells #[.int .i64 0, .int .i64 0, .int .i64 0, .int .i64 0, .int .i64 0, .int .i64 0] 26 (0, 0))) ∧ Aside0 (wc.heap[gb349]? = some (.cells #[.int .i64 t341, .int .i64 t342, .int .i64 t343, .int .i64 t344, .int .i64 t345, .int .i64 t346] 26 (0, 0))) ∧ Aside0 (IsS72 w wc g328 t325 x329001_15 x329002_15) ∧ Aside0 (Below w.heap.size w wc))
   case first =>
    have H := HC16.out
    clear HC16
    by_cases c22 : (x5_4.length : Int) > 0
    ·rw [if_pos c22] at H
     have c22b0 : decide (0 < (x5_4.length : Int)) = true := decide_eq_true c22
     have c22b1 : decide (0 < x5_4.length) = true := decide_eq_true (by omega)
     clear c22
     (first | rw [c22b0] | (simp only [i64_w, i32_w]; rw [c22b0]) | skip)
     replace H := Option.bind_eq_some_iff.mp H
     obtain ⟨⟨t350, t351, t352⟩, A230, H⟩ := H
     replace H : (spec_DrawPutFact.j2 kj4 x5_4 t350 t325 t351 t352 t341 t342 t343 t344 t345 t346) = some (r1, r2, r3, r4, r5, r6, r7) := H
     have A23 := Aside0.mk A230
     clear A230
     have H' := Aside0.mk H
     clear H
     obtain ⟨Ao24, co24, eo24⟩ := Kd.R_slice HO_5.out
     subst eo24
     go_wp2_with (first | (go_at_call 34; (with_reducible refine (spec_l1Once.calls g328 t325 t347 t348 3 t350 t351 t352 w _ ?side1 ?side2 A23.out).mono ?_); (case side1 => exact qq112); (case side2 => exact qq113); rintro e w25 ⟨rfl, hi, hb, hk⟩; have n0_ := Aside0.mk (Kd.R_mono (Kd.R_keep (IsS72.apart (show IsS72 w _ g328 t325 t347 t348 from by repeat (first | (with_reducible first | exact HI328.out | apply IsS72.alloc | apply IsS72.drewN | apply IsS72.drew | apply IsS72.set_1 | apply IsS72.set_2 | refine IsS72.far ?_ NB328_324.out _ | refine IsS72.far ?_ NB328_349.out _) | exact HI328.out)) (by (with_reducible repeat (first | apply Kd.R_alloc | apply Kd.R_drewN | apply Kd.R_drew)); exact (Kd.R_mono (Kd.R_far (p := ⟨gb349, 5, none⟩) (Kd.R_far (p := ⟨gb349, 4, none⟩) (Kd.R_far (p := ⟨gb349, 3, none⟩) (Kd.R_far (p := ⟨gb349, 2, none⟩) (Kd.R_far (p := ⟨gb349, 1, none⟩) (Kd.R_far (p := ⟨gb349, 0, none⟩) (Kd.R_mono HO_5.out (fun k_ hk => (⟨hk, hk.2⟩ : _ ∧ k_ ≠ gb349))) (fun _ hk => hk.2) (.int .i64 t341)) (fun _ hk => hk.2) (.int .i64 t342)) (fun _ hk => hk.2) (.int .i64 t343)) (fun _ hk => hk.2) (.int .i64 t344)) (fun _ hk => hk.2) (.int .i64 t345)) (fun _ hk => hk.2) (.int .i64 t346)) (fun _ h_ => h_.1))) (by decide)) hk (fun _ h => h.2)) (fun _ h => h.1)); have n1_ := Aside0.mk (KeepBut.blk hk (g' := gb324) (o := .cells #[.int .i64 0, .int .i64 0, .int .i64 0, .int .i64 0, .int .i64 0, .int .i64 0] 26 (0, 0)) (qq109) NB324_328.out (by simp)); have n2_ := Aside0.mk (KeepBut.blk hk (g' := gb349) (o := .cells #[.int .i64 t341, .int .i64 t342, .int .i64 t343, .int .i64 t344, .int .i64 t345, .int .i64 t346] 26 (0, 0)) (qq110) NB349_328.out (by simp)); have n3_ := Aside0.mk (hb); have n4_ := Aside0.mk (hi); clear HO_5; clear BK324; clear BK349; clear HB; clear HI328; have HO_5 := n0_; have BK324 := n1_; have BK349 := n2_; have HB := n3_; have HI328 := n4_; clear n0_ n1_ n2_ n3_ n4_; (try clear hb); (try clear hb2); (try clear hk); (try clear hi)))
     go_meet
     case rel => exact ⟨_, (t350), (t351), (t352), (qq0), H', ⟨by have := HJ4.out; first | omega | exact Nat.le_refl _⟩, ⟨qq30⟩, ⟨qq105⟩, ⟨qq111⟩, ⟨qq112⟩, ⟨qq113⟩⟩
    ·rw [if_neg c22] at H
     have c22b0 : decide (0 < (x5_4.length : Int)) = false := decide_eq_false c22
     have c22b1 : decide (0 < x5_4.length) = false := decide_eq_false (by omega)
     clear c22
     (first | rw [c22b0] | (simp only [i64_w, i32_w]; rw [c22b0]) | skip)
     have H' := Aside0.mk H
     clear H
     obtain ⟨Ao26, co26, eo26⟩ := Kd.R_slice HO_5.out
     subst eo26
     go_wp2
     go_meet
     case rel => exact ⟨_, (false), (t347), (t348), (qq0), H', ⟨by have := HJ4.out; first | omega | exact Nat.le_refl _⟩, ⟨by (with_reducible repeat (first | apply Kd.R_alloc | apply Kd.R_drewN | apply Kd.R_drew)); exact Kd.R_mono (Kd.R_far (p := ⟨gb349, 5, none⟩) (Kd.R_far (p := ⟨gb349, 4, none⟩) (Kd.R_far (p := ⟨gb349, 3, none⟩) (Kd.R_far (p := ⟨gb349, 2, none⟩) (Kd.R_far (p := ⟨gb349, 1, none⟩) (Kd.R_far (p := ⟨gb349, 0, none⟩) (Kd.R_mono HO_5.out (fun k_ hk => (⟨hk, hk.2⟩ : _ ∧ k_ ≠ gb349))) (fun _ hk => hk.2) (.int .i64 t341)) (fun _ hk => hk.2) (.int .i64 t342)) (fun _ hk => hk.2) (.int .i64 t343)) (fun _ hk => hk.2) (.int .i64 t344)) (fun _ hk => hk.2) (.int .i64 t345)) (fun _ hk => hk.2) (.int .i64 t346)) (fun _ hk => ⟨hk.1.1, hk.1.2⟩)⟩, ⟨qq109⟩, ⟨qq110⟩, ⟨qq112⟩, ⟨qq113⟩⟩
   case rest =>
    clear HC16
    try clear c1
    try clear c2
    try clear p2
    try clear c3
    try clear p6
    try clear c9
    try clear c10
    try clear c11
    try clear c11b0
    try clear c19
    try clear c20
    try clear c22
    try clear c22b0
    try clear c22b1
    try clear hcz21_0
    try clear hcz21_1
    try clear hcz21_2
    try clear hcz21_3
    try clear hcz21_4
    try clear hcz21_5
    try clear hfz21_0
    try clear hfz21_1
    try clear hfz21_2
    try clear hfz21_3
    try clear hfz21_4
    try clear hfz21_5
    try clear p2
    try clear p6
    obtain ⟨kq, x37_15, x329001_15, x329002_15, rfl, HA, HJ15, HO_5, BK324, BK349, HI328, HB⟩ := hcut
    cases kq with
    | zero => exact absurd HA.out (by simp [spec_DrawPutFact.j2])
    | succ kj15 =>
     have H := HA.out
     clear HA
     simp only [spec_DrawPutFact.j2] at H
     by_cases c27 : x37_15 = true
     ·subst c27
      have H1 : ((spec_l1Below.f t325 x329001_15 x329002_15 (x5_4.length : Int)).bind fun bt353 => (if 0 ≤ bt353.1 then (if bt353.1 < (x5_4.length : Int) then ((spec_l1Below.f t325 bt353.2.1 bt353.2.2 30).bind fun bt357 => (some (x5_4, (rd_T26 x5_4 bt353.1).f0, (rd_T26 x5_4 bt353.1).f1, (rd_T26 x5_4 bt353.1).f2, (rd_T26 x5_4 bt353.1).f3, bt357.1, (rd_T26 x5_4 bt353.1).f5))) else (none)) else (none))) = some (r1, r2, r3, r4, r5, r6, r7) := by rw [if_pos rfl] at H; exact H
      clear H
      have H := H1
      clear H1
      replace H := Option.bind_eq_some_iff.mp H
      obtain ⟨⟨t353, t354, t355⟩, A280, H⟩ := H
      replace H : (if 0 ≤ t353 then (if t353 < (x5_4.length : Int) then ((spec_l1Below.f t325 t354 t355 30).bind fun bt357 => (some (x5_4, (rd_T26 x5_4 t353).f0, (rd_T26 x5_4 t353).f1, (rd_T26 x5_4 t353).f2, (rd_T26 x5_4 t353).f3, bt357.1, (rd_T26 x5_4 t353).f5))) else (none)) else (none)) = some (r1, r2, r3, r4, r5, r6, r7) := H
      have A28 := Aside0.mk A280
      clear A280
      by_cases c29 : 0 ≤ t353
      ·rw [if_pos c29] at H
       have c29b0 : decide (0 ≤ t353) = true := decide_eq_true c29
       clear c29
       by_cases c30 : t353 < (x5_4.length : Int)
       ·rw [if_pos c30] at H
        have c30b0 : decide (t353 < (x5_4.length : Int)) = true := decide_eq_true c30
        clear c30
        replace H := Option.bind_eq_some_iff.mp H
        obtain ⟨⟨t357, t358, t359⟩, A310, H⟩ := H
        replace H : (some (x5_4, (rd_T26 x5_4 t353).f0, (rd_T26 x5_4 t353).f1, (rd_T26 x5_4 t353).f2, (rd_T26 x5_4 t353).f3, t357, (rd_T26 x5_4 t353).f5)) = some (r1, r2, r3, r4, r5, r6, r7) := H
        have A31 := Aside0.mk A310
        clear A310
        simp only [Option.some.injEq, Prod.mk.injEq] at H
        obtain ⟨rfl, rfl, rfl, rfl, rfl, rfl, rfl⟩ := H
        obtain ⟨Ao32, co32, eo32⟩ := Kd.R_slice HO_5.out
        subst eo32
        try go_wp2_with (first | ((with_reducible refine gate_callee (f := 36) rfl ?_); refine goesL_ (some 42) rfl rfl Try.func36 (by kernel_rfl) rfl #[.pointer (some ⟨g328, 0, none⟩), .int .i64 (x5_4.length : Int)] rfl (qq5) ?_; (with_reducible refine (spec_l1Below.calls g328 t325 x329001_15 x329002_15 (x5_4.length : Int) t353 t354 t355 w _ ?side1 ?side2 A28.out).mono ?_); (case side1 => exact qq112); (case side2 => exact qq113); rintro e w33 ⟨rfl, hi, hb, hk⟩; refine ⟨_, rfl, ?_⟩; have n0_ := Aside0.mk (Kd.R_mono (Kd.R_keep (IsS72.apart (show IsS72 w _ g328 t325 x329001_15 x329002_15 from by repeat (first | (with_reducible first | exact HI328.out | apply IsS72.alloc | apply IsS72.drewN | apply IsS72.drew | apply IsS72.set_1 | apply IsS72.set_2 | refine IsS72.far ?_ NB328_324.out _ | refine IsS72.far ?_ NB328_349.out _) | exact HI328.out)) (qq30) (by decide)) hk (fun _ h => h.2)) (fun _ h => h.1)); have n1_ := Aside0.mk (KeepBut.blk hk (g' := gb324) (o := .cells #[.int .i64 0, .int .i64 0, .int .i64 0, .int .i64 0, .int .i64 0, .int .i64 0] 26 (0, 0)) (qq105) NB324_328.out (by simp)); have n2_ := Aside0.mk (KeepBut.blk hk (g' := gb349) (o := .cells #[.int .i64 t341, .int .i64 t342, .int .i64 t343, .int .i64 t344, .int .i64 t345, .int .i64 t346] 26 (0, 0)) (qq111) NB349_328.out (by simp)); have n3_ := Aside0.mk (hb); have n4_ := Aside0.mk (hi); clear HO_5; clear BK324; clear BK349; clear HB; clear HI328; have HO_5 := n0_; have BK324 := n1_; have BK349 := n2_; have HB := n3_; have HI328 := n4_; clear n0_ n1_ n2_ n3_ n4_; (try clear hb); (try clear hb2); (try clear hk); (try clear hi); have p356 : 0 ≤ (t353 : Int) := of_decide_eq_true (qq2); have q356 : t353 < (x5_4.length : Int) := of_decide_eq_true (qq2); obtain ⟨ad356, e356, hx356_0, hx356_1, hx356_2, hx356_3, hx356_4, hx356_5⟩ := at_T26 (Kd.R_reads' HO_5.out).2.2 t353 p356 q356; cases e356; replace p356 := eq_true p356; replace q356 := eq_true q356; have hnb34 := NB349_324.out; have hnc34 := NB324_349.out; have hnb35 := NB349_328.out; have hnc35 := NB328_349.out; have hcz36_0 : w33.cell? ⟨gb349, 0, none⟩ = some (.int .i64 t341) := (blk_cell BK349.out 0).trans rfl; have hcz36_1 : w33.cell? ⟨gb349, 1, none⟩ = some (.int .i64 t342) := (blk_cell BK349.out 1).trans rfl; have hcz36_2 : w33.cell? ⟨gb349, 2, none⟩ = some (.int .i64 t343) := (blk_cell BK349.out 2).trans rfl; have hcz36_3 : w33.cell? ⟨gb349, 3, none⟩ = some (.int .i64 t344) := (blk_cell BK349.out 3).trans rfl; have hcz36_4 : w33.cell? ⟨gb349, 4, none⟩ = some (.int .i64 t345) := (blk_cell BK349.out 4).trans rfl; have hcz36_5 : w33.cell? ⟨gb349, 5, none⟩ = some (.int .i64 t346) := (blk_cell BK349.out 5).trans rfl; have hfz36_0 := blk_frozen BK349.out 0; have hfz36_1 := blk_frozen BK349.out 1; have hfz36_2 := blk_frozen BK349.out 2; have hfz36_3 := blk_frozen BK349.out 3; have hfz36_4 := blk_frozen BK349.out 4; have hfz36_5 := blk_frozen BK349.out 5) | ((with_reducible refine gate_callee (f := 36) rfl ?_); refine goesL_ (some 46) rfl rfl Try.func36 (by kernel_rfl) rfl #[.pointer (some ⟨g328, 0, none⟩), .int .i64 30] rfl (qq5) ?_; (with_reducible refine (spec_l1Below.calls g328 t325 t354 t355 30 t357 t358 t359 w _ ?side1 ?side2 A31.out).mono ?_); (case side1 => exact qq112); (case side2 => exact qq113); rintro e w37 ⟨rfl, hi, hb, hk⟩; refine ⟨_, rfl, ?_⟩; have n0_ := Aside0.mk (Kd.R_mono (Kd.R_keep (IsS72.apart (show IsS72 w _ g328 t325 t354 t355 from by repeat (first | (with_reducible first | exact HI328.out | apply IsS72.alloc | apply IsS72.drewN | apply IsS72.drew | apply IsS72.set_1 | apply IsS72.set_2 | refine IsS72.far ?_ NB328_324.out _ | refine IsS72.far ?_ NB328_349.out _) | exact HI328.out)) (by (with_reducible repeat (first | apply Kd.R_alloc | apply Kd.R_drewN | apply Kd.R_drew)); exact (Kd.R_mono (Kd.R_far (p := ⟨gb349, 5, none⟩) (Kd.R_far (p := ⟨gb349, 4, none⟩) (Kd.R_far (p := ⟨gb349, 3, none⟩) (Kd.R_far (p := ⟨gb349, 2, none⟩) (Kd.R_far (p := ⟨gb349, 1, none⟩) (Kd.R_far (p := ⟨gb349, 0, none⟩) (Kd.R_mono HO_5.out (fun k_ hk => (⟨hk, hk.2⟩ : _ ∧ k_ ≠ gb349))) (fun _ hk => hk.2) (.int .i64 ((rd_T26 x5_4 t353).f0))) (fun _ hk => hk.2) (.int .i64 ((rd_T26 x5_4 t353).f1))) (fun _ hk => hk.2) (.int .i64 ((rd_T26 x5_4 t353).f2))) (fun _ hk => hk.2) (.int .i64 ((rd_T26 x5_4 t353).f3))) (fun _ hk => hk.2) (.int .i64 ((rd_T26 x5_4 t353).f4))) (fun _ hk => hk.2) (.int .i64 ((rd_T26 x5_4 t353).f5))) (fun _ h_ => h_.1))) (by decide)) hk (fun _ h => h.2)) (fun _ h => h.1)); have n1_ := Aside0.mk (KeepBut.blk hk (g' := gb324) (o := .cells #[.int .i64 0, .int .i64 0, .int .i64 0, .int .i64 0, .int .i64 0, .int .i64 0] 26 (0, 0)) (qq109) NB324_328.out (by simp)); have n2_ := Aside0.mk (KeepBut.blk hk (g' := gb349) (o := .cells #[.int .i64 ((rd_T26 x5_4 t353).f0), .int .i64 ((rd_T26 x5_4 t353).f1), .int .i64 ((rd_T26 x5_4 t353).f2), .int .i64 ((rd_T26 x5_4 t353).f3), .int .i64 ((rd_T26 x5_4 t353).f4), .int .i64 ((rd_T26 x5_4 t353).f5)] 26 (0, 0)) (by (with_reducible repeat (first | refine blk_drewN ?_ _ | refine blk_drew ?_ | refine blk_alloc ?_ _)); refine blk_put (cs := #[.int .i64 ((rd_T26 x5_4 t353).f0), .int .i64 ((rd_T26 x5_4 t353).f1), .int .i64 ((rd_T26 x5_4 t353).f2), .int .i64 ((rd_T26 x5_4 t353).f3), .int .i64 ((rd_T26 x5_4 t353).f4), .int .i64 t346]) ?_ 5 _ rfl; (with_reducible repeat (first | refine blk_drewN ?_ _ | refine blk_drew ?_ | refine blk_alloc ?_ _)); refine blk_put (cs := #[.int .i64 ((rd_T26 x5_4 t353).f0), .int .i64 ((rd_T26 x5_4 t353).f1), .int .i64 ((rd_T26 x5_4 t353).f2), .int .i64 ((rd_T26 x5_4 t353).f3), .int .i64 t345, .int .i64 t346]) ?_ 4 _ rfl; (with_reducible repeat (first | refine blk_drewN ?_ _ | refine blk_drew ?_ | refine blk_alloc ?_ _)); refine blk_put (cs := #[.int .i64 ((rd_T26 x5_4 t353).f0), .int .i64 ((rd_T26 x5_4 t353).f1), .int .i64 ((rd_T26 x5_4 t353).f2), .int .i64 t344, .int .i64 t345, .int .i64 t346]) ?_ 3 _ rfl; (with_reducible repeat (first | refine blk_drewN ?_ _ | refine blk_drew ?_ | refine blk_alloc ?_ _)); refine blk_put (cs := #[.int .i64 ((rd_T26 x5_4 t353).f0), .int .i64 ((rd_T26 x5_4 t353).f1), .int .i64 t343, .int .i64 t344, .int .i64 t345, .int .i64 t346]) ?_ 2 _ rfl; (with_reducible repeat (first | refine blk_drewN ?_ _ | refine blk_drew ?_ | refine blk_alloc ?_ _)); refine blk_put (cs := #[.int .i64 ((rd_T26 x5_4 t353).f0), .int .i64 t342, .int .i64 t343, .int .i64 t344, .int .i64 t345, .int .i64 t346]) ?_ 1 _ rfl; (with_reducible repeat (first | refine blk_drewN ?_ _ | refine blk_drew ?_ | refine blk_alloc ?_ _)); refine blk_put (cs := #[.int .i64 t341, .int .i64 t342, .int .i64 t343, .int .i64 t344, .int .i64 t345, .int .i64 t346]) ?_ 0 _ rfl; (with_reducible repeat (first | refine blk_drewN ?_ _ | refine blk_drew ?_ | refine blk_alloc ?_ _)); exact BK349.out) NB349_328.out (by simp)); have n3_ := Aside0.mk (hb); have n4_ := Aside0.mk (hi); clear HO_5; clear BK324; clear BK349; clear HB; clear HI328; have HO_5 := n0_; have BK324 := n1_; have BK349 := n2_; have HB := n3_; have HI328 := n4_; clear n0_ n1_ n2_ n3_ n4_; (try clear hb); (try clear hb2); (try clear hk); (try clear hi); have hcz38_0 : w37.cell? ⟨gb349, 0, none⟩ = some (.int .i64 ((rd_T26 x5_4 t353).f0)) := (blk_cell BK349.out 0).trans rfl; have hcz38_1 : w37.cell? ⟨gb349, 1, none⟩ = some (.int .i64 ((rd_T26 x5_4 t353).f1)) := (blk_cell BK349.out 1).trans rfl; have hcz38_2 : w37.cell? ⟨gb349, 2, none⟩ = some (.int .i64 ((rd_T26 x5_4 t353).f2)) := (blk_cell BK349.out 2).trans rfl; have hcz38_3 : w37.cell? ⟨gb349, 3, none⟩ = some (.int .i64 ((rd_T26 x5_4 t353).f3)) := (blk_cell BK349.out 3).trans rfl; have hcz38_4 : w37.cell? ⟨gb349, 4, none⟩ = some (.int .i64 ((rd_T26 x5_4 t353).f4)) := (blk_cell BK349.out 4).trans rfl; have hcz38_5 : w37.cell? ⟨gb349, 5, none⟩ = some (.int .i64 ((rd_T26 x5_4 t353).f5)) := (blk_cell BK349.out 5).trans rfl; have hfz38_0 := blk_frozen BK349.out 0; have hfz38_1 := blk_frozen BK349.out 1; have hfz38_2 := blk_frozen BK349.out 2; have hfz38_3 := blk_frozen BK349.out 3; have hfz38_4 := blk_frozen BK349.out 4; have hfz38_5 := blk_frozen BK349.out 5))
        have n0_ : Aside0 (Kd.R k26 26 (w37.setCell ⟨gb349, 4, none⟩ (.int .i64 t357)) w.heap.size (fun k_ => k_ ≠ gb324 ∧ k_ ≠ gb349) (.slice (some ad356) x5_4.length co32) x5_4) := ⟨by (with_reducible repeat (first | apply Kd.R_alloc | apply Kd.R_drewN | apply Kd.R_drew)); exact Kd.R_mono (Kd.R_far (p := ⟨gb349, 4, none⟩) (Kd.R_mono HO_5.out (fun k_ hk => (⟨hk, hk.2⟩ : _ ∧ k_ ≠ gb349))) (fun _ hk => hk.2) (.int .i64 t357)) (fun _ hk => ⟨hk.1.1, hk.1.2⟩)⟩
        have n1_ : Aside0 ((w37.setCell ⟨gb349, 4, none⟩ (.int .i64 t357)).heap[gb324]? = some (.cells #[.int .i64 0, .int .i64 0, .int .i64 0, .int .i64 0, .int .i64 0, .int .i64 0] 26 (0, 0))) := ⟨by (with_reducible repeat (first | refine blk_drewN ?_ _ | refine blk_drew ?_ | refine blk_alloc ?_ _)); refine blk_far ?_ NB324_349.out _; (with_reducible repeat (first | refine blk_drewN ?_ _ | refine blk_drew ?_ | refine blk_alloc ?_ _)); exact BK324.out⟩
        have n2_ : Aside0 ((w37.setCell ⟨gb349, 4, none⟩ (.int .i64 t357)).heap[gb349]? = some (.cells #[.int .i64 ((rd_T26 x5_4 t353).f0), .int .i64 ((rd_T26 x5_4 t353).f1), .int .i64 ((rd_T26 x5_4 t353).f2), .int .i64 ((rd_T26 x5_4 t353).f3), .int .i64 t357, .int .i64 ((rd_T26 x5_4 t353).f5)] 26 (0, 0))) := ⟨by (with_reducible repeat (first | refine blk_drewN ?_ _ | refine blk_drew ?_ | refine blk_alloc ?_ _)); refine blk_put (cs := #[.int .i64 ((rd_T26 x5_4 t353).f0), .int .i64 ((rd_T26 x5_4 t353).f1), .int .i64 ((rd_T26 x5_4 t353).f2), .int .i64 ((rd_T26 x5_4 t353).f3), .int .i64 ((rd_T26 x5_4 t353).f4), .int .i64 ((rd_T26 x5_4 t353).f5)]) ?_ 4 _ rfl; (with_reducible repeat (first | refine blk_drewN ?_ _ | refine blk_drew ?_ | refine blk_alloc ?_ _)); exact BK349.out⟩
        have n3_ : Aside0 (IsS72 w (w37.setCell ⟨gb349, 4, none⟩ (.int .i64 t357)) g328 t325 t358 t359) := ⟨qq112⟩
        have n4_ : Aside0 (Below w.heap.size w (w37.setCell ⟨gb349, 4, none⟩ (.int .i64 t357))) := ⟨qq113⟩
        (try clear HO_5)
        (try clear BK324)
        (try clear BK349)
        (try clear HI328)
        (try clear HB)
        generalize (w37.setCell ⟨gb349, 4, none⟩ (.int .i64 t357)) = w39 at n0_ n1_ n2_ n3_ n4_ ⊢
        have HO_5 := n0_
        have BK324 := n1_
        have BK349 := n2_
        have HI328 := n3_
        have HB := n4_
        clear n0_ n1_ n2_ n3_ n4_
        have n0_ := Aside0.mk (Kd.R_drew HO_5.out)
        have n1_ := Aside0.mk (blk_drew BK324.out)
        have n2_ := Aside0.mk (blk_drew BK349.out)
        have n3_ := Aside0.mk (IsS72.drew HI328.out)
        have n4_ := Aside0.mk (below_drew1 HB.out)
        clear HO_5
        clear BK324
        clear BK349
        clear HI328
        clear HB
        have HO_5 := n0_
        have BK324 := n1_
        have BK349 := n2_
        have HI328 := n3_
        have HB := n4_
        clear n0_ n1_ n2_ n3_ n4_
        refine start_ (n := 4) (S := fun w' => w'.cell? ⟨gb349, 0, none⟩ = some (.int .i64 ((rd_T26 x5_4 t353).f0)) ∧ w'.cell? ⟨gb349, 1, none⟩ = some (.int .i64 ((rd_T26 x5_4 t353).f1)) ∧ w'.cell? ⟨gb349, 2, none⟩ = some (.int .i64 ((rd_T26 x5_4 t353).f2)) ∧ w'.cell? ⟨gb349, 3, none⟩ = some (.int .i64 ((rd_T26 x5_4 t353).f3)) ∧ w'.cell? ⟨gb349, 4, none⟩ = some (.int .i64 t357) ∧ w'.cell? ⟨gb349, 5, none⟩ = some (.int .i64 ((rd_T26 x5_4 t353).f5))) (ds := []) #[false, false, false, false] (by kernel_rfl) rfl rfl ⟨(blk_cell BK349.out 0).trans rfl, (blk_cell BK349.out 1).trans rfl, (blk_cell BK349.out 2).trans rfl, (blk_cell BK349.out 3).trans rfl, (blk_cell BK349.out 4).trans rfl, (blk_cell BK349.out 5).trans rfl⟩ (fun hHeld => ?_)
        generalize w39.drew = w40 at HO_5 BK324 BK349 HI328 HB hHeld ⊢
        refine pure_ (i := 0) (N := some 48) (v := ?_) (a' := ?_) #[true, false, false, false] rfl rfl (by kernel_rfl) (fun _ _ _ h => h) (Or.inl ⟨by rfl, ?_⟩) ?_ ?_
        rotate_left
        ·intro w'
         go_simp
         with_reducible rfl
        rotate_left
        ·exact qq161
        refine pure_ (i := 2) (N := some 2) (v := ?_) (a' := ?_) #[true, false, true, false] rfl rfl (by kernel_rfl) (fun _ _ _ h => h) (Or.inl ⟨by rfl, ?_⟩) ?_ ?_
        rotate_left
        ·intro w'
         go_simp
         with_reducible rfl
        rotate_left
        ·exact qq161
        refine take_ (i := 1) (N := some 49) (v := ?_) (a' := ?_) #[true, true, true, false] rfl rfl (by kernel_rfl) (fun _ _ _ h => h) (Or.inl ⟨by rfl, ?_⟩) hHeld ?_ ?_
        rotate_left
        ·rintro w' ⟨s0, s1, s2, s3, s4, s5⟩
         go_simp
         with_reducible rfl
        rotate_left
        ·exact qq161
        refine one_ (i := 3) (N := none) #[true, true, true, true] rfl rfl (by kernel_rfl) (by decide) (fun K hK => ?_)
        have hs41 : w40.cell? ⟨gb324, 0, none⟩ = some (.int .i64 0) := (blk_cell BK324.out 0).trans rfl
        have hfs41 := blk_frozen BK324.out 0
        have hns41_1 := NB349_324.out
        have hms41_1 := NB324_349.out
        have hs42 : w40.cell? ⟨gb324, 1, none⟩ = some (.int .i64 0) := (blk_cell BK324.out 1).trans rfl
        have hfs42 := blk_frozen BK324.out 1
        have hns42_1 := NB349_324.out
        have hms42_1 := NB324_349.out
        have hs43 : w40.cell? ⟨gb324, 2, none⟩ = some (.int .i64 0) := (blk_cell BK324.out 2).trans rfl
        have hfs43 := blk_frozen BK324.out 2
        have hns43_1 := NB349_324.out
        have hms43_1 := NB324_349.out
        have hs44 : w40.cell? ⟨gb324, 3, none⟩ = some (.int .i64 0) := (blk_cell BK324.out 3).trans rfl
        have hfs44 := blk_frozen BK324.out 3
        have hns44_1 := NB349_324.out
        have hms44_1 := NB324_349.out
        have hs45 : w40.cell? ⟨gb324, 4, none⟩ = some (.int .i64 0) := (blk_cell BK324.out 4).trans rfl
        have hfs45 := blk_frozen BK324.out 4
        have hns45_1 := NB349_324.out
        have hms45_1 := NB324_349.out
        have hs46 : w40.cell? ⟨gb324, 5, none⟩ = some (.int .i64 0) := (blk_cell BK324.out 5).trans rfl
        have hfs46 := blk_frozen BK324.out 5
        have hns46_1 := NB349_324.out
        have hms46_1 := NB324_349.out
        refine skip_ (w1 := ?_) (by rfl) rfl ?_ ?_
        rotate_left
        ·go_simp
         rfl
        refine hK.out _ _ ⟨((cell_far (p := ⟨gb324, _, none⟩) NB349_324.out _).trans (((cell_far (p := ⟨gb324, _, none⟩) NB349_324.out _).trans (((cell_far (p := ⟨gb324, _, none⟩) NB349_324.out _).trans (((cell_far (p := ⟨gb324, _, none⟩) NB349_324.out _).trans (((cell_far (p := ⟨gb324, _, none⟩) NB349_324.out _).trans (((cell_far (p := ⟨gb324, _, none⟩) NB349_324.out _).trans (hHeld.1)))))))))))), ((cell_far (p := ⟨gb324, _, none⟩) NB349_324.out _).trans (((cell_far (p := ⟨gb324, _, none⟩) NB349_324.out _).trans (((cell_far (p := ⟨gb324, _, none⟩) NB349_324.out _).trans (((cell_far (p := ⟨gb324, _, none⟩) NB349_324.out _).trans (((cell_far (p := ⟨gb324, _, none⟩) NB349_324.out _).trans (((cell_far (p := ⟨gb324, _, none⟩) NB349_324.out _).trans (hHeld.2.1)))))))))))), ((cell_far (p := ⟨gb324, _, none⟩) NB349_324.out _).trans (((cell_far (p := ⟨gb324, _, none⟩) NB349_324.out _).trans (((cell_far (p := ⟨gb324, _, none⟩) NB349_324.out _).trans (((cell_far (p := ⟨gb324, _, none⟩) NB349_324.out _).trans (((cell_far (p := ⟨gb324, _, none⟩) NB349_324.out _).trans (((cell_far (p := ⟨gb324, _, none⟩) NB349_324.out _).trans (hHeld.2.2.1)))))))))))), ((cell_far (p := ⟨gb324, _, none⟩) NB349_324.out _).trans (((cell_far (p := ⟨gb324, _, none⟩) NB349_324.out _).trans (((cell_far (p := ⟨gb324, _, none⟩) NB349_324.out _).trans (((cell_far (p := ⟨gb324, _, none⟩) NB349_324.out _).trans (((cell_far (p := ⟨gb324, _, none⟩) NB349_324.out _).trans (((cell_far (p := ⟨gb324, _, none⟩) NB349_324.out _).trans (hHeld.2.2.2.1)))))))))))), ((cell_far (p := ⟨gb324, _, none⟩) NB349_324.out _).trans (((cell_far (p := ⟨gb324, _, none⟩) NB349_324.out _).trans (((cell_far (p := ⟨gb324, _, none⟩) NB349_324.out _).trans (((cell_far (p := ⟨gb324, _, none⟩) NB349_324.out _).trans (((cell_far (p := ⟨gb324, _, none⟩) NB349_324.out _).trans (((cell_far (p := ⟨gb324, _, none⟩) NB349_324.out _).trans (hHeld.2.2.2.2.1)))))))))))), ((cell_far (p := ⟨gb324, _, none⟩) NB349_324.out _).trans (((cell_far (p := ⟨gb324, _, none⟩) NB349_324.out _).trans (((cell_far (p := ⟨gb324, _, none⟩) NB349_324.out _).trans (((cell_far (p := ⟨gb324, _, none⟩) NB349_324.out _).trans (((cell_far (p := ⟨gb324, _, none⟩) NB349_324.out _).trans (((cell_far (p := ⟨gb324, _, none⟩) NB349_324.out _).trans (hHeld.2.2.2.2.2))))))))))))⟩ (fun hHeld => ?_)
        clear hK K
        refine done_ (by kernel_rfl) ?_
        try go_wp2
        refine bodyPost_ret (results_tc rfl _ _ gb324 26 #[.int .i64 ((rd_T26 x5_4 t353).f0), .int .i64 ((rd_T26 x5_4 t353).f1), .int .i64 ((rd_T26 x5_4 t353).f2), .int .i64 ((rd_T26 x5_4 t353).f3), .int .i64 t357, .int .i64 ((rd_T26 x5_4 t353).f5)] (0, 0) _ rfl (by (with_reducible repeat (first | refine blk_drewN ?_ _ | refine blk_drew ?_ | refine blk_alloc ?_ _)); refine blk_put (cs := #[.int .i64 ((rd_T26 x5_4 t353).f0), .int .i64 ((rd_T26 x5_4 t353).f1), .int .i64 ((rd_T26 x5_4 t353).f2), .int .i64 ((rd_T26 x5_4 t353).f3), .int .i64 t357, .int .i64 0]) ?_ 5 _ rfl; (with_reducible repeat (first | refine blk_drewN ?_ _ | refine blk_drew ?_ | refine blk_alloc ?_ _)); refine blk_put (cs := #[.int .i64 ((rd_T26 x5_4 t353).f0), .int .i64 ((rd_T26 x5_4 t353).f1), .int .i64 ((rd_T26 x5_4 t353).f2), .int .i64 ((rd_T26 x5_4 t353).f3), .int .i64 0, .int .i64 0]) ?_ 4 _ rfl; (with_reducible repeat (first | refine blk_drewN ?_ _ | refine blk_drew ?_ | refine blk_alloc ?_ _)); refine blk_put (cs := #[.int .i64 ((rd_T26 x5_4 t353).f0), .int .i64 ((rd_T26 x5_4 t353).f1), .int .i64 ((rd_T26 x5_4 t353).f2), .int .i64 0, .int .i64 0, .int .i64 0]) ?_ 3 _ rfl; (with_reducible repeat (first | refine blk_drewN ?_ _ | refine blk_drew ?_ | refine blk_alloc ?_ _)); refine blk_put (cs := #[.int .i64 ((rd_T26 x5_4 t353).f0), .int .i64 ((rd_T26 x5_4 t353).f1), .int .i64 0, .int .i64 0, .int .i64 0, .int .i64 0]) ?_ 2 _ rfl; (with_reducible repeat (first | refine blk_drewN ?_ _ | refine blk_drew ?_ | refine blk_alloc ?_ _)); refine blk_put (cs := #[.int .i64 ((rd_T26 x5_4 t353).f0), .int .i64 0, .int .i64 0, .int .i64 0, .int .i64 0, .int .i64 0]) ?_ 1 _ rfl; (with_reducible repeat (first | refine blk_drewN ?_ _ | refine blk_drew ?_ | refine blk_alloc ?_ _)); refine blk_put (cs := #[.int .i64 0, .int .i64 0, .int .i64 0, .int .i64 0, .int .i64 0, .int .i64 0]) ?_ 0 _ rfl; (with_reducible repeat (first | refine blk_drewN ?_ _ | refine blk_drew ?_ | refine blk_alloc ?_ _)); exact BK324.out) Try.underlying26 rfl (by kernel_rfl)) rfl ?_
        exact ⟨_, qq9, by (with_reducible repeat (first | apply Kd.R_alloc | apply Kd.R_drewN | apply Kd.R_drew)); exact Kd.R_mono (Kd.R_far (p := ⟨gb324, 5, none⟩) (Kd.R_far (p := ⟨gb324, 4, none⟩) (Kd.R_far (p := ⟨gb324, 3, none⟩) (Kd.R_far (p := ⟨gb324, 2, none⟩) (Kd.R_far (p := ⟨gb324, 1, none⟩) (Kd.R_far (p := ⟨gb324, 0, none⟩) (Kd.R_mono HO_5.out (fun k_ hk => (⟨hk, hk.1⟩ : _ ∧ k_ ≠ gb324))) (fun _ hk => hk.2) (.int .i64 ((rd_T26 x5_4 t353).f0))) (fun _ hk => hk.2) (.int .i64 ((rd_T26 x5_4 t353).f1))) (fun _ hk => hk.2) (.int .i64 ((rd_T26 x5_4 t353).f2))) (fun _ hk => hk.2) (.int .i64 ((rd_T26 x5_4 t353).f3))) (fun _ hk => hk.2) (.int .i64 t357)) (fun _ hk => hk.2) (.int .i64 ((rd_T26 x5_4 t353).f5))) (fun _ hk => trivial), qq113⟩
       ·rw [if_neg c30] at H
        exact absurd H (by simp)
      ·rw [if_neg c29] at H
       exact absurd H (by simp)
     ·replace c27 := Bool.eq_false_iff.mpr c27
      subst c27
      have H1 : (some (x5_4, t341, t342, t343, t344, t345, t346)) = some (r1, r2, r3, r4, r5, r6, r7) := by rw [if_neg (show ¬ (false = true) by decide)] at H; exact H
      clear H
      have H := H1
      clear H1
      simp only [Option.some.injEq, Prod.mk.injEq] at H
      obtain ⟨rfl, rfl, rfl, rfl, rfl, rfl, rfl⟩ := H
      try go_wp2
      have n0_ := Aside0.mk (Kd.R_drew HO_5.out)
      have n1_ := Aside0.mk (blk_drew BK324.out)
      have n2_ := Aside0.mk (blk_drew BK349.out)
      have n3_ := Aside0.mk (IsS72.drew HI328.out)
      have n4_ := Aside0.mk (below_drew1 HB.out)
      clear HO_5
      clear BK324
      clear BK349
      clear HI328
      clear HB
      have HO_5 := n0_
      have BK324 := n1_
      have BK349 := n2_
      have HI328 := n3_
      have HB := n4_
      clear n0_ n1_ n2_ n3_ n4_
      refine start_ (n := 4) (S := fun w' => w'.cell? ⟨gb349, 0, none⟩ = some (.int .i64 t341) ∧ w'.cell? ⟨gb349, 1, none⟩ = some (.int .i64 t342) ∧ w'.cell? ⟨gb349, 2, none⟩ = some (.int .i64 t343) ∧ w'.cell? ⟨gb349, 3, none⟩ = some (.int .i64 t344) ∧ w'.cell? ⟨gb349, 4, none⟩ = some (.int .i64 t345) ∧ w'.cell? ⟨gb349, 5, none⟩ = some (.int .i64 t346)) (ds := []) #[false, false, false, false] (by kernel_rfl) rfl rfl ⟨(blk_cell BK349.out 0).trans rfl, (blk_cell BK349.out 1).trans rfl, (blk_cell BK349.out 2).trans rfl, (blk_cell BK349.out 3).trans rfl, (blk_cell BK349.out 4).trans rfl, (blk_cell BK349.out 5).trans rfl⟩ (fun hHeld => ?_)
      generalize wc.drew = w47 at HO_5 BK324 BK349 HI328 HB hHeld ⊢
      refine pure_ (i := 0) (N := some 48) (v := ?_) (a' := ?_) #[true, false, false, false] rfl rfl (by kernel_rfl) (fun _ _ _ h => h) (Or.inl ⟨by rfl, ?_⟩) ?_ ?_
      rotate_left
      ·intro w'
       go_simp
       with_reducible rfl
      rotate_left
      ·exact qq161
      refine pure_ (i := 2) (N := some 2) (v := ?_) (a' := ?_) #[true, false, true, false] rfl rfl (by kernel_rfl) (fun _ _ _ h => h) (Or.inl ⟨by rfl, ?_⟩) ?_ ?_
      rotate_left
      ·intro w'
       go_simp
       with_reducible rfl
      rotate_left
      ·exact qq161
      refine take_ (i := 1) (N := some 49) (v := ?_) (a' := ?_) #[true, true, true, false] rfl rfl (by kernel_rfl) (fun _ _ _ h => h) (Or.inl ⟨by rfl, ?_⟩) hHeld ?_ ?_
      rotate_left
      ·rintro w' ⟨s0, s1, s2, s3, s4, s5⟩
       go_simp
       with_reducible rfl
      rotate_left
      ·exact qq161
      refine one_ (i := 3) (N := none) #[true, true, true, true] rfl rfl (by kernel_rfl) (by decide) (fun K hK => ?_)
      have hs48 : w47.cell? ⟨gb324, 0, none⟩ = some (.int .i64 0) := (blk_cell BK324.out 0).trans rfl
      have hfs48 := blk_frozen BK324.out 0
      have hns48_1 := NB349_324.out
      have hms48_1 := NB324_349.out
      have hs49 : w47.cell? ⟨gb324, 1, none⟩ = some (.int .i64 0) := (blk_cell BK324.out 1).trans rfl
      have hfs49 := blk_frozen BK324.out 1
      have hns49_1 := NB349_324.out
      have hms49_1 := NB324_349.out
      have hs50 : w47.cell? ⟨gb324, 2, none⟩ = some (.int .i64 0) := (blk_cell BK324.out 2).trans rfl
      have hfs50 := blk_frozen BK324.out 2
      have hns50_1 := NB349_324.out
      have hms50_1 := NB324_349.out
      have hs51 : w47.cell? ⟨gb324, 3, none⟩ = some (.int .i64 0) := (blk_cell BK324.out 3).trans rfl
      have hfs51 := blk_frozen BK324.out 3
      have hns51_1 := NB349_324.out
      have hms51_1 := NB324_349.out
      have hs52 : w47.cell? ⟨gb324, 4, none⟩ = some (.int .i64 0) := (blk_cell BK324.out 4).trans rfl
      have hfs52 := blk_frozen BK324.out 4
      have hns52_1 := NB349_324.out
      have hms52_1 := NB324_349.out
      have hs53 : w47.cell? ⟨gb324, 5, none⟩ = some (.int .i64 0) := (blk_cell BK324.out 5).trans rfl
      have hfs53 := blk_frozen BK324.out 5
      have hns53_1 := NB349_324.out
      have hms53_1 := NB324_349.out
      refine skip_ (w1 := ?_) (by rfl) rfl ?_ ?_
      rotate_left
      ·go_simp
       rfl
      refine hK.out _ _ ⟨((cell_far (p := ⟨gb324, _, none⟩) NB349_324.out _).trans (((cell_far (p := ⟨gb324, _, none⟩) NB349_324.out _).trans (((cell_far (p := ⟨gb324, _, none⟩) NB349_324.out _).trans (((cell_far (p := ⟨gb324, _, none⟩) NB349_324.out _).trans (((cell_far (p := ⟨gb324, _, none⟩) NB349_324.out _).trans (((cell_far (p := ⟨gb324, _, none⟩) NB349_324.out _).trans (hHeld.1)))))))))))), ((cell_far (p := ⟨gb324, _, none⟩) NB349_324.out _).trans (((cell_far (p := ⟨gb324, _, none⟩) NB349_324.out _).trans (((cell_far (p := ⟨gb324, _, none⟩) NB349_324.out _).trans (((cell_far (p := ⟨gb324, _, none⟩) NB349_324.out _).trans (((cell_far (p := ⟨gb324, _, none⟩) NB349_324.out _).trans (((cell_far (p := ⟨gb324, _, none⟩) NB349_324.out _).trans (hHeld.2.1)))))))))))), ((cell_far (p := ⟨gb324, _, none⟩) NB349_324.out _).trans (((cell_far (p := ⟨gb324, _, none⟩) NB349_324.out _).trans (((cell_far (p := ⟨gb324, _, none⟩) NB349_324.out _).trans (((cell_far (p := ⟨gb324, _, none⟩) NB349_324.out _).trans (((cell_far (p := ⟨gb324, _, none⟩) NB349_324.out _).trans (((cell_far (p := ⟨gb324, _, none⟩) NB349_324.out _).trans (hHeld.2.2.1)))))))))))), ((cell_far (p := ⟨gb324, _, none⟩) NB349_324.out _).trans (((cell_far (p := ⟨gb324, _, none⟩) NB349_324.out _).trans (((cell_far (p := ⟨gb324, _, none⟩) NB349_324.out _).trans (((cell_far (p := ⟨gb324, _, none⟩) NB349_324.out _).trans (((cell_far (p := ⟨gb324, _, none⟩) NB349_324.out _).trans (((cell_far (p := ⟨gb324, _, none⟩) NB349_324.out _).trans (hHeld.2.2.2.1)))))))))))), ((cell_far (p := ⟨gb324, _, none⟩) NB349_324.out _).trans (((cell_far (p := ⟨gb324, _, none⟩) NB349_324.out _).trans (((cell_far (p := ⟨gb324, _, none⟩) NB349_324.out _).trans (((cell_far (p := ⟨gb324, _, none⟩) NB349_324.out _).trans (((cell_far (p := ⟨gb324, _, none⟩) NB349_324.out _).trans (((cell_far (p := ⟨gb324, _, none⟩) NB349_324.out _).trans (hHeld.2.2.2.2.1)))))))))))), ((cell_far (p := ⟨gb324, _, none⟩) NB349_324.out _).trans (((cell_far (p := ⟨gb324, _, none⟩) NB349_324.out _).trans (((cell_far (p := ⟨gb324, _, none⟩) NB349_324.out _).trans (((cell_far (p := ⟨gb324, _, none⟩) NB349_324.out _).trans (((cell_far (p := ⟨gb324, _, none⟩) NB349_324.out _).trans (((cell_far (p := ⟨gb324, _, none⟩) NB349_324.out _).trans (hHeld.2.2.2.2.2))))))))))))⟩ (fun hHeld => ?_)
      clear hK K
      refine done_ (by kernel_rfl) ?_
      try go_wp2
      refine bodyPost_ret (results_tc rfl _ _ gb324 26 #[.int .i64 t341, .int .i64 t342, .int .i64 t343, .int .i64 t344, .int .i64 t345, .int .i64 t346] (0, 0) _ rfl (by (with_reducible repeat (first | refine blk_drewN ?_ _ | refine blk_drew ?_ | refine blk_alloc ?_ _)); refine blk_put (cs := #[.int .i64 t341, .int .i64 t342, .int .i64 t343, .int .i64 t344, .int .i64 t345, .int .i64 0]) ?_ 5 _ rfl; (with_reducible repeat (first | refine blk_drewN ?_ _ | refine blk_drew ?_ | refine blk_alloc ?_ _)); refine blk_put (cs := #[.int .i64 t341, .int .i64 t342, .int .i64 t343, .int .i64 t344, .int .i64 0, .int .i64 0]) ?_ 4 _ rfl; (with_reducible repeat (first | refine blk_drewN ?_ _ | refine blk_drew ?_ | refine blk_alloc ?_ _)); refine blk_put (cs := #[.int .i64 t341, .int .i64 t342, .int .i64 t343, .int .i64 0, .int .i64 0, .int .i64 0]) ?_ 3 _ rfl; (with_reducible repeat (first | refine blk_drewN ?_ _ | refine blk_drew ?_ | refine blk_alloc ?_ _)); refine blk_put (cs := #[.int .i64 t341, .int .i64 t342, .int .i64 0, .int .i64 0, .int .i64 0, .int .i64 0]) ?_ 2 _ rfl; (with_reducible repeat (first | refine blk_drewN ?_ _ | refine blk_drew ?_ | refine blk_alloc ?_ _)); refine blk_put (cs := #[.int .i64 t341, .int .i64 0, .int .i64 0, .int .i64 0, .int .i64 0, .int .i64 0]) ?_ 1 _ rfl; (with_reducible repeat (first | refine blk_drewN ?_ _ | refine blk_drew ?_ | refine blk_alloc ?_ _)); refine blk_put (cs := #[.int .i64 0, .int .i64 0, .int .i64 0, .int .i64 0, .int .i64 0, .int .i64 0]) ?_ 0 _ rfl; (with_reducible repeat (first | refine blk_drewN ?_ _ | refine blk_drew ?_ | refine blk_alloc ?_ _)); exact BK324.out) Try.underlying26 rfl (by kernel_rfl)) rfl ?_
      exact ⟨_, qq9, by (with_reducible repeat (first | apply Kd.R_alloc | apply Kd.R_drewN | apply Kd.R_drew)); exact Kd.R_mono (Kd.R_far (p := ⟨gb324, 5, none⟩) (Kd.R_far (p := ⟨gb324, 4, none⟩) (Kd.R_far (p := ⟨gb324, 3, none⟩) (Kd.R_far (p := ⟨gb324, 2, none⟩) (Kd.R_far (p := ⟨gb324, 1, none⟩) (Kd.R_far (p := ⟨gb324, 0, none⟩) (Kd.R_mono HO_5.out (fun k_ hk => (⟨hk, hk.1⟩ : _ ∧ k_ ≠ gb324))) (fun _ hk => hk.2) (.int .i64 t341)) (fun _ hk => hk.2) (.int .i64 t342)) (fun _ hk => hk.2) (.int .i64 t343)) (fun _ hk => hk.2) (.int .i64 t344)) (fun _ hk => hk.2) (.int .i64 t345)) (fun _ hk => hk.2) (.int .i64 t346)) (fun _ hk => trivial), qq113⟩
/-! ### impl_InRange: function 62 -/
def impl_InRange.f (a0 : Int) (a1 : Int) (a2 : Int) : Option (Bool) := if a1 ≤ a0 then (some (decide (a0 ≤ a2))) else (some false)
set_option maxHeartbeats 8000000 in
set_option maxRecDepth 100000 in
theorem impl_InRange.calls (a0 : Int) (a1 : Int) (a2 : Int) (r : Bool) (w : World) (h : impl_InRange.f a0 a1 a2 = some r) :
  Calls Try.prog 62 #[.int .i64 a0, .int .i64 a1, .int .i64 a2] w fun e w' => e = .returned (.bool r) ∧ Drawn0 w w' := by
 have H : (if a1 ≤ a0 then (some (decide (a0 ≤ a2))) else (some false)) = some r := h
 clear h
 by_cases c4 : a1 ≤ a0
 ·rw [if_pos c4] at H
  have c4b0 : decide (a1 ≤ a0) = true := decide_eq_true c4
  clear c4
  obtain rfl := Option.some.inj H
  go_enter Try.func62, Try.ntmps62
  go_wp2
  go_ret
  exact qq156
 ·rw [if_neg c4] at H
  have c4b0 : decide (a1 ≤ a0) = false := decide_eq_false c4
  clear c4
  obtain rfl := Option.some.inj H
  go_enter Try.func62, Try.ntmps62
  go_wp2
  go_ret
  exact qq156
/-! ### impl_IsName: function 73 -/
def impl_IsName.f (a0 : Int) : Option (Bool) := (impl_InRange.f a0 10 49).bind fun t360 => (some t360)
set_option maxHeartbeats 8000000 in
set_option maxRecDepth 100000 in
theorem impl_IsName.calls (a0 : Int) (r : Bool) (w : World) (h : impl_IsName.f a0 = some r) :
  Calls Try.prog 73 #[.int .i64 a0] w fun e w' => e = .returned (.bool r) ∧ Drawn0 w w' := by
 have H : ((impl_InRange.f a0 10 49).bind fun t360 => (some t360)) = some r := h
 clear h
 replace H := Option.bind_eq_some_iff.mp H
 obtain ⟨t360, A20, H⟩ := H
 replace H : (some t360) = some r := H
 have A2 := Aside0.mk A20
 clear A20
 obtain rfl := Option.some.inj H
 go_enter Try.func73, Try.ntmps73
 go_wp2_with (first | ((with_reducible refine gate_callee (f := 62) rfl ?_); refine goesL_ (some 4) rfl rfl Try.func62 (by kernel_rfl) rfl #[.int .i64 a0, .int .i64 10, .int .i64 49] rfl (qq5) ?_; (with_reducible refine (impl_InRange.calls a0 10 49 t360 _ A2.out).mono ?_); rintro e w' ⟨rfl, ⟨nd, rfl⟩⟩; refine ⟨_, rfl, ?_⟩))
 go_ret
 exact qq156
/-! ### impl_KindOf: function 74 -/
def impl_KindOf.f (a0 : Int) : Option (Int) := (impl_IsName.f a0).bind fun t361 => (if t361 = true then (some (wrap64 (Int.tdiv a0 10))) else (some 0))
set_option maxHeartbeats 8000000 in
set_option maxRecDepth 100000 in
theorem impl_KindOf.calls (a0 : Int) (r : Int) (w : World) (h : impl_KindOf.f a0 = some r) :
  Calls Try.prog 74 #[.int .i64 a0] w fun e w' => e = .returned (.int .i64 r) ∧ Drawn0 w w' := by
 have H : ((impl_IsName.f a0).bind fun t361 => (if t361 = true then (some (wrap64 (Int.tdiv a0 10))) else (some 0))) = some r := h
 clear h
 replace H := Option.bind_eq_some_iff.mp H
 obtain ⟨t361, A20, H⟩ := H
 replace H : (if t361 = true then (some (wrap64 (Int.tdiv a0 10))) else (some 0)) = some r := H
 have A2 := Aside0.mk A20
 clear A20
 by_cases c3 : t361 = true
 ·subst c3
  have H1 : (some (wrap64 (Int.tdiv a0 10))) = some r := by rw [if_pos rfl] at H; exact H
  clear H
  have H := H1
  clear H1
  obtain rfl := Option.some.inj H
  go_enter Try.func74, Try.ntmps74
  go_wp2_with (first | ((with_reducible refine gate_callee (f := 73) rfl ?_); refine goesL_ (some 4) rfl rfl Try.func73 (by kernel_rfl) rfl #[.int .i64 a0] rfl (qq5) ?_; (with_reducible refine (impl_IsName.calls a0 true _ A2.out).mono ?_); rintro e w' ⟨rfl, ⟨nd, rfl⟩⟩; refine ⟨_, rfl, ?_⟩))
  go_ret
  exact qq156
 ·replace c3 := Bool.eq_false_iff.mpr c3
  subst c3
  have H1 : (some 0) = some r := by rw [if_neg (show ¬ (false = true) by decide)] at H; exact H
  clear H
  have H := H1
  clear H1
  obtain rfl := Option.some.inj H
  go_enter Try.func74, Try.ntmps74
  go_wp2_with (first | ((with_reducible refine gate_callee (f := 73) rfl ?_); refine goesL_ (some 4) rfl rfl Try.func73 (by kernel_rfl) rfl #[.int .i64 a0] rfl (qq5) ?_; (with_reducible refine (impl_IsName.calls a0 false _ A2.out).mono ?_); rintro e w' ⟨rfl, ⟨nd, rfl⟩⟩; refine ⟨_, rfl, ?_⟩))
  go_ret
  exact qq156
/-! ### impl_HasKind: function 70 -/
def impl_HasKind.f (a0 : Int) (a1 : Int) : Option (Bool) := (impl_IsName.f a0).bind fun t362 => (if t362 = true then ((impl_KindOf.f a0).bind fun t363 => (some (t363 == a1))) else (some false))
set_option maxHeartbeats 8000000 in
set_option maxRecDepth 100000 in
theorem impl_HasKind.calls (a0 : Int) (a1 : Int) (r : Bool) (w : World) (h : impl_HasKind.f a0 a1 = some r) :
  Calls Try.prog 70 #[.int .i64 a0, .int .i64 a1] w fun e w' => e = .returned (.bool r) ∧ Drawn0 w w' := by
 have H : ((impl_IsName.f a0).bind fun t362 => (if t362 = true then ((impl_KindOf.f a0).bind fun t363 => (some (t363 == a1))) else (some false))) = some r := h
 clear h
 replace H := Option.bind_eq_some_iff.mp H
 obtain ⟨t362, A30, H⟩ := H
 replace H : (if t362 = true then ((impl_KindOf.f a0).bind fun t363 => (some (t363 == a1))) else (some false)) = some r := H
 have A3 := Aside0.mk A30
 clear A30
 by_cases c4 : t362 = true
 ·subst c4
  have H1 : ((impl_KindOf.f a0).bind fun t363 => (some (t363 == a1))) = some r := by rw [if_pos rfl] at H; exact H
  clear H
  have H := H1
  clear H1
  replace H := Option.bind_eq_some_iff.mp H
  obtain ⟨t363, A50, H⟩ := H
  replace H : (some (t363 == a1)) = some r := H
  have A5 := Aside0.mk A50
  clear A50
  obtain rfl := Option.some.inj H
  go_enter Try.func70, Try.ntmps70
  go_wp2_with (first | ((with_reducible refine gate_callee (f := 73) rfl ?_); refine goesL_ (some 6) rfl rfl Try.func73 (by kernel_rfl) rfl #[.int .i64 a0] rfl (qq5) ?_; (with_reducible refine (impl_IsName.calls a0 true _ A3.out).mono ?_); rintro e w' ⟨rfl, ⟨nd, rfl⟩⟩; refine ⟨_, rfl, ?_⟩) | (go_at_call 74; (with_reducible refine (impl_KindOf.calls a0 t363 _ A5.out).mono ?_); rintro e w' ⟨rfl, ⟨nd, rfl⟩⟩))
  go_ret
  exact qq156
 ·replace c4 := Bool.eq_false_iff.mpr c4
  subst c4
  have H1 : (some false) = some r := by rw [if_neg (show ¬ (false = true) by decide)] at H; exact H
  clear H
  have H := H1
  clear H1
  obtain rfl := Option.some.inj H
  go_enter Try.func70, Try.ntmps70
  go_wp2_with (first | ((with_reducible refine gate_callee (f := 73) rfl ?_); refine goesL_ (some 6) rfl rfl Try.func73 (by kernel_rfl) rfl #[.int .i64 a0] rfl (qq5) ?_; (with_reducible refine (impl_IsName.calls a0 false _ A3.out).mono ?_); rintro e w' ⟨rfl, ⟨nd, rfl⟩⟩; refine ⟨_, rfl, ?_⟩))
  go_ret
  exact qq156
end Go.Proofs.Ythanecnkknimpaa.PFnStores
