/- What this law reaches, as plain Lean functions, and the proofs that the machine's calls answer what they answer; laid by a program of this session over the kit's print, some functions by hand. Conditions: none beyond each theorem's own. -/
import Derived.Test.YthanecnkknimpaaPFnStoresx0
import Derived.Test.YthanecnkknimpaaPFnStoresx5
import Derived.Test.YthanecnkknimpaaPFnStoresx6
-- half the blanks
namespace Go.Proofs.Ythanecnkknimpaa.PFnStores
open Go.RowKit Go.Proofs.YthanecnkknimpaaW.PrintWords Go.Proofs.YthanecnkknimpaaW.PrintLast Go.Proofs.YthanecnkknimpaaW.PrintMore
attribute [local go_sem] max2_int min2_int max_two min_two max_three min_three max_four min_four   -- for this text's walks alone
set_option linter.unusedVariables false
set_option linter.unusedSimpArgs false
/-! ### spec_l6Fact: function 47 -/
def spec_l6Fact.f (s0_0 : List Int) (s0_1 : Int) (s0_2 : Int) : Option (Int × Int × Int × Int × Int × Int × Int × Int) := (spec_l1Below.f s0_0 s0_1 s0_2 4).bind fun bt198 => ((spec_l1Below.f s0_0 bt198.2.1 bt198.2.2 3).bind fun bt201 => ((spec_l1Below.f s0_0 bt201.2.1 bt201.2.2 20).bind fun bt204 => ((spec_l1Below.f s0_0 bt204.2.1 bt204.2.2 30).bind fun bt208 => (if (wrap64 (1 + bt198.1)) = 1 then ((spec_l5Name.f s0_0 bt208.2.1 bt208.2.2 1).bind fun bt211 => ((spec_l1Below.f s0_0 bt211.2.1 bt211.2.2 4).bind fun bt214 => (some (wrap64 (1 + bt198.1), bt211.1, bt214.1, bt201.1, bt204.1, wrap64 (bt204.1 + bt208.1), bt214.2.1, bt214.2.2)))) else (if (wrap64 (1 + bt198.1)) = 2 then ((spec_l5Name.f s0_0 bt208.2.1 bt208.2.2 1).bind fun bt217 => ((spec_l5Name.f s0_0 bt217.2.1 bt217.2.2 2).bind fun bt220 => (some (wrap64 (1 + bt198.1), bt217.1, bt220.1, bt201.1, bt204.1, wrap64 (bt204.1 + bt208.1), bt220.2.1, bt220.2.2)))) else (if (wrap64 (1 + bt198.1)) = 3 then ((spec_l5Name.f s0_0 bt208.2.1 bt208.2.2 2).bind fun bt223 => ((spec_l1Below.f s0_0 bt223.2.1 bt223.2.2 4).bind fun bt226 => (some (wrap64 (1 + bt198.1), bt223.1, bt226.1, bt201.1, bt204.1, wrap64 (bt204.1 + bt208.1), bt226.2.1, bt226.2.2)))) else ((spec_l5Name.f s0_0 bt208.2.1 bt208.2.2 3).bind fun bt229 => ((spec_l1Below.f s0_0 bt229.2.1 bt229.2.2 4).bind fun bt232 => (some (wrap64 (1 + bt198.1), bt229.1, bt232.1, bt201.1, bt204.1, wrap64 (bt204.1 + bt208.1), bt232.2.1, bt232.2.2))))))))))
set_option maxHeartbeats 8000000 in
set_option maxRecDepth 100000 in
theorem spec_l6Fact.calls (g : Nat) (s0_0 : List Int) (s0_1 : Int) (s0_2 : Int) (r1 : Int) (r2 : Int) (r3 : Int) (r4 : Int) (r5 : Int) (r6 : Int) (r7 : Int) (r8 : Int) (w0 w : World) (hI : IsS72 w0 w g s0_0 s0_1 s0_2) (hB : Below w0.heap.size w0 w) (h : spec_l6Fact.f s0_0 s0_1 s0_2 = some (r1, r2, r3, r4, r5, r6, r7, r8)) :
  Calls Try.prog 47 #[.pointer (some ⟨g, 0, none⟩)] w fun e w' => e = .returned (.agg #[.int .i64 r1, .int .i64 r2, .int .i64 r3, .int .i64 r4, .int .i64 r5, .int .i64 r6]) ∧ IsS72 w0 w' g s0_0 r7 r8 ∧ Below w0.heap.size w0 w' ∧ KeepBut w w' g none := by
 have hu26 := Try.underlying26
 have HI0 := Aside0.mk hI
 have HK := Aside0.mk (KeepBut.refl w g none)
 have HL := Aside0.mk hB.size
 clear hI
 have HW0 := Aside0.mk hB.size
 have HB := Aside0.mk hB
 clear hB
 have H : ((spec_l1Below.f s0_0 s0_1 s0_2 4).bind fun bt198 => ((spec_l1Below.f s0_0 bt198.2.1 bt198.2.2 3).bind fun bt201 => ((spec_l1Below.f s0_0 bt201.2.1 bt201.2.2 20).bind fun bt204 => ((spec_l1Below.f s0_0 bt204.2.1 bt204.2.2 30).bind fun bt208 => (if (wrap64 (1 + bt198.1)) = 1 then ((spec_l5Name.f s0_0 bt208.2.1 bt208.2.2 1).bind fun bt211 => ((spec_l1Below.f s0_0 bt211.2.1 bt211.2.2 4).bind fun bt214 => (some (wrap64 (1 + bt198.1), bt211.1, bt214.1, bt201.1, bt204.1, wrap64 (bt204.1 + bt208.1), bt214.2.1, bt214.2.2)))) else (if (wrap64 (1 + bt198.1)) = 2 then ((spec_l5Name.f s0_0 bt208.2.1 bt208.2.2 1).bind fun bt217 => ((spec_l5Name.f s0_0 bt217.2.1 bt217.2.2 2).bind fun bt220 => (some (wrap64 (1 + bt198.1), bt217.1, bt220.1, bt201.1, bt204.1, wrap64 (bt204.1 + bt208.1), bt220.2.1, bt220.2.2)))) else (if (wrap64 (1 + bt198.1)) = 3 then ((spec_l5Name.f s0_0 bt208.2.1 bt208.2.2 2).bind fun bt223 => ((spec_l1Below.f s0_0 bt223.2.1 bt223.2.2 4).bind fun bt226 => (some (wrap64 (1 + bt198.1), bt223.1, bt226.1, bt201.1, bt204.1, wrap64 (bt204.1 + bt208.1), bt226.2.1, bt226.2.2)))) else ((spec_l5Name.f s0_0 bt208.2.1 bt208.2.2 3).bind fun bt229 => ((spec_l1Below.f s0_0 bt229.2.1 bt229.2.2 4).bind fun bt232 => (some (wrap64 (1 + bt198.1), bt229.1, bt232.1, bt201.1, bt204.1, wrap64 (bt204.1 + bt208.1), bt232.2.1, bt232.2.2))))))))))) = some (r1, r2, r3, r4, r5, r6, r7, r8) := h
 clear h
 replace H := Option.bind_eq_some_iff.mp H
 obtain ⟨⟨t198, t199, t200⟩, A20, H⟩ := H
 replace H : ((spec_l1Below.f s0_0 t199 t200 3).bind fun bt201 => ((spec_l1Below.f s0_0 bt201.2.1 bt201.2.2 20).bind fun bt204 => ((spec_l1Below.f s0_0 bt204.2.1 bt204.2.2 30).bind fun bt208 => (if (wrap64 (1 + t198)) = 1 then ((spec_l5Name.f s0_0 bt208.2.1 bt208.2.2 1).bind fun bt211 => ((spec_l1Below.f s0_0 bt211.2.1 bt211.2.2 4).bind fun bt214 => (some (wrap64 (1 + t198), bt211.1, bt214.1, bt201.1, bt204.1, wrap64 (bt204.1 + bt208.1), bt214.2.1, bt214.2.2)))) else (if (wrap64 (1 + t198)) = 2 then ((spec_l5Name.f s0_0 bt208.2.1 bt208.2.2 1).bind fun bt217 => ((spec_l5Name.f s0_0 bt217.2.1 bt217.2.2 2).bind fun bt220 => (some (wrap64 (1 + t198), bt217.1, bt220.1, bt201.1, bt204.1, wrap64 (bt204.1 + bt208.1), bt220.2.1, bt220.2.2)))) else (if (wrap64 (1 + t198)) = 3 then ((spec_l5Name.f s0_0 bt208.2.1 bt208.2.2 2).bind fun bt223 => ((spec_l1Below.f s0_0 bt223.2.1 bt223.2.2 4).bind fun bt226 => (some (wrap64 (1 + t198), bt223.1, bt226.1, bt201.1, bt204.1, wrap64 (bt204.1 + bt208.1), bt226.2.1, bt226.2.2)))) else ((spec_l5Name.f s0_0 bt208.2.1 bt208.2.2 3).bind fun bt229 => ((spec_l1Below.f s0_0 bt229.2.1 bt229.2.2 4).bind fun bt232 => (some (wrap64 (1 + t198), bt229.1, bt232.1, bt201.1, bt204.1, wrap64 (bt204.1 + bt208.1), bt232.2.1, bt232.2.2)))))))))) = some (r1, r2, r3, r4, r5, r6, r7, r8) := H
 have A2 := Aside0.mk A20
 clear A20
 replace H := Option.bind_eq_some_iff.mp H
 obtain ⟨⟨t201, t202, t203⟩, A30, H⟩ := H
 replace H : ((spec_l1Below.f s0_0 t202 t203 20).bind fun bt204 => ((spec_l1Below.f s0_0 bt204.2.1 bt204.2.2 30).bind fun bt208 => (if (wrap64 (1 + t198)) = 1 then ((spec_l5Name.f s0_0 bt208.2.1 bt208.2.2 1).bind fun bt211 => ((spec_l1Below.f s0_0 bt211.2.1 bt211.2.2 4).bind fun bt214 => (some (wrap64 (1 + t198), bt211.1, bt214.1, t201, bt204.1, wrap64 (bt204.1 + bt208.1), bt214.2.1, bt214.2.2)))) else (if (wrap64 (1 + t198)) = 2 then ((spec_l5Name.f s0_0 bt208.2.1 bt208.2.2 1).bind fun bt217 => ((spec_l5Name.f s0_0 bt217.2.1 bt217.2.2 2).bind fun bt220 => (some (wrap64 (1 + t198), bt217.1, bt220.1, t201, bt204.1, wrap64 (bt204.1 + bt208.1), bt220.2.1, bt220.2.2)))) else (if (wrap64 (1 + t198)) = 3 then ((spec_l5Name.f s0_0 bt208.2.1 bt208.2.2 2).bind fun bt223 => ((spec_l1Below.f s0_0 bt223.2.1 bt223.2.2 4).bind fun bt226 => (some (wrap64 (1 + t198), bt223.1, bt226.1, t201, bt204.1, wrap64 (bt204.1 + bt208.1), bt226.2.1, bt226.2.2)))) else ((spec_l5Name.f s0_0 bt208.2.1 bt208.2.2 3).bind fun bt229 => ((spec_l1Below.f s0_0 bt229.2.1 bt229.2.2 4).bind fun bt232 => (some (wrap64 (1 + t198), bt229.1, bt232.1, t201, bt204.1, wrap64 (bt204.1 + bt208.1), bt232.2.1, bt232.2.2))))))))) = some (r1, r2, r3, r4, r5, r6, r7, r8) := H
 have A3 := Aside0.mk A30
 clear A30
 replace H := Option.bind_eq_some_iff.mp H
 obtain ⟨⟨t204, t205, t206⟩, A40, H⟩ := H
 replace H : ((spec_l1Below.f s0_0 t205 t206 30).bind fun bt208 => (if (wrap64 (1 + t198)) = 1 then ((spec_l5Name.f s0_0 bt208.2.1 bt208.2.2 1).bind fun bt211 => ((spec_l1Below.f s0_0 bt211.2.1 bt211.2.2 4).bind fun bt214 => (some (wrap64 (1 + t198), bt211.1, bt214.1, t201, t204, wrap64 (t204 + bt208.1), bt214.2.1, bt214.2.2)))) else (if (wrap64 (1 + t198)) = 2 then ((spec_l5Name.f s0_0 bt208.2.1 bt208.2.2 1).bind fun bt217 => ((spec_l5Name.f s0_0 bt217.2.1 bt217.2.2 2).bind fun bt220 => (some (wrap64 (1 + t198), bt217.1, bt220.1, t201, t204, wrap64 (t204 + bt208.1), bt220.2.1, bt220.2.2)))) else (if (wrap64 (1 + t198)) = 3 then ((spec_l5Name.f s0_0 bt208.2.1 bt208.2.2 2).bind fun bt223 => ((spec_l1Below.f s0_0 bt223.2.1 bt223.2.2 4).bind fun bt226 => (some (wrap64 (1 + t198), bt223.1, bt226.1, t201, t204, wrap64 (t204 + bt208.1), bt226.2.1, bt226.2.2)))) else ((spec_l5Name.f s0_0 bt208.2.1 bt208.2.2 3).bind fun bt229 => ((spec_l1Below.f s0_0 bt229.2.1 bt229.2.2 4).bind fun bt232 => (some (wrap64 (1 + t198), bt229.1, bt232.1, t201, t204, wrap64 (t204 + bt208.1), bt232.2.1, bt232.2.2)))))))) = some (r1, r2, r3, r4, r5, r6, r7, r8) := H
 have A4 := Aside0.mk A40
 clear A40
 replace H := Option.bind_eq_some_iff.mp H
 obtain ⟨⟨t208, t209, t210⟩, A50, H⟩ := H
 replace H : (if (wrap64 (1 + t198)) = 1 then ((spec_l5Name.f s0_0 t209 t210 1).bind fun bt211 => ((spec_l1Below.f s0_0 bt211.2.1 bt211.2.2 4).bind fun bt214 => (some (wrap64 (1 + t198), bt211.1, bt214.1, t201, t204, wrap64 (t204 + t208), bt214.2.1, bt214.2.2)))) else (if (wrap64 (1 + t198)) = 2 then ((spec_l5Name.f s0_0 t209 t210 1).bind fun bt217 => ((spec_l5Name.f s0_0 bt217.2.1 bt217.2.2 2).bind fun bt220 => (some (wrap64 (1 + t198), bt217.1, bt220.1, t201, t204, wrap64 (t204 + t208), bt220.2.1, bt220.2.2)))) else (if (wrap64 (1 + t198)) = 3 then ((spec_l5Name.f s0_0 t209 t210 2).bind fun bt223 => ((spec_l1Below.f s0_0 bt223.2.1 bt223.2.2 4).bind fun bt226 => (some (wrap64 (1 + t198), bt223.1, bt226.1, t201, t204, wrap64 (t204 + t208), bt226.2.1, bt226.2.2)))) else ((spec_l5Name.f s0_0 t209 t210 3).bind fun bt229 => ((spec_l1Below.f s0_0 bt229.2.1 bt229.2.2 4).bind fun bt232 => (some (wrap64 (1 + t198), bt229.1, bt232.1, t201, t204, wrap64 (t204 + t208), bt232.2.1, bt232.2.2))))))) = some (r1, r2, r3, r4, r5, r6, r7, r8) := H
 have A5 := Aside0.mk A50
 clear A50
 by_cases c6 : (wrap64 (1 + t198)) = 1
 ·rw [if_pos c6] at H
  have c6b0 : ((wrap64 (1 + t198)) == 1) = true := beq_iff_eq.mpr c6
  have c6b1 : ((wrap64 (1 + t198)) != 1) = false := bne_eq_false_iff_eq.mpr c6
  clear c6
  replace H := Option.bind_eq_some_iff.mp H
  obtain ⟨⟨t211, t212, t213⟩, A70, H⟩ := H
  replace H : ((spec_l1Below.f s0_0 t212 t213 4).bind fun bt214 => (some (wrap64 (1 + t198), t211, bt214.1, t201, t204, wrap64 (t204 + t208), bt214.2.1, bt214.2.2))) = some (r1, r2, r3, r4, r5, r6, r7, r8) := H
  have A7 := Aside0.mk A70
  clear A70
  replace H := Option.bind_eq_some_iff.mp H
  obtain ⟨⟨t214, t215, t216⟩, A80, H⟩ := H
  replace H : (some (wrap64 (1 + t198), t211, t214, t201, t204, wrap64 (t204 + t208), t215, t216)) = some (r1, r2, r3, r4, r5, r6, r7, r8) := H
  have A8 := Aside0.mk A80
  clear A80
  simp only [Option.some.injEq, Prod.mk.injEq] at H
  obtain ⟨rfl, rfl, rfl, rfl, rfl, rfl, rfl, rfl⟩ := H
  go_enter Try.func47, Try.ntmps47
  try go_wp2_with (first | ((with_reducible refine gate_dst (N := 2) rfl ?_); refine box_event ?hg (N := 2) ?hd (cs := #[.int .i64 0, .int .i64 0, .int .i64 0, .int .i64 0, .int .i64 0, .int .i64 0]) (t := 26) ?hr ?_; (case hd => rfl); (case hg => rfl); (case hr => first | (go_simp; done) | (go_simp; rfl)); intro gb197 hg w9 hbox hb; have n0_ := Aside0.mk (IsS72.below (qq72) hb); have n1_ := Aside0.mk (KeepBut.trans (qq74) (KeepBut.of_below hb g none) (.inl rfl)); have n2_ := Aside0.mk (below_step (qq73) hb); have n3_ := Aside0.mk (hbox); have n4_ := Aside0.mk ((qq138 : w.heap.size ≤ gb197)); have n5_ := Aside0.mk ((Nat.le_trans HW0.out (qq138 : w.heap.size ≤ gb197) : w0.heap.size ≤ gb197)); have n6_ := Aside0.mk ((qq75 : g ≠ gb197)); have n7_ := Aside0.mk ((qq76 : gb197 ≠ g)); clear HI0; clear HK; clear HB; have HI0 := n0_; have HK := n1_; have HB := n2_; have BK197 := n3_; have GW197 := n4_; have GE197 := n5_; have NB0_197 := n6_; have NB197_0 := n7_; clear n0_ n1_ n2_ n3_ n4_ n5_ n6_ n7_; clear hb hbox hg) | ((with_reducible refine gate_callee (f := 36) rfl ?_); refine goesL_ (some 5) rfl rfl Try.func36 (by kernel_rfl) rfl #[.pointer (some ⟨g, 0, none⟩), .int .i64 4] rfl (qq5) ?_; (with_reducible refine (spec_l1Below.calls g s0_0 s0_1 s0_2 4 t198 t199 t200 w0 _ ?side1 ?side2 A2.out).mono ?_); (case side1 => exact qq79); (case side2 => exact qq80); rintro e w10 ⟨rfl, hi, hb, hk⟩; refine ⟨_, rfl, ?_⟩; have n0_ := Aside0.mk (KeepBut.blk hk (g' := gb197) (o := .cells #[.int .i64 0, .int .i64 0, .int .i64 0, .int .i64 0, .int .i64 0, .int .i64 0] 26 (0, 0)) (qq77) NB197_0.out (by simp)); have n1_ := Aside0.mk (KeepBut.trans (qq78) hk (.inl rfl)); have n2_ := Aside0.mk (hb); have n3_ := Aside0.mk (hi); clear BK197; clear HK; clear HB; clear HI0; have BK197 := n0_; have HK := n1_; have HB := n2_; have HI0 := n3_; clear n0_ n1_ n2_ n3_; (try clear hb); (try clear hb2); (try clear hk); (try clear hi)) | ((with_reducible refine gate_callee (f := 36) rfl ?_); refine goesL_ (some 8) rfl rfl Try.func36 (by kernel_rfl) rfl #[.pointer (some ⟨g, 0, none⟩), .int .i64 3] rfl (qq5) ?_; (with_reducible refine (spec_l1Below.calls g s0_0 t199 t200 3 t201 t202 t203 w0 _ ?side1 ?side2 A3.out).mono ?_); (case side1 => exact qq79); (case side2 => exact qq80); rintro e w11 ⟨rfl, hi, hb, hk⟩; refine ⟨_, rfl, ?_⟩; have n0_ := Aside0.mk (KeepBut.blk hk (g' := gb197) (o := .cells #[.int .i64 0, .int .i64 0, .int .i64 0, .int .i64 0, .int .i64 0, .int .i64 0] 26 (0, 0)) (qq77) NB197_0.out (by simp)); have n1_ := Aside0.mk (KeepBut.trans (qq78) hk (.inl rfl)); have n2_ := Aside0.mk (hb); have n3_ := Aside0.mk (hi); clear BK197; clear HK; clear HB; clear HI0; have BK197 := n0_; have HK := n1_; have HB := n2_; have HI0 := n3_; clear n0_ n1_ n2_ n3_; (try clear hb); (try clear hb2); (try clear hk); (try clear hi)) | ((with_reducible refine gate_callee (f := 36) rfl ?_); refine goesL_ (some 10) rfl rfl Try.func36 (by kernel_rfl) rfl #[.pointer (some ⟨g, 0, none⟩), .int .i64 20] rfl (qq5) ?_; (with_reducible refine (spec_l1Below.calls g s0_0 t202 t203 20 t204 t205 t206 w0 _ ?side1 ?side2 A4.out).mono ?_); (case side1 => exact qq79); (case side2 => exact qq80); rintro e w12 ⟨rfl, hi, hb, hk⟩; refine ⟨_, rfl, ?_⟩; have n0_ := Aside0.mk (KeepBut.blk hk (g' := gb197) (o := .cells #[.int .i64 0, .int .i64 0, .int .i64 0, .int .i64 0, .int .i64 0, .int .i64 0] 26 (0, 0)) (qq77) NB197_0.out (by simp)); have n1_ := Aside0.mk (KeepBut.trans (qq78) hk (.inl rfl)); have n2_ := Aside0.mk (hb); have n3_ := Aside0.mk (hi); clear BK197; clear HK; clear HB; clear HI0; have BK197 := n0_; have HK := n1_; have HB := n2_; have HI0 := n3_; clear n0_ n1_ n2_ n3_; (try clear hb); (try clear hb2); (try clear hk); (try clear hi)) | ((with_reducible refine gate_dst (N := 3) rfl ?_); refine box_event ?hg (N := 3) ?hd (cs := #[.int .i64 0, .int .i64 0, .int .i64 0, .int .i64 0, .int .i64 0, .int .i64 0]) (t := 26) ?hr ?_; (case hd => rfl); (case hg => rfl); (case hr => first | (go_simp; done) | (go_simp; rfl)); intro gb207 hg w13 hbox hb; have n0_ := Aside0.mk (IsS72.below (qq79) hb); have n1_ := Aside0.mk (blk_below (g := gb197) (o := .cells #[.int .i64 0, .int .i64 0, .int .i64 0, .int .i64 0, .int .i64 0, .int .i64 0] 26 (0, 0)) (qq77) hb); have n2_ := Aside0.mk (KeepBut.trans (qq78) (KeepBut.of_below hb g none) (.inl rfl)); have n3_ := Aside0.mk (below_step (qq80) hb); have n4_ := Aside0.mk (hbox); have n5_ := Aside0.mk ((qq139 : w.heap.size ≤ gb207)); have n6_ := Aside0.mk ((Nat.le_trans HW0.out (qq139 : w.heap.size ≤ gb207) : w0.heap.size ≤ gb207)); have n7_ := Aside0.mk ((qq140 : gb197 ≠ gb207)); have n8_ := Aside0.mk ((qq141 : gb207 ≠ gb197)); have n9_ := Aside0.mk ((qq81 : g ≠ gb207)); have n10_ := Aside0.mk ((qq82 : gb207 ≠ g)); clear HI0; clear BK197; clear HK; clear HB; have HI0 := n0_; have BK197 := n1_; have HK := n2_; have HB := n3_; have BK207 := n4_; have GW207 := n5_; have GE207 := n6_; have NB197_207 := n7_; have NB207_197 := n8_; have NB0_207 := n9_; have NB207_0 := n10_; clear n0_ n1_ n2_ n3_ n4_ n5_ n6_ n7_ n8_ n9_ n10_; clear hb hbox hg; have hnb14 := NB207_197.out; have hnc14 := NB197_207.out; have hnb15 := NB207_0.out; have hnc15 := NB0_207.out; have hcz16_0 : w13.cell? ⟨gb207, 0, none⟩ = some (.int .i64 0) := (blk_cell BK207.out 0).trans rfl; have hcz16_1 : w13.cell? ⟨gb207, 1, none⟩ = some (.int .i64 0) := (blk_cell BK207.out 1).trans rfl; have hcz16_2 : w13.cell? ⟨gb207, 2, none⟩ = some (.int .i64 0) := (blk_cell BK207.out 2).trans rfl; have hcz16_3 : w13.cell? ⟨gb207, 3, none⟩ = some (.int .i64 0) := (blk_cell BK207.out 3).trans rfl; have hcz16_4 : w13.cell? ⟨gb207, 4, none⟩ = some (.int .i64 0) := (blk_cell BK207.out 4).trans rfl; have hcz16_5 : w13.cell? ⟨gb207, 5, none⟩ = some (.int .i64 0) := (blk_cell BK207.out 5).trans rfl; have hfz16_0 := blk_frozen BK207.out 0; have hfz16_1 := blk_frozen BK207.out 1; have hfz16_2 := blk_frozen BK207.out 2; have hfz16_3 := blk_frozen BK207.out 3; have hfz16_4 := blk_frozen BK207.out 4; have hfz16_5 := blk_frozen BK207.out 5))
  have n0_ : Aside0 (((((((w13.setCell ⟨gb207, 0, none⟩ (.int .i64 (wrap64 (1 + t198)))).setCell ⟨gb207, 1, none⟩ (.int .i64 0)).setCell ⟨gb207, 2, none⟩ (.int .i64 0)).setCell ⟨gb207, 3, none⟩ (.int .i64 t201)).setCell ⟨gb207, 4, none⟩ (.int .i64 t204)).setCell ⟨gb207, 5, none⟩ (.int .i64 0)).heap[gb197]? = some (.cells #[.int .i64 0, .int .i64 0, .int .i64 0, .int .i64 0, .int .i64 0, .int .i64 0] 26 (0, 0))) := ⟨qq83⟩
  have n1_ : Aside0 (((((((w13.setCell ⟨gb207, 0, none⟩ (.int .i64 (wrap64 (1 + t198)))).setCell ⟨gb207, 1, none⟩ (.int .i64 0)).setCell ⟨gb207, 2, none⟩ (.int .i64 0)).setCell ⟨gb207, 3, none⟩ (.int .i64 t201)).setCell ⟨gb207, 4, none⟩ (.int .i64 t204)).setCell ⟨gb207, 5, none⟩ (.int .i64 0)).heap[gb207]? = some (.cells #[.int .i64 (wrap64 (1 + t198)), .int .i64 0, .int .i64 0, .int .i64 t201, .int .i64 t204, .int .i64 0] 26 (0, 0))) := ⟨qq84⟩
  have n2_ : Aside0 (IsS72 w0 ((((((w13.setCell ⟨gb207, 0, none⟩ (.int .i64 (wrap64 (1 + t198)))).setCell ⟨gb207, 1, none⟩ (.int .i64 0)).setCell ⟨gb207, 2, none⟩ (.int .i64 0)).setCell ⟨gb207, 3, none⟩ (.int .i64 t201)).setCell ⟨gb207, 4, none⟩ (.int .i64 t204)).setCell ⟨gb207, 5, none⟩ (.int .i64 0)) g s0_0 t205 t206) := ⟨qq85⟩
  have n3_ : Aside0 (KeepBut w ((((((w13.setCell ⟨gb207, 0, none⟩ (.int .i64 (wrap64 (1 + t198)))).setCell ⟨gb207, 1, none⟩ (.int .i64 0)).setCell ⟨gb207, 2, none⟩ (.int .i64 0)).setCell ⟨gb207, 3, none⟩ (.int .i64 t201)).setCell ⟨gb207, 4, none⟩ (.int .i64 t204)).setCell ⟨gb207, 5, none⟩ (.int .i64 0)) g none) := ⟨qq86⟩
  have n4_ : Aside0 (Below w0.heap.size w0 ((((((w13.setCell ⟨gb207, 0, none⟩ (.int .i64 (wrap64 (1 + t198)))).setCell ⟨gb207, 1, none⟩ (.int .i64 0)).setCell ⟨gb207, 2, none⟩ (.int .i64 0)).setCell ⟨gb207, 3, none⟩ (.int .i64 t201)).setCell ⟨gb207, 4, none⟩ (.int .i64 t204)).setCell ⟨gb207, 5, none⟩ (.int .i64 0))) := ⟨qq87⟩
  (try clear BK197)
  (try clear BK207)
  (try clear HI0)
  (try clear HK)
  (try clear HB)
  generalize ((((((w13.setCell ⟨gb207, 0, none⟩ (.int .i64 (wrap64 (1 + t198)))).setCell ⟨gb207, 1, none⟩ (.int .i64 0)).setCell ⟨gb207, 2, none⟩ (.int .i64 0)).setCell ⟨gb207, 3, none⟩ (.int .i64 t201)).setCell ⟨gb207, 4, none⟩ (.int .i64 t204)).setCell ⟨gb207, 5, none⟩ (.int .i64 0)) = w17 at n0_ n1_ n2_ n3_ n4_ ⊢
  have BK197 := n0_
  have BK207 := n1_
  have HI0 := n2_
  have HK := n3_
  have HB := n4_
  clear n0_ n1_ n2_ n3_ n4_
  have n0_ := Aside0.mk (blk_drew BK197.out)
  have n1_ := Aside0.mk (blk_drew BK207.out)
  have n2_ := Aside0.mk (IsS72.drew HI0.out)
  have n3_ := Aside0.mk (keep_drew HK.out)
  have n4_ := Aside0.mk (below_drew1 HB.out)
  clear BK197
  clear BK207
  clear HI0
  clear HK
  clear HB
  have BK197 := n0_
  have BK207 := n1_
  have HI0 := n2_
  have HK := n3_
  have HB := n4_
  clear n0_ n1_ n2_ n3_ n4_
  refine start_ (n := 7) (S := fun w' => w'.cell? ⟨gb207, 0, none⟩ = some (.int .i64 (wrap64 (1 + t198))) ∧ w'.cell? ⟨gb207, 1, none⟩ = some (.int .i64 0) ∧ w'.cell? ⟨gb207, 2, none⟩ = some (.int .i64 0) ∧ w'.cell? ⟨gb207, 3, none⟩ = some (.int .i64 t201) ∧ w'.cell? ⟨gb207, 4, none⟩ = some (.int .i64 t204) ∧ w'.cell? ⟨gb207, 5, none⟩ = some (.int .i64 0)) (ds := [6]) mm110 (by kernel_rfl) rfl rfl ⟨(blk_cell BK207.out 0).trans rfl, (blk_cell BK207.out 1).trans rfl, (blk_cell BK207.out 2).trans rfl, (blk_cell BK207.out 3).trans rfl, (blk_cell BK207.out 4).trans rfl, (blk_cell BK207.out 5).trans rfl⟩ (fun hHeld => ?_)
  generalize w17.drew = w18 at BK197 BK207 HI0 HK HB hHeld ⊢
  refine pure_ (i := 0) (N := some 12) (v := ?_) (a' := ?_) mm111 rfl rfl (by kernel_rfl) (fun _ _ _ h => h) (Or.inl ⟨by rfl, ?_⟩) ?_ ?_
  rotate_left
  ·intro w'
   go_simp
   with_reducible rfl
  rotate_left
  ·exact qq161
  refine pure_ (i := 2) (N := some 14) (v := ?_) (a' := ?_) mm112 rfl rfl (by kernel_rfl) (fun _ _ _ h => h) (Or.inl ⟨by rfl, ?_⟩) ?_ ?_
  rotate_left
  ·intro w'
   go_simp
   with_reducible rfl
  rotate_left
  ·exact qq161
  refine take_ (i := 1) (N := some 13) (v := ?_) (a' := ?_) mm113 rfl rfl (by kernel_rfl) (fun _ _ _ h => h) (Or.inl ⟨by rfl, ?_⟩) hHeld ?_ ?_
  rotate_left
  ·rintro w' ⟨s0, s1, s2, s3, s4, s5⟩
   go_simp
   with_reducible rfl
  rotate_left
  ·exact qq161
  refine one_ (i := 3) (N := some 15) mm114 rfl rfl (by kernel_rfl) (by decide) (fun K hK => ?_)
  refine goes_ Try.func36 (by kernel_rfl) rfl #[.pointer (some ⟨g, 0, none⟩), .int .i64 30] (by rfl) rfl rfl (qq5) ?_
  with_reducible refine (spec_l1Below.calls g s0_0 t205 t206 30 t208 t209 t210 w0 _ ?side1 ?side2 A5.out).mono ?_
  (case side1 => exact qq85)
  (case side2 => exact qq87)
  rintro e w19 ⟨rfl, hi, hb, hk⟩
  refine ⟨_, rfl, ?_⟩
  have n0_ := Aside0.mk (KeepBut.blk hk (g' := gb197) (o := .cells #[.int .i64 0, .int .i64 0, .int .i64 0, .int .i64 0, .int .i64 0, .int .i64 0] 26 (0, 0)) (qq77) NB197_0.out (by simp))
  have n1_ := Aside0.mk (KeepBut.blk hk (g' := gb207) (o := .cells #[.int .i64 (wrap64 (1 + t198)), .int .i64 0, .int .i64 0, .int .i64 t201, .int .i64 t204, .int .i64 0] 26 (0, 0)) (qq88) NB207_0.out (by simp))
  have n2_ := Aside0.mk (KeepBut.trans (qq86) hk (.inl rfl))
  have n3_ := Aside0.mk (hb)
  have n4_ := Aside0.mk (hi)
  clear BK197
  clear BK207
  clear HK
  clear HB
  clear HI0
  have BK197 := n0_
  have BK207 := n1_
  have HK := n2_
  have HB := n3_
  have HI0 := n4_
  clear n0_ n1_ n2_ n3_ n4_
  (try clear hb)
  (try clear hb2)
  (try clear hk)
  (try clear hi)
  refine hK.out _ _ ⟨(blk_cell BK207.out 0).trans rfl, (blk_cell BK207.out 1).trans rfl, (blk_cell BK207.out 2).trans rfl, (blk_cell BK207.out 3).trans rfl, (blk_cell BK207.out 4).trans rfl, (blk_cell BK207.out 5).trans rfl⟩ (fun hHeld => ?_)
  clear hK K
  refine norm_ (a' := ?_) ?_ ?_
  rotate_left
  ·show Act.put _ (some 15) _ = _
   simp only [Act.put, List.setIfInBounds_toArray, List.set_cons_zero, List.set_cons_succ, i64_w, i32_w]
   rfl
  refine pure_ (i := 4) (N := some 16) (v := ?_) (a' := ?_) mm115 rfl rfl (by kernel_rfl) (fun _ _ _ h => h) (Or.inl ⟨by rfl, ?_⟩) ?_ ?_
  rotate_left
  ·intro w'
   go_simp
   with_reducible rfl
  rotate_left
  ·exact qq161
  refine pure_ (i := 5) (N := some 17) (v := ?_) (a' := ?_) mm116 rfl rfl (by kernel_rfl) (fun _ _ _ h => h) (Or.inl ⟨by rfl, ?_⟩) ?_ ?_
  rotate_left
  ·intro w'
   go_simp
   with_reducible rfl
  rotate_left
  ·exact qq161
  refine last_ (i := 6) (N := none) mm117 rfl rfl (by kernel_rfl) (by decide) (fun K hK => ?_)
  have hs20 : w19.cell? ⟨gb207, 5, none⟩ = some (.int .i64 0) := (blk_cell BK207.out 5).trans rfl
  have hfs20 := blk_frozen BK207.out 5
  have hns20_0 := NB197_207.out
  have hms20_0 := NB207_197.out
  refine skip_ (w1 := ?_) (by rfl) rfl ?_ ?_
  rotate_left
  ·go_simp
   rfl
  refine hK.out _ _ ?_
  clear hK K
  refine done_ (by kernel_rfl) ?_
  have hcz21_0 : w19.cell? ⟨gb207, 0, none⟩ = some (.int .i64 (wrap64 (1 + t198))) := (blk_cell BK207.out 0).trans rfl
  have hcz21_1 : w19.cell? ⟨gb207, 1, none⟩ = some (.int .i64 0) := (blk_cell BK207.out 1).trans rfl
  have hcz21_2 : w19.cell? ⟨gb207, 2, none⟩ = some (.int .i64 0) := (blk_cell BK207.out 2).trans rfl
  have hcz21_3 : w19.cell? ⟨gb207, 3, none⟩ = some (.int .i64 t201) := (blk_cell BK207.out 3).trans rfl
  have hcz21_4 : w19.cell? ⟨gb207, 4, none⟩ = some (.int .i64 t204) := (blk_cell BK207.out 4).trans rfl
  have hcz21_5 : w19.cell? ⟨gb207, 5, none⟩ = some (.int .i64 0) := (blk_cell BK207.out 5).trans rfl
  have hfz21_0 := blk_frozen BK207.out 0
  have hfz21_1 := blk_frozen BK207.out 1
  have hfz21_2 := blk_frozen BK207.out 2
  have hfz21_3 := blk_frozen BK207.out 3
  have hfz21_4 := blk_frozen BK207.out 4
  have hfz21_5 := blk_frozen BK207.out 5
  try go_wp2_with (first | ((with_reducible refine gate_callee (f := 66) rfl ?_); refine goesL_ (some 29) rfl rfl Try.func66 (by kernel_rfl) rfl #[.pointer (some ⟨g, 0, none⟩), .int .i64 1] rfl (qq5) ?_; (with_reducible refine (spec_l5Name.calls g s0_0 t209 t210 1 t211 t212 t213 w0 _ ?side1 ?side2 A7.out).mono ?_); (case side1 => exact qq85); (case side2 => exact qq87); rintro e w22 ⟨rfl, hi, hb, hk⟩; refine ⟨_, rfl, ?_⟩; have n0_ := Aside0.mk (KeepBut.blk hk (g' := gb197) (o := .cells #[.int .i64 0, .int .i64 0, .int .i64 0, .int .i64 0, .int .i64 0, .int .i64 0] 26 (0, 0)) (qq89) NB197_0.out (by simp)); have n1_ := Aside0.mk (KeepBut.blk hk (g' := gb207) (o := .cells #[.int .i64 (wrap64 (1 + t198)), .int .i64 0, .int .i64 0, .int .i64 t201, .int .i64 t204, .int .i64 (wrap64 (t204 + t208))] 26 (0, 0)) (qq90) NB207_0.out (by simp)); have n2_ := Aside0.mk (KeepBut.trans (qq86) hk (.inl rfl)); have n3_ := Aside0.mk (hb); have n4_ := Aside0.mk (hi); clear BK197; clear BK207; clear HK; clear HB; clear HI0; have BK197 := n0_; have BK207 := n1_; have HK := n2_; have HB := n3_; have HI0 := n4_; clear n0_ n1_ n2_ n3_ n4_; (try clear hb); (try clear hb2); (try clear hk); (try clear hi); have hcz23_0 : w22.cell? ⟨gb207, 0, none⟩ = some (.int .i64 (wrap64 (1 + t198))) := (blk_cell BK207.out 0).trans rfl; have hcz23_1 : w22.cell? ⟨gb207, 1, none⟩ = some (.int .i64 0) := (blk_cell BK207.out 1).trans rfl; have hcz23_2 : w22.cell? ⟨gb207, 2, none⟩ = some (.int .i64 0) := (blk_cell BK207.out 2).trans rfl; have hcz23_3 : w22.cell? ⟨gb207, 3, none⟩ = some (.int .i64 t201) := (blk_cell BK207.out 3).trans rfl; have hcz23_4 : w22.cell? ⟨gb207, 4, none⟩ = some (.int .i64 t204) := (blk_cell BK207.out 4).trans rfl; have hcz23_5 : w22.cell? ⟨gb207, 5, none⟩ = some (.int .i64 (wrap64 (t204 + t208))) := (blk_cell BK207.out 5).trans rfl; have hfz23_0 := blk_frozen BK207.out 0; have hfz23_1 := blk_frozen BK207.out 1; have hfz23_2 := blk_frozen BK207.out 2; have hfz23_3 := blk_frozen BK207.out 3; have hfz23_4 := blk_frozen BK207.out 4; have hfz23_5 := blk_frozen BK207.out 5) | ((with_reducible refine gate_callee (f := 36) rfl ?_); refine goesL_ (some 32) rfl rfl Try.func36 (by kernel_rfl) rfl #[.pointer (some ⟨g, 0, none⟩), .int .i64 4] rfl (qq5) ?_; (with_reducible refine (spec_l1Below.calls g s0_0 t212 t213 4 t214 t215 t216 w0 _ ?side1 ?side2 A8.out).mono ?_); (case side1 => exact qq85); (case side2 => exact qq87); rintro e w24 ⟨rfl, hi, hb, hk⟩; refine ⟨_, rfl, ?_⟩; have n0_ := Aside0.mk (KeepBut.blk hk (g' := gb197) (o := .cells #[.int .i64 0, .int .i64 0, .int .i64 0, .int .i64 0, .int .i64 0, .int .i64 0] 26 (0, 0)) (qq89) NB197_0.out (by simp)); have n1_ := Aside0.mk (KeepBut.blk hk (g' := gb207) (o := .cells #[.int .i64 (wrap64 (1 + t198)), .int .i64 t211, .int .i64 0, .int .i64 t201, .int .i64 t204, .int .i64 (wrap64 (t204 + t208))] 26 (0, 0)) (qq91) NB207_0.out (by simp)); have n2_ := Aside0.mk (KeepBut.trans (qq86) hk (.inl rfl)); have n3_ := Aside0.mk (hb); have n4_ := Aside0.mk (hi); clear BK197; clear BK207; clear HK; clear HB; clear HI0; have BK197 := n0_; have BK207 := n1_; have HK := n2_; have HB := n3_; have HI0 := n4_; clear n0_ n1_ n2_ n3_ n4_; (try clear hb); (try clear hb2); (try clear hk); (try clear hi); have hcz25_0 : w24.cell? ⟨gb207, 0, none⟩ = some (.int .i64 (wrap64 (1 + t198))) := (blk_cell BK207.out 0).trans rfl; have hcz25_1 : w24.cell? ⟨gb207, 1, none⟩ = some (.int .i64 t211) := (blk_cell BK207.out 1).trans rfl; have hcz25_2 : w24.cell? ⟨gb207, 2, none⟩ = some (.int .i64 0) := (blk_cell BK207.out 2).trans rfl; have hcz25_3 : w24.cell? ⟨gb207, 3, none⟩ = some (.int .i64 t201) := (blk_cell BK207.out 3).trans rfl; have hcz25_4 : w24.cell? ⟨gb207, 4, none⟩ = some (.int .i64 t204) := (blk_cell BK207.out 4).trans rfl; have hcz25_5 : w24.cell? ⟨gb207, 5, none⟩ = some (.int .i64 (wrap64 (t204 + t208))) := (blk_cell BK207.out 5).trans rfl; have hfz25_0 := blk_frozen BK207.out 0; have hfz25_1 := blk_frozen BK207.out 1; have hfz25_2 := blk_frozen BK207.out 2; have hfz25_3 := blk_frozen BK207.out 3; have hfz25_4 := blk_frozen BK207.out 4; have hfz25_5 := blk_frozen BK207.out 5; have hnb26 := NB197_0.out; have hnc26 := NB0_197.out; have hcz27_0 : w24.cell? ⟨gb197, 0, none⟩ = some (.int .i64 0) := (blk_cell BK197.out 0).trans rfl; have hcz27_1 : w24.cell? ⟨gb197, 1, none⟩ = some (.int .i64 0) := (blk_cell BK197.out 1).trans rfl; have hcz27_2 : w24.cell? ⟨gb197, 2, none⟩ = some (.int .i64 0) := (blk_cell BK197.out 2).trans rfl; have hcz27_3 : w24.cell? ⟨gb197, 3, none⟩ = some (.int .i64 0) := (blk_cell BK197.out 3).trans rfl; have hcz27_4 : w24.cell? ⟨gb197, 4, none⟩ = some (.int .i64 0) := (blk_cell BK197.out 4).trans rfl; have hcz27_5 : w24.cell? ⟨gb197, 5, none⟩ = some (.int .i64 0) := (blk_cell BK197.out 5).trans rfl; have hfz27_0 := blk_frozen BK197.out 0; have hfz27_1 := blk_frozen BK197.out 1; have hfz27_2 := blk_frozen BK197.out 2; have hfz27_3 := blk_frozen BK197.out 3; have hfz27_4 := blk_frozen BK197.out 4; have hfz27_5 := blk_frozen BK197.out 5))
  refine bodyPost_ret (results_cell_row rfl _ _ gb197 26 #[.int .i64 (wrap64 (1 + t198)), .int .i64 t211, .int .i64 t214, .int .i64 t201, .int .i64 t204, .int .i64 (wrap64 (t204 + t208))] (0, 0) _ rfl (by (with_reducible repeat (first | refine blk_drewN ?_ _ | refine blk_drew ?_ | refine blk_alloc ?_ _)); refine blk_put (cs := #[.int .i64 (wrap64 (1 + t198)), .int .i64 t211, .int .i64 t214, .int .i64 t201, .int .i64 t204, .int .i64 0]) ?_ 5 _ rfl; (with_reducible repeat (first | refine blk_drewN ?_ _ | refine blk_drew ?_ | refine blk_alloc ?_ _)); refine blk_put (cs := #[.int .i64 (wrap64 (1 + t198)), .int .i64 t211, .int .i64 t214, .int .i64 t201, .int .i64 0, .int .i64 0]) ?_ 4 _ rfl; (with_reducible repeat (first | refine blk_drewN ?_ _ | refine blk_drew ?_ | refine blk_alloc ?_ _)); refine blk_put (cs := #[.int .i64 (wrap64 (1 + t198)), .int .i64 t211, .int .i64 t214, .int .i64 0, .int .i64 0, .int .i64 0]) ?_ 3 _ rfl; (with_reducible repeat (first | refine blk_drewN ?_ _ | refine blk_drew ?_ | refine blk_alloc ?_ _)); refine blk_put (cs := #[.int .i64 (wrap64 (1 + t198)), .int .i64 t211, .int .i64 0, .int .i64 0, .int .i64 0, .int .i64 0]) ?_ 2 _ rfl; (with_reducible repeat (first | refine blk_drewN ?_ _ | refine blk_drew ?_ | refine blk_alloc ?_ _)); refine blk_put (cs := #[.int .i64 (wrap64 (1 + t198)), .int .i64 0, .int .i64 0, .int .i64 0, .int .i64 0, .int .i64 0]) ?_ 1 _ rfl; (with_reducible repeat (first | refine blk_drewN ?_ _ | refine blk_drew ?_ | refine blk_alloc ?_ _)); refine blk_put (cs := #[.int .i64 0, .int .i64 0, .int .i64 0, .int .i64 0, .int .i64 0, .int .i64 0]) ?_ 0 _ rfl; (with_reducible repeat (first | refine blk_drewN ?_ _ | refine blk_drew ?_ | refine blk_alloc ?_ _)); refine blk_far ?_ NB197_207.out _; (with_reducible repeat (first | refine blk_drewN ?_ _ | refine blk_drew ?_ | refine blk_alloc ?_ _)); exact BK197.out) Try.underlying26 rfl (by kernel_rfl)) rfl ?_
  exact ⟨qq9, qq85, qq87, qq86⟩
 ·rw [if_neg c6] at H
  have c6b0 : ((wrap64 (1 + t198)) == 1) = false := beq_eq_false_iff_ne.mpr c6
  have c6b1 : ((wrap64 (1 + t198)) != 1) = true := bne_iff_ne.mpr c6
  by_cases c28 : (wrap64 (1 + t198)) = 2
  ·rw [if_pos c28] at H
   have c28b0 : ((wrap64 (1 + t198)) == 2) = true := beq_iff_eq.mpr c28
   have c28b1 : ((wrap64 (1 + t198)) != 2) = false := bne_eq_false_iff_eq.mpr c28
   clear c28
   replace H := Option.bind_eq_some_iff.mp H
   obtain ⟨⟨t217, t218, t219⟩, A290, H⟩ := H
   replace H : ((spec_l5Name.f s0_0 t218 t219 2).bind fun bt220 => (some (wrap64 (1 + t198), t217, bt220.1, t201, t204, wrap64 (t204 + t208), bt220.2.1, bt220.2.2))) = some (r1, r2, r3, r4, r5, r6, r7, r8) := H
   have A29 := Aside0.mk A290
   clear A290
   replace H := Option.bind_eq_some_iff.mp H
   obtain ⟨⟨t220, t221, t222⟩, A300, H⟩ := H
   replace H : (some (wrap64 (1 + t198), t217, t220, t201, t204, wrap64 (t204 + t208), t221, t222)) = some (r1, r2, r3, r4, r5, r6, r7, r8) := H
   have A30 := Aside0.mk A300
   clear A300
   simp only [Option.some.injEq, Prod.mk.injEq] at H
   obtain ⟨rfl, rfl, rfl, rfl, rfl, rfl, rfl, rfl⟩ := H
   go_enter Try.func47, Try.ntmps47
   try go_wp2_with (first | ((with_reducible refine gate_dst (N := 2) rfl ?_); refine box_event ?hg (N := 2) ?hd (cs := #[.int .i64 0, .int .i64 0, .int .i64 0, .int .i64 0, .int .i64 0, .int .i64 0]) (t := 26) ?hr ?_; (case hd => rfl); (case hg => rfl); (case hr => first | (go_simp; done) | (go_simp; rfl)); intro gb197 hg w31 hbox hb; have n0_ := Aside0.mk (IsS72.below (qq72) hb); have n1_ := Aside0.mk (KeepBut.trans (qq74) (KeepBut.of_below hb g none) (.inl rfl)); have n2_ := Aside0.mk (below_step (qq73) hb); have n3_ := Aside0.mk (hbox); have n4_ := Aside0.mk ((qq138 : w.heap.size ≤ gb197)); have n5_ := Aside0.mk ((Nat.le_trans HW0.out (qq138 : w.heap.size ≤ gb197) : w0.heap.size ≤ gb197)); have n6_ := Aside0.mk ((qq75 : g ≠ gb197)); have n7_ := Aside0.mk ((qq76 : gb197 ≠ g)); clear HI0; clear HK; clear HB; have HI0 := n0_; have HK := n1_; have HB := n2_; have BK197 := n3_; have GW197 := n4_; have GE197 := n5_; have NB0_197 := n6_; have NB197_0 := n7_; clear n0_ n1_ n2_ n3_ n4_ n5_ n6_ n7_; clear hb hbox hg) | ((with_reducible refine gate_callee (f := 36) rfl ?_); refine goesL_ (some 5) rfl rfl Try.func36 (by kernel_rfl) rfl #[.pointer (some ⟨g, 0, none⟩), .int .i64 4] rfl (qq5) ?_; (with_reducible refine (spec_l1Below.calls g s0_0 s0_1 s0_2 4 t198 t199 t200 w0 _ ?side1 ?side2 A2.out).mono ?_); (case side1 => exact qq79); (case side2 => exact qq80); rintro e w32 ⟨rfl, hi, hb, hk⟩; refine ⟨_, rfl, ?_⟩; have n0_ := Aside0.mk (KeepBut.blk hk (g' := gb197) (o := .cells #[.int .i64 0, .int .i64 0, .int .i64 0, .int .i64 0, .int .i64 0, .int .i64 0] 26 (0, 0)) (qq77) NB197_0.out (by simp)); have n1_ := Aside0.mk (KeepBut.trans (qq78) hk (.inl rfl)); have n2_ := Aside0.mk (hb); have n3_ := Aside0.mk (hi); clear BK197; clear HK; clear HB; clear HI0; have BK197 := n0_; have HK := n1_; have HB := n2_; have HI0 := n3_; clear n0_ n1_ n2_ n3_; (try clear hb); (try clear hb2); (try clear hk); (try clear hi)) | ((with_reducible refine gate_callee (f := 36) rfl ?_); refine goesL_ (some 8) rfl rfl Try.func36 (by kernel_rfl) rfl #[.pointer (some ⟨g, 0, none⟩), .int .i64 3] rfl (qq5) ?_; (with_reducible refine (spec_l1Below.calls g s0_0 t199 t200 3 t201 t202 t203 w0 _ ?side1 ?side2 A3.out).mono ?_); (case side1 => exact qq79); (case side2 => exact qq80); rintro e w33 ⟨rfl, hi, hb, hk⟩; refine ⟨_, rfl, ?_⟩; have n0_ := Aside0.mk (KeepBut.blk hk (g' := gb197) (o := .cells #[.int .i64 0, .int .i64 0, .int .i64 0, .int .i64 0, .int .i64 0, .int .i64 0] 26 (0, 0)) (qq77) NB197_0.out (by simp)); have n1_ := Aside0.mk (KeepBut.trans (qq78) hk (.inl rfl)); have n2_ := Aside0.mk (hb); have n3_ := Aside0.mk (hi); clear BK197; clear HK; clear HB; clear HI0; have BK197 := n0_; have HK := n1_; have HB := n2_; have HI0 := n3_; clear n0_ n1_ n2_ n3_; (try clear hb); (try clear hb2); (try clear hk); (try clear hi)) | ((with_reducible refine gate_callee (f := 36) rfl ?_); refine goesL_ (some 10) rfl rfl Try.func36 (by kernel_rfl) rfl #[.pointer (some ⟨g, 0, none⟩), .int .i64 20] rfl (qq5) ?_; (with_reducible refine (spec_l1Below.calls g s0_0 t202 t203 20 t204 t205 t206 w0 _ ?side1 ?side2 A4.out).mono ?_); (case side1 => exact qq79); (case side2 => exact qq80); rintro e w34 ⟨rfl, hi, hb, hk⟩; refine ⟨_, rfl, ?_⟩; have n0_ := Aside0.mk (KeepBut.blk hk (g' := gb197) (o := .cells #[.int .i64 0, .int .i64 0, .int .i64 0, .int .i64 0, .int .i64 0, .int .i64 0] 26 (0, 0)) (qq77) NB197_0.out (by simp)); have n1_ := Aside0.mk (KeepBut.trans (qq78) hk (.inl rfl)); have n2_ := Aside0.mk (hb); have n3_ := Aside0.mk (hi); clear BK197; clear HK; clear HB; clear HI0; have BK197 := n0_; have HK := n1_; have HB := n2_; have HI0 := n3_; clear n0_ n1_ n2_ n3_; (try clear hb); (try clear hb2); (try clear hk); (try clear hi)) | ((with_reducible refine gate_dst (N := 3) rfl ?_); refine box_event ?hg (N := 3) ?hd (cs := #[.int .i64 0, .int .i64 0, .int .i64 0, .int .i64 0, .int .i64 0, .int .i64 0]) (t := 26) ?hr ?_; (case hd => rfl); (case hg => rfl); (case hr => first | (go_simp; done) | (go_simp; rfl)); intro gb207 hg w35 hbox hb; have n0_ := Aside0.mk (IsS72.below (qq79) hb); have n1_ := Aside0.mk (blk_below (g := gb197) (o := .cells #[.int .i64 0, .int .i64 0, .int .i64 0, .int .i64 0, .int .i64 0, .int .i64 0] 26 (0, 0)) (qq77) hb); have n2_ := Aside0.mk (KeepBut.trans (qq78) (KeepBut.of_below hb g none) (.inl rfl)); have n3_ := Aside0.mk (below_step (qq80) hb); have n4_ := Aside0.mk (hbox); have n5_ := Aside0.mk ((qq139 : w.heap.size ≤ gb207)); have n6_ := Aside0.mk ((Nat.le_trans HW0.out (qq139 : w.heap.size ≤ gb207) : w0.heap.size ≤ gb207)); have n7_ := Aside0.mk ((qq140 : gb197 ≠ gb207)); have n8_ := Aside0.mk ((qq141 : gb207 ≠ gb197)); have n9_ := Aside0.mk ((qq81 : g ≠ gb207)); have n10_ := Aside0.mk ((qq82 : gb207 ≠ g)); clear HI0; clear BK197; clear HK; clear HB; have HI0 := n0_; have BK197 := n1_; have HK := n2_; have HB := n3_; have BK207 := n4_; have GW207 := n5_; have GE207 := n6_; have NB197_207 := n7_; have NB207_197 := n8_; have NB0_207 := n9_; have NB207_0 := n10_; clear n0_ n1_ n2_ n3_ n4_ n5_ n6_ n7_ n8_ n9_ n10_; clear hb hbox hg; have hnb36 := NB207_197.out; have hnc36 := NB197_207.out; have hnb37 := NB207_0.out; have hnc37 := NB0_207.out; have hcz38_0 : w35.cell? ⟨gb207, 0, none⟩ = some (.int .i64 0) := (blk_cell BK207.out 0).trans rfl; have hcz38_1 : w35.cell? ⟨gb207, 1, none⟩ = some (.int .i64 0) := (blk_cell BK207.out 1).trans rfl; have hcz38_2 : w35.cell? ⟨gb207, 2, none⟩ = some (.int .i64 0) := (blk_cell BK207.out 2).trans rfl; have hcz38_3 : w35.cell? ⟨gb207, 3, none⟩ = some (.int .i64 0) := (blk_cell BK207.out 3).trans rfl; have hcz38_4 : w35.cell? ⟨gb207, 4, none⟩ = some (.int .i64 0) := (blk_cell BK207.out 4).trans rfl; have hcz38_5 : w35.cell? ⟨gb207, 5, none⟩ = some (.int .i64 0) := (blk_cell BK207.out 5).trans rfl; have hfz38_0 := blk_frozen BK207.out 0; have hfz38_1 := blk_frozen BK207.out 1; have hfz38_2 := blk_frozen BK207.out 2; have hfz38_3 := blk_frozen BK207.out 3; have hfz38_4 := blk_frozen BK207.out 4; have hfz38_5 := blk_frozen BK207.out 5))
   have n0_ : Aside0 (((((((w35.setCell ⟨gb207, 0, none⟩ (.int .i64 (wrap64 (1 + t198)))).setCell ⟨gb207, 1, none⟩ (.int .i64 0)).setCell ⟨gb207, 2, none⟩ (.int .i64 0)).setCell ⟨gb207, 3, none⟩ (.int .i64 t201)).setCell ⟨gb207, 4, none⟩ (.int .i64 t204)).setCell ⟨gb207, 5, none⟩ (.int .i64 0)).heap[gb197]? = some (.cells #[.int .i64 0, .int .i64 0, .int .i64 0, .int .i64 0, .int .i64 0, .int .i64 0] 26 (0, 0))) := ⟨qq83⟩
   have n1_ : Aside0 (((((((w35.setCell ⟨gb207, 0, none⟩ (.int .i64 (wrap64 (1 + t198)))).setCell ⟨gb207, 1, none⟩ (.int .i64 0)).setCell ⟨gb207, 2, none⟩ (.int .i64 0)).setCell ⟨gb207, 3, none⟩ (.int .i64 t201)).setCell ⟨gb207, 4, none⟩ (.int .i64 t204)).setCell ⟨gb207, 5, none⟩ (.int .i64 0)).heap[gb207]? = some (.cells #[.int .i64 (wrap64 (1 + t198)), .int .i64 0, .int .i64 0, .int .i64 t201, .int .i64 t204, .int .i64 0] 26 (0, 0))) := ⟨qq84⟩
   have n2_ : Aside0 (IsS72 w0 ((((((w35.setCell ⟨gb207, 0, none⟩ (.int .i64 (wrap64 (1 + t198)))).setCell ⟨gb207, 1, none⟩ (.int .i64 0)).setCell ⟨gb207, 2, none⟩ (.int .i64 0)).setCell ⟨gb207, 3, none⟩ (.int .i64 t201)).setCell ⟨gb207, 4, none⟩ (.int .i64 t204)).setCell ⟨gb207, 5, none⟩ (.int .i64 0)) g s0_0 t205 t206) := ⟨qq85⟩
   have n3_ : Aside0 (KeepBut w ((((((w35.setCell ⟨gb207, 0, none⟩ (.int .i64 (wrap64 (1 + t198)))).setCell ⟨gb207, 1, none⟩ (.int .i64 0)).setCell ⟨gb207, 2, none⟩ (.int .i64 0)).setCell ⟨gb207, 3, none⟩ (.int .i64 t201)).setCell ⟨gb207, 4, none⟩ (.int .i64 t204)).setCell ⟨gb207, 5, none⟩ (.int .i64 0)) g none) := ⟨qq86⟩
   have n4_ : Aside0 (Below w0.heap.size w0 ((((((w35.setCell ⟨gb207, 0, none⟩ (.int .i64 (wrap64 (1 + t198)))).setCell ⟨gb207, 1, none⟩ (.int .i64 0)).setCell ⟨gb207, 2, none⟩ (.int .i64 0)).setCell ⟨gb207, 3, none⟩ (.int .i64 t201)).setCell ⟨gb207, 4, none⟩ (.int .i64 t204)).setCell ⟨gb207, 5, none⟩ (.int .i64 0))) := ⟨qq87⟩
   (try clear BK197)
   (try clear BK207)
   (try clear HI0)
   (try clear HK)
   (try clear HB)
   generalize ((((((w35.setCell ⟨gb207, 0, none⟩ (.int .i64 (wrap64 (1 + t198)))).setCell ⟨gb207, 1, none⟩ (.int .i64 0)).setCell ⟨gb207, 2, none⟩ (.int .i64 0)).setCell ⟨gb207, 3, none⟩ (.int .i64 t201)).setCell ⟨gb207, 4, none⟩ (.int .i64 t204)).setCell ⟨gb207, 5, none⟩ (.int .i64 0)) = w39 at n0_ n1_ n2_ n3_ n4_ ⊢
   have BK197 := n0_
   have BK207 := n1_
   have HI0 := n2_
   have HK := n3_
   have HB := n4_
   clear n0_ n1_ n2_ n3_ n4_
   have n0_ := Aside0.mk (blk_drew BK197.out)
   have n1_ := Aside0.mk (blk_drew BK207.out)
   have n2_ := Aside0.mk (IsS72.drew HI0.out)
   have n3_ := Aside0.mk (keep_drew HK.out)
   have n4_ := Aside0.mk (below_drew1 HB.out)
   clear BK197
   clear BK207
   clear HI0
   clear HK
   clear HB
   have BK197 := n0_
   have BK207 := n1_
   have HI0 := n2_
   have HK := n3_
   have HB := n4_
   clear n0_ n1_ n2_ n3_ n4_
   refine start_ (n := 7) (S := fun w' => w'.cell? ⟨gb207, 0, none⟩ = some (.int .i64 (wrap64 (1 + t198))) ∧ w'.cell? ⟨gb207, 1, none⟩ = some (.int .i64 0) ∧ w'.cell? ⟨gb207, 2, none⟩ = some (.int .i64 0) ∧ w'.cell? ⟨gb207, 3, none⟩ = some (.int .i64 t201) ∧ w'.cell? ⟨gb207, 4, none⟩ = some (.int .i64 t204) ∧ w'.cell? ⟨gb207, 5, none⟩ = some (.int .i64 0)) (ds := [6]) mm110 (by kernel_rfl) rfl rfl ⟨(blk_cell BK207.out 0).trans rfl, (blk_cell BK207.out 1).trans rfl, (blk_cell BK207.out 2).trans rfl, (blk_cell BK207.out 3).trans rfl, (blk_cell BK207.out 4).trans rfl, (blk_cell BK207.out 5).trans rfl⟩ (fun hHeld => ?_)
   generalize w39.drew = w40 at BK197 BK207 HI0 HK HB hHeld ⊢
   refine pure_ (i := 0) (N := some 12) (v := ?_) (a' := ?_) mm111 rfl rfl (by kernel_rfl) (fun _ _ _ h => h) (Or.inl ⟨by rfl, ?_⟩) ?_ ?_
   rotate_left
   ·intro w'
    go_simp
    with_reducible rfl
   rotate_left
   ·exact qq161
   refine pure_ (i := 2) (N := some 14) (v := ?_) (a' := ?_) mm112 rfl rfl (by kernel_rfl) (fun _ _ _ h => h) (Or.inl ⟨by rfl, ?_⟩) ?_ ?_
   rotate_left
   ·intro w'
    go_simp
    with_reducible rfl
   rotate_left
   ·exact qq161
   refine take_ (i := 1) (N := some 13) (v := ?_) (a' := ?_) mm113 rfl rfl (by kernel_rfl) (fun _ _ _ h => h) (Or.inl ⟨by rfl, ?_⟩) hHeld ?_ ?_
   rotate_left
   ·rintro w' ⟨s0, s1, s2, s3, s4, s5⟩
    go_simp
    with_reducible rfl
   rotate_left
   ·exact qq161
   refine one_ (i := 3) (N := some 15) mm114 rfl rfl (by kernel_rfl) (by decide) (fun K hK => ?_)
   refine goes_ Try.func36 (by kernel_rfl) rfl #[.pointer (some ⟨g, 0, none⟩), .int .i64 30] (by rfl) rfl rfl (qq5) ?_
   with_reducible refine (spec_l1Below.calls g s0_0 t205 t206 30 t208 t209 t210 w0 _ ?side1 ?side2 A5.out).mono ?_
   (case side1 => exact qq85)
   (case side2 => exact qq87)
   rintro e w41 ⟨rfl, hi, hb, hk⟩
   refine ⟨_, rfl, ?_⟩
   have n0_ := Aside0.mk (KeepBut.blk hk (g' := gb197) (o := .cells #[.int .i64 0, .int .i64 0, .int .i64 0, .int .i64 0, .int .i64 0, .int .i64 0] 26 (0, 0)) (qq77) NB197_0.out (by simp))
   have n1_ := Aside0.mk (KeepBut.blk hk (g' := gb207) (o := .cells #[.int .i64 (wrap64 (1 + t198)), .int .i64 0, .int .i64 0, .int .i64 t201, .int .i64 t204, .int .i64 0] 26 (0, 0)) (qq88) NB207_0.out (by simp))
   have n2_ := Aside0.mk (KeepBut.trans (qq86) hk (.inl rfl))
   have n3_ := Aside0.mk (hb)
   have n4_ := Aside0.mk (hi)
   clear BK197
   clear BK207
   clear HK
   clear HB
   clear HI0
   have BK197 := n0_
   have BK207 := n1_
   have HK := n2_
   have HB := n3_
   have HI0 := n4_
   clear n0_ n1_ n2_ n3_ n4_
   (try clear hb)
   (try clear hb2)
   (try clear hk)
   (try clear hi)
   refine hK.out _ _ ⟨(blk_cell BK207.out 0).trans rfl, (blk_cell BK207.out 1).trans rfl, (blk_cell BK207.out 2).trans rfl, (blk_cell BK207.out 3).trans rfl, (blk_cell BK207.out 4).trans rfl, (blk_cell BK207.out 5).trans rfl⟩ (fun hHeld => ?_)
   clear hK K
   refine norm_ (a' := ?_) ?_ ?_
   rotate_left
   ·show Act.put _ (some 15) _ = _
    simp only [Act.put, List.setIfInBounds_toArray, List.set_cons_zero, List.set_cons_succ, i64_w, i32_w]
    rfl
   refine pure_ (i := 4) (N := some 16) (v := ?_) (a' := ?_) mm115 rfl rfl (by kernel_rfl) (fun _ _ _ h => h) (Or.inl ⟨by rfl, ?_⟩) ?_ ?_
   rotate_left
   ·intro w'
    go_simp
    with_reducible rfl
   rotate_left
   ·exact qq161
   refine pure_ (i := 5) (N := some 17) (v := ?_) (a' := ?_) mm116 rfl rfl (by kernel_rfl) (fun _ _ _ h => h) (Or.inl ⟨by rfl, ?_⟩) ?_ ?_
   rotate_left
   ·intro w'
    go_simp
    with_reducible rfl
   rotate_left
   ·exact qq161
   refine last_ (i := 6) (N := none) mm117 rfl rfl (by kernel_rfl) (by decide) (fun K hK => ?_)
   have hs42 : w41.cell? ⟨gb207, 5, none⟩ = some (.int .i64 0) := (blk_cell BK207.out 5).trans rfl
   have hfs42 := blk_frozen BK207.out 5
   have hns42_0 := NB197_207.out
   have hms42_0 := NB207_197.out
   refine skip_ (w1 := ?_) (by rfl) rfl ?_ ?_
   rotate_left
   ·go_simp
    rfl
   refine hK.out _ _ ?_
   clear hK K
   refine done_ (by kernel_rfl) ?_
   have hcz43_0 : w41.cell? ⟨gb207, 0, none⟩ = some (.int .i64 (wrap64 (1 + t198))) := (blk_cell BK207.out 0).trans rfl
   have hcz43_1 : w41.cell? ⟨gb207, 1, none⟩ = some (.int .i64 0) := (blk_cell BK207.out 1).trans rfl
   have hcz43_2 : w41.cell? ⟨gb207, 2, none⟩ = some (.int .i64 0) := (blk_cell BK207.out 2).trans rfl
   have hcz43_3 : w41.cell? ⟨gb207, 3, none⟩ = some (.int .i64 t201) := (blk_cell BK207.out 3).trans rfl
   have hcz43_4 : w41.cell? ⟨gb207, 4, none⟩ = some (.int .i64 t204) := (blk_cell BK207.out 4).trans rfl
   have hcz43_5 : w41.cell? ⟨gb207, 5, none⟩ = some (.int .i64 0) := (blk_cell BK207.out 5).trans rfl
   have hfz43_0 := blk_frozen BK207.out 0
   have hfz43_1 := blk_frozen BK207.out 1
   have hfz43_2 := blk_frozen BK207.out 2
   have hfz43_3 := blk_frozen BK207.out 3
   have hfz43_4 := blk_frozen BK207.out 4
   have hfz43_5 := blk_frozen BK207.out 5
   try go_wp2_with (first | ((with_reducible refine gate_callee (f := 66) rfl ?_); refine goesL_ (some 37) rfl rfl Try.func66 (by kernel_rfl) rfl #[.pointer (some ⟨g, 0, none⟩), .int .i64 1] rfl (qq5) ?_; (with_reducible refine (spec_l5Name.calls g s0_0 t209 t210 1 t217 t218 t219 w0 _ ?side1 ?side2 A29.out).mono ?_); (case side1 => exact qq85); (case side2 => exact qq87); rintro e w44 ⟨rfl, hi, hb, hk⟩; refine ⟨_, rfl, ?_⟩; have n0_ := Aside0.mk (KeepBut.blk hk (g' := gb197) (o := .cells #[.int .i64 0, .int .i64 0, .int .i64 0, .int .i64 0, .int .i64 0, .int .i64 0] 26 (0, 0)) (qq89) NB197_0.out (by simp)); have n1_ := Aside0.mk (KeepBut.blk hk (g' := gb207) (o := .cells #[.int .i64 (wrap64 (1 + t198)), .int .i64 0, .int .i64 0, .int .i64 t201, .int .i64 t204, .int .i64 (wrap64 (t204 + t208))] 26 (0, 0)) (qq90) NB207_0.out (by simp)); have n2_ := Aside0.mk (KeepBut.trans (qq86) hk (.inl rfl)); have n3_ := Aside0.mk (hb); have n4_ := Aside0.mk (hi); clear BK197; clear BK207; clear HK; clear HB; clear HI0; have BK197 := n0_; have BK207 := n1_; have HK := n2_; have HB := n3_; have HI0 := n4_; clear n0_ n1_ n2_ n3_ n4_; (try clear hb); (try clear hb2); (try clear hk); (try clear hi); have hcz45_0 : w44.cell? ⟨gb207, 0, none⟩ = some (.int .i64 (wrap64 (1 + t198))) := (blk_cell BK207.out 0).trans rfl; have hcz45_1 : w44.cell? ⟨gb207, 1, none⟩ = some (.int .i64 0) := (blk_cell BK207.out 1).trans rfl; have hcz45_2 : w44.cell? ⟨gb207, 2, none⟩ = some (.int .i64 0) := (blk_cell BK207.out 2).trans rfl; have hcz45_3 : w44.cell? ⟨gb207, 3, none⟩ = some (.int .i64 t201) := (blk_cell BK207.out 3).trans rfl; have hcz45_4 : w44.cell? ⟨gb207, 4, none⟩ = some (.int .i64 t204) := (blk_cell BK207.out 4).trans rfl; have hcz45_5 : w44.cell? ⟨gb207, 5, none⟩ = some (.int .i64 (wrap64 (t204 + t208))) := (blk_cell BK207.out 5).trans rfl; have hfz45_0 := blk_frozen BK207.out 0; have hfz45_1 := blk_frozen BK207.out 1; have hfz45_2 := blk_frozen BK207.out 2; have hfz45_3 := blk_frozen BK207.out 3; have hfz45_4 := blk_frozen BK207.out 4; have hfz45_5 := blk_frozen BK207.out 5) | ((with_reducible refine gate_callee (f := 66) rfl ?_); refine goesL_ (some 40) rfl rfl Try.func66 (by kernel_rfl) rfl #[.pointer (some ⟨g, 0, none⟩), .int .i64 2] rfl (qq5) ?_; (with_reducible refine (spec_l5Name.calls g s0_0 t218 t219 2 t220 t221 t222 w0 _ ?side1 ?side2 A30.out).mono ?_); (case side1 => exact qq85); (case side2 => exact qq87); rintro e w46 ⟨rfl, hi, hb, hk⟩; refine ⟨_, rfl, ?_⟩; have n0_ := Aside0.mk (KeepBut.blk hk (g' := gb197) (o := .cells #[.int .i64 0, .int .i64 0, .int .i64 0, .int .i64 0, .int .i64 0, .int .i64 0] 26 (0, 0)) (qq89) NB197_0.out (by simp)); have n1_ := Aside0.mk (KeepBut.blk hk (g' := gb207) (o := .cells #[.int .i64 (wrap64 (1 + t198)), .int .i64 t217, .int .i64 0, .int .i64 t201, .int .i64 t204, .int .i64 (wrap64 (t204 + t208))] 26 (0, 0)) (qq91) NB207_0.out (by simp)); have n2_ := Aside0.mk (KeepBut.trans (qq86) hk (.inl rfl)); have n3_ := Aside0.mk (hb); have n4_ := Aside0.mk (hi); clear BK197; clear BK207; clear HK; clear HB; clear HI0; have BK197 := n0_; have BK207 := n1_; have HK := n2_; have HB := n3_; have HI0 := n4_; clear n0_ n1_ n2_ n3_ n4_; (try clear hb); (try clear hb2); (try clear hk); (try clear hi); have hcz47_0 : w46.cell? ⟨gb207, 0, none⟩ = some (.int .i64 (wrap64 (1 + t198))) := (blk_cell BK207.out 0).trans rfl; have hcz47_1 : w46.cell? ⟨gb207, 1, none⟩ = some (.int .i64 t217) := (blk_cell BK207.out 1).trans rfl; have hcz47_2 : w46.cell? ⟨gb207, 2, none⟩ = some (.int .i64 0) := (blk_cell BK207.out 2).trans rfl; have hcz47_3 : w46.cell? ⟨gb207, 3, none⟩ = some (.int .i64 t201) := (blk_cell BK207.out 3).trans rfl; have hcz47_4 : w46.cell? ⟨gb207, 4, none⟩ = some (.int .i64 t204) := (blk_cell BK207.out 4).trans rfl; have hcz47_5 : w46.cell? ⟨gb207, 5, none⟩ = some (.int .i64 (wrap64 (t204 + t208))) := (blk_cell BK207.out 5).trans rfl; have hfz47_0 := blk_frozen BK207.out 0; have hfz47_1 := blk_frozen BK207.out 1; have hfz47_2 := blk_frozen BK207.out 2; have hfz47_3 := blk_frozen BK207.out 3; have hfz47_4 := blk_frozen BK207.out 4; have hfz47_5 := blk_frozen BK207.out 5; have hnb48 := NB197_0.out; have hnc48 := NB0_197.out; have hcz49_0 : w46.cell? ⟨gb197, 0, none⟩ = some (.int .i64 0) := (blk_cell BK197.out 0).trans rfl; have hcz49_1 : w46.cell? ⟨gb197, 1, none⟩ = some (.int .i64 0) := (blk_cell BK197.out 1).trans rfl; have hcz49_2 : w46.cell? ⟨gb197, 2, none⟩ = some (.int .i64 0) := (blk_cell BK197.out 2).trans rfl; have hcz49_3 : w46.cell? ⟨gb197, 3, none⟩ = some (.int .i64 0) := (blk_cell BK197.out 3).trans rfl; have hcz49_4 : w46.cell? ⟨gb197, 4, none⟩ = some (.int .i64 0) := (blk_cell BK197.out 4).trans rfl; have hcz49_5 : w46.cell? ⟨gb197, 5, none⟩ = some (.int .i64 0) := (blk_cell BK197.out 5).trans rfl; have hfz49_0 := blk_frozen BK197.out 0; have hfz49_1 := blk_frozen BK197.out 1; have hfz49_2 := blk_frozen BK197.out 2; have hfz49_3 := blk_frozen BK197.out 3; have hfz49_4 := blk_frozen BK197.out 4; have hfz49_5 := blk_frozen BK197.out 5))
   refine bodyPost_ret (results_cell_row rfl _ _ gb197 26 #[.int .i64 (wrap64 (1 + t198)), .int .i64 t217, .int .i64 t220, .int .i64 t201, .int .i64 t204, .int .i64 (wrap64 (t204 + t208))] (0, 0) _ rfl (by (with_reducible repeat (first | refine blk_drewN ?_ _ | refine blk_drew ?_ | refine blk_alloc ?_ _)); refine blk_put (cs := #[.int .i64 (wrap64 (1 + t198)), .int .i64 t217, .int .i64 t220, .int .i64 t201, .int .i64 t204, .int .i64 0]) ?_ 5 _ rfl; (with_reducible repeat (first | refine blk_drewN ?_ _ | refine blk_drew ?_ | refine blk_alloc ?_ _)); refine blk_put (cs := #[.int .i64 (wrap64 (1 + t198)), .int .i64 t217, .int .i64 t220, .int .i64 t201, .int .i64 0, .int .i64 0]) ?_ 4 _ rfl; (with_reducible repeat (first | refine blk_drewN ?_ _ | refine blk_drew ?_ | refine blk_alloc ?_ _)); refine blk_put (cs := #[.int .i64 (wrap64 (1 + t198)), .int .i64 t217, .int .i64 t220, .int .i64 0, .int .i64 0, .int .i64 0]) ?_ 3 _ rfl; (with_reducible repeat (first | refine blk_drewN ?_ _ | refine blk_drew ?_ | refine blk_alloc ?_ _)); refine blk_put (cs := #[.int .i64 (wrap64 (1 + t198)), .int .i64 t217, .int .i64 0, .int .i64 0, .int .i64 0, .int .i64 0]) ?_ 2 _ rfl; (with_reducible repeat (first | refine blk_drewN ?_ _ | refine blk_drew ?_ | refine blk_alloc ?_ _)); refine blk_put (cs := #[.int .i64 (wrap64 (1 + t198)), .int .i64 0, .int .i64 0, .int .i64 0, .int .i64 0, .int .i64 0]) ?_ 1 _ rfl; (with_reducible repeat (first | refine blk_drewN ?_ _ | refine blk_drew ?_ | refine blk_alloc ?_ _)); refine blk_put (cs := #[.int .i64 0, .int .i64 0, .int .i64 0, .int .i64 0, .int .i64 0, .int .i64 0]) ?_ 0 _ rfl; (with_reducible repeat (first | refine blk_drewN ?_ _ | refine blk_drew ?_ | refine blk_alloc ?_ _)); refine blk_far ?_ NB197_207.out _; (with_reducible repeat (first | refine blk_drewN ?_ _ | refine blk_drew ?_ | refine blk_alloc ?_ _)); exact BK197.out) Try.underlying26 rfl (by kernel_rfl)) rfl ?_
   exact ⟨qq9, qq85, qq87, qq86⟩
  ·rw [if_neg c28] at H
   have c28b0 : ((wrap64 (1 + t198)) == 2) = false := beq_eq_false_iff_ne.mpr c28
   have c28b1 : ((wrap64 (1 + t198)) != 2) = true := bne_iff_ne.mpr c28
   by_cases c50 : (wrap64 (1 + t198)) = 3
   ·rw [if_pos c50] at H
    have c50b0 : ((wrap64 (1 + t198)) == 3) = true := beq_iff_eq.mpr c50
    have c50b1 : ((wrap64 (1 + t198)) != 3) = false := bne_eq_false_iff_eq.mpr c50
    clear c50
    replace H := Option.bind_eq_some_iff.mp H
    obtain ⟨⟨t223, t224, t225⟩, A510, H⟩ := H
    replace H : ((spec_l1Below.f s0_0 t224 t225 4).bind fun bt226 => (some (wrap64 (1 + t198), t223, bt226.1, t201, t204, wrap64 (t204 + t208), bt226.2.1, bt226.2.2))) = some (r1, r2, r3, r4, r5, r6, r7, r8) := H
    have A51 := Aside0.mk A510
    clear A510
    replace H := Option.bind_eq_some_iff.mp H
    obtain ⟨⟨t226, t227, t228⟩, A520, H⟩ := H
    replace H : (some (wrap64 (1 + t198), t223, t226, t201, t204, wrap64 (t204 + t208), t227, t228)) = some (r1, r2, r3, r4, r5, r6, r7, r8) := H
    have A52 := Aside0.mk A520
    clear A520
    simp only [Option.some.injEq, Prod.mk.injEq] at H
    obtain ⟨rfl, rfl, rfl, rfl, rfl, rfl, rfl, rfl⟩ := H
    go_enter Try.func47, Try.ntmps47
    try go_wp2_with (first | ((with_reducible refine gate_dst (N := 2) rfl ?_); refine box_event ?hg (N := 2) ?hd (cs := #[.int .i64 0, .int .i64 0, .int .i64 0, .int .i64 0, .int .i64 0, .int .i64 0]) (t := 26) ?hr ?_; (case hd => rfl); (case hg => rfl); (case hr => first | (go_simp; done) | (go_simp; rfl)); intro gb197 hg w53 hbox hb; have n0_ := Aside0.mk (IsS72.below (qq72) hb); have n1_ := Aside0.mk (KeepBut.trans (qq74) (KeepBut.of_below hb g none) (.inl rfl)); have n2_ := Aside0.mk (below_step (qq73) hb); have n3_ := Aside0.mk (hbox); have n4_ := Aside0.mk ((qq138 : w.heap.size ≤ gb197)); have n5_ := Aside0.mk ((Nat.le_trans HW0.out (qq138 : w.heap.size ≤ gb197) : w0.heap.size ≤ gb197)); have n6_ := Aside0.mk ((qq75 : g ≠ gb197)); have n7_ := Aside0.mk ((qq76 : gb197 ≠ g)); clear HI0; clear HK; clear HB; have HI0 := n0_; have HK := n1_; have HB := n2_; have BK197 := n3_; have GW197 := n4_; have GE197 := n5_; have NB0_197 := n6_; have NB197_0 := n7_; clear n0_ n1_ n2_ n3_ n4_ n5_ n6_ n7_; clear hb hbox hg) | ((with_reducible refine gate_callee (f := 36) rfl ?_); refine goesL_ (some 5) rfl rfl Try.func36 (by kernel_rfl) rfl #[.pointer (some ⟨g, 0, none⟩), .int .i64 4] rfl (qq5) ?_; (with_reducible refine (spec_l1Below.calls g s0_0 s0_1 s0_2 4 t198 t199 t200 w0 _ ?side1 ?side2 A2.out).mono ?_); (case side1 => exact qq79); (case side2 => exact qq80); rintro e w54 ⟨rfl, hi, hb, hk⟩; refine ⟨_, rfl, ?_⟩; have n0_ := Aside0.mk (KeepBut.blk hk (g' := gb197) (o := .cells #[.int .i64 0, .int .i64 0, .int .i64 0, .int .i64 0, .int .i64 0, .int .i64 0] 26 (0, 0)) (qq77) NB197_0.out (by simp)); have n1_ := Aside0.mk (KeepBut.trans (qq78) hk (.inl rfl)); have n2_ := Aside0.mk (hb); have n3_ := Aside0.mk (hi); clear BK197; clear HK; clear HB; clear HI0; have BK197 := n0_; have HK := n1_; have HB := n2_; have HI0 := n3_; clear n0_ n1_ n2_ n3_; (try clear hb); (try clear hb2); (try clear hk); (try clear hi)) | ((with_reducible refine gate_callee (f := 36) rfl ?_); refine goesL_ (some 8) rfl rfl Try.func36 (by kernel_rfl) rfl #[.pointer (some ⟨g, 0, none⟩), .int .i64 3] rfl (qq5) ?_; (with_reducible refine (spec_l1Below.calls g s0_0 t199 t200 3 t201 t202 t203 w0 _ ?side1 ?side2 A3.out).mono ?_); (case side1 => exact qq79); (case side2 => exact qq80); rintro e w55 ⟨rfl, hi, hb, hk⟩; refine ⟨_, rfl, ?_⟩; have n0_ := Aside0.mk (KeepBut.blk hk (g' := gb197) (o := .cells #[.int .i64 0, .int .i64 0, .int .i64 0, .int .i64 0, .int .i64 0, .int .i64 0] 26 (0, 0)) (qq77) NB197_0.out (by simp)); have n1_ := Aside0.mk (KeepBut.trans (qq78) hk (.inl rfl)); have n2_ := Aside0.mk (hb); have n3_ := Aside0.mk (hi); clear BK197; clear HK; clear HB; clear HI0; have BK197 := n0_; have HK := n1_; have HB := n2_; have HI0 := n3_; clear n0_ n1_ n2_ n3_; (try clear hb); (try clear hb2); (try clear hk); (try clear hi)) | ((with_reducible refine gate_callee (f := 36) rfl ?_); refine goesL_ (some 10) rfl rfl Try.func36 (by kernel_rfl) rfl #[.pointer (some ⟨g, 0, none⟩), .int .i64 20] rfl (qq5) ?_; (with_reducible refine (spec_l1Below.calls g s0_0 t202 t203 20 t204 t205 t206 w0 _ ?side1 ?side2 A4.out).mono ?_); (case side1 => exact qq79); (case side2 => exact qq80); rintro e w56 ⟨rfl, hi, hb, hk⟩; refine ⟨_, rfl, ?_⟩; have n0_ := Aside0.mk (KeepBut.blk hk (g' := gb197) (o := .cells #[.int .i64 0, .int .i64 0, .int .i64 0, .int .i64 0, .int .i64 0, .int .i64 0] 26 (0, 0)) (qq77) NB197_0.out (by simp)); have n1_ := Aside0.mk (KeepBut.trans (qq78) hk (.inl rfl)); have n2_ := Aside0.mk (hb); have n3_ := Aside0.mk (hi); clear BK197; clear HK; clear HB; clear HI0; have BK197 := n0_; have HK := n1_; have HB := n2_; have HI0 := n3_; clear n0_ n1_ n2_ n3_; (try clear hb); (try clear hb2); (try clear hk); (try clear hi)) | ((with_reducible refine gate_dst (N := 3) rfl ?_); refine box_event ?hg (N := 3) ?hd (cs := #[.int .i64 0, .int .i64 0, .int .i64 0, .int .i64 0, .int .i64 0, .int .i64 0]) (t := 26) ?hr ?_; (case hd => rfl); (case hg => rfl); (case hr => first | (go_simp; done) | (go_simp; rfl)); intro gb207 hg w57 hbox hb; have n0_ := Aside0.mk (IsS72.below (qq79) hb); have n1_ := Aside0.mk (blk_below (g := gb197) (o := .cells #[.int .i64 0, .int .i64 0, .int .i64 0, .int .i64 0, .int .i64 0, .int .i64 0] 26 (0, 0)) (qq77) hb); have n2_ := Aside0.mk (KeepBut.trans (qq78) (KeepBut.of_below hb g none) (.inl rfl)); have n3_ := Aside0.mk (below_step (qq80) hb); have n4_ := Aside0.mk (hbox); have n5_ := Aside0.mk ((qq139 : w.heap.size ≤ gb207)); have n6_ := Aside0.mk ((Nat.le_trans HW0.out (qq139 : w.heap.size ≤ gb207) : w0.heap.size ≤ gb207)); have n7_ := Aside0.mk ((qq140 : gb197 ≠ gb207)); have n8_ := Aside0.mk ((qq141 : gb207 ≠ gb197)); have n9_ := Aside0.mk ((qq81 : g ≠ gb207)); have n10_ := Aside0.mk ((qq82 : gb207 ≠ g)); clear HI0; clear BK197; clear HK; clear HB; have HI0 := n0_; have BK197 := n1_; have HK := n2_; have HB := n3_; have BK207 := n4_; have GW207 := n5_; have GE207 := n6_; have NB197_207 := n7_; have NB207_197 := n8_; have NB0_207 := n9_; have NB207_0 := n10_; clear n0_ n1_ n2_ n3_ n4_ n5_ n6_ n7_ n8_ n9_ n10_; clear hb hbox hg; have hnb58 := NB207_197.out; have hnc58 := NB197_207.out; have hnb59 := NB207_0.out; have hnc59 := NB0_207.out; have hcz60_0 : w57.cell? ⟨gb207, 0, none⟩ = some (.int .i64 0) := (blk_cell BK207.out 0).trans rfl; have hcz60_1 : w57.cell? ⟨gb207, 1, none⟩ = some (.int .i64 0) := (blk_cell BK207.out 1).trans rfl; have hcz60_2 : w57.cell? ⟨gb207, 2, none⟩ = some (.int .i64 0) := (blk_cell BK207.out 2).trans rfl; have hcz60_3 : w57.cell? ⟨gb207, 3, none⟩ = some (.int .i64 0) := (blk_cell BK207.out 3).trans rfl; have hcz60_4 : w57.cell? ⟨gb207, 4, none⟩ = some (.int .i64 0) := (blk_cell BK207.out 4).trans rfl; have hcz60_5 : w57.cell? ⟨gb207, 5, none⟩ = some (.int .i64 0) := (blk_cell BK207.out 5).trans rfl; have hfz60_0 := blk_frozen BK207.out 0; have hfz60_1 := blk_frozen BK207.out 1; have hfz60_2 := blk_frozen BK207.out 2; have hfz60_3 := blk_frozen BK207.out 3; have hfz60_4 := blk_frozen BK207.out 4; have hfz60_5 := blk_frozen BK207.out 5))
    have n0_ : Aside0 (((((((w57.setCell ⟨gb207, 0, none⟩ (.int .i64 (wrap64 (1 + t198)))).setCell ⟨gb207, 1, none⟩ (.int .i64 0)).setCell ⟨gb207, 2, none⟩ (.int .i64 0)).setCell ⟨gb207, 3, none⟩ (.int .i64 t201)).setCell ⟨gb207, 4, none⟩ (.int .i64 t204)).setCell ⟨gb207, 5, none⟩ (.int .i64 0)).heap[gb197]? = some (.cells #[.int .i64 0, .int .i64 0, .int .i64 0, .int .i64 0, .int .i64 0, .int .i64 0] 26 (0, 0))) := ⟨qq83⟩
    have n1_ : Aside0 (((((((w57.setCell ⟨gb207, 0, none⟩ (.int .i64 (wrap64 (1 + t198)))).setCell ⟨gb207, 1, none⟩ (.int .i64 0)).setCell ⟨gb207, 2, none⟩ (.int .i64 0)).setCell ⟨gb207, 3, none⟩ (.int .i64 t201)).setCell ⟨gb207, 4, none⟩ (.int .i64 t204)).setCell ⟨gb207, 5, none⟩ (.int .i64 0)).heap[gb207]? = some (.cells #[.int .i64 (wrap64 (1 + t198)), .int .i64 0, .int .i64 0, .int .i64 t201, .int .i64 t204, .int .i64 0] 26 (0, 0))) := ⟨qq84⟩
    have n2_ : Aside0 (IsS72 w0 ((((((w57.setCell ⟨gb207, 0, none⟩ (.int .i64 (wrap64 (1 + t198)))).setCell ⟨gb207, 1, none⟩ (.int .i64 0)).setCell ⟨gb207, 2, none⟩ (.int .i64 0)).setCell ⟨gb207, 3, none⟩ (.int .i64 t201)).setCell ⟨gb207, 4, none⟩ (.int .i64 t204)).setCell ⟨gb207, 5, none⟩ (.int .i64 0)) g s0_0 t205 t206) := ⟨qq85⟩
    have n3_ : Aside0 (KeepBut w ((((((w57.setCell ⟨gb207, 0, none⟩ (.int .i64 (wrap64 (1 + t198)))).setCell ⟨gb207, 1, none⟩ (.int .i64 0)).setCell ⟨gb207, 2, none⟩ (.int .i64 0)).setCell ⟨gb207, 3, none⟩ (.int .i64 t201)).setCell ⟨gb207, 4, none⟩ (.int .i64 t204)).setCell ⟨gb207, 5, none⟩ (.int .i64 0)) g none) := ⟨qq86⟩
    have n4_ : Aside0 (Below w0.heap.size w0 ((((((w57.setCell ⟨gb207, 0, none⟩ (.int .i64 (wrap64 (1 + t198)))).setCell ⟨gb207, 1, none⟩ (.int .i64 0)).setCell ⟨gb207, 2, none⟩ (.int .i64 0)).setCell ⟨gb207, 3, none⟩ (.int .i64 t201)).setCell ⟨gb207, 4, none⟩ (.int .i64 t204)).setCell ⟨gb207, 5, none⟩ (.int .i64 0))) := ⟨qq87⟩
    (try clear BK197)
    (try clear BK207)
    (try clear HI0)
    (try clear HK)
    (try clear HB)
    generalize ((((((w57.setCell ⟨gb207, 0, none⟩ (.int .i64 (wrap64 (1 + t198)))).setCell ⟨gb207, 1, none⟩ (.int .i64 0)).setCell ⟨gb207, 2, none⟩ (.int .i64 0)).setCell ⟨gb207, 3, none⟩ (.int .i64 t201)).setCell ⟨gb207, 4, none⟩ (.int .i64 t204)).setCell ⟨gb207, 5, none⟩ (.int .i64 0)) = w61 at n0_ n1_ n2_ n3_ n4_ ⊢
    have BK197 := n0_
    have BK207 := n1_
    have HI0 := n2_
    have HK := n3_
    have HB := n4_
    clear n0_ n1_ n2_ n3_ n4_
    have n0_ := Aside0.mk (blk_drew BK197.out)
    have n1_ := Aside0.mk (blk_drew BK207.out)
    have n2_ := Aside0.mk (IsS72.drew HI0.out)
    have n3_ := Aside0.mk (keep_drew HK.out)
    have n4_ := Aside0.mk (below_drew1 HB.out)
    clear BK197
    clear BK207
    clear HI0
    clear HK
    clear HB
    have BK197 := n0_
    have BK207 := n1_
    have HI0 := n2_
    have HK := n3_
    have HB := n4_
    clear n0_ n1_ n2_ n3_ n4_
    refine start_ (n := 7) (S := fun w' => w'.cell? ⟨gb207, 0, none⟩ = some (.int .i64 (wrap64 (1 + t198))) ∧ w'.cell? ⟨gb207, 1, none⟩ = some (.int .i64 0) ∧ w'.cell? ⟨gb207, 2, none⟩ = some (.int .i64 0) ∧ w'.cell? ⟨gb207, 3, none⟩ = some (.int .i64 t201) ∧ w'.cell? ⟨gb207, 4, none⟩ = some (.int .i64 t204) ∧ w'.cell? ⟨gb207, 5, none⟩ = some (.int .i64 0)) (ds := [6]) mm110 (by kernel_rfl) rfl rfl ⟨(blk_cell BK207.out 0).trans rfl, (blk_cell BK207.out 1).trans rfl, (blk_cell BK207.out 2).trans rfl, (blk_cell BK207.out 3).trans rfl, (blk_cell BK207.out 4).trans rfl, (blk_cell BK207.out 5).trans rfl⟩ (fun hHeld => ?_)
    generalize w61.drew = w62 at BK197 BK207 HI0 HK HB hHeld ⊢
    refine pure_ (i := 0) (N := some 12) (v := ?_) (a' := ?_) mm111 rfl rfl (by kernel_rfl) (fun _ _ _ h => h) (Or.inl ⟨by rfl, ?_⟩) ?_ ?_
    rotate_left
    ·intro w'
     go_simp
     with_reducible rfl
    rotate_left
    ·exact qq161
    refine pure_ (i := 2) (N := some 14) (v := ?_) (a' := ?_) mm112 rfl rfl (by kernel_rfl) (fun _ _ _ h => h) (Or.inl ⟨by rfl, ?_⟩) ?_ ?_
    rotate_left
    ·intro w'
     go_simp
     with_reducible rfl
    rotate_left
    ·exact qq161
    refine take_ (i := 1) (N := some 13) (v := ?_) (a' := ?_) mm113 rfl rfl (by kernel_rfl) (fun _ _ _ h => h) (Or.inl ⟨by rfl, ?_⟩) hHeld ?_ ?_
    rotate_left
    ·rintro w' ⟨s0, s1, s2, s3, s4, s5⟩
     go_simp
     with_reducible rfl
    rotate_left
    ·exact qq161
    refine one_ (i := 3) (N := some 15) mm114 rfl rfl (by kernel_rfl) (by decide) (fun K hK => ?_)
    refine goes_ Try.func36 (by kernel_rfl) rfl #[.pointer (some ⟨g, 0, none⟩), .int .i64 30] (by rfl) rfl rfl (qq5) ?_
    with_reducible refine (spec_l1Below.calls g s0_0 t205 t206 30 t208 t209 t210 w0 _ ?side1 ?side2 A5.out).mono ?_
    (case side1 => exact qq85)
    (case side2 => exact qq87)
    rintro e w63 ⟨rfl, hi, hb, hk⟩
    refine ⟨_, rfl, ?_⟩
    have n0_ := Aside0.mk (KeepBut.blk hk (g' := gb197) (o := .cells #[.int .i64 0, .int .i64 0, .int .i64 0, .int .i64 0, .int .i64 0, .int .i64 0] 26 (0, 0)) (qq77) NB197_0.out (by simp))
    have n1_ := Aside0.mk (KeepBut.blk hk (g' := gb207) (o := .cells #[.int .i64 (wrap64 (1 + t198)), .int .i64 0, .int .i64 0, .int .i64 t201, .int .i64 t204, .int .i64 0] 26 (0, 0)) (qq88) NB207_0.out (by simp))
    have n2_ := Aside0.mk (KeepBut.trans (qq86) hk (.inl rfl))
    have n3_ := Aside0.mk (hb)
    have n4_ := Aside0.mk (hi)
    clear BK197
    clear BK207
    clear HK
    clear HB
    clear HI0
    have BK197 := n0_
    have BK207 := n1_
    have HK := n2_
    have HB := n3_
    have HI0 := n4_
    clear n0_ n1_ n2_ n3_ n4_
    (try clear hb)
    (try clear hb2)
    (try clear hk)
    (try clear hi)
    refine hK.out _ _ ⟨(blk_cell BK207.out 0).trans rfl, (blk_cell BK207.out 1).trans rfl, (blk_cell BK207.out 2).trans rfl, (blk_cell BK207.out 3).trans rfl, (blk_cell BK207.out 4).trans rfl, (blk_cell BK207.out 5).trans rfl⟩ (fun hHeld => ?_)
    clear hK K
    refine norm_ (a' := ?_) ?_ ?_
    rotate_left
    ·show Act.put _ (some 15) _ = _
     simp only [Act.put, List.setIfInBounds_toArray, List.set_cons_zero, List.set_cons_succ, i64_w, i32_w]
     rfl
    refine pure_ (i := 4) (N := some 16) (v := ?_) (a' := ?_) mm115 rfl rfl (by kernel_rfl) (fun _ _ _ h => h) (Or.inl ⟨by rfl, ?_⟩) ?_ ?_
    rotate_left
    ·intro w'
     go_simp
     with_reducible rfl
    rotate_left
    ·exact qq161
    refine pure_ (i := 5) (N := some 17) (v := ?_) (a' := ?_) mm116 rfl rfl (by kernel_rfl) (fun _ _ _ h => h) (Or.inl ⟨by rfl, ?_⟩) ?_ ?_
    rotate_left
    ·intro w'
     go_simp
     with_reducible rfl
    rotate_left
    ·exact qq161
    refine last_ (i := 6) (N := none) mm117 rfl rfl (by kernel_rfl) (by decide) (fun K hK => ?_)
    have hs64 : w63.cell? ⟨gb207, 5, none⟩ = some (.int .i64 0) := (blk_cell BK207.out 5).trans rfl
    have hfs64 := blk_frozen BK207.out 5
    have hns64_0 := NB197_207.out
    have hms64_0 := NB207_197.out
    refine skip_ (w1 := ?_) (by rfl) rfl ?_ ?_
    rotate_left
    ·go_simp
     rfl
    refine hK.out _ _ ?_
    clear hK K
    refine done_ (by kernel_rfl) ?_
    have hcz65_0 : w63.cell? ⟨gb207, 0, none⟩ = some (.int .i64 (wrap64 (1 + t198))) := (blk_cell BK207.out 0).trans rfl
    have hcz65_1 : w63.cell? ⟨gb207, 1, none⟩ = some (.int .i64 0) := (blk_cell BK207.out 1).trans rfl
    have hcz65_2 : w63.cell? ⟨gb207, 2, none⟩ = some (.int .i64 0) := (blk_cell BK207.out 2).trans rfl
    have hcz65_3 : w63.cell? ⟨gb207, 3, none⟩ = some (.int .i64 t201) := (blk_cell BK207.out 3).trans rfl
    have hcz65_4 : w63.cell? ⟨gb207, 4, none⟩ = some (.int .i64 t204) := (blk_cell BK207.out 4).trans rfl
    have hcz65_5 : w63.cell? ⟨gb207, 5, none⟩ = some (.int .i64 0) := (blk_cell BK207.out 5).trans rfl
    have hfz65_0 := blk_frozen BK207.out 0
    have hfz65_1 := blk_frozen BK207.out 1
    have hfz65_2 := blk_frozen BK207.out 2
    have hfz65_3 := blk_frozen BK207.out 3
    have hfz65_4 := blk_frozen BK207.out 4
    have hfz65_5 := blk_frozen BK207.out 5
    try go_wp2_with (first | ((with_reducible refine gate_callee (f := 66) rfl ?_); refine goesL_ (some 45) rfl rfl Try.func66 (by kernel_rfl) rfl #[.pointer (some ⟨g, 0, none⟩), .int .i64 2] rfl (qq5) ?_; (with_reducible refine (spec_l5Name.calls g s0_0 t209 t210 2 t223 t224 t225 w0 _ ?side1 ?side2 A51.out).mono ?_); (case side1 => exact qq85); (case side2 => exact qq87); rintro e w66 ⟨rfl, hi, hb, hk⟩; refine ⟨_, rfl, ?_⟩; have n0_ := Aside0.mk (KeepBut.blk hk (g' := gb197) (o := .cells #[.int .i64 0, .int .i64 0, .int .i64 0, .int .i64 0, .int .i64 0, .int .i64 0] 26 (0, 0)) (qq89) NB197_0.out (by simp)); have n1_ := Aside0.mk (KeepBut.blk hk (g' := gb207) (o := .cells #[.int .i64 (wrap64 (1 + t198)), .int .i64 0, .int .i64 0, .int .i64 t201, .int .i64 t204, .int .i64 (wrap64 (t204 + t208))] 26 (0, 0)) (qq90) NB207_0.out (by simp)); have n2_ := Aside0.mk (KeepBut.trans (qq86) hk (.inl rfl)); have n3_ := Aside0.mk (hb); have n4_ := Aside0.mk (hi); clear BK197; clear BK207; clear HK; clear HB; clear HI0; have BK197 := n0_; have BK207 := n1_; have HK := n2_; have HB := n3_; have HI0 := n4_; clear n0_ n1_ n2_ n3_ n4_; (try clear hb); (try clear hb2); (try clear hk); (try clear hi); have hcz67_0 : w66.cell? ⟨gb207, 0, none⟩ = some (.int .i64 (wrap64 (1 + t198))) := (blk_cell BK207.out 0).trans rfl; have hcz67_1 : w66.cell? ⟨gb207, 1, none⟩ = some (.int .i64 0) := (blk_cell BK207.out 1).trans rfl; have hcz67_2 : w66.cell? ⟨gb207, 2, none⟩ = some (.int .i64 0) := (blk_cell BK207.out 2).trans rfl; have hcz67_3 : w66.cell? ⟨gb207, 3, none⟩ = some (.int .i64 t201) := (blk_cell BK207.out 3).trans rfl; have hcz67_4 : w66.cell? ⟨gb207, 4, none⟩ = some (.int .i64 t204) := (blk_cell BK207.out 4).trans rfl; have hcz67_5 : w66.cell? ⟨gb207, 5, none⟩ = some (.int .i64 (wrap64 (t204 + t208))) := (blk_cell BK207.out 5).trans rfl; have hfz67_0 := blk_frozen BK207.out 0; have hfz67_1 := blk_frozen BK207.out 1; have hfz67_2 := blk_frozen BK207.out 2; have hfz67_3 := blk_frozen BK207.out 3; have hfz67_4 := blk_frozen BK207.out 4; have hfz67_5 := blk_frozen BK207.out 5) | ((with_reducible refine gate_callee (f := 36) rfl ?_); refine goesL_ (some 48) rfl rfl Try.func36 (by kernel_rfl) rfl #[.pointer (some ⟨g, 0, none⟩), .int .i64 4] rfl (qq5) ?_; (with_reducible refine (spec_l1Below.calls g s0_0 t224 t225 4 t226 t227 t228 w0 _ ?side1 ?side2 A52.out).mono ?_); (case side1 => exact qq85); (case side2 => exact qq87); rintro e w68 ⟨rfl, hi, hb, hk⟩; refine ⟨_, rfl, ?_⟩; have n0_ := Aside0.mk (KeepBut.blk hk (g' := gb197) (o := .cells #[.int .i64 0, .int .i64 0, .int .i64 0, .int .i64 0, .int .i64 0, .int .i64 0] 26 (0, 0)) (qq89) NB197_0.out (by simp)); have n1_ := Aside0.mk (KeepBut.blk hk (g' := gb207) (o := .cells #[.int .i64 (wrap64 (1 + t198)), .int .i64 t223, .int .i64 0, .int .i64 t201, .int .i64 t204, .int .i64 (wrap64 (t204 + t208))] 26 (0, 0)) (qq91) NB207_0.out (by simp)); have n2_ := Aside0.mk (KeepBut.trans (qq86) hk (.inl rfl)); have n3_ := Aside0.mk (hb); have n4_ := Aside0.mk (hi); clear BK197; clear BK207; clear HK; clear HB; clear HI0; have BK197 := n0_; have BK207 := n1_; have HK := n2_; have HB := n3_; have HI0 := n4_; clear n0_ n1_ n2_ n3_ n4_; (try clear hb); (try clear hb2); (try clear hk); (try clear hi); have hcz69_0 : w68.cell? ⟨gb207, 0, none⟩ = some (.int .i64 (wrap64 (1 + t198))) := (blk_cell BK207.out 0).trans rfl; have hcz69_1 : w68.cell? ⟨gb207, 1, none⟩ = some (.int .i64 t223) := (blk_cell BK207.out 1).trans rfl; have hcz69_2 : w68.cell? ⟨gb207, 2, none⟩ = some (.int .i64 0) := (blk_cell BK207.out 2).trans rfl; have hcz69_3 : w68.cell? ⟨gb207, 3, none⟩ = some (.int .i64 t201) := (blk_cell BK207.out 3).trans rfl; have hcz69_4 : w68.cell? ⟨gb207, 4, none⟩ = some (.int .i64 t204) := (blk_cell BK207.out 4).trans rfl; have hcz69_5 : w68.cell? ⟨gb207, 5, none⟩ = some (.int .i64 (wrap64 (t204 + t208))) := (blk_cell BK207.out 5).trans rfl; have hfz69_0 := blk_frozen BK207.out 0; have hfz69_1 := blk_frozen BK207.out 1; have hfz69_2 := blk_frozen BK207.out 2; have hfz69_3 := blk_frozen BK207.out 3; have hfz69_4 := blk_frozen BK207.out 4; have hfz69_5 := blk_frozen BK207.out 5; have hnb70 := NB197_0.out; have hnc70 := NB0_197.out; have hcz71_0 : w68.cell? ⟨gb197, 0, none⟩ = some (.int .i64 0) := (blk_cell BK197.out 0).trans rfl; have hcz71_1 : w68.cell? ⟨gb197, 1, none⟩ = some (.int .i64 0) := (blk_cell BK197.out 1).trans rfl; have hcz71_2 : w68.cell? ⟨gb197, 2, none⟩ = some (.int .i64 0) := (blk_cell BK197.out 2).trans rfl; have hcz71_3 : w68.cell? ⟨gb197, 3, none⟩ = some (.int .i64 0) := (blk_cell BK197.out 3).trans rfl; have hcz71_4 : w68.cell? ⟨gb197, 4, none⟩ = some (.int .i64 0) := (blk_cell BK197.out 4).trans rfl; have hcz71_5 : w68.cell? ⟨gb197, 5, none⟩ = some (.int .i64 0) := (blk_cell BK197.out 5).trans rfl; have hfz71_0 := blk_frozen BK197.out 0; have hfz71_1 := blk_frozen BK197.out 1; have hfz71_2 := blk_frozen BK197.out 2; have hfz71_3 := blk_frozen BK197.out 3; have hfz71_4 := blk_frozen BK197.out 4; have hfz71_5 := blk_frozen BK197.out 5))
    refine bodyPost_ret (results_cell_row rfl _ _ gb197 26 #[.int .i64 (wrap64 (1 + t198)), .int .i64 t223, .int .i64 t226, .int .i64 t201, .int .i64 t204, .int .i64 (wrap64 (t204 + t208))] (0, 0) _ rfl (by (with_reducible repeat (first | refine blk_drewN ?_ _ | refine blk_drew ?_ | refine blk_alloc ?_ _)); refine blk_put (cs := #[.int .i64 (wrap64 (1 + t198)), .int .i64 t223, .int .i64 t226, .int .i64 t201, .int .i64 t204, .int .i64 0]) ?_ 5 _ rfl; (with_reducible repeat (first | refine blk_drewN ?_ _ | refine blk_drew ?_ | refine blk_alloc ?_ _)); refine blk_put (cs := #[.int .i64 (wrap64 (1 + t198)), .int .i64 t223, .int .i64 t226, .int .i64 t201, .int .i64 0, .int .i64 0]) ?_ 4 _ rfl; (with_reducible repeat (first | refine blk_drewN ?_ _ | refine blk_drew ?_ | refine blk_alloc ?_ _)); refine blk_put (cs := #[.int .i64 (wrap64 (1 + t198)), .int .i64 t223, .int .i64 t226, .int .i64 0, .int .i64 0, .int .i64 0]) ?_ 3 _ rfl; (with_reducible repeat (first | refine blk_drewN ?_ _ | refine blk_drew ?_ | refine blk_alloc ?_ _)); refine blk_put (cs := #[.int .i64 (wrap64 (1 + t198)), .int .i64 t223, .int .i64 0, .int .i64 0, .int .i64 0, .int .i64 0]) ?_ 2 _ rfl; (with_reducible repeat (first | refine blk_drewN ?_ _ | refine blk_drew ?_ | refine blk_alloc ?_ _)); refine blk_put (cs := #[.int .i64 (wrap64 (1 + t198)), .int .i64 0, .int .i64 0, .int .i64 0, .int .i64 0, .int .i64 0]) ?_ 1 _ rfl; (with_reducible repeat (first | refine blk_drewN ?_ _ | refine blk_drew ?_ | refine blk_alloc ?_ _)); refine blk_put (cs := #[.int .i64 0, .int .i64 0, .int .i64 0, .int .i64 0, .int .i64 0, .int .i64 0]) ?_ 0 _ rfl; (with_reducible repeat (first | refine blk_drewN ?_ _ | refine blk_drew ?_ | refine blk_alloc ?_ _)); refine blk_far ?_ NB197_207.out _; (with_reducible repeat (first | refine blk_drewN ?_ _ | refine blk_drew ?_ | refine blk_alloc ?_ _)); exact BK197.out) Try.underlying26 rfl (by kernel_rfl)) rfl ?_
    exact ⟨qq9, qq85, qq87, qq86⟩
   ·rw [if_neg c50] at H
    have c50b0 : ((wrap64 (1 + t198)) == 3) = false := beq_eq_false_iff_ne.mpr c50
    have c50b1 : ((wrap64 (1 + t198)) != 3) = true := bne_iff_ne.mpr c50
    replace H := Option.bind_eq_some_iff.mp H
    obtain ⟨⟨t229, t230, t231⟩, A720, H⟩ := H
    replace H : ((spec_l1Below.f s0_0 t230 t231 4).bind fun bt232 => (some (wrap64 (1 + t198), t229, bt232.1, t201, t204, wrap64 (t204 + t208), bt232.2.1, bt232.2.2))) = some (r1, r2, r3, r4, r5, r6, r7, r8) := H
    have A72 := Aside0.mk A720
    clear A720
    replace H := Option.bind_eq_some_iff.mp H
    obtain ⟨⟨t232, t233, t234⟩, A730, H⟩ := H
    replace H : (some (wrap64 (1 + t198), t229, t232, t201, t204, wrap64 (t204 + t208), t233, t234)) = some (r1, r2, r3, r4, r5, r6, r7, r8) := H
    have A73 := Aside0.mk A730
    clear A730
    simp only [Option.some.injEq, Prod.mk.injEq] at H
    obtain ⟨rfl, rfl, rfl, rfl, rfl, rfl, rfl, rfl⟩ := H
    go_enter Try.func47, Try.ntmps47
    try go_wp2_with (first | ((with_reducible refine gate_dst (N := 2) rfl ?_); refine box_event ?hg (N := 2) ?hd (cs := #[.int .i64 0, .int .i64 0, .int .i64 0, .int .i64 0, .int .i64 0, .int .i64 0]) (t := 26) ?hr ?_; (case hd => rfl); (case hg => rfl); (case hr => first | (go_simp; done) | (go_simp; rfl)); intro gb197 hg w74 hbox hb; have n0_ := Aside0.mk (IsS72.below (qq72) hb); have n1_ := Aside0.mk (KeepBut.trans (qq74) (KeepBut.of_below hb g none) (.inl rfl)); have n2_ := Aside0.mk (below_step (qq73) hb); have n3_ := Aside0.mk (hbox); have n4_ := Aside0.mk ((qq138 : w.heap.size ≤ gb197)); have n5_ := Aside0.mk ((Nat.le_trans HW0.out (qq138 : w.heap.size ≤ gb197) : w0.heap.size ≤ gb197)); have n6_ := Aside0.mk ((qq75 : g ≠ gb197)); have n7_ := Aside0.mk ((qq76 : gb197 ≠ g)); clear HI0; clear HK; clear HB; have HI0 := n0_; have HK := n1_; have HB := n2_; have BK197 := n3_; have GW197 := n4_; have GE197 := n5_; have NB0_197 := n6_; have NB197_0 := n7_; clear n0_ n1_ n2_ n3_ n4_ n5_ n6_ n7_; clear hb hbox hg) | ((with_reducible refine gate_callee (f := 36) rfl ?_); refine goesL_ (some 5) rfl rfl Try.func36 (by kernel_rfl) rfl #[.pointer (some ⟨g, 0, none⟩), .int .i64 4] rfl (qq5) ?_; (with_reducible refine (spec_l1Below.calls g s0_0 s0_1 s0_2 4 t198 t199 t200 w0 _ ?side1 ?side2 A2.out).mono ?_); (case side1 => exact qq79); (case side2 => exact qq80); rintro e w75 ⟨rfl, hi, hb, hk⟩; refine ⟨_, rfl, ?_⟩; have n0_ := Aside0.mk (KeepBut.blk hk (g' := gb197) (o := .cells #[.int .i64 0, .int .i64 0, .int .i64 0, .int .i64 0, .int .i64 0, .int .i64 0] 26 (0, 0)) (qq77) NB197_0.out (by simp)); have n1_ := Aside0.mk (KeepBut.trans (qq78) hk (.inl rfl)); have n2_ := Aside0.mk (hb); have n3_ := Aside0.mk (hi); clear BK197; clear HK; clear HB; clear HI0; have BK197 := n0_; have HK := n1_; have HB := n2_; have HI0 := n3_; clear n0_ n1_ n2_ n3_; (try clear hb); (try clear hb2); (try clear hk); (try clear hi)) | ((with_reducible refine gate_callee (f := 36) rfl ?_); refine goesL_ (some 8) rfl rfl Try.func36 (by kernel_rfl) rfl #[.pointer (some ⟨g, 0, none⟩), .int .i64 3] rfl (qq5) ?_; (with_reducible refine (spec_l1Below.calls g s0_0 t199 t200 3 t201 t202 t203 w0 _ ?side1 ?side2 A3.out).mono ?_); (case side1 => exact qq79); (case side2 => exact qq80); rintro e w76 ⟨rfl, hi, hb, hk⟩; refine ⟨_, rfl, ?_⟩; have n0_ := Aside0.mk (KeepBut.blk hk (g' := gb197) (o := .cells #[.int .i64 0, .int .i64 0, .int .i64 0, .int .i64 0, .int .i64 0, .int .i64 0] 26 (0, 0)) (qq77) NB197_0.out (by simp)); have n1_ := Aside0.mk (KeepBut.trans (qq78) hk (.inl rfl)); have n2_ := Aside0.mk (hb); have n3_ := Aside0.mk (hi); clear BK197; clear HK; clear HB; clear HI0; have BK197 := n0_; have HK := n1_; have HB := n2_; have HI0 := n3_; clear n0_ n1_ n2_ n3_; (try clear hb); (try clear hb2); (try clear hk); (try clear hi)) | ((with_reducible refine gate_callee (f := 36) rfl ?_); refine goesL_ (some 10) rfl rfl Try.func36 (by kernel_rfl) rfl #[.pointer (some ⟨g, 0, none⟩), .int .i64 20] rfl (qq5) ?_; (with_reducible refine (spec_l1Below.calls g s0_0 t202 t203 20 t204 t205 t206 w0 _ ?side1 ?side2 A4.out).mono ?_); (case side1 => exact qq79); (case side2 => exact qq80); rintro e w77 ⟨rfl, hi, hb, hk⟩; refine ⟨_, rfl, ?_⟩; have n0_ := Aside0.mk (KeepBut.blk hk (g' := gb197) (o := .cells #[.int .i64 0, .int .i64 0, .int .i64 0, .int .i64 0, .int .i64 0, .int .i64 0] 26 (0, 0)) (qq77) NB197_0.out (by simp)); have n1_ := Aside0.mk (KeepBut.trans (qq78) hk (.inl rfl)); have n2_ := Aside0.mk (hb); have n3_ := Aside0.mk (hi); clear BK197; clear HK; clear HB; clear HI0; have BK197 := n0_; have HK := n1_; have HB := n2_; have HI0 := n3_; clear n0_ n1_ n2_ n3_; (try clear hb); (try clear hb2); (try clear hk); (try clear hi)) | ((with_reducible refine gate_dst (N := 3) rfl ?_); refine box_event ?hg (N := 3) ?hd (cs := #[.int .i64 0, .int .i64 0, .int .i64 0, .int .i64 0, .int .i64 0, .int .i64 0]) (t := 26) ?hr ?_; (case hd => rfl); (case hg => rfl); (case hr => first | (go_simp; done) | (go_simp; rfl)); intro gb207 hg w78 hbox hb; have n0_ := Aside0.mk (IsS72.below (qq79) hb); have n1_ := Aside0.mk (blk_below (g := gb197) (o := .cells #[.int .i64 0, .int .i64 0, .int .i64 0, .int .i64 0, .int .i64 0, .int .i64 0] 26 (0, 0)) (qq77) hb); have n2_ := Aside0.mk (KeepBut.trans (qq78) (KeepBut.of_below hb g none) (.inl rfl)); have n3_ := Aside0.mk (below_step (qq80) hb); have n4_ := Aside0.mk (hbox); have n5_ := Aside0.mk ((qq139 : w.heap.size ≤ gb207)); have n6_ := Aside0.mk ((Nat.le_trans HW0.out (qq139 : w.heap.size ≤ gb207) : w0.heap.size ≤ gb207)); have n7_ := Aside0.mk ((qq140 : gb197 ≠ gb207)); have n8_ := Aside0.mk ((qq141 : gb207 ≠ gb197)); have n9_ := Aside0.mk ((qq81 : g ≠ gb207)); have n10_ := Aside0.mk ((qq82 : gb207 ≠ g)); clear HI0; clear BK197; clear HK; clear HB; have HI0 := n0_; have BK197 := n1_; have HK := n2_; have HB := n3_; have BK207 := n4_; have GW207 := n5_; have GE207 := n6_; have NB197_207 := n7_; have NB207_197 := n8_; have NB0_207 := n9_; have NB207_0 := n10_; clear n0_ n1_ n2_ n3_ n4_ n5_ n6_ n7_ n8_ n9_ n10_; clear hb hbox hg; have hnb79 := NB207_197.out; have hnc79 := NB197_207.out; have hnb80 := NB207_0.out; have hnc80 := NB0_207.out; have hcz81_0 : w78.cell? ⟨gb207, 0, none⟩ = some (.int .i64 0) := (blk_cell BK207.out 0).trans rfl; have hcz81_1 : w78.cell? ⟨gb207, 1, none⟩ = some (.int .i64 0) := (blk_cell BK207.out 1).trans rfl; have hcz81_2 : w78.cell? ⟨gb207, 2, none⟩ = some (.int .i64 0) := (blk_cell BK207.out 2).trans rfl; have hcz81_3 : w78.cell? ⟨gb207, 3, none⟩ = some (.int .i64 0) := (blk_cell BK207.out 3).trans rfl; have hcz81_4 : w78.cell? ⟨gb207, 4, none⟩ = some (.int .i64 0) := (blk_cell BK207.out 4).trans rfl; have hcz81_5 : w78.cell? ⟨gb207, 5, none⟩ = some (.int .i64 0) := (blk_cell BK207.out 5).trans rfl; have hfz81_0 := blk_frozen BK207.out 0; have hfz81_1 := blk_frozen BK207.out 1; have hfz81_2 := blk_frozen BK207.out 2; have hfz81_3 := blk_frozen BK207.out 3; have hfz81_4 := blk_frozen BK207.out 4; have hfz81_5 := blk_frozen BK207.out 5))
    have n0_ : Aside0 (((((((w78.setCell ⟨gb207, 0, none⟩ (.int .i64 (wrap64 (1 + t198)))).setCell ⟨gb207, 1, none⟩ (.int .i64 0)).setCell ⟨gb207, 2, none⟩ (.int .i64 0)).setCell ⟨gb207, 3, none⟩ (.int .i64 t201)).setCell ⟨gb207, 4, none⟩ (.int .i64 t204)).setCell ⟨gb207, 5, none⟩ (.int .i64 0)).heap[gb197]? = some (.cells #[.int .i64 0, .int .i64 0, .int .i64 0, .int .i64 0, .int .i64 0, .int .i64 0] 26 (0, 0))) := ⟨qq83⟩
    have n1_ : Aside0 (((((((w78.setCell ⟨gb207, 0, none⟩ (.int .i64 (wrap64 (1 + t198)))).setCell ⟨gb207, 1, none⟩ (.int .i64 0)).setCell ⟨gb207, 2, none⟩ (.int .i64 0)).setCell ⟨gb207, 3, none⟩ (.int .i64 t201)).setCell ⟨gb207, 4, none⟩ (.int .i64 t204)).setCell ⟨gb207, 5, none⟩ (.int .i64 0)).heap[gb207]? = some (.cells #[.int .i64 (wrap64 (1 + t198)), .int .i64 0, .int .i64 0, .int .i64 t201, .int .i64 t204, .int .i64 0] 26 (0, 0))) := ⟨qq84⟩
    have n2_ : Aside0 (IsS72 w0 ((((((w78.setCell ⟨gb207, 0, none⟩ (.int .i64 (wrap64 (1 + t198)))).setCell ⟨gb207, 1, none⟩ (.int .i64 0)).setCell ⟨gb207, 2, none⟩ (.int .i64 0)).setCell ⟨gb207, 3, none⟩ (.int .i64 t201)).setCell ⟨gb207, 4, none⟩ (.int .i64 t204)).setCell ⟨gb207, 5, none⟩ (.int .i64 0)) g s0_0 t205 t206) := ⟨qq85⟩
    have n3_ : Aside0 (KeepBut w ((((((w78.setCell ⟨gb207, 0, none⟩ (.int .i64 (wrap64 (1 + t198)))).setCell ⟨gb207, 1, none⟩ (.int .i64 0)).setCell ⟨gb207, 2, none⟩ (.int .i64 0)).setCell ⟨gb207, 3, none⟩ (.int .i64 t201)).setCell ⟨gb207, 4, none⟩ (.int .i64 t204)).setCell ⟨gb207, 5, none⟩ (.int .i64 0)) g none) := ⟨qq86⟩
    have n4_ : Aside0 (Below w0.heap.size w0 ((((((w78.setCell ⟨gb207, 0, none⟩ (.int .i64 (wrap64 (1 + t198)))).setCell ⟨gb207, 1, none⟩ (.int .i64 0)).setCell ⟨gb207, 2, none⟩ (.int .i64 0)).setCell ⟨gb207, 3, none⟩ (.int .i64 t201)).setCell ⟨gb207, 4, none⟩ (.int .i64 t204)).setCell ⟨gb207, 5, none⟩ (.int .i64 0))) := ⟨qq87⟩
    (try clear BK197)
    (try clear BK207)
    (try clear HI0)
    (try clear HK)
    (try clear HB)
    generalize ((((((w78.setCell ⟨gb207, 0, none⟩ (.int .i64 (wrap64 (1 + t198)))).setCell ⟨gb207, 1, none⟩ (.int .i64 0)).setCell ⟨gb207, 2, none⟩ (.int .i64 0)).setCell ⟨gb207, 3, none⟩ (.int .i64 t201)).setCell ⟨gb207, 4, none⟩ (.int .i64 t204)).setCell ⟨gb207, 5, none⟩ (.int .i64 0)) = w82 at n0_ n1_ n2_ n3_ n4_ ⊢
    have BK197 := n0_
    have BK207 := n1_
    have HI0 := n2_
    have HK := n3_
    have HB := n4_
    clear n0_ n1_ n2_ n3_ n4_
    have n0_ := Aside0.mk (blk_drew BK197.out)
    have n1_ := Aside0.mk (blk_drew BK207.out)
    have n2_ := Aside0.mk (IsS72.drew HI0.out)
    have n3_ := Aside0.mk (keep_drew HK.out)
    have n4_ := Aside0.mk (below_drew1 HB.out)
    clear BK197
    clear BK207
    clear HI0
    clear HK
    clear HB
    have BK197 := n0_
    have BK207 := n1_
    have HI0 := n2_
    have HK := n3_
    have HB := n4_
    clear n0_ n1_ n2_ n3_ n4_
    refine start_ (n := 7) (S := fun w' => w'.cell? ⟨gb207, 0, none⟩ = some (.int .i64 (wrap64 (1 + t198))) ∧ w'.cell? ⟨gb207, 1, none⟩ = some (.int .i64 0) ∧ w'.cell? ⟨gb207, 2, none⟩ = some (.int .i64 0) ∧ w'.cell? ⟨gb207, 3, none⟩ = some (.int .i64 t201) ∧ w'.cell? ⟨gb207, 4, none⟩ = some (.int .i64 t204) ∧ w'.cell? ⟨gb207, 5, none⟩ = some (.int .i64 0)) (ds := [6]) mm110 (by kernel_rfl) rfl rfl ⟨(blk_cell BK207.out 0).trans rfl, (blk_cell BK207.out 1).trans rfl, (blk_cell BK207.out 2).trans rfl, (blk_cell BK207.out 3).trans rfl, (blk_cell BK207.out 4).trans rfl, (blk_cell BK207.out 5).trans rfl⟩ (fun hHeld => ?_)
    generalize w82.drew = w83 at BK197 BK207 HI0 HK HB hHeld ⊢
    refine pure_ (i := 0) (N := some 12) (v := ?_) (a' := ?_) mm111 rfl rfl (by kernel_rfl) (fun _ _ _ h => h) (Or.inl ⟨by rfl, ?_⟩) ?_ ?_
    rotate_left
    ·intro w'
     go_simp
     with_reducible rfl
    rotate_left
    ·exact qq161
    refine pure_ (i := 2) (N := some 14) (v := ?_) (a' := ?_) mm112 rfl rfl (by kernel_rfl) (fun _ _ _ h => h) (Or.inl ⟨by rfl, ?_⟩) ?_ ?_
    rotate_left
    ·intro w'
     go_simp
     with_reducible rfl
    rotate_left
    ·exact qq161
    refine take_ (i := 1) (N := some 13) (v := ?_) (a' := ?_) mm113 rfl rfl (by kernel_rfl) (fun _ _ _ h => h) (Or.inl ⟨by rfl, ?_⟩) hHeld ?_ ?_
    rotate_left
    ·rintro w' ⟨s0, s1, s2, s3, s4, s5⟩
     go_simp
     with_reducible rfl
    rotate_left
    ·exact qq161
    refine one_ (i := 3) (N := some 15) mm114 rfl rfl (by kernel_rfl) (by decide) (fun K hK => ?_)
    refine goes_ Try.func36 (by kernel_rfl) rfl #[.pointer (some ⟨g, 0, none⟩), .int .i64 30] (by rfl) rfl rfl (qq5) ?_
    with_reducible refine (spec_l1Below.calls g s0_0 t205 t206 30 t208 t209 t210 w0 _ ?side1 ?side2 A5.out).mono ?_
    (case side1 => exact qq85)
    (case side2 => exact qq87)
    rintro e w84 ⟨rfl, hi, hb, hk⟩
    refine ⟨_, rfl, ?_⟩
    have n0_ := Aside0.mk (KeepBut.blk hk (g' := gb197) (o := .cells #[.int .i64 0, .int .i64 0, .int .i64 0, .int .i64 0, .int .i64 0, .int .i64 0] 26 (0, 0)) (qq77) NB197_0.out (by simp))
    have n1_ := Aside0.mk (KeepBut.blk hk (g' := gb207) (o := .cells #[.int .i64 (wrap64 (1 + t198)), .int .i64 0, .int .i64 0, .int .i64 t201, .int .i64 t204, .int .i64 0] 26 (0, 0)) (qq88) NB207_0.out (by simp))
    have n2_ := Aside0.mk (KeepBut.trans (qq86) hk (.inl rfl))
    have n3_ := Aside0.mk (hb)
    have n4_ := Aside0.mk (hi)
    clear BK197
    clear BK207
    clear HK
    clear HB
    clear HI0
    have BK197 := n0_
    have BK207 := n1_
    have HK := n2_
    have HB := n3_
    have HI0 := n4_
    clear n0_ n1_ n2_ n3_ n4_
    (try clear hb)
    (try clear hb2)
    (try clear hk)
    (try clear hi)
    refine hK.out _ _ ⟨(blk_cell BK207.out 0).trans rfl, (blk_cell BK207.out 1).trans rfl, (blk_cell BK207.out 2).trans rfl, (blk_cell BK207.out 3).trans rfl, (blk_cell BK207.out 4).trans rfl, (blk_cell BK207.out 5).trans rfl⟩ (fun hHeld => ?_)
    clear hK K
    refine norm_ (a' := ?_) ?_ ?_
    rotate_left
    ·show Act.put _ (some 15) _ = _
     simp only [Act.put, List.setIfInBounds_toArray, List.set_cons_zero, List.set_cons_succ, i64_w, i32_w]
     rfl
    refine pure_ (i := 4) (N := some 16) (v := ?_) (a' := ?_) mm115 rfl rfl (by kernel_rfl) (fun _ _ _ h => h) (Or.inl ⟨by rfl, ?_⟩) ?_ ?_
    rotate_left
    ·intro w'
     go_simp
     with_reducible rfl
    rotate_left
    ·exact qq161
    refine pure_ (i := 5) (N := some 17) (v := ?_) (a' := ?_) mm116 rfl rfl (by kernel_rfl) (fun _ _ _ h => h) (Or.inl ⟨by rfl, ?_⟩) ?_ ?_
    rotate_left
    ·intro w'
     go_simp
     with_reducible rfl
    rotate_left
    ·exact qq161
    refine last_ (i := 6) (N := none) mm117 rfl rfl (by kernel_rfl) (by decide) (fun K hK => ?_)
    have hs85 : w84.cell? ⟨gb207, 5, none⟩ = some (.int .i64 0) := (blk_cell BK207.out 5).trans rfl
    have hfs85 := blk_frozen BK207.out 5
    have hns85_0 := NB197_207.out
    have hms85_0 := NB207_197.out
    refine skip_ (w1 := ?_) (by rfl) rfl ?_ ?_
    rotate_left
    ·go_simp
     rfl
    refine hK.out _ _ ?_
    clear hK K
    refine done_ (by kernel_rfl) ?_
    have hcz86_0 : w84.cell? ⟨gb207, 0, none⟩ = some (.int .i64 (wrap64 (1 + t198))) := (blk_cell BK207.out 0).trans rfl
    have hcz86_1 : w84.cell? ⟨gb207, 1, none⟩ = some (.int .i64 0) := (blk_cell BK207.out 1).trans rfl
    have hcz86_2 : w84.cell? ⟨gb207, 2, none⟩ = some (.int .i64 0) := (blk_cell BK207.out 2).trans rfl
    have hcz86_3 : w84.cell? ⟨gb207, 3, none⟩ = some (.int .i64 t201) := (blk_cell BK207.out 3).trans rfl
    have hcz86_4 : w84.cell? ⟨gb207, 4, none⟩ = some (.int .i64 t204) := (blk_cell BK207.out 4).trans rfl
    have hcz86_5 : w84.cell? ⟨gb207, 5, none⟩ = some (.int .i64 0) := (blk_cell BK207.out 5).trans rfl
    have hfz86_0 := blk_frozen BK207.out 0
    have hfz86_1 := blk_frozen BK207.out 1
    have hfz86_2 := blk_frozen BK207.out 2
    have hfz86_3 := blk_frozen BK207.out 3
    have hfz86_4 := blk_frozen BK207.out 4
    have hfz86_5 := blk_frozen BK207.out 5
    try go_wp2_with (first | ((with_reducible refine gate_callee (f := 66) rfl ?_); refine goesL_ (some 21) rfl rfl Try.func66 (by kernel_rfl) rfl #[.pointer (some ⟨g, 0, none⟩), .int .i64 3] rfl (qq5) ?_; (with_reducible refine (spec_l5Name.calls g s0_0 t209 t210 3 t229 t230 t231 w0 _ ?side1 ?side2 A72.out).mono ?_); (case side1 => exact qq85); (case side2 => exact qq87); rintro e w87 ⟨rfl, hi, hb, hk⟩; refine ⟨_, rfl, ?_⟩; have n0_ := Aside0.mk (KeepBut.blk hk (g' := gb197) (o := .cells #[.int .i64 0, .int .i64 0, .int .i64 0, .int .i64 0, .int .i64 0, .int .i64 0] 26 (0, 0)) (qq89) NB197_0.out (by simp)); have n1_ := Aside0.mk (KeepBut.blk hk (g' := gb207) (o := .cells #[.int .i64 (wrap64 (1 + t198)), .int .i64 0, .int .i64 0, .int .i64 t201, .int .i64 t204, .int .i64 (wrap64 (t204 + t208))] 26 (0, 0)) (qq90) NB207_0.out (by simp)); have n2_ := Aside0.mk (KeepBut.trans (qq86) hk (.inl rfl)); have n3_ := Aside0.mk (hb); have n4_ := Aside0.mk (hi); clear BK197; clear BK207; clear HK; clear HB; clear HI0; have BK197 := n0_; have BK207 := n1_; have HK := n2_; have HB := n3_; have HI0 := n4_; clear n0_ n1_ n2_ n3_ n4_; (try clear hb); (try clear hb2); (try clear hk); (try clear hi); have hcz88_0 : w87.cell? ⟨gb207, 0, none⟩ = some (.int .i64 (wrap64 (1 + t198))) := (blk_cell BK207.out 0).trans rfl; have hcz88_1 : w87.cell? ⟨gb207, 1, none⟩ = some (.int .i64 0) := (blk_cell BK207.out 1).trans rfl; have hcz88_2 : w87.cell? ⟨gb207, 2, none⟩ = some (.int .i64 0) := (blk_cell BK207.out 2).trans rfl; have hcz88_3 : w87.cell? ⟨gb207, 3, none⟩ = some (.int .i64 t201) := (blk_cell BK207.out 3).trans rfl; have hcz88_4 : w87.cell? ⟨gb207, 4, none⟩ = some (.int .i64 t204) := (blk_cell BK207.out 4).trans rfl; have hcz88_5 : w87.cell? ⟨gb207, 5, none⟩ = some (.int .i64 (wrap64 (t204 + t208))) := (blk_cell BK207.out 5).trans rfl; have hfz88_0 := blk_frozen BK207.out 0; have hfz88_1 := blk_frozen BK207.out 1; have hfz88_2 := blk_frozen BK207.out 2; have hfz88_3 := blk_frozen BK207.out 3; have hfz88_4 := blk_frozen BK207.out 4; have hfz88_5 := blk_frozen BK207.out 5) | ((with_reducible refine gate_callee (f := 36) rfl ?_); refine goesL_ (some 24) rfl rfl Try.func36 (by kernel_rfl) rfl #[.pointer (some ⟨g, 0, none⟩), .int .i64 4] rfl (qq5) ?_; (with_reducible refine (spec_l1Below.calls g s0_0 t230 t231 4 t232 t233 t234 w0 _ ?side1 ?side2 A73.out).mono ?_); (case side1 => exact qq85); (case side2 => exact qq87); rintro e w89 ⟨rfl, hi, hb, hk⟩; refine ⟨_, rfl, ?_⟩; have n0_ := Aside0.mk (KeepBut.blk hk (g' := gb197) (o := .cells #[.int .i64 0, .int .i64 0, .int .i64 0, .int .i64 0, .int .i64 0, .int .i64 0] 26 (0, 0)) (qq89) NB197_0.out (by simp)); have n1_ := Aside0.mk (KeepBut.blk hk (g' := gb207) (o := .cells #[.int .i64 (wrap64 (1 + t198)), .int .i64 t229, .int .i64 0, .int .i64 t201, .int .i64 t204, .int .i64 (wrap64 (t204 + t208))] 26 (0, 0)) (qq91) NB207_0.out (by simp)); have n2_ := Aside0.mk (KeepBut.trans (qq86) hk (.inl rfl)); have n3_ := Aside0.mk (hb); have n4_ := Aside0.mk (hi); clear BK197; clear BK207; clear HK; clear HB; clear HI0; have BK197 := n0_; have BK207 := n1_; have HK := n2_; have HB := n3_; have HI0 := n4_; clear n0_ n1_ n2_ n3_ n4_; (try clear hb); (try clear hb2); (try clear hk); (try clear hi); have hcz90_0 : w89.cell? ⟨gb207, 0, none⟩ = some (.int .i64 (wrap64 (1 + t198))) := (blk_cell BK207.out 0).trans rfl; have hcz90_1 : w89.cell? ⟨gb207, 1, none⟩ = some (.int .i64 t229) := (blk_cell BK207.out 1).trans rfl; have hcz90_2 : w89.cell? ⟨gb207, 2, none⟩ = some (.int .i64 0) := (blk_cell BK207.out 2).trans rfl; have hcz90_3 : w89.cell? ⟨gb207, 3, none⟩ = some (.int .i64 t201) := (blk_cell BK207.out 3).trans rfl; have hcz90_4 : w89.cell? ⟨gb207, 4, none⟩ = some (.int .i64 t204) := (blk_cell BK207.out 4).trans rfl; have hcz90_5 : w89.cell? ⟨gb207, 5, none⟩ = some (.int .i64 (wrap64 (t204 + t208))) := (blk_cell BK207.out 5).trans rfl; have hfz90_0 := blk_frozen BK207.out 0; have hfz90_1 := blk_frozen BK207.out 1; have hfz90_2 := blk_frozen BK207.out 2; have hfz90_3 := blk_frozen BK207.out 3; have hfz90_4 := blk_frozen BK207.out 4; have hfz90_5 := blk_frozen BK207.out 5; have hnb91 := NB197_0.out; have hnc91 := NB0_197.out; have hcz92_0 : w89.cell? ⟨gb197, 0, none⟩ = some (.int .i64 0) := (blk_cell BK197.out 0).trans rfl; have hcz92_1 : w89.cell? ⟨gb197, 1, none⟩ = some (.int .i64 0) := (blk_cell BK197.out 1).trans rfl; have hcz92_2 : w89.cell? ⟨gb197, 2, none⟩ = some (.int .i64 0) := (blk_cell BK197.out 2).trans rfl; have hcz92_3 : w89.cell? ⟨gb197, 3, none⟩ = some (.int .i64 0) := (blk_cell BK197.out 3).trans rfl; have hcz92_4 : w89.cell? ⟨gb197, 4, none⟩ = some (.int .i64 0) := (blk_cell BK197.out 4).trans rfl; have hcz92_5 : w89.cell? ⟨gb197, 5, none⟩ = some (.int .i64 0) := (blk_cell BK197.out 5).trans rfl; have hfz92_0 := blk_frozen BK197.out 0; have hfz92_1 := blk_frozen BK197.out 1; have hfz92_2 := blk_frozen BK197.out 2; have hfz92_3 := blk_frozen BK197.out 3; have hfz92_4 := blk_frozen BK197.out 4; have hfz92_5 := blk_frozen BK197.out 5))
    refine bodyPost_ret (results_cell_row rfl _ _ gb197 26 #[.int .i64 (wrap64 (1 + t198)), .int .i64 t229, .int .i64 t232, .int .i64 t201, .int .i64 t204, .int .i64 (wrap64 (t204 + t208))] (0, 0) _ rfl (by (with_reducible repeat (first | refine blk_drewN ?_ _ | refine blk_drew ?_ | refine blk_alloc ?_ _)); refine blk_put (cs := #[.int .i64 (wrap64 (1 + t198)), .int .i64 t229, .int .i64 t232, .int .i64 t201, .int .i64 t204, .int .i64 0]) ?_ 5 _ rfl; (with_reducible repeat (first | refine blk_drewN ?_ _ | refine blk_drew ?_ | refine blk_alloc ?_ _)); refine blk_put (cs := #[.int .i64 (wrap64 (1 + t198)), .int .i64 t229, .int .i64 t232, .int .i64 t201, .int .i64 0, .int .i64 0]) ?_ 4 _ rfl; (with_reducible repeat (first | refine blk_drewN ?_ _ | refine blk_drew ?_ | refine blk_alloc ?_ _)); refine blk_put (cs := #[.int .i64 (wrap64 (1 + t198)), .int .i64 t229, .int .i64 t232, .int .i64 0, .int .i64 0, .int .i64 0]) ?_ 3 _ rfl; (with_reducible repeat (first | refine blk_drewN ?_ _ | refine blk_drew ?_ | refine blk_alloc ?_ _)); refine blk_put (cs := #[.int .i64 (wrap64 (1 + t198)), .int .i64 t229, .int .i64 0, .int .i64 0, .int .i64 0, .int .i64 0]) ?_ 2 _ rfl; (with_reducible repeat (first | refine blk_drewN ?_ _ | refine blk_drew ?_ | refine blk_alloc ?_ _)); refine blk_put (cs := #[.int .i64 (wrap64 (1 + t198)), .int .i64 0, .int .i64 0, .int .i64 0, .int .i64 0, .int .i64 0]) ?_ 1 _ rfl; (with_reducible repeat (first | refine blk_drewN ?_ _ | refine blk_drew ?_ | refine blk_alloc ?_ _)); refine blk_put (cs := #[.int .i64 0, .int .i64 0, .int .i64 0, .int .i64 0, .int .i64 0, .int .i64 0]) ?_ 0 _ rfl; (with_reducible repeat (first | refine blk_drewN ?_ _ | refine blk_drew ?_ | refine blk_alloc ?_ _)); refine blk_far ?_ NB197_207.out _; (with_reducible repeat (first | refine blk_drewN ?_ _ | refine blk_drew ?_ | refine blk_alloc ?_ _)); exact BK197.out) Try.underlying26 rfl (by kernel_rfl)) rfl ?_
    exact ⟨qq9, qq85, qq87, qq86⟩
/-! ### spec_l7Store: function 33 -/
def spec_l7Store.l0 : Nat → List (S26) → Int → List Int → Int → Int → Option ((List (S26)) × Int × Int)
 | 0, _, _, _, _, _ => none
 | k + 1, x3, x4, x1000, x1001, x1002 => if x4 > 0 then ((spec_l6Fact.f x1000 x1001 x1002).bind fun bt241 => ((spec_PutFact.f k x3 bt241.1 bt241.2.1 bt241.2.2.1 bt241.2.2.2.1 bt241.2.2.2.2.1 bt241.2.2.2.2.2.1).bind fun bt249 => (spec_l7Store.l0 k bt249.1 (wrap64 (x4 - 1)) x1000 bt241.2.2.2.2.2.2.1 bt241.2.2.2.2.2.2.2))) else (some (x3, x1001, x1002))
def spec_l7Store.f (k : Nat) (s0_0 : List Int) (s0_1 : Int) (s0_2 : Int) : Option ((List (S26)) × Int × Int) := (spec_l1Below.f s0_0 s0_1 s0_2 10).bind fun bt238 => (spec_l7Store.l0 k (([] : List (S26))) bt238.1 s0_0 bt238.2.1 bt238.2.2)
theorem spec_l7Store.mono_l : ∀ k, (∀ y0 y1 y2 y3 y4, LeO (spec_l7Store.l0 k y0 y1 y2 y3 y4) (spec_l7Store.l0 (k + 1) y0 y1 y2 y3 y4))
 | 0 => fun _ _ _ _ _ r h => by simp [spec_l7Store.l0] at h
 | k + 1 => by
  have ih0 := spec_l7Store.mono_l k
  ·intro y0 y1 y2 y3 y4
   unfold spec_l7Store.l0
   repeat' first
   | (with_reducible exact ih0 _ _ _ _ _)
   | (with_reducible exact spec_PutFact.mono _ _ _ _ _ _ _ _)
   | (with_reducible exact LeO.refl _)
   | (with_reducible exact LeO.none _)
   | (with_reducible refine LeO.ite ?_ ?_)
   | (with_reducible refine LeO.bind ?_ (fun _ => ?_))
   | exact ih0 _ _ _ _ _
   | exact spec_PutFact.mono _ _ _ _ _ _ _ _
   | exact LeO.none _
   | refine LeO.ite ?_ ?_
   | refine LeO.bind ?_ (fun _ => ?_)
theorem spec_l7Store.mono : ∀ a0 a1 a2 k, LeO (spec_l7Store.f k a0 a1 a2) (spec_l7Store.f (k + 1) a0 a1 a2) := by
 intro a0 a1 a2 k
 have ih0 := spec_l7Store.mono_l k
 unfold spec_l7Store.f
 repeat' first
   | (with_reducible exact ih0 _ _ _ _ _)
   | (with_reducible exact spec_PutFact.mono _ _ _ _ _ _ _ _)
   | (with_reducible exact LeO.refl _)
   | (with_reducible exact LeO.none _)
   | (with_reducible refine LeO.ite ?_ ?_)
   | (with_reducible refine LeO.bind ?_ (fun _ => ?_))
   | exact ih0 _ _ _ _ _
   | exact spec_PutFact.mono _ _ _ _ _ _ _ _
   | exact LeO.none _
   | refine LeO.ite ?_ ?_
   | refine LeO.bind ?_ (fun _ => ?_)
set_option maxHeartbeats 8000000 in
set_option maxRecDepth 100000 in
theorem spec_l7Store.calls (k : Nat) (g : Nat) (s0_0 : List Int) (s0_1 : Int) (s0_2 : Int) (r1 : List (S26)) (r2 : Int) (r3 : Int) (w0 w : World) (hI : IsS72 w0 w g s0_0 s0_1 s0_2) (hB : Below w0.heap.size w0 w) (h : spec_l7Store.f k s0_0 s0_1 s0_2 = some (r1, r2, r3)) :
  Calls Try.prog 33 #[.pointer (some ⟨g, 0, none⟩)] w fun e w' => ∃ v0_ : Value, e = .returned (v0_) ∧ Kd.R k26 26 w' w.heap.size (fun _ => True) v0_ r1 ∧ IsS72 w0 w' g s0_0 r2 r3 ∧ Below w0.heap.size w0 w' ∧ KeepBut w w' g none := by
 have HI0 := Aside0.mk hI
 have HK := Aside0.mk (KeepBut.refl w g none)
 have HL := Aside0.mk hB.size
 clear hI
 have HW0 := Aside0.mk hB.size
 have HB := Aside0.mk hB
 clear hB
 have H : ((spec_l1Below.f s0_0 s0_1 s0_2 10).bind fun bt238 => (spec_l7Store.l0 k (([] : List (S26))) bt238.1 s0_0 bt238.2.1 bt238.2.2)) = some (r1, r2, r3) := h
 clear h
 obtain ⟨y235, hy235⟩ : ∃ y_ : List (S26), y_ = (([] : List (S26))) := ⟨_, rfl⟩
 replace H : ((spec_l1Below.f s0_0 s0_1 s0_2 10).bind fun bt238 => (spec_l7Store.l0 k y235 bt238.1 s0_0 bt238.2.1 bt238.2.2)) = some (r1, r2, r3) := by first | (rw [hy235]; with_reducible exact H) | (have H2_ := (Option.bind_some _ _).symm.trans H; rw [hy235]; with_reducible exact H2_) | (have H2_ := (Option.bind_some _ _).symm.trans H; with_reducible exact H2_) | with_reducible exact H | (rw [hy235]; exact H) | exact H
 have Ny235 := Aside0.mk hy235
 clear hy235
 replace H := Option.bind_eq_some_iff.mp H
 obtain ⟨⟨t238, t239, t240⟩, A20, H⟩ := H
 replace H : (spec_l7Store.l0 k y235 t238 s0_0 t239 t240) = some (r1, r2, r3) := H
 have A2 := Aside0.mk A20
 clear A20
 have H' := Aside0.mk H
 clear H
 go_enter Try.func33, Try.ntmps33
 go_wp2_with (first | ((with_reducible refine gate_dst (N := 5) rfl ?_); refine Kd.R_lit k26 _ 26 ?hg (N := 5) ?hd (xs := ([] : List (S26))) (inner := []) (ok := fun _ => True) (okp := fun _ => True) ?hr ?hp (fun _ hk => hk) trivial (Below.refl _ _) (Nat.le_refl _) (by simp) ?_; (case hd => rfl); (case hg => rfl); (case hr => first | (go_simp; done) | (go_simp; rfl)); (case hp => exact (Reps.none _ _)); intro v236 w3 ho4 hb hg_ hnew_; clear hg_ hnew_; (first | rw [← Ny235.out] at ho4 | (simp only [Int.reduceToNat] at ho4; rw [← Ny235.out] at ho4)); have n0_ := Aside0.mk (Kd.R_lower ho4 (keep_size (w := w) (g := g) (row := none) (qq74))); have n1_ := Aside0.mk (IsS72.below (qq72) hb); have n2_ := Aside0.mk (KeepBut.trans (qq74) (KeepBut.of_below hb g none) (.inl rfl)); have n3_ := Aside0.mk (below_step (qq73) hb); clear HI0; clear HK; clear HB; have HO237 := n0_; have HI0 := n1_; have HK := n2_; have HB := n3_; clear n0_ n1_ n2_ n3_; clear hb ho4) | ((with_reducible refine gate_callee (f := 36) rfl ?_); refine goesL_ (some 7) rfl rfl Try.func36 (by kernel_rfl) rfl #[.pointer (some ⟨g, 0, none⟩), .int .i64 10] rfl (qq5) ?_; (with_reducible refine (spec_l1Below.calls g s0_0 s0_1 s0_2 10 t238 t239 t240 w0 _ ?side1 ?side2 A2.out).mono ?_); (case side1 => exact qq72); (case side2 => exact qq73); rintro e w5 ⟨rfl, hi, hb, hk⟩; refine ⟨_, rfl, ?_⟩; have n0_ := Aside0.mk (Kd.R_mono (Kd.R_keep (IsS72.apart (show IsS72 w0 _ g s0_0 s0_1 s0_2 from by repeat (first | (with_reducible first | exact HI0.out | apply IsS72.alloc | apply IsS72.drewN | apply IsS72.drew | apply IsS72.set_1 | apply IsS72.set_2) | exact HI0.out)) (qq92) (by decide)) hk (fun _ h => h.2)) (fun _ h => h.1)); have n1_ := Aside0.mk (KeepBut.trans (qq74) hk (.inl rfl)); have n2_ := Aside0.mk (hb); have n3_ := Aside0.mk (hi); clear HO237; clear HK; clear HB; clear HI0; have HO237 := n0_; have HK := n1_; have HB := n2_; have HI0 := n3_; clear n0_ n1_ n2_ n3_; (try clear hb); (try clear hb2); (try clear hk); (try clear hi)))
 go_loopg [3, 4] k (fun kq v3 v4 w' => ∃ (x3_1 : List (S26)) (x4_1 : Int) (x1001_1 : Int) (x1002_1 : Int), v4 = .int .i64 x4_1 ∧ Aside0 (spec_l7Store.l0 kq x3_1 x4_1 s0_0 x1001_1 x1002_1 = some (r1, r2, r3)) ∧ Aside0 (kq ≤ k) ∧ Aside0 (Kd.R k26 26 w' w.heap.size (fun _ => True) v3 x3_1) ∧ Aside0 (IsS72 w0 w' g s0_0 x1001_1 x1002_1) ∧ Aside0 (KeepBut w w' g none) ∧ Aside0 (Below w0.heap.size w0 w'))
 case atStart => exact ⟨(y235), (t238), (t239), (t240), (qq0), H', ⟨Nat.le_refl _⟩, ⟨qq92⟩, ⟨qq72⟩, ⟨qq74⟩, ⟨qq73⟩⟩
 case round =>
  clear H'
  try clear p2
  try clear c3
  obtain ⟨x3_1, x4_1, x1001_1, x1002_1, rfl, HA, HK1, HO_3, HI0, HK, HB⟩ := hrel
  cases gk with
  | zero => exact absurd HA.out (by simp [spec_l7Store.l0])
  | succ k1 =>
   have H := HA.out
   clear HA
   simp only [spec_l7Store.l0] at H
   by_cases c6 : x4_1 > 0
   ·rw [if_pos c6] at H
    have c6b0 : decide (0 < x4_1) = true := decide_eq_true c6
    clear c6
    replace H := Option.bind_eq_some_iff.mp H
    obtain ⟨⟨t241, t242, t243, t244, t245, t246, t247, t248⟩, A70, H⟩ := H
    replace H : ((spec_PutFact.f k1 x3_1 t241 t242 t243 t244 t245 t246).bind fun bt249 => (spec_l7Store.l0 k1 bt249.1 (wrap64 (x4_1 - 1)) s0_0 t247 t248)) = some (r1, r2, r3) := H
    have A7 := Aside0.mk A70
    clear A70
    replace H := Option.bind_eq_some_iff.mp H
    obtain ⟨⟨t249, t252⟩, A80, H⟩ := H
    replace H : (spec_l7Store.l0 k1 t249 (wrap64 (x4_1 - 1)) s0_0 t247 t248) = some (r1, r2, r3) := H
    have A8 := Aside0.mk A80
    clear A80
    have H' := Aside0.mk H
    clear H
    go_wp2_with (first | ((with_reducible refine gate_callee (f := 47) rfl ?_); refine goesL_ (some 15) rfl rfl Try.func47 (by kernel_rfl) rfl #[.pointer (some ⟨g, 0, none⟩)] rfl (qq5) ?_; (with_reducible refine (spec_l6Fact.calls g s0_0 x1001_1 x1002_1 t241 t242 t243 t244 t245 t246 t247 t248 w0 _ ?side1 ?side2 A7.out).mono ?_); (case side1 => exact qq72); (case side2 => exact qq73); rintro e w9 ⟨rfl, hi, hb, hk⟩; refine ⟨_, rfl, ?_⟩; have n0_ := Aside0.mk (Kd.R_mono (Kd.R_keep (IsS72.apart (show IsS72 w0 _ g s0_0 x1001_1 x1002_1 from by repeat (first | (with_reducible first | exact HI0.out | apply IsS72.alloc | apply IsS72.drewN | apply IsS72.drew | apply IsS72.set_1 | apply IsS72.set_2) | exact HI0.out)) (qq48) (by decide)) hk (fun _ h => h.2)) (fun _ h => h.1)); have n1_ := Aside0.mk (KeepBut.trans (qq74) hk (.inl rfl)); have n2_ := Aside0.mk (hb); have n3_ := Aside0.mk (hi); clear HO_3; clear HK; clear HB; clear HI0; have HO_3 := n0_; have HK := n1_; have HB := n2_; have HI0 := n3_; clear n0_ n1_ n2_ n3_; (try clear hb); (try clear hb2); (try clear hk); (try clear hi); obtain ⟨Ao10, co10, eo10⟩ := Kd.R_slice HO_3.out; subst eo10) | ((with_reducible refine gate_callee (f := 29) rfl ?_); refine goesL_ (some 16) rfl rfl Try.func29 (by kernel_rfl) rfl #[.slice Ao10 x3_1.length co10, .agg #[.int .i64 t241, .int .i64 t242, .int .i64 t243, .int .i64 t244, .int .i64 t245, .int .i64 t246]] rfl (qq5) ?_; (with_reducible refine (spec_PutFact.calls k1 _ _ x3_1 t241 t242 t243 t244 t245 t246 t249 t252 _ ?side1 ?side2 A8.out).mono ?_); (case side1 => exact qq155); (case side2 => exact (Kd.R_reads' HO_3.out).2.1); rintro e w11 ⟨v250, rfl, ho0, hb⟩; refine ⟨_, rfl, ?_⟩; have n0_ := Aside0.mk (Kd.R_elder' (qq48) (Kd.R_base ho0) hb); have n1_ := Aside0.mk (Kd.R_lower (Kd.R_new' ho0 (Kd.R_lt (qq48))) (keep_size (w := w) (g := g) (row := none) (qq74))); have n2_ := Aside0.mk (IsS72.below (qq72) hb); have n3_ := Aside0.mk (KeepBut.trans (qq74) (KeepBut.of_below hb g none) (.inl rfl)); have n4_ := Aside0.mk (below_step (qq73) hb); clear HO_3; clear HI0; clear HK; clear HB; have HO_3 := n0_; have HO251 := n1_; have HI0 := n2_; have HK := n3_; have HB := n4_; clear n0_ n1_ n2_ n3_ n4_; (try clear hb); (try clear hb2); (try clear hk); (try clear hi); (try clear ho0)))
    go_roundg k1
    case measure => have := HK1.out; omega
    case rel => exact ⟨(t249), (wrap64 (x4_1 - 1)), (t247), (t248), (qq0), H', ⟨qq8⟩, ⟨by (with_reducible repeat (first | apply Kd.R_alloc | apply Kd.R_drewN | apply Kd.R_drew)); exact Kd.R_mono HO251.out (fun _ hk => trivial)⟩, ⟨qq72⟩, ⟨qq74⟩, ⟨qq73⟩⟩
   ·rw [if_neg c6] at H
    have c6b0 : decide (0 < x4_1) = false := decide_eq_false c6
    clear c6
    simp only [Option.some.injEq, Prod.mk.injEq] at H
    obtain ⟨rfl, rfl, rfl⟩ := H
    go_wp2
    go_ret
    exact ⟨_, qq9, qq48, qq72, qq73, qq74⟩
/-! ### spec_l1Once: function 34 -/
def spec_l1Once.f (s0_0 : List Int) (s0_1 : Int) (s0_2 : Int) (a1 : Int) : Option (Bool × Int × Int) := (spec_l1Below.f s0_0 s0_1 s0_2 a1).bind fun bt253 => (some ((bt253.1 == 0), bt253.2.1, bt253.2.2))
set_option maxHeartbeats 8000000 in
set_option maxRecDepth 100000 in
theorem spec_l1Once.calls (g : Nat) (s0_0 : List Int) (s0_1 : Int) (s0_2 : Int) (a1 : Int) (r1 : Bool) (r2 : Int) (r3 : Int) (w0 w : World) (hI : IsS72 w0 w g s0_0 s0_1 s0_2) (hB : Below w0.heap.size w0 w) (h : spec_l1Once.f s0_0 s0_1 s0_2 a1 = some (r1, r2, r3)) :
  Calls Try.prog 34 #[.pointer (some ⟨g, 0, none⟩), .int .i64 a1] w fun e w' => e = .returned (.bool r1) ∧ IsS72 w0 w' g s0_0 r2 r3 ∧ Below w0.heap.size w0 w' ∧ KeepBut w w' g none := by
 have HI0 := Aside0.mk hI
 have HK := Aside0.mk (KeepBut.refl w g none)
 have HL := Aside0.mk hB.size
 clear hI
 have HW0 := Aside0.mk hB.size
 have HB := Aside0.mk hB
 clear hB
 have H : ((spec_l1Below.f s0_0 s0_1 s0_2 a1).bind fun bt253 => (some ((bt253.1 == 0), bt253.2.1, bt253.2.2))) = some (r1, r2, r3) := h
 clear h
 replace H := Option.bind_eq_some_iff.mp H
 obtain ⟨⟨t253, t254, t255⟩, A30, H⟩ := H
 replace H : (some ((t253 == 0), t254, t255)) = some (r1, r2, r3) := H
 have A3 := Aside0.mk A30
 clear A30
 simp only [Option.some.injEq, Prod.mk.injEq] at H
 obtain ⟨rfl, rfl, rfl⟩ := H
 go_enter Try.func34, Try.ntmps34
 go_wp2_with (first | ((with_reducible refine gate_callee (f := 36) rfl ?_); refine goesL_ (some 7) rfl rfl Try.func36 (by kernel_rfl) rfl #[.pointer (some ⟨g, 0, none⟩), .int .i64 a1] rfl (qq5) ?_; (with_reducible refine (spec_l1Below.calls g s0_0 s0_1 s0_2 a1 t253 t254 t255 w0 _ ?side1 ?side2 A3.out).mono ?_); (case side1 => exact qq72); (case side2 => exact qq73); rintro e w4 ⟨rfl, hi, hb, hk⟩; refine ⟨_, rfl, ?_⟩; have n0_ := Aside0.mk (KeepBut.trans (qq74) hk (.inl rfl)); have n1_ := Aside0.mk (hb); have n2_ := Aside0.mk (hi); clear HK; clear HB; clear HI0; have HK := n0_; have HB := n1_; have HI0 := n2_; clear n0_ n1_ n2_; (try clear hb); (try clear hb2); (try clear hk); (try clear hi)))
 go_ret
 exact qq158
/-! ### spec_l1Int: function 48 -/
def spec_l1Int.f (s0_0 : List Int) (s0_1 : Int) (s0_2 : Int) (l1 : List Int) : Option (Int × Int × Int) := (spec_l1Below.f s0_0 s0_1 s0_2 (l1.length : Int)).bind fun bt256 => (if 0 ≤ bt256.1 then (if bt256.1 < (l1.length : Int) then (some (rd l1 bt256.1, bt256.2.1, bt256.2.2)) else (none)) else (none))
set_option maxHeartbeats 8000000 in
set_option maxRecDepth 100000 in
theorem spec_l1Int.calls (g : Nat) (s0_0 : List Int) (s0_1 : Int) (s0_2 : Int) (A1 : Option Addr) (c1 : Nat) (l1 : List Int) (r1 : Int) (r2 : Int) (r3 : Int) (w0 w : World) (hI : IsS72 w0 w g s0_0 s0_1 s0_2) (hB : Below w0.heap.size w0 w) (hr1 : Kd.C (Kd.int .i64) w A1 l1.length l1) (hc1 : l1.length ≤ c1) (hf1 : ∀ ad, A1 = some ad → 0 < l1.length → ad.block ≠ g) (h : spec_l1Int.f s0_0 s0_1 s0_2 l1 = some (r1, r2, r3)) :
  Calls Try.prog 48 #[.pointer (some ⟨g, 0, none⟩), .slice A1 l1.length c1] w fun e w' => e = .returned (.int .i64 r1) ∧ IsS72 w0 w' g s0_0 r2 r3 ∧ Below w0.heap.size w0 w' ∧ KeepBut w w' g none := by
 have HR1 := Aside0.mk hr1
 have HC1 := Aside0.mk hc1
 clear hr1 hc1
 have HI0 := Aside0.mk hI
 have HK := Aside0.mk (KeepBut.refl w g none)
 have HL := Aside0.mk hB.size
 clear hI
 have HW0 := Aside0.mk hB.size
 have HB := Aside0.mk hB
 clear hB
 have H : ((spec_l1Below.f s0_0 s0_1 s0_2 (l1.length : Int)).bind fun bt256 => (if 0 ≤ bt256.1 then (if bt256.1 < (l1.length : Int) then (some (rd l1 bt256.1, bt256.2.1, bt256.2.2)) else (none)) else (none))) = some (r1, r2, r3) := h
 clear h
 replace H := Option.bind_eq_some_iff.mp H
 obtain ⟨⟨t256, t257, t258⟩, A30, H⟩ := H
 replace H : (if 0 ≤ t256 then (if t256 < (l1.length : Int) then (some (rd l1 t256, t257, t258)) else (none)) else (none)) = some (r1, r2, r3) := H
 have A3 := Aside0.mk A30
 clear A30
 by_cases c4 : 0 ≤ t256
 ·rw [if_pos c4] at H
  have c4b0 : decide (0 ≤ t256) = true := decide_eq_true c4
  clear c4
  by_cases c5 : t256 < (l1.length : Int)
  ·rw [if_pos c5] at H
   have c5b0 : decide (t256 < (l1.length : Int)) = true := decide_eq_true c5
   clear c5
   simp only [Option.some.injEq, Prod.mk.injEq] at H
   obtain ⟨rfl, rfl, rfl⟩ := H
   go_enter Try.func48, Try.ntmps48
   go_wp2_with (first | ((with_reducible refine gate_callee (f := 36) rfl ?_); refine goesL_ (some 9) rfl rfl Try.func36 (by kernel_rfl) rfl #[.pointer (some ⟨g, 0, none⟩), .int .i64 (l1.length : Int)] rfl (qq5) ?_; (with_reducible refine (spec_l1Below.calls g s0_0 s0_1 s0_2 (l1.length : Int) t256 t257 t258 w0 _ ?side1 ?side2 A3.out).mono ?_); (case side1 => exact qq72); (case side2 => exact qq73); rintro e w6 ⟨rfl, hi, hb, hk⟩; refine ⟨_, rfl, ?_⟩; have n0_ := Aside0.mk (KeepBut.trans (qq74) hk (.inl rfl)); have n1_ := Aside0.mk (hb); have n2_ := Aside0.mk (hi); clear HK; clear HB; clear HI0; have HK := n0_; have HB := n1_; have HI0 := n2_; clear n0_ n1_ n2_; (try clear hb); (try clear hb2); (try clear hk); (try clear hi); have p259 : 0 ≤ (t256 : Int) := of_decide_eq_true (qq2); have q259 : t256 < (l1.length : Int) := of_decide_eq_true (qq2); obtain ⟨ad259, e259, hx259_0⟩ := Kd.at_int HR1.out t256 p259 q259; cases e259; replace hx259_0 := keep_cell HK.out hx259_0 (by first | (rw [add_block]; exact hf1 _ rfl (by omega)) | exact hf1 _ rfl (by omega) | exact hf1 ad259 rfl (by omega)); replace p259 := eq_true p259; replace q259 := eq_true q259))
   go_ret
   exact qq158
  ·rw [if_neg c5] at H
   exact absurd H (by simp)
 ·rw [if_neg c4] at H
  exact absurd H (by simp)
/-! ### spec_l4Time: function 53 -/
def spec_l4Time.f (s0_0 : List Int) (s0_1 : Int) (s0_2 : Int) : Option (Int × Int × Int) := (spec_l1Once.f s0_0 s0_1 s0_2 8).bind fun bt260 => (if bt260.1 = true then ((spec_l1Int.f s0_0 bt260.2.1 bt260.2.2 (([(-1), 0, 10000, 10001, 9223372036854775807, (-9223372036854775808)] : List Int))).bind fun bt266 => (some (bt266.1, bt266.2.1, bt266.2.2))) else ((spec_l1Below.f s0_0 bt260.2.1 bt260.2.2 40).bind fun bt269 => (some (bt269.1, bt269.2.1, bt269.2.2))))
set_option maxHeartbeats 8000000 in
set_option maxRecDepth 100000 in
theorem spec_l4Time.calls (g : Nat) (s0_0 : List Int) (s0_1 : Int) (s0_2 : Int) (r1 : Int) (r2 : Int) (r3 : Int) (w0 w : World) (hI : IsS72 w0 w g s0_0 s0_1 s0_2) (hB : Below w0.heap.size w0 w) (h : spec_l4Time.f s0_0 s0_1 s0_2 = some (r1, r2, r3)) :
  Calls Try.prog 53 #[.pointer (some ⟨g, 0, none⟩)] w fun e w' => e = .returned (.int .i64 r1) ∧ IsS72 w0 w' g s0_0 r2 r3 ∧ Below w0.heap.size w0 w' ∧ KeepBut w w' g none := by
 have HI0 := Aside0.mk hI
 have HK := Aside0.mk (KeepBut.refl w g none)
 have HL := Aside0.mk hB.size
 clear hI
 have HW0 := Aside0.mk hB.size
 have HB := Aside0.mk hB
 clear hB
 have H : ((spec_l1Once.f s0_0 s0_1 s0_2 8).bind fun bt260 => (if bt260.1 = true then ((spec_l1Int.f s0_0 bt260.2.1 bt260.2.2 (([(-1), 0, 10000, 10001, 9223372036854775807, (-9223372036854775808)] : List Int))).bind fun bt266 => (some (bt266.1, bt266.2.1, bt266.2.2))) else ((spec_l1Below.f s0_0 bt260.2.1 bt260.2.2 40).bind fun bt269 => (some (bt269.1, bt269.2.1, bt269.2.2))))) = some (r1, r2, r3) := h
 clear h
 replace H := Option.bind_eq_some_iff.mp H
 obtain ⟨⟨t260, t261, t262⟩, A20, H⟩ := H
 replace H : (if t260 = true then ((spec_l1Int.f s0_0 t261 t262 (([(-1), 0, 10000, 10001, 9223372036854775807, (-9223372036854775808)] : List Int))).bind fun bt266 => (some (bt266.1, bt266.2.1, bt266.2.2))) else ((spec_l1Below.f s0_0 t261 t262 40).bind fun bt269 => (some (bt269.1, bt269.2.1, bt269.2.2)))) = some (r1, r2, r3) := H
 have A2 := Aside0.mk A20
 clear A20
 by_cases c3 : t260 = true
 ·subst c3
  have H1 : ((spec_l1Int.f s0_0 t261 t262 (([(-1), 0, 10000, 10001, 9223372036854775807, (-9223372036854775808)] : List Int))).bind fun bt266 => (some (bt266.1, bt266.2.1, bt266.2.2))) = some (r1, r2, r3) := by rw [if_pos rfl] at H; exact H
  clear H
  have H := H1
  clear H1
  obtain ⟨y263, hy263⟩ : ∃ y_ : List Int, y_ = (([(-1), 0, 10000, 10001, 9223372036854775807, (-9223372036854775808)] : List Int)) := ⟨_, rfl⟩
  replace H : ((spec_l1Int.f s0_0 t261 t262 y263).bind fun bt266 => (some (bt266.1, bt266.2.1, bt266.2.2))) = some (r1, r2, r3) := by first | (rw [hy263]; with_reducible exact H) | (have H2_ := (Option.bind_some _ _).symm.trans H; rw [hy263]; with_reducible exact H2_) | (have H2_ := (Option.bind_some _ _).symm.trans H; with_reducible exact H2_) | with_reducible exact H | (rw [hy263]; exact H) | exact H
  have Ny263 := Aside0.mk hy263
  clear hy263
  replace H := Option.bind_eq_some_iff.mp H
  obtain ⟨⟨t266, t267, t268⟩, A40, H⟩ := H
  replace H : (some (t266, t267, t268)) = some (r1, r2, r3) := H
  have A4 := Aside0.mk A40
  clear A40
  simp only [Option.some.injEq, Prod.mk.injEq] at H
  obtain ⟨rfl, rfl, rfl⟩ := H
  go_enter Try.func53, Try.ntmps53
  go_wp2_with (first | ((with_reducible refine gate_callee (f := 34) rfl ?_); refine goesL_ (some 4) rfl rfl Try.func34 (by kernel_rfl) rfl #[.pointer (some ⟨g, 0, none⟩), .int .i64 8] rfl (qq5) ?_; (with_reducible refine (spec_l1Once.calls g s0_0 s0_1 s0_2 8 true t261 t262 w0 _ ?side1 ?side2 A2.out).mono ?_); (case side1 => exact qq72); (case side2 => exact qq73); rintro e w5 ⟨rfl, hi, hb, hk⟩; refine ⟨_, rfl, ?_⟩; have n0_ := Aside0.mk (KeepBut.trans (qq74) hk (.inl rfl)); have n1_ := Aside0.mk (hb); have n2_ := Aside0.mk (hi); clear HK; clear HB; clear HI0; have HK := n0_; have HB := n1_; have HI0 := n2_; clear n0_ n1_ n2_; (try clear hb); (try clear hb2); (try clear hk); (try clear hi)) | ((with_reducible refine gate_dst (N := 6) rfl ?_); refine Kd.R_lit (Kd.int .i64) _ 3 ?hg (N := 6) ?hd (xs := ([(-1), 0, 10000, 10001, 9223372036854775807, (-9223372036854775808)] : List Int)) (inner := [.int .i64 (-1), .int .i64 0, .int .i64 10000, .int .i64 10001, .int .i64 9223372036854775807, .int .i64 (-9223372036854775808)]) (ok := fun _ => True) (okp := fun _ => True) ?hr ?hp (fun _ hk => hk) trivial (Below.refl _ _) (Nat.le_refl _) (by simp) ?_; (case hd => rfl); (case hg => rfl); (case hr => first | (go_simp; done) | (go_simp; rfl)); (case hp => exact (Reps.one (show Kd.M (Kd.int .i64) _ _ _ (-1) [.int .i64 (-1)] from rfl) (Reps.one (show Kd.M (Kd.int .i64) _ _ _ 0 [.int .i64 0] from rfl) (Reps.one (show Kd.M (Kd.int .i64) _ _ _ 10000 [.int .i64 10000] from rfl) (Reps.one (show Kd.M (Kd.int .i64) _ _ _ 10001 [.int .i64 10001] from rfl) (Reps.one (show Kd.M (Kd.int .i64) _ _ _ 9223372036854775807 [.int .i64 9223372036854775807] from rfl) (Reps.one (show Kd.M (Kd.int .i64) _ _ _ (-9223372036854775808) [.int .i64 (-9223372036854775808)] from rfl) (Reps.none _ _)))))))); intro v264 w6 ho7 hb hg_ hnew_; clear hg_ hnew_; (first | rw [← Ny263.out] at ho7 | (simp only [Int.reduceToNat] at ho7; rw [← Ny263.out] at ho7)); have n0_ := Aside0.mk (Kd.R_lower ho7 (keep_size (w := w) (g := g) (row := none) (qq74))); have n1_ := Aside0.mk (IsS72.below (qq72) hb); have n2_ := Aside0.mk (KeepBut.trans (qq74) (KeepBut.of_below hb g none) (.inl rfl)); have n3_ := Aside0.mk (below_step (qq73) hb); clear HI0; clear HK; clear HB; have HO265 := n0_; have HI0 := n1_; have HK := n2_; have HB := n3_; clear n0_ n1_ n2_ n3_; clear hb ho7; obtain ⟨Ao8, co8, eo8⟩ := Kd.R_slice HO265.out; subst eo8) | ((with_reducible refine gate_callee (f := 48) rfl ?_); refine goesL_ (some 7) rfl rfl Try.func48 (by kernel_rfl) rfl #[.pointer (some ⟨g, 0, none⟩), .slice Ao8 y263.length co8] rfl (qq5) ?_; (with_reducible refine (spec_l1Int.calls g s0_0 t261 t262 _ _ y263 t266 t267 t268 w0 _ ?side1 ?side2 ?side3 ?side4 ?side5 A4.out).mono ?_); (case side1 => exact qq72); (case side2 => exact qq73); (case side3 => repeat (first | exact (Kd.R_reads' HO265.out).2.2 | (with_reducible refine Kd.C_alloc ?_ _) | (with_reducible refine Kd.C_drewN ?_ _) | (with_reducible refine Kd.C_drew ?_))); (case side4 => exact (Kd.R_reads' HO265.out).2.1); (case side5 => exact far_slice (IsS72.own_ne HI0.out HO265.out (by decide))); rintro e w9 ⟨rfl, hi, hb, hk⟩; refine ⟨_, rfl, ?_⟩; have n0_ := Aside0.mk (Kd.R_mono (Kd.R_keep (IsS72.apart (show IsS72 w0 _ g s0_0 t261 t262 from by repeat (first | (with_reducible first | exact HI0.out | apply IsS72.alloc | apply IsS72.drewN | apply IsS72.drew | apply IsS72.set_1 | apply IsS72.set_2) | exact HI0.out)) (by (with_reducible repeat (first | apply Kd.R_alloc | apply Kd.R_drewN | apply Kd.R_drew)); exact HO265.out) (by decide)) hk (fun _ h => h.2)) (fun _ h => h.1)); have n1_ := Aside0.mk (KeepBut.trans (qq74) hk (.inl rfl)); have n2_ := Aside0.mk (hb); have n3_ := Aside0.mk (hi); clear HO265; clear HK; clear HB; clear HI0; have HO265 := n0_; have HK := n1_; have HB := n2_; have HI0 := n3_; clear n0_ n1_ n2_ n3_; (try clear hb); (try clear hb2); (try clear hk); (try clear hi)))
  go_ret
  exact qq158
 ·replace c3 := Bool.eq_false_iff.mpr c3
  subst c3
  have H1 : ((spec_l1Below.f s0_0 t261 t262 40).bind fun bt269 => (some (bt269.1, bt269.2.1, bt269.2.2))) = some (r1, r2, r3) := by rw [if_neg (show ¬ (false = true) by decide)] at H; exact H
  clear H
  have H := H1
  clear H1
  replace H := Option.bind_eq_some_iff.mp H
  obtain ⟨⟨t269, t270, t271⟩, A100, H⟩ := H
  replace H : (some (t269, t270, t271)) = some (r1, r2, r3) := H
  have A10 := Aside0.mk A100
  clear A100
  simp only [Option.some.injEq, Prod.mk.injEq] at H
  obtain ⟨rfl, rfl, rfl⟩ := H
  go_enter Try.func53, Try.ntmps53
  go_wp2_with (first | ((with_reducible refine gate_callee (f := 34) rfl ?_); refine goesL_ (some 4) rfl rfl Try.func34 (by kernel_rfl) rfl #[.pointer (some ⟨g, 0, none⟩), .int .i64 8] rfl (qq5) ?_; (with_reducible refine (spec_l1Once.calls g s0_0 s0_1 s0_2 8 false t261 t262 w0 _ ?side1 ?side2 A2.out).mono ?_); (case side1 => exact qq72); (case side2 => exact qq73); rintro e w11 ⟨rfl, hi, hb, hk⟩; refine ⟨_, rfl, ?_⟩; have n0_ := Aside0.mk (KeepBut.trans (qq74) hk (.inl rfl)); have n1_ := Aside0.mk (hb); have n2_ := Aside0.mk (hi); clear HK; clear HB; clear HI0; have HK := n0_; have HB := n1_; have HI0 := n2_; clear n0_ n1_ n2_; (try clear hb); (try clear hb2); (try clear hk); (try clear hi)) | ((with_reducible refine gate_callee (f := 36) rfl ?_); refine goesL_ (some 9) rfl rfl Try.func36 (by kernel_rfl) rfl #[.pointer (some ⟨g, 0, none⟩), .int .i64 40] rfl (qq5) ?_; (with_reducible refine (spec_l1Below.calls g s0_0 t261 t262 40 t269 t270 t271 w0 _ ?side1 ?side2 A10.out).mono ?_); (case side1 => exact qq72); (case side2 => exact qq73); rintro e w12 ⟨rfl, hi, hb, hk⟩; refine ⟨_, rfl, ?_⟩; have n0_ := Aside0.mk (KeepBut.trans (qq74) hk (.inl rfl)); have n1_ := Aside0.mk (hb); have n2_ := Aside0.mk (hi); clear HK; clear HB; clear HI0; have HK := n0_; have HB := n1_; have HI0 := n2_; clear n0_ n1_ n2_; (try clear hb); (try clear hb2); (try clear hk); (try clear hi)))
  go_ret
  exact qq158
end Go.Proofs.Ythanecnkknimpaa.PFnStores
