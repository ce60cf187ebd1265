/- What this law reaches, as plain Lean functions, and the proofs that the machine's calls answer what they answer; laid by a program of this session over the kit's print, some functions by hand. Conditions: none beyond each theorem's own. -/
import Derived.Test.YthanecnkknimpaaPFnStoresx0
import Derived.Test.YthanecnkknimpaaPFnStoresx9
import Derived.Test.YthanecnkknimpaaPFnStoresx10
import Derived.Test.YthanecnkknimpaaPFnStoresx11
-- half the blanks
namespace Go.Proofs.Ythanecnkknimpaa.PFnStores
open Go.RowKit Go.Proofs.YthanecnkknimpaaW.PrintWords Go.Proofs.YthanecnkknimpaaW.PrintLast Go.Proofs.YthanecnkknimpaaW.PrintMore
attribute [local go_sem] max2_int min2_int max_two min_two max_three min_three max_four min_four   -- for this text's walks alone
set_option linter.unusedVariables false
set_option linter.unusedSimpArgs false
/-! ### impl_PutFact: function 10 -/
mutual
def impl_PutFact.j0 : Nat → List (S26) → List (S26) → Int → Bool → Int → Int → Int → Int → Int → Int → Option ((List (S26)) × Bool)
 | 0, _, _, _, _, _, _, _, _, _, _ => none
 | k + 1, x0, x6, x7, x17, x399000, x399001, x399002, x399003, x399004, x399005 => if x17 = true then (some (x6, false)) else (impl_PutFact.l0 k x0 x6 x7 x399000 x399001 x399002 x399003 x399004 x399005)
def impl_PutFact.j2 : Nat → List (S26) → List (S26) → Int → Int → Int → Int → Int → Int → Int → Option ((List (S26)) × Bool)
 | 0, _, _, _, _, _, _, _, _, _ => none
 | k + 1, x0, x6, x7, x399000, x399001, x399002, x399003, x399004, x399005 => if x7 < (x0.length : Int) then (if 0 ≤ x7 then ((impl_SameClaim.f ((rd_T26 x0 x7).f0) ((rd_T26 x0 x7).f1) ((rd_T26 x0 x7).f2) ((rd_T26 x0 x7).f3) ((rd_T26 x0 x7).f4) ((rd_T26 x0 x7).f5) x399000 x399001 x399002 x399003 x399004 x399005).bind fun t407 => (impl_PutFact.j3 k x0 x6 x7 t407 x399000 x399001 x399002 x399003 x399004 x399005)) else (none)) else (impl_PutFact.j3 k x0 x6 x7 false x399000 x399001 x399002 x399003 x399004 x399005)
def impl_PutFact.j3 : Nat → List (S26) → List (S26) → Int → Bool → Int → Int → Int → Int → Int → Int → Option ((List (S26)) × Bool)
 | 0, _, _, _, _, _, _, _, _, _, _ => none
 | k + 1, x0, x6, x7, x44, x399000, x399001, x399002, x399003, x399004, x399005 => if x44 = true then (if 0 ≤ x7 then (if x7 < (x0.length : Int) then ((impl_isLater.f x399000 x399001 x399002 x399003 x399004 x399005 ((rd_T26 x0 x7).f0) ((rd_T26 x0 x7).f1) ((rd_T26 x0 x7).f2) ((rd_T26 x0 x7).f3) ((rd_T26 x0 x7).f4) ((rd_T26 x0 x7).f5)).bind fun t409 => (if t409 = true then (if x7 < (x6.length : Int) then (some ((x6.set (x7 : Int).toNat (⟨x399000, x399001, x399002, x399003, x399004, x399005⟩ : S26)), true)) else (none)) else (some (x6, true)))) else (none)) else (none)) else (if (x0.length : Int) = 30 then (some (x6, false)) else ((impl_Fact_41.f x6 x7 (([(⟨x399000, x399001, x399002, x399003, x399004, x399005⟩ : S26)] : List (S26)))).bind fun t414 => (some (t414, true))))
def impl_PutFact.l0 : Nat → List (S26) → List (S26) → Int → Int → Int → Int → Int → Int → Int → Option ((List (S26)) × Bool)
 | 0, _, _, _, _, _, _, _, _, _ => none
 | k + 1, x0, x6, x7, x399000, x399001, x399002, x399003, x399004, x399005 => if x7 < (x0.length : Int) then (if 0 ≤ x7 then ((impl_FactBefore.f ((rd_T26 x0 x7).f0) ((rd_T26 x0 x7).f1) ((rd_T26 x0 x7).f2) ((rd_T26 x0 x7).f3) ((rd_T26 x0 x7).f4) ((rd_T26 x0 x7).f5) x399000 x399001 x399002 x399003 x399004 x399005).bind fun t405 => (if t405 = true then (impl_PutFact.l0 k x0 x6 (wrap64 (x7 + 1)) x399000 x399001 x399002 x399003 x399004 x399005) else (impl_PutFact.j2 k x0 x6 x7 x399000 x399001 x399002 x399003 x399004 x399005))) else (none)) else (impl_PutFact.j2 k x0 x6 x7 x399000 x399001 x399002 x399003 x399004 x399005)
end
def impl_PutFact.f (k : Nat) (l0 : List (S26)) (a1_0 : Int) (a1_1 : Int) (a1_2 : Int) (a1_3 : Int) (a1_4 : Int) (a1_5 : Int) : Option ((List (S26)) × Bool) := (impl_copyFacts.f l0).bind fun t399 => ((impl_IsStore.f k l0).bind fun t402 => (if t402 = true then ((impl_IsFact.f a1_0 a1_1 a1_2 a1_3 a1_4 a1_5).bind fun t403 => (impl_PutFact.j0 k l0 t399 0 (!t403) a1_0 a1_1 a1_2 a1_3 a1_4 a1_5)) else (impl_PutFact.j0 k l0 t399 0 true a1_0 a1_1 a1_2 a1_3 a1_4 a1_5)))
theorem impl_PutFact.mono_l : ∀ k, (∀ y0 y1 y2 y3 y4 y5 y6 y7 y8 y9, LeO (impl_PutFact.j0 k y0 y1 y2 y3 y4 y5 y6 y7 y8 y9) (impl_PutFact.j0 (k + 1) y0 y1 y2 y3 y4 y5 y6 y7 y8 y9)) ∧ (∀ y0 y1 y2 y3 y4 y5 y6 y7 y8, LeO (impl_PutFact.j2 k y0 y1 y2 y3 y4 y5 y6 y7 y8) (impl_PutFact.j2 (k + 1) y0 y1 y2 y3 y4 y5 y6 y7 y8)) ∧ (∀ y0 y1 y2 y3 y4 y5 y6 y7 y8 y9, LeO (impl_PutFact.j3 k y0 y1 y2 y3 y4 y5 y6 y7 y8 y9) (impl_PutFact.j3 (k + 1) y0 y1 y2 y3 y4 y5 y6 y7 y8 y9)) ∧ (∀ y0 y1 y2 y3 y4 y5 y6 y7 y8, LeO (impl_PutFact.l0 k y0 y1 y2 y3 y4 y5 y6 y7 y8) (impl_PutFact.l0 (k + 1) y0 y1 y2 y3 y4 y5 y6 y7 y8))
 | 0 => ⟨fun _ _ _ _ _ _ _ _ _ _ r h => by simp [impl_PutFact.j0] at h, fun _ _ _ _ _ _ _ _ _ r h => by simp [impl_PutFact.j2] at h, fun _ _ _ _ _ _ _ _ _ _ r h => by simp [impl_PutFact.j3] at h, fun _ _ _ _ _ _ _ _ _ r h => by simp [impl_PutFact.l0] at h⟩
 | k + 1 => by
  obtain ⟨ih0, ih1, ih2, ih3⟩ := impl_PutFact.mono_l k
  refine ⟨?_, ?_, ?_, ?_⟩
  ·intro y0 y1 y2 y3 y4 y5 y6 y7 y8 y9
   unfold impl_PutFact.j0
   repeat' first
   | (with_reducible exact ih0 _ _ _ _ _ _ _ _ _ _)
   | (with_reducible exact ih1 _ _ _ _ _ _ _ _ _)
   | (with_reducible exact ih2 _ _ _ _ _ _ _ _ _ _)
   | (with_reducible exact ih3 _ _ _ _ _ _ _ _ _)
   | (with_reducible exact impl_IsStore.mono _ _)
   | (with_reducible exact LeO.refl _)
   | (with_reducible exact LeO.none _)
   | (with_reducible refine LeO.ite ?_ ?_)
   | (with_reducible refine LeO.bind ?_ (fun _ => ?_))
   | exact ih0 _ _ _ _ _ _ _ _ _ _
   | exact ih1 _ _ _ _ _ _ _ _ _
   | exact ih2 _ _ _ _ _ _ _ _ _ _
   | exact ih3 _ _ _ _ _ _ _ _ _
   | exact impl_IsStore.mono _ _
   | exact LeO.none _
   | refine LeO.ite ?_ ?_
   | refine LeO.bind ?_ (fun _ => ?_)
  ·intro y0 y1 y2 y3 y4 y5 y6 y7 y8
   unfold impl_PutFact.j2
   repeat' first
   | (with_reducible exact ih0 _ _ _ _ _ _ _ _ _ _)
   | (with_reducible exact ih1 _ _ _ _ _ _ _ _ _)
   | (with_reducible exact ih2 _ _ _ _ _ _ _ _ _ _)
   | (with_reducible exact ih3 _ _ _ _ _ _ _ _ _)
   | (with_reducible exact impl_IsStore.mono _ _)
   | (with_reducible exact LeO.refl _)
   | (with_reducible exact LeO.none _)
   | (with_reducible refine LeO.ite ?_ ?_)
   | (with_reducible refine LeO.bind ?_ (fun _ => ?_))
   | exact ih0 _ _ _ _ _ _ _ _ _ _
   | exact ih1 _ _ _ _ _ _ _ _ _
   | exact ih2 _ _ _ _ _ _ _ _ _ _
   | exact ih3 _ _ _ _ _ _ _ _ _
   | exact impl_IsStore.mono _ _
   | exact LeO.none _
   | refine LeO.ite ?_ ?_
   | refine LeO.bind ?_ (fun _ => ?_)
  ·intro y0 y1 y2 y3 y4 y5 y6 y7 y8 y9
   unfold impl_PutFact.j3
   repeat' first
   | (with_reducible exact ih0 _ _ _ _ _ _ _ _ _ _)
   | (with_reducible exact ih1 _ _ _ _ _ _ _ _ _)
   | (with_reducible exact ih2 _ _ _ _ _ _ _ _ _ _)
   | (with_reducible exact ih3 _ _ _ _ _ _ _ _ _)
   | (with_reducible exact impl_IsStore.mono _ _)
   | (with_reducible exact LeO.refl _)
   | (with_reducible exact LeO.none _)
   | (with_reducible refine LeO.ite ?_ ?_)
   | (with_reducible refine LeO.bind ?_ (fun _ => ?_))
   | exact ih0 _ _ _ _ _ _ _ _ _ _
   | exact ih1 _ _ _ _ _ _ _ _ _
   | exact ih2 _ _ _ _ _ _ _ _ _ _
   | exact ih3 _ _ _ _ _ _ _ _ _
   | exact impl_IsStore.mono _ _
   | exact LeO.none _
   | refine LeO.ite ?_ ?_
   | refine LeO.bind ?_ (fun _ => ?_)
  ·intro y0 y1 y2 y3 y4 y5 y6 y7 y8
   unfold impl_PutFact.l0
   repeat' first
   | (with_reducible exact ih0 _ _ _ _ _ _ _ _ _ _)
   | (with_reducible exact ih1 _ _ _ _ _ _ _ _ _)
   | (with_reducible exact ih2 _ _ _ _ _ _ _ _ _ _)
   | (with_reducible exact ih3 _ _ _ _ _ _ _ _ _)
   | (with_reducible exact impl_IsStore.mono _ _)
   | (with_reducible exact LeO.refl _)
   | (with_reducible exact LeO.none _)
   | (with_reducible refine LeO.ite ?_ ?_)
   | (with_reducible refine LeO.bind ?_ (fun _ => ?_))
   | exact ih0 _ _ _ _ _ _ _ _ _ _
   | exact ih1 _ _ _ _ _ _ _ _ _
   | exact ih2 _ _ _ _ _ _ _ _ _ _
   | exact ih3 _ _ _ _ _ _ _ _ _
   | exact impl_IsStore.mono _ _
   | exact LeO.none _
   | refine LeO.ite ?_ ?_
   | refine LeO.bind ?_ (fun _ => ?_)
theorem impl_PutFact.mono : ∀ a0 a1 a2 a3 a4 a5 a6 k, LeO (impl_PutFact.f k a0 a1 a2 a3 a4 a5 a6) (impl_PutFact.f (k + 1) a0 a1 a2 a3 a4 a5 a6) := by
 intro a0 a1 a2 a3 a4 a5 a6 k
 obtain ⟨ih0, ih1, ih2, ih3⟩ := impl_PutFact.mono_l k
 unfold impl_PutFact.f
 repeat' first
   | (with_reducible exact ih0 _ _ _ _ _ _ _ _ _ _)
   | (with_reducible exact ih1 _ _ _ _ _ _ _ _ _)
   | (with_reducible exact ih2 _ _ _ _ _ _ _ _ _ _)
   | (with_reducible exact ih3 _ _ _ _ _ _ _ _ _)
   | (with_reducible exact impl_IsStore.mono _ _)
   | (with_reducible exact LeO.refl _)
   | (with_reducible exact LeO.none _)
   | (with_reducible refine LeO.ite ?_ ?_)
   | (with_reducible refine LeO.bind ?_ (fun _ => ?_))
   | exact ih0 _ _ _ _ _ _ _ _ _ _
   | exact ih1 _ _ _ _ _ _ _ _ _
   | exact ih2 _ _ _ _ _ _ _ _ _ _
   | exact ih3 _ _ _ _ _ _ _ _ _
   | exact impl_IsStore.mono _ _
   | exact LeO.none _
   | refine LeO.ite ?_ ?_
   | refine LeO.bind ?_ (fun _ => ?_)
def impl_PutFact.T4 : Bool × List (List Nat × List Nat) := (true, [([], []), ([], []), ([1], [1]), ([0, 2], [0, 2]), ([3], [3]), ([4], [4]), ([4], [4]), ([5, 6, 4], [4, 5, 6]), ([7, 4], [4, 7]), ([4], [4]), ([8, 9, 4, 4], [4, 8, 9]), ([4, 10], [4, 10])])
def impl_PutFact.B4 : List Nat := [0, 0, 2, 7, 15, 31, 31, 127, 255, 31, 1023, 2047]
theorem impl_PutFact.tab4 : rtab .any (opsOf Try.f10 4) = impl_PutFact.T4 := by kernel_rfl
theorem impl_PutFact.bits4 : waitsOk impl_PutFact.T4.2 impl_PutFact.B4 = true := by kernel_rfl
def impl_PutFact.T6 : Bool × List (List Nat × List Nat) := (true, [([], []), ([], []), ([1], [1]), ([0, 2], [0, 2]), ([3], [3]), ([4], [4]), ([4], [4]), ([5, 6, 4], [4, 5, 6]), ([7, 4], [4, 7]), ([4], [4]), ([8, 9, 4, 4], [4, 8, 9]), ([4, 10], [4, 10])])
def impl_PutFact.B6 : List Nat := [0, 0, 2, 7, 15, 31, 31, 127, 255, 31, 1023, 2047]
theorem impl_PutFact.tab6 : rtab .any (opsOf Try.f10 6) = impl_PutFact.T6 := by kernel_rfl
theorem impl_PutFact.bits6 : waitsOk impl_PutFact.T6.2 impl_PutFact.B6 = true := by kernel_rfl
set_option maxHeartbeats 8000000 in
set_option maxRecDepth 100000 in
theorem impl_PutFact.calls (k : Nat) (A0 : Option Addr) (c0 : Nat) (l0 : List (S26)) (a1_0 : Int) (a1_1 : Int) (a1_2 : Int) (a1_3 : Int) (a1_4 : Int) (a1_5 : Int) (r1 : List (S26)) (r2 : Bool) (w : World) (hr0 : Kd.C k26 w A0 l0.length l0) (hc0 : l0.length ≤ c0) (h : impl_PutFact.f k l0 a1_0 a1_1 a1_2 a1_3 a1_4 a1_5 = some (r1, r2)) :
  Calls Try.prog 10 #[.slice A0 l0.length c0, .agg #[.int .i64 a1_0, .int .i64 a1_1, .int .i64 a1_2, .int .i64 a1_3, .int .i64 a1_4, .int .i64 a1_5]] w fun e w' => ∃ v0_ : Value, e = .returned (.tuple #[v0_, .bool r2]) ∧ Kd.R k26 26 w' w.heap.size (fun _ => True) v0_ r1 ∧ Below w.heap.size w w' := by
 have hu26 := Try.underlying26
 have HR0 := Aside0.mk hr0
 have HC0 := Aside0.mk hc0
 clear hr0 hc0
 have HB := Aside0.mk (Below.refl w.heap.size w)
 have H : ((impl_copyFacts.f l0).bind fun t399 => ((impl_IsStore.f k l0).bind fun t402 => (if t402 = true then ((impl_IsFact.f a1_0 a1_1 a1_2 a1_3 a1_4 a1_5).bind fun t403 => (impl_PutFact.j0 k l0 t399 0 (!t403) a1_0 a1_1 a1_2 a1_3 a1_4 a1_5)) else (impl_PutFact.j0 k l0 t399 0 true a1_0 a1_1 a1_2 a1_3 a1_4 a1_5)))) = some (r1, r2) := h
 clear h
 replace H := Option.bind_eq_some_iff.mp H
 obtain ⟨t399, A30, H⟩ := H
 replace H : ((impl_IsStore.f k l0).bind fun t402 => (if t402 = true then ((impl_IsFact.f a1_0 a1_1 a1_2 a1_3 a1_4 a1_5).bind fun t403 => (impl_PutFact.j0 k l0 t399 0 (!t403) a1_0 a1_1 a1_2 a1_3 a1_4 a1_5)) else (impl_PutFact.j0 k l0 t399 0 true a1_0 a1_1 a1_2 a1_3 a1_4 a1_5))) = some (r1, r2) := H
 have A3 := Aside0.mk A30
 clear A30
 have HC4 := Aside0.mk H
 clear H
 go_enter Try.func10, Try.ntmps10
 go_upto_region 2 with (first | ((with_reducible refine gate_dst (N := 3) rfl ?_); refine box_event ?hg (N := 3) ?hd (cs := #[.int .i64 a1_0, .int .i64 a1_1, .int .i64 a1_2, .int .i64 a1_3, .int .i64 a1_4, .int .i64 a1_5]) (t := 26) ?hr ?_; (case hd => rfl); (case hg => rfl); (case hr => first | (go_simp; done) | (go_simp; rfl)); intro gb398 hg w5 hbox hb; have n0_ := Aside0.mk (below_step (qq1) hb); have n1_ := Aside0.mk (hbox); have n2_ := Aside0.mk ((qq124 : w.heap.size ≤ gb398)); have n3_ := Aside0.mk ((qq124 : w.heap.size ≤ gb398)); clear HB; have HB := n0_; have BK398 := n1_; have GW398 := n2_; have GE398 := n3_; clear n0_ n1_ n2_ n3_; clear hb hbox hg) | ((with_reducible refine gate_callee (f := 37) rfl ?_); refine goesL_ (some 9) rfl rfl Try.func37 (by kernel_rfl) rfl #[.slice A0 l0.length c0] rfl (qq5) ?_; (with_reducible refine (impl_copyFacts.calls _ _ l0 t399 _ ?side1 ?side2 A3.out).mono ?_); (case side1 => exact qq145); (case side2 => exact HC0.out); rintro e w6 ⟨v400, rfl, ho0, hb⟩; refine ⟨_, rfl, ?_⟩; have n0_ := Aside0.mk (Kd.R_lower (Kd.R_newB ho0 (g := gb398) (o := .cells #[.int .i64 a1_0, .int .i64 a1_1, .int .i64 a1_2, .int .i64 a1_3, .int .i64 a1_4, .int .i64 a1_5] 26 (0, 0)) (qq19)) (below_size (qq20))); have n1_ := Aside0.mk (blk_below (g := gb398) (o := .cells #[.int .i64 a1_0, .int .i64 a1_1, .int .i64 a1_2, .int .i64 a1_3, .int .i64 a1_4, .int .i64 a1_5] 26 (0, 0)) (qq19) hb); have n2_ := Aside0.mk (below_step (qq20) hb); clear BK398; clear HB; have HO401 := n0_; have BK398 := n1_; have HB := n2_; clear n0_ n1_ n2_; (try clear hb); (try clear hb2); (try clear hk); (try clear hi); (try clear ho0)))
 (try simp only [Act.put, List.setIfInBounds_toArray, List.set_cons_zero, List.set_cons_succ])
 go_cut [17] (fun v17 wc => ∃ (kq : Nat) (x17_3 : Bool), v17 = .bool x17_3 ∧ Aside0 (impl_PutFact.j0 kq l0 t399 0 x17_3 a1_0 a1_1 a1_2 a1_3 a1_4 a1_5 = some (r1, r2)) ∧ Aside0 (kq ≤ k) ∧ Aside0 (Kd.R k26 26 wc w.heap.size (fun k_ => k_ ≠ gb398) v400 t399) ∧ Aside0 (wc.heap[gb398]? = some (.cells #[.int .i64 a1_0, .int .i64 a1_1, .int .i64 a1_2, .int .i64 a1_3, .int .i64 a1_4, .int .i64 a1_5] 26 (0, 0))) ∧ Aside0 (Below w.heap.size w wc))
 case first =>
  have H := HC4.out
  clear HC4
  replace H := Option.bind_eq_some_iff.mp H
  obtain ⟨t402, A70, H⟩ := H
  replace H : (if t402 = true then ((impl_IsFact.f a1_0 a1_1 a1_2 a1_3 a1_4 a1_5).bind fun t403 => (impl_PutFact.j0 k l0 t399 0 (!t403) a1_0 a1_1 a1_2 a1_3 a1_4 a1_5)) else (impl_PutFact.j0 k l0 t399 0 true a1_0 a1_1 a1_2 a1_3 a1_4 a1_5)) = some (r1, r2) := H
  have A7 := Aside0.mk A70
  clear A70
  by_cases c8 : t402 = true
  ·subst c8
   have H1 : ((impl_IsFact.f a1_0 a1_1 a1_2 a1_3 a1_4 a1_5).bind fun t403 => (impl_PutFact.j0 k l0 t399 0 (!t403) a1_0 a1_1 a1_2 a1_3 a1_4 a1_5)) = some (r1, r2) := by rw [if_pos rfl] at H; exact H
   clear H
   have H := H1
   clear H1
   replace H := Option.bind_eq_some_iff.mp H
   obtain ⟨t403, A90, H⟩ := H
   replace H : (impl_PutFact.j0 k l0 t399 0 (!t403) a1_0 a1_1 a1_2 a1_3 a1_4 a1_5) = some (r1, r2) := H
   have A9 := Aside0.mk A90
   clear A90
   have H' := Aside0.mk H
   clear H
   go_wp2_with (first | ((with_reducible refine gate_callee (f := 13) rfl ?_); refine goesL_ (some 11) rfl rfl Try.func13 (by kernel_rfl) rfl #[.slice A0 l0.length c0] rfl (qq5) ?_; (with_reducible refine (impl_IsStore.calls k _ _ l0 true _ ?side1 ?side2 A7.out).mono ?_); (case side1 => exact qq145); (case side2 => exact HC0.out); rintro e w10 ⟨rfl, hb⟩; refine ⟨_, rfl, ?_⟩; have n0_ := Aside0.mk (Kd.R_below (qq21) hb); have n1_ := Aside0.mk (blk_below (g := gb398) (o := .cells #[.int .i64 a1_0, .int .i64 a1_1, .int .i64 a1_2, .int .i64 a1_3, .int .i64 a1_4, .int .i64 a1_5] 26 (0, 0)) (qq19) hb); have n2_ := Aside0.mk (below_step (qq20) hb); clear HO401; clear BK398; clear HB; have HO401 := n0_; have BK398 := n1_; have HB := n2_; clear n0_ n1_ n2_; (try clear hb); (try clear hb2); (try clear hk); (try clear hi); have hcz11_0 : w10.cell? ⟨gb398, 0, none⟩ = some (.int .i64 a1_0) := (blk_cell BK398.out 0).trans rfl; have hcz11_1 : w10.cell? ⟨gb398, 1, none⟩ = some (.int .i64 a1_1) := (blk_cell BK398.out 1).trans rfl; have hcz11_2 : w10.cell? ⟨gb398, 2, none⟩ = some (.int .i64 a1_2) := (blk_cell BK398.out 2).trans rfl; have hcz11_3 : w10.cell? ⟨gb398, 3, none⟩ = some (.int .i64 a1_3) := (blk_cell BK398.out 3).trans rfl; have hcz11_4 : w10.cell? ⟨gb398, 4, none⟩ = some (.int .i64 a1_4) := (blk_cell BK398.out 4).trans rfl; have hcz11_5 : w10.cell? ⟨gb398, 5, none⟩ = some (.int .i64 a1_5) := (blk_cell BK398.out 5).trans rfl; have hfz11_0 := blk_frozen BK398.out 0; have hfz11_1 := blk_frozen BK398.out 1; have hfz11_2 := blk_frozen BK398.out 2; have hfz11_3 := blk_frozen BK398.out 3; have hfz11_4 := blk_frozen BK398.out 4; have hfz11_5 := blk_frozen BK398.out 5) | (go_at_call 38; (with_reducible refine (impl_IsFact.calls a1_0 a1_1 a1_2 a1_3 a1_4 a1_5 t403 _ A9.out).mono ?_); rintro e w12 ⟨rfl, hb⟩; have n0_ := Aside0.mk (Kd.R_below (qq21) hb); have n1_ := Aside0.mk (blk_below (g := gb398) (o := .cells #[.int .i64 a1_0, .int .i64 a1_1, .int .i64 a1_2, .int .i64 a1_3, .int .i64 a1_4, .int .i64 a1_5] 26 (0, 0)) (qq19) hb); have n2_ := Aside0.mk (below_step (qq20) hb); clear HO401; clear BK398; clear HB; have HO401 := n0_; have BK398 := n1_; have HB := n2_; clear n0_ n1_ n2_; (try clear hb); (try clear hb2); (try clear hk); (try clear hi)))
   go_meet
   case rel => exact ⟨_, (!t403), (qq0), H', ⟨qq22⟩, ⟨qq23⟩, ⟨qq19⟩, ⟨qq20⟩⟩
  ·replace c8 := Bool.eq_false_iff.mpr c8
   subst c8
   have H1 : (impl_PutFact.j0 k l0 t399 0 true a1_0 a1_1 a1_2 a1_3 a1_4 a1_5) = some (r1, r2) := by rw [if_neg (show ¬ (false = true) by decide)] at H; exact H
   clear H
   have H := H1
   clear H1
   have H' := Aside0.mk H
   clear H
   go_wp2_with (first | ((with_reducible refine gate_callee (f := 13) rfl ?_); refine goesL_ (some 11) rfl rfl Try.func13 (by kernel_rfl) rfl #[.slice A0 l0.length c0] rfl (qq5) ?_; (with_reducible refine (impl_IsStore.calls k _ _ l0 false _ ?side1 ?side2 A7.out).mono ?_); (case side1 => exact qq145); (case side2 => exact HC0.out); rintro e w13 ⟨rfl, hb⟩; refine ⟨_, rfl, ?_⟩; have n0_ := Aside0.mk (Kd.R_below (qq21) hb); have n1_ := Aside0.mk (blk_below (g := gb398) (o := .cells #[.int .i64 a1_0, .int .i64 a1_1, .int .i64 a1_2, .int .i64 a1_3, .int .i64 a1_4, .int .i64 a1_5] 26 (0, 0)) (qq19) hb); have n2_ := Aside0.mk (below_step (qq20) hb); clear HO401; clear BK398; clear HB; have HO401 := n0_; have BK398 := n1_; have HB := n2_; clear n0_ n1_ n2_; (try clear hb); (try clear hb2); (try clear hk); (try clear hi)))
   go_meet
   case rel => exact ⟨_, (true), (qq0), H', ⟨qq22⟩, ⟨qq23⟩, ⟨qq19⟩, ⟨qq20⟩⟩
 case rest =>
  clear HC4
  try clear c1
  try clear p2
  try clear c3
  try clear c8
  try clear c10
  try clear c13
  try clear hcz11_0
  try clear hcz11_1
  try clear hcz11_2
  try clear hcz11_3
  try clear hcz11_4
  try clear hcz11_5
  try clear hfz11_0
  try clear hfz11_1
  try clear hfz11_2
  try clear hfz11_3
  try clear hfz11_4
  try clear hfz11_5
  obtain ⟨kq, x17_3, rfl, HA, HJ3, HO_6, BK398, HB⟩ := hcut
  cases kq with
  | zero => exact absurd HA.out (by simp [impl_PutFact.j0])
  | succ kj3 =>
   have H := HA.out
   clear HA
   simp only [impl_PutFact.j0] at H
   by_cases c14 : x17_3 = true
   ·subst c14
    have H1 : (some (t399, false)) = some (r1, r2) := by rw [if_pos rfl] at H; exact H
    clear H
    have H := H1
    clear H1
    simp only [Option.some.injEq, Prod.mk.injEq] at H
    obtain ⟨rfl, rfl⟩ := H
    go_wp2
    go_ret2
    exact ⟨_, qq9, qq24, qq20⟩
   ·replace c14 := Bool.eq_false_iff.mpr c14
    subst c14
    have H1 : (impl_PutFact.l0 kj3 l0 t399 0 a1_0 a1_1 a1_2 a1_3 a1_4 a1_5) = some (r1, r2) := by rw [if_neg (show ¬ (false = true) by decide)] at H; exact H
    clear H
    have H := H1
    clear H1
    have HC15 := Aside0.mk H
    clear H
    go_upto_block 0 with (fail)
    go_cut [7] (fun v7 wc => ∃ (kq : Nat) (x7_14 : Int), v7 = .int .i64 x7_14 ∧ Aside0 (impl_PutFact.j2 kq l0 t399 x7_14 a1_0 a1_1 a1_2 a1_3 a1_4 a1_5 = some (r1, r2)) ∧ Aside0 (kq ≤ kj3) ∧ Aside0 (Kd.R k26 26 wc w.heap.size (fun k_ => k_ ≠ gb398) v400 t399) ∧ Aside0 (wc.heap[gb398]? = some (.cells #[.int .i64 a1_0, .int .i64 a1_1, .int .i64 a1_2, .int .i64 a1_3, .int .i64 a1_4, .int .i64 a1_5] 26 (0, 0))) ∧ Aside0 (Below w.heap.size w wc))
    case first =>
     have H := HC15.out
     clear HC15
     have H' := Aside0.mk H
     clear H
     go_wp2
     go_loopg [7] kj3 (fun kq v7 w' => ∃ (x7_2 : Int), v7 = .int .i64 x7_2 ∧ Aside0 (impl_PutFact.l0 kq l0 t399 x7_2 a1_0 a1_1 a1_2 a1_3 a1_4 a1_5 = some (r1, r2)) ∧ Aside0 (kq ≤ kj3) ∧ Aside0 (Kd.R k26 26 w' w.heap.size (fun k_ => k_ ≠ gb398) v400 t399) ∧ Aside0 (w'.heap[gb398]? = some (.cells #[.int .i64 a1_0, .int .i64 a1_1, .int .i64 a1_2, .int .i64 a1_3, .int .i64 a1_4, .int .i64 a1_5] 26 (0, 0))) ∧ Aside0 (Below w.heap.size w w'))
     case atStart => exact ⟨(0), (qq0), H', ⟨Nat.le_refl _⟩, ⟨qq25⟩, ⟨qq19⟩, ⟨qq20⟩⟩
     case round =>
      clear H'
      try clear c1
      try clear p2
      try clear c3
      try clear c8
      try clear c10
      try clear c13
      try clear c14
      try clear hcz11_0
      try clear hcz11_1
      try clear hcz11_2
      try clear hcz11_3
      try clear hcz11_4
      try clear hcz11_5
      try clear hfz11_0
      try clear hfz11_1
      try clear hfz11_2
      try clear hfz11_3
      try clear hfz11_4
      try clear hfz11_5
      try clear p2
      obtain ⟨x7_2, rfl, HA, HK2, HO_6, BK398, HB⟩ := hrel
      cases gk with
      | zero => exact absurd HA.out (by simp [impl_PutFact.l0])
      | succ k2 =>
       have H := HA.out
       clear HA
       simp only [impl_PutFact.l0] at H
       by_cases c16 : x7_2 < (l0.length : Int)
       ·rw [if_pos c16] at H
        have c16b0 : decide (x7_2 < (l0.length : Int)) = true := decide_eq_true c16
        clear c16
        (first | rw [c16b0] | (simp only [i64_w, i32_w]; rw [c16b0]) | skip)
        by_cases c17 : 0 ≤ x7_2
        ·rw [if_pos c17] at H
         have c17b0 : decide (0 ≤ x7_2) = true := decide_eq_true c17
         clear c17
         replace H := Option.bind_eq_some_iff.mp H
         obtain ⟨t405, A180, H⟩ := H
         replace H : (if t405 = true then (impl_PutFact.l0 k2 l0 t399 (wrap64 (x7_2 + 1)) a1_0 a1_1 a1_2 a1_3 a1_4 a1_5) else (impl_PutFact.j2 k2 l0 t399 x7_2 a1_0 a1_1 a1_2 a1_3 a1_4 a1_5)) = some (r1, r2) := H
         have A18 := Aside0.mk A180
         clear A180
         by_cases c19 : t405 = true
         ·subst c19
          have H1 : (impl_PutFact.l0 k2 l0 t399 (wrap64 (x7_2 + 1)) a1_0 a1_1 a1_2 a1_3 a1_4 a1_5) = some (r1, r2) := by rw [if_pos rfl] at H; exact H
          clear H
          have H := H1
          clear H1
          have H' := Aside0.mk H
          clear H
          try go_wp2
          have n0_ := Aside0.mk (Kd.R_drew HO_6.out)
          have n1_ := Aside0.mk (blk_drew BK398.out)
          have n2_ := Aside0.mk (below_drew1 HB.out)
          clear HO_6
          clear BK398
          clear HB
          have HO_6 := n0_
          have BK398 := n1_
          have HB := n2_
          clear n0_ n1_ n2_
          have p404 : 0 ≤ (x7_2 : Int) := of_decide_eq_true (qq2)
          have q404 : x7_2 < (l0.length : Int) := of_decide_eq_true (qq2)
          obtain ⟨ad404, e404, hx404_0, hx404_1, hx404_2, hx404_3, hx404_4, hx404_5⟩ := at_T26 HR0.out x7_2 p404 q404
          have hw404_5 := hx404_5
          have hw404_4 := hx404_4
          have hw404_3 := hx404_3
          have hw404_2 := hx404_2
          have hw404_1 := hx404_1
          have hw404_0 := hx404_0
          cases e404
          replace hx404_0 := (HB.out.cell (World.block_lt_of_cell? w _ hx404_0)).trans hx404_0
          replace hx404_1 := (HB.out.cell (World.block_lt_of_cell? w _ hx404_1)).trans hx404_1
          replace hx404_2 := (HB.out.cell (World.block_lt_of_cell? w _ hx404_2)).trans hx404_2
          replace hx404_3 := (HB.out.cell (World.block_lt_of_cell? w _ hx404_3)).trans hx404_3
          replace hx404_4 := (HB.out.cell (World.block_lt_of_cell? w _ hx404_4)).trans hx404_4
          replace hx404_5 := (HB.out.cell (World.block_lt_of_cell? w _ hx404_5)).trans hx404_5
          replace p404 := eq_true p404
          replace q404 := eq_true q404
          refine start_ (n := 12) (S := fun w' => w'.cell? ⟨gb398, 0, none⟩ = some (.int .i64 a1_0) ∧ w'.cell? ⟨gb398, 1, none⟩ = some (.int .i64 a1_1) ∧ w'.cell? ⟨gb398, 2, none⟩ = some (.int .i64 a1_2) ∧ w'.cell? ⟨gb398, 3, none⟩ = some (.int .i64 a1_3) ∧ w'.cell? ⟨gb398, 4, none⟩ = some (.int .i64 a1_4) ∧ w'.cell? ⟨gb398, 5, none⟩ = some (.int .i64 a1_5) ∧ w'.cell? (ad404.add ((x7_2).toNat * 6)) = some (.int .i64 ((rd_T26 l0 x7_2).f0)) ∧ w'.cell? ⟨(ad404.add ((x7_2).toNat * 6)).block, (ad404.add ((x7_2).toNat * 6)).off + 1, none⟩ = some (.int .i64 ((rd_T26 l0 x7_2).f1)) ∧ w'.cell? ⟨(ad404.add ((x7_2).toNat * 6)).block, (ad404.add ((x7_2).toNat * 6)).off + 2, none⟩ = some (.int .i64 ((rd_T26 l0 x7_2).f2)) ∧ w'.cell? ⟨(ad404.add ((x7_2).toNat * 6)).block, (ad404.add ((x7_2).toNat * 6)).off + 3, none⟩ = some (.int .i64 ((rd_T26 l0 x7_2).f3)) ∧ w'.cell? ⟨(ad404.add ((x7_2).toNat * 6)).block, (ad404.add ((x7_2).toNat * 6)).off + 4, none⟩ = some (.int .i64 ((rd_T26 l0 x7_2).f4)) ∧ w'.cell? ⟨(ad404.add ((x7_2).toNat * 6)).block, (ad404.add ((x7_2).toNat * 6)).off + 5, none⟩ = some (.int .i64 ((rd_T26 l0 x7_2).f5))) (ds := []) mm18 (by kernel_rfl) rfl rfl ⟨(blk_cell BK398.out 0).trans rfl, (blk_cell BK398.out 1).trans rfl, (blk_cell BK398.out 2).trans rfl, (blk_cell BK398.out 3).trans rfl, (blk_cell BK398.out 4).trans rfl, (blk_cell BK398.out 5).trans rfl, ((HB.out.cell (World.block_lt_of_cell? w _ hw404_0)).trans hw404_0), ((HB.out.cell (World.block_lt_of_cell? w _ hw404_1)).trans hw404_1), ((HB.out.cell (World.block_lt_of_cell? w _ hw404_2)).trans hw404_2), ((HB.out.cell (World.block_lt_of_cell? w _ hw404_3)).trans hw404_3), ((HB.out.cell (World.block_lt_of_cell? w _ hw404_4)).trans hw404_4), ((HB.out.cell (World.block_lt_of_cell? w _ hw404_5)).trans hw404_5)⟩ (fun hHeld => ?_); refine with_tabW impl_PutFact.tab4 impl_PutFact.bits4 (fun HT_ HW_ => ?_)
          generalize wr.drew = w20 at HO_6 BK398 HB hx404_0 hx404_1 hx404_2 hx404_3 hx404_4 hx404_5 hHeld ⊢
          refine pure_ (i := 0) (N := some 19) (v := ?_) (a' := ?_) mm19 rfl rfl (any_of HT_.out (by kernel_rfl)) (fun _ _ _ h => h) (Or.inl ⟨by rfl, ?_⟩) ?_ ?_
          rotate_left
          ·intro w'
           go_simp
           with_reducible rfl
          rotate_left
          ·exact qq161
          refine pure_ (i := 1) (N := some 20) (v := ?_) (a' := ?_) mm20 rfl rfl (any_of HT_.out (by kernel_rfl)) (fun _ _ _ h => h) (Or.inl ⟨by rfl, ?_⟩) ?_ ?_
          rotate_left
          ·intro w'
           go_simp
           with_reducible rfl
          rotate_left
          ·exact qq161
          refine pure_ (i := 2) (N := some 21) (v := ?_) (a' := ?_) mm21 rfl rfl (any_of HT_.out (by kernel_rfl)) (fun _ _ _ h => h) (Or.inl ⟨by rfl, ?_⟩) ?_ ?_
          rotate_left
          ·intro w'
           go_simp
           with_reducible rfl
          rotate_left
          ·exact qq161
          refine pure_ (i := 3) (N := some 22) (v := ?_) (a' := ?_) mm22 rfl rfl (any_of HT_.out (by kernel_rfl)) (fun _ _ _ h => h) (Or.inl ⟨by rfl, ?_⟩) ?_ ?_
          rotate_left
          ·intro w'
           go_simp
           with_reducible rfl
          rotate_left
          ·exact qq161
          refine pure_ (i := 4) (N := some 23) (v := ?_) (a' := ?_) mm23 rfl rfl (any_of HT_.out (by kernel_rfl)) (fun _ _ _ h => h) (Or.inl ⟨by rfl, ?_⟩) ?_ ?_
          rotate_left
          ·intro w'
           go_simp
           with_reducible rfl
          rotate_left
          ·exact qq161
          refine pure_ (i := 5) (N := some 24) (v := ?_) (a' := ?_) mm24 rfl rfl (any_of HT_.out (by kernel_rfl)) (fun _ _ _ h => h) (Or.inl ⟨by rfl, ?_⟩) ?_ ?_
          rotate_left
          ·intro w'
           go_simp
           with_reducible rfl
          rotate_left
          ·exact qq161
          refine pure_ (i := 6) (N := some 25) (v := ?_) (a' := ?_) mm25 rfl rfl (any_of HT_.out (by kernel_rfl)) (fun _ _ _ h => h) (Or.inl ⟨by rfl, ?_⟩) ?_ ?_
          rotate_left
          ·intro w'
           go_simp
           with_reducible rfl
          rotate_left
          ·exact qq161
          refine pure_ (i := 7) (N := some 26) (v := ?_) (a' := ?_) mm26 rfl rfl (any_of HT_.out (by kernel_rfl)) (fun _ _ _ h => h) (Or.inl ⟨by rfl, ?_⟩) ?_ ?_
          rotate_left
          ·intro w'
           go_simp
           with_reducible rfl
          rotate_left
          ·exact qq161
          refine take_ (i := 8) (N := some 27) (v := ?_) (a' := ?_) mm27 rfl rfl (take_ofW HT_.out HW_.out (by kernel_rfl)) (fun _ _ _ h => h) (Or.inl ⟨by rfl, ?_⟩) hHeld ?_ ?_
          rotate_left
          ·rintro w' ⟨s0, s1, s2, s3, s4, s5, s6, s7, s8, s9, s10, s11⟩
           go_simp
           with_reducible rfl
          rotate_left
          ·exact qq161
          refine take_ (i := 9) (N := some 28) (v := ?_) (a' := ?_) mm28 rfl rfl (take_ofW HT_.out HW_.out (by kernel_rfl)) (fun _ _ _ h => h) (Or.inl ⟨by rfl, ?_⟩) hHeld ?_ ?_
          rotate_left
          ·rintro w' ⟨s0, s1, s2, s3, s4, s5, s6, s7, s8, s9, s10, s11⟩
           go_simp
           with_reducible rfl
          rotate_left
          ·exact qq161
          refine one_ (i := 10) (N := some 29) mm29 rfl rfl (one_of HT_.out (by kernel_rfl)) (by decide) (fun K hK => ?_)
          refine goes_ Try.func39 (by kernel_rfl) rfl #[.agg #[.int .i64 ((rd_T26 l0 x7_2).f0), .int .i64 ((rd_T26 l0 x7_2).f1), .int .i64 ((rd_T26 l0 x7_2).f2), .int .i64 ((rd_T26 l0 x7_2).f3), .int .i64 ((rd_T26 l0 x7_2).f4), .int .i64 ((rd_T26 l0 x7_2).f5)], .agg #[.int .i64 a1_0, .int .i64 a1_1, .int .i64 a1_2, .int .i64 a1_3, .int .i64 a1_4, .int .i64 a1_5]] (by rfl) rfl rfl (qq5) ?_
          with_reducible refine (impl_FactBefore.calls ((rd_T26 l0 x7_2).f0) ((rd_T26 l0 x7_2).f1) ((rd_T26 l0 x7_2).f2) ((rd_T26 l0 x7_2).f3) ((rd_T26 l0 x7_2).f4) ((rd_T26 l0 x7_2).f5) a1_0 a1_1 a1_2 a1_3 a1_4 a1_5 true _ A18.out).mono ?_
          rintro e w21 ⟨rfl, hb⟩
          refine ⟨_, rfl, ?_⟩
          have n0_ := Aside0.mk (Kd.R_below (qq25) hb)
          have n1_ := Aside0.mk (blk_below (g := gb398) (o := .cells #[.int .i64 a1_0, .int .i64 a1_1, .int .i64 a1_2, .int .i64 a1_3, .int .i64 a1_4, .int .i64 a1_5] 26 (0, 0)) (qq19) hb)
          have n2_ := Aside0.mk (below_step (qq20) hb)
          clear HO_6
          clear BK398
          clear HB
          have HO_6 := n0_
          have BK398 := n1_
          have HB := n2_
          clear n0_ n1_ n2_
          (try clear hb)
          (try clear hb2)
          (try clear hk)
          (try clear hi)
          refine hK.out _ _ ⟨(blk_cell BK398.out 0).trans rfl, (blk_cell BK398.out 1).trans rfl, (blk_cell BK398.out 2).trans rfl, (blk_cell BK398.out 3).trans rfl, (blk_cell BK398.out 4).trans rfl, (blk_cell BK398.out 5).trans rfl, ((HB.out.cell (World.block_lt_of_cell? w _ hw404_0)).trans hw404_0), ((HB.out.cell (World.block_lt_of_cell? w _ hw404_1)).trans hw404_1), ((HB.out.cell (World.block_lt_of_cell? w _ hw404_2)).trans hw404_2), ((HB.out.cell (World.block_lt_of_cell? w _ hw404_3)).trans hw404_3), ((HB.out.cell (World.block_lt_of_cell? w _ hw404_4)).trans hw404_4), ((HB.out.cell (World.block_lt_of_cell? w _ hw404_5)).trans hw404_5)⟩ (fun hHeld => ?_)
          clear hK K
          refine norm_ (a' := ?_) ?_ ?_
          rotate_left
          ·show Act.put _ (some 29) _ = _
           simp only [Act.put, List.setIfInBounds_toArray, List.set_cons_zero, List.set_cons_succ, i64_w, i32_w]
           rfl
          refine pure_ (i := 11) (N := some 30) (v := ?_) (a' := ?_) mm30 rfl rfl (any_of HT_.out (by kernel_rfl)) (fun _ _ _ h => h) (Or.inl ⟨by rfl, ?_⟩) ?_ ?_
          rotate_left
          ·intro w'
           go_simp
           with_reducible rfl
          rotate_left
          ·exact qq161
          refine done_ (done_of HT_.out (by kernel_rfl)) ?_
          try go_wp2
          go_roundg k2
          case measure => have := HJ3.out; have := HK2.out; omega
          case rel => exact ⟨(wrap64 (x7_2 + 1)), (qq0), H', ⟨by have := HJ3.out; have := HK2.out; omega⟩, ⟨qq25⟩, ⟨qq19⟩, ⟨qq20⟩⟩
         ·replace c19 := Bool.eq_false_iff.mpr c19
          subst c19
          have H1 : (impl_PutFact.j2 k2 l0 t399 x7_2 a1_0 a1_1 a1_2 a1_3 a1_4 a1_5) = some (r1, r2) := by rw [if_neg (show ¬ (false = true) by decide)] at H; exact H
          clear H
          have H := H1
          clear H1
          have H' := Aside0.mk H
          clear H
          try go_wp2
          have n0_ := Aside0.mk (Kd.R_drew HO_6.out)
          have n1_ := Aside0.mk (blk_drew BK398.out)
          have n2_ := Aside0.mk (below_drew1 HB.out)
          clear HO_6
          clear BK398
          clear HB
          have HO_6 := n0_
          have BK398 := n1_
          have HB := n2_
          clear n0_ n1_ n2_
          have p404 : 0 ≤ (x7_2 : Int) := of_decide_eq_true (qq2)
          have q404 : x7_2 < (l0.length : Int) := of_decide_eq_true (qq2)
          obtain ⟨ad404, e404, hx404_0, hx404_1, hx404_2, hx404_3, hx404_4, hx404_5⟩ := at_T26 HR0.out x7_2 p404 q404
          have hw404_5 := hx404_5
          have hw404_4 := hx404_4
          have hw404_3 := hx404_3
          have hw404_2 := hx404_2
          have hw404_1 := hx404_1
          have hw404_0 := hx404_0
          cases e404
          replace hx404_0 := (HB.out.cell (World.block_lt_of_cell? w _ hx404_0)).trans hx404_0
          replace hx404_1 := (HB.out.cell (World.block_lt_of_cell? w _ hx404_1)).trans hx404_1
          replace hx404_2 := (HB.out.cell (World.block_lt_of_cell? w _ hx404_2)).trans hx404_2
          replace hx404_3 := (HB.out.cell (World.block_lt_of_cell? w _ hx404_3)).trans hx404_3
          replace hx404_4 := (HB.out.cell (World.block_lt_of_cell? w _ hx404_4)).trans hx404_4
          replace hx404_5 := (HB.out.cell (World.block_lt_of_cell? w _ hx404_5)).trans hx404_5
          replace p404 := eq_true p404
          replace q404 := eq_true q404
          refine start_ (n := 12) (S := fun w' => w'.cell? ⟨gb398, 0, none⟩ = some (.int .i64 a1_0) ∧ w'.cell? ⟨gb398, 1, none⟩ = some (.int .i64 a1_1) ∧ w'.cell? ⟨gb398, 2, none⟩ = some (.int .i64 a1_2) ∧ w'.cell? ⟨gb398, 3, none⟩ = some (.int .i64 a1_3) ∧ w'.cell? ⟨gb398, 4, none⟩ = some (.int .i64 a1_4) ∧ w'.cell? ⟨gb398, 5, none⟩ = some (.int .i64 a1_5) ∧ w'.cell? (ad404.add ((x7_2).toNat * 6)) = some (.int .i64 ((rd_T26 l0 x7_2).f0)) ∧ w'.cell? ⟨(ad404.add ((x7_2).toNat * 6)).block, (ad404.add ((x7_2).toNat * 6)).off + 1, none⟩ = some (.int .i64 ((rd_T26 l0 x7_2).f1)) ∧ w'.cell? ⟨(ad404.add ((x7_2).toNat * 6)).block, (ad404.add ((x7_2).toNat * 6)).off + 2, none⟩ = some (.int .i64 ((rd_T26 l0 x7_2).f2)) ∧ w'.cell? ⟨(ad404.add ((x7_2).toNat * 6)).block, (ad404.add ((x7_2).toNat * 6)).off + 3, none⟩ = some (.int .i64 ((rd_T26 l0 x7_2).f3)) ∧ w'.cell? ⟨(ad404.add ((x7_2).toNat * 6)).block, (ad404.add ((x7_2).toNat * 6)).off + 4, none⟩ = some (.int .i64 ((rd_T26 l0 x7_2).f4)) ∧ w'.cell? ⟨(ad404.add ((x7_2).toNat * 6)).block, (ad404.add ((x7_2).toNat * 6)).off + 5, none⟩ = some (.int .i64 ((rd_T26 l0 x7_2).f5))) (ds := []) mm18 (by kernel_rfl) rfl rfl ⟨(blk_cell BK398.out 0).trans rfl, (blk_cell BK398.out 1).trans rfl, (blk_cell BK398.out 2).trans rfl, (blk_cell BK398.out 3).trans rfl, (blk_cell BK398.out 4).trans rfl, (blk_cell BK398.out 5).trans rfl, ((HB.out.cell (World.block_lt_of_cell? w _ hw404_0)).trans hw404_0), ((HB.out.cell (World.block_lt_of_cell? w _ hw404_1)).trans hw404_1), ((HB.out.cell (World.block_lt_of_cell? w _ hw404_2)).trans hw404_2), ((HB.out.cell (World.block_lt_of_cell? w _ hw404_3)).trans hw404_3), ((HB.out.cell (World.block_lt_of_cell? w _ hw404_4)).trans hw404_4), ((HB.out.cell (World.block_lt_of_cell? w _ hw404_5)).trans hw404_5)⟩ (fun hHeld => ?_); refine with_tabW impl_PutFact.tab4 impl_PutFact.bits4 (fun HT_ HW_ => ?_)
          generalize wr.drew = w22 at HO_6 BK398 HB hx404_0 hx404_1 hx404_2 hx404_3 hx404_4 hx404_5 hHeld ⊢
          refine pure_ (i := 0) (N := some 19) (v := ?_) (a' := ?_) mm19 rfl rfl (any_of HT_.out (by kernel_rfl)) (fun _ _ _ h => h) (Or.inl ⟨by rfl, ?_⟩) ?_ ?_
          rotate_left
          ·intro w'
           go_simp
           with_reducible rfl
          rotate_left
          ·exact qq161
          refine pure_ (i := 1) (N := some 20) (v := ?_) (a' := ?_) mm20 rfl rfl (any_of HT_.out (by kernel_rfl)) (fun _ _ _ h => h) (Or.inl ⟨by rfl, ?_⟩) ?_ ?_
          rotate_left
          ·intro w'
           go_simp
           with_reducible rfl
          rotate_left
          ·exact qq161
          refine pure_ (i := 2) (N := some 21) (v := ?_) (a' := ?_) mm21 rfl rfl (any_of HT_.out (by kernel_rfl)) (fun _ _ _ h => h) (Or.inl ⟨by rfl, ?_⟩) ?_ ?_
          rotate_left
          ·intro w'
           go_simp
           with_reducible rfl
          rotate_left
          ·exact qq161
          refine pure_ (i := 3) (N := some 22) (v := ?_) (a' := ?_) mm22 rfl rfl (any_of HT_.out (by kernel_rfl)) (fun _ _ _ h => h) (Or.inl ⟨by rfl, ?_⟩) ?_ ?_
          rotate_left
          ·intro w'
           go_simp
           with_reducible rfl
          rotate_left
          ·exact qq161
          refine pure_ (i := 4) (N := some 23) (v := ?_) (a' := ?_) mm23 rfl rfl (any_of HT_.out (by kernel_rfl)) (fun _ _ _ h => h) (Or.inl ⟨by rfl, ?_⟩) ?_ ?_
          rotate_left
          ·intro w'
           go_simp
           with_reducible rfl
          rotate_left
          ·exact qq161
          refine pure_ (i := 5) (N := some 24) (v := ?_) (a' := ?_) mm24 rfl rfl (any_of HT_.out (by kernel_rfl)) (fun _ _ _ h => h) (Or.inl ⟨by rfl, ?_⟩) ?_ ?_
          rotate_left
          ·intro w'
           go_simp
           with_reducible rfl
          rotate_left
          ·exact qq161
          refine pure_ (i := 6) (N := some 25) (v := ?_) (a' := ?_) mm25 rfl rfl (any_of HT_.out (by kernel_rfl)) (fun _ _ _ h => h) (Or.inl ⟨by rfl, ?_⟩) ?_ ?_
          rotate_left
          ·intro w'
           go_simp
           with_reducible rfl
          rotate_left
          ·exact qq161
          refine pure_ (i := 7) (N := some 26) (v := ?_) (a' := ?_) mm26 rfl rfl (any_of HT_.out (by kernel_rfl)) (fun _ _ _ h => h) (Or.inl ⟨by rfl, ?_⟩) ?_ ?_
          rotate_left
          ·intro w'
           go_simp
           with_reducible rfl
          rotate_left
          ·exact qq161
          refine take_ (i := 8) (N := some 27) (v := ?_) (a' := ?_) mm27 rfl rfl (take_ofW HT_.out HW_.out (by kernel_rfl)) (fun _ _ _ h => h) (Or.inl ⟨by rfl, ?_⟩) hHeld ?_ ?_
          rotate_left
          ·rintro w' ⟨s0, s1, s2, s3, s4, s5, s6, s7, s8, s9, s10, s11⟩
           go_simp
           with_reducible rfl
          rotate_left
          ·exact qq161
          refine take_ (i := 9) (N := some 28) (v := ?_) (a' := ?_) mm28 rfl rfl (take_ofW HT_.out HW_.out (by kernel_rfl)) (fun _ _ _ h => h) (Or.inl ⟨by rfl, ?_⟩) hHeld ?_ ?_
          rotate_left
          ·rintro w' ⟨s0, s1, s2, s3, s4, s5, s6, s7, s8, s9, s10, s11⟩
           go_simp
           with_reducible rfl
          rotate_left
          ·exact qq161
          refine one_ (i := 10) (N := some 29) mm29 rfl rfl (one_of HT_.out (by kernel_rfl)) (by decide) (fun K hK => ?_)
          refine goes_ Try.func39 (by kernel_rfl) rfl #[.agg #[.int .i64 ((rd_T26 l0 x7_2).f0), .int .i64 ((rd_T26 l0 x7_2).f1), .int .i64 ((rd_T26 l0 x7_2).f2), .int .i64 ((rd_T26 l0 x7_2).f3), .int .i64 ((rd_T26 l0 x7_2).f4), .int .i64 ((rd_T26 l0 x7_2).f5)], .agg #[.int .i64 a1_0, .int .i64 a1_1, .int .i64 a1_2, .int .i64 a1_3, .int .i64 a1_4, .int .i64 a1_5]] (by rfl) rfl rfl (qq5) ?_
          with_reducible refine (impl_FactBefore.calls ((rd_T26 l0 x7_2).f0) ((rd_T26 l0 x7_2).f1) ((rd_T26 l0 x7_2).f2) ((rd_T26 l0 x7_2).f3) ((rd_T26 l0 x7_2).f4) ((rd_T26 l0 x7_2).f5) a1_0 a1_1 a1_2 a1_3 a1_4 a1_5 false _ A18.out).mono ?_
          rintro e w23 ⟨rfl, hb⟩
          refine ⟨_, rfl, ?_⟩
          have n0_ := Aside0.mk (Kd.R_below (qq25) hb)
          have n1_ := Aside0.mk (blk_below (g := gb398) (o := .cells #[.int .i64 a1_0, .int .i64 a1_1, .int .i64 a1_2, .int .i64 a1_3, .int .i64 a1_4, .int .i64 a1_5] 26 (0, 0)) (qq19) hb)
          have n2_ := Aside0.mk (below_step (qq20) hb)
          clear HO_6
          clear BK398
          clear HB
          have HO_6 := n0_
          have BK398 := n1_
          have HB := n2_
          clear n0_ n1_ n2_
          (try clear hb)
          (try clear hb2)
          (try clear hk)
          (try clear hi)
          refine hK.out _ _ ⟨(blk_cell BK398.out 0).trans rfl, (blk_cell BK398.out 1).trans rfl, (blk_cell BK398.out 2).trans rfl, (blk_cell BK398.out 3).trans rfl, (blk_cell BK398.out 4).trans rfl, (blk_cell BK398.out 5).trans rfl, ((HB.out.cell (World.block_lt_of_cell? w _ hw404_0)).trans hw404_0), ((HB.out.cell (World.block_lt_of_cell? w _ hw404_1)).trans hw404_1), ((HB.out.cell (World.block_lt_of_cell? w _ hw404_2)).trans hw404_2), ((HB.out.cell (World.block_lt_of_cell? w _ hw404_3)).trans hw404_3), ((HB.out.cell (World.block_lt_of_cell? w _ hw404_4)).trans hw404_4), ((HB.out.cell (World.block_lt_of_cell? w _ hw404_5)).trans hw404_5)⟩ (fun hHeld => ?_)
          clear hK K
          refine norm_ (a' := ?_) ?_ ?_
          rotate_left
          ·show Act.put _ (some 29) _ = _
           simp only [Act.put, List.setIfInBounds_toArray, List.set_cons_zero, List.set_cons_succ, i64_w, i32_w]
           rfl
          refine pure_ (i := 11) (N := some 30) (v := ?_) (a' := ?_) mm30 rfl rfl (any_of HT_.out (by kernel_rfl)) (fun _ _ _ h => h) (Or.inl ⟨by rfl, ?_⟩) ?_ ?_
          rotate_left
          ·intro w'
           go_simp
           with_reducible rfl
          rotate_left
          ·exact qq161
          refine done_ (done_of HT_.out (by kernel_rfl)) ?_
          try go_wp2
          go_meet
          case rel => exact ⟨_, (x7_2), (qq0), H', ⟨qq26⟩, ⟨qq25⟩, ⟨qq19⟩, ⟨qq20⟩⟩
        ·rw [if_neg c17] at H
         exact absurd H (by simp)
       ·rw [if_neg c16] at H
        have c16b0 : decide (x7_2 < (l0.length : Int)) = false := decide_eq_false c16
        clear c16
        (first | rw [c16b0] | (simp only [i64_w, i32_w]; rw [c16b0]) | skip)
        have H' := Aside0.mk H
        clear H
        try go_wp2
        have n0_ := Aside0.mk (Kd.R_drew HO_6.out)
        have n1_ := Aside0.mk (blk_drew BK398.out)
        have n2_ := Aside0.mk (below_drew1 HB.out)
        clear HO_6
        clear BK398
        clear HB
        have HO_6 := n0_
        have BK398 := n1_
        have HB := n2_
        clear n0_ n1_ n2_
        refine start_ (n := 12) (S := fun w' => True) (ds := []) mm18 (by kernel_rfl) rfl rfl trivial (fun hHeld => ?_); refine with_tabW impl_PutFact.tab4 impl_PutFact.bits4 (fun HT_ HW_ => ?_)
        generalize wr.drew = w24 at HO_6 BK398 HB hHeld ⊢
        refine pure_ (i := 0) (N := some 19) (v := ?_) (a' := ?_) mm19 rfl rfl (any_of HT_.out (by kernel_rfl)) (fun _ _ _ h => h) (Or.inl ⟨by rfl, ?_⟩) ?_ ?_
        rotate_left
        ·intro w'
         go_simp
         with_reducible rfl
        rotate_left
        ·exact qq161
        refine pure_ (i := 1) (N := some 20) (v := ?_) (a' := ?_) mm20 rfl rfl (any_of HT_.out (by kernel_rfl)) (fun _ _ _ h => h) (Or.inl ⟨by rfl, ?_⟩) ?_ ?_
        rotate_left
        ·intro w'
         go_simp
         with_reducible rfl
        rotate_left
        ·exact qq161
        refine pure_ (i := 2) (N := some 21) (v := ?_) (a' := ?_) mm21 rfl rfl (any_of HT_.out (by kernel_rfl)) (fun _ _ _ h => h) (Or.inl ⟨by rfl, ?_⟩) ?_ ?_
        rotate_left
        ·intro w'
         go_simp
         with_reducible rfl
        rotate_left
        ·exact qq161
        refine pure_ (i := 3) (N := some 22) (v := ?_) (a' := ?_) mm22 rfl rfl (any_of HT_.out (by kernel_rfl)) (fun _ _ _ h => h) (Or.inl ⟨by rfl, ?_⟩) ?_ ?_
        rotate_left
        ·intro w'
         go_simp
         with_reducible rfl
        rotate_left
        ·exact qq161
        refine pure_ (i := 4) (N := some 23) (v := ?_) (a' := ?_) mm23 rfl rfl (any_of HT_.out (by kernel_rfl)) (fun _ _ _ h => h) (Or.inl ⟨by rfl, ?_⟩) ?_ ?_
        rotate_left
        ·intro w'
         go_simp
         with_reducible rfl
        rotate_left
        ·exact qq161
        refine pure_ (i := 5) (N := some 24) (v := undef) (a' := ?_) mm24 rfl rfl (any_of HT_.out (by kernel_rfl)) (fun _ _ _ h => h) (Or.inr ⟨by rfl, rfl⟩) ?_ ?_
        rotate_left
        ·exact qq161
        refine pure_ (i := 6) (N := some 25) (v := undef) (a' := ?_) mm25 rfl rfl (any_of HT_.out (by kernel_rfl)) (fun _ _ _ h => h) (Or.inr ⟨by rfl, rfl⟩) ?_ ?_
        rotate_left
        ·exact qq161
        refine pure_ (i := 7) (N := some 26) (v := undef) (a' := ?_) mm26 rfl rfl (any_of HT_.out (by kernel_rfl)) (fun _ _ _ h => h) (Or.inr ⟨by rfl, rfl⟩) ?_ ?_
        rotate_left
        ·exact qq161
        refine pure_ (i := 8) (N := some 27) (v := undef) (a' := ?_) mm27 rfl rfl (any_of HT_.out (by kernel_rfl)) (fun _ _ _ h => h) (Or.inr ⟨by rfl, rfl⟩) ?_ ?_
        rotate_left
        ·exact qq161
        refine pure_ (i := 9) (N := some 28) (v := undef) (a' := ?_) mm28 rfl rfl (any_of HT_.out (by kernel_rfl)) (fun _ _ _ h => h) (Or.inr ⟨by rfl, rfl⟩) ?_ ?_
        rotate_left
        ·exact qq161
        refine pure_ (i := 10) (N := some 29) (v := undef) (a' := ?_) mm29 rfl rfl (any_of HT_.out (by kernel_rfl)) (fun _ _ _ h => h) (Or.inr ⟨by rfl, rfl⟩) ?_ ?_
        rotate_left
        ·exact qq161
        refine pure_ (i := 11) (N := some 30) (v := ?_) (a' := ?_) mm30 rfl rfl (any_of HT_.out (by kernel_rfl)) (fun _ _ _ h => h) (Or.inl ⟨by rfl, ?_⟩) ?_ ?_
        rotate_left
        ·intro w'
         go_simp
         with_reducible rfl
        rotate_left
        ·exact qq161
        refine done_ (done_of HT_.out (by kernel_rfl)) ?_
        try go_wp2
        go_meet
        case rel => exact ⟨_, (x7_2), (qq0), H', ⟨qq26⟩, ⟨qq25⟩, ⟨qq19⟩, ⟨qq20⟩⟩
    case rest =>
     clear HC15
     try clear c1
     try clear p2
     try clear c3
     try clear p4
     try clear q4
     try clear hx4
     try clear p6
     try clear c8
     try clear c10
     try clear c13
     try clear c14
     try clear c16
     try clear c16b0
     try clear c17
     try clear c17b0
     try clear c19
     try clear hcz11_0
     try clear hcz11_1
     try clear hcz11_2
     try clear hcz11_3
     try clear hcz11_4
     try clear hcz11_5
     try clear hfz11_0
     try clear hfz11_1
     try clear hfz11_2
     try clear hfz11_3
     try clear hfz11_4
     try clear hfz11_5
     try clear hx404_0
     try clear hx404_1
     try clear hx404_2
     try clear hx404_3
     try clear hx404_4
     try clear hx404_5
     try clear p2
     try clear p404
     try clear q404
     obtain ⟨kq, x7_14, rfl, HA, HJ14, HO_6, BK398, HB⟩ := hcut
     cases kq with
     | zero => exact absurd HA.out (by simp [impl_PutFact.j2])
     | succ kj14 =>
      have H := HA.out
      clear HA
      simp only [impl_PutFact.j2] at H
      have HC25 := Aside0.mk H
      clear H
      go_upto_region 6 with (fail)
      go_cut [44] (fun v44 wc => ∃ (kq : Nat) (x44_24 : Bool), v44 = .bool x44_24 ∧ Aside0 (impl_PutFact.j3 kq l0 t399 x7_14 x44_24 a1_0 a1_1 a1_2 a1_3 a1_4 a1_5 = some (r1, r2)) ∧ Aside0 (kq ≤ kj14) ∧ Aside0 (Kd.R k26 26 wc w.heap.size (fun k_ => k_ ≠ gb398) v400 t399) ∧ Aside0 (wc.heap[gb398]? = some (.cells #[.int .i64 a1_0, .int .i64 a1_1, .int .i64 a1_2, .int .i64 a1_3, .int .i64 a1_4, .int .i64 a1_5] 26 (0, 0))) ∧ Aside0 (Below w.heap.size w wc))
      case first =>
       have H := HC25.out
       clear HC25
       by_cases c26 : x7_14 < (l0.length : Int)
       ·rw [if_pos c26] at H
        have c26b0 : decide (x7_14 < (l0.length : Int)) = true := decide_eq_true c26
        clear c26
        (first | rw [c26b0] | (simp only [i64_w, i32_w]; rw [c26b0]) | skip)
        by_cases c27 : 0 ≤ x7_14
        ·rw [if_pos c27] at H
         have c27b0 : decide (0 ≤ x7_14) = true := decide_eq_true c27
         clear c27
         replace H := Option.bind_eq_some_iff.mp H
         obtain ⟨t407, A280, H⟩ := H
         replace H : (impl_PutFact.j3 kj14 l0 t399 x7_14 t407 a1_0 a1_1 a1_2 a1_3 a1_4 a1_5) = some (r1, r2) := H
         have A28 := Aside0.mk A280
         clear A280
         have H' := Aside0.mk H
         clear H
         try go_wp2
         have n0_ := Aside0.mk (Kd.R_drew HO_6.out)
         have n1_ := Aside0.mk (blk_drew BK398.out)
         have n2_ := Aside0.mk (below_drew1 HB.out)
         clear HO_6
         clear BK398
         clear HB
         have HO_6 := n0_
         have BK398 := n1_
         have HB := n2_
         clear n0_ n1_ n2_
         have p406 : 0 ≤ (x7_14 : Int) := of_decide_eq_true (qq2)
         have q406 : x7_14 < (l0.length : Int) := of_decide_eq_true (qq2)
         obtain ⟨ad406, e406, hx406_0, hx406_1, hx406_2, hx406_3, hx406_4, hx406_5⟩ := at_T26 HR0.out x7_14 p406 q406
         have hw406_5 := hx406_5
         have hw406_4 := hx406_4
         have hw406_3 := hx406_3
         have hw406_2 := hx406_2
         have hw406_1 := hx406_1
         have hw406_0 := hx406_0
         cases e406
         replace hx406_0 := (HB.out.cell (World.block_lt_of_cell? w _ hx406_0)).trans hx406_0
         replace hx406_1 := (HB.out.cell (World.block_lt_of_cell? w _ hx406_1)).trans hx406_1
         replace hx406_2 := (HB.out.cell (World.block_lt_of_cell? w _ hx406_2)).trans hx406_2
         replace hx406_3 := (HB.out.cell (World.block_lt_of_cell? w _ hx406_3)).trans hx406_3
         replace hx406_4 := (HB.out.cell (World.block_lt_of_cell? w _ hx406_4)).trans hx406_4
         replace hx406_5 := (HB.out.cell (World.block_lt_of_cell? w _ hx406_5)).trans hx406_5
         replace p406 := eq_true p406
         replace q406 := eq_true q406
         refine start_ (n := 12) (S := fun w' => w'.cell? ⟨gb398, 0, none⟩ = some (.int .i64 a1_0) ∧ w'.cell? ⟨gb398, 1, none⟩ = some (.int .i64 a1_1) ∧ w'.cell? ⟨gb398, 2, none⟩ = some (.int .i64 a1_2) ∧ w'.cell? ⟨gb398, 3, none⟩ = some (.int .i64 a1_3) ∧ w'.cell? ⟨gb398, 4, none⟩ = some (.int .i64 a1_4) ∧ w'.cell? ⟨gb398, 5, none⟩ = some (.int .i64 a1_5) ∧ w'.cell? (ad406.add ((x7_14).toNat * 6)) = some (.int .i64 ((rd_T26 l0 x7_14).f0)) ∧ w'.cell? ⟨(ad406.add ((x7_14).toNat * 6)).block, (ad406.add ((x7_14).toNat * 6)).off + 1, none⟩ = some (.int .i64 ((rd_T26 l0 x7_14).f1)) ∧ w'.cell? ⟨(ad406.add ((x7_14).toNat * 6)).block, (ad406.add ((x7_14).toNat * 6)).off + 2, none⟩ = some (.int .i64 ((rd_T26 l0 x7_14).f2)) ∧ w'.cell? ⟨(ad406.add ((x7_14).toNat * 6)).block, (ad406.add ((x7_14).toNat * 6)).off + 3, none⟩ = some (.int .i64 ((rd_T26 l0 x7_14).f3)) ∧ w'.cell? ⟨(ad406.add ((x7_14).toNat * 6)).block, (ad406.add ((x7_14).toNat * 6)).off + 4, none⟩ = some (.int .i64 ((rd_T26 l0 x7_14).f4)) ∧ w'.cell? ⟨(ad406.add ((x7_14).toNat * 6)).block, (ad406.add ((x7_14).toNat * 6)).off + 5, none⟩ = some (.int .i64 ((rd_T26 l0 x7_14).f5))) (ds := []) mm18 (by kernel_rfl) rfl rfl ⟨(blk_cell BK398.out 0).trans rfl, (blk_cell BK398.out 1).trans rfl, (blk_cell BK398.out 2).trans rfl, (blk_cell BK398.out 3).trans rfl, (blk_cell BK398.out 4).trans rfl, (blk_cell BK398.out 5).trans rfl, ((HB.out.cell (World.block_lt_of_cell? w _ hw406_0)).trans hw406_0), ((HB.out.cell (World.block_lt_of_cell? w _ hw406_1)).trans hw406_1), ((HB.out.cell (World.block_lt_of_cell? w _ hw406_2)).trans hw406_2), ((HB.out.cell (World.block_lt_of_cell? w _ hw406_3)).trans hw406_3), ((HB.out.cell (World.block_lt_of_cell? w _ hw406_4)).trans hw406_4), ((HB.out.cell (World.block_lt_of_cell? w _ hw406_5)).trans hw406_5)⟩ (fun hHeld => ?_); refine with_tabW impl_PutFact.tab6 impl_PutFact.bits6 (fun HT_ HW_ => ?_)
         generalize wc.drew = w29 at HO_6 BK398 HB hx406_0 hx406_1 hx406_2 hx406_3 hx406_4 hx406_5 hHeld ⊢
         refine pure_ (i := 0) (N := some 33) (v := ?_) (a' := ?_) mm19 rfl rfl (any_of HT_.out (by kernel_rfl)) (fun _ _ _ h => h) (Or.inl ⟨by rfl, ?_⟩) ?_ ?_
         rotate_left
         ·intro w'
          go_simp
          with_reducible rfl
         rotate_left
         ·exact qq161
         refine pure_ (i := 1) (N := some 34) (v := ?_) (a' := ?_) mm20 rfl rfl (any_of HT_.out (by kernel_rfl)) (fun _ _ _ h => h) (Or.inl ⟨by rfl, ?_⟩) ?_ ?_
         rotate_left
         ·intro w'
          go_simp
          with_reducible rfl
         rotate_left
         ·exact qq161
         refine pure_ (i := 2) (N := some 35) (v := ?_) (a' := ?_) mm21 rfl rfl (any_of HT_.out (by kernel_rfl)) (fun _ _ _ h => h) (Or.inl ⟨by rfl, ?_⟩) ?_ ?_
         rotate_left
         ·intro w'
          go_simp
          with_reducible rfl
         rotate_left
         ·exact qq161
         refine pure_ (i := 3) (N := some 36) (v := ?_) (a' := ?_) mm22 rfl rfl (any_of HT_.out (by kernel_rfl)) (fun _ _ _ h => h) (Or.inl ⟨by rfl, ?_⟩) ?_ ?_
         rotate_left
         ·intro w'
          go_simp
          with_reducible rfl
         rotate_left
         ·exact qq161
         refine pure_ (i := 4) (N := some 37) (v := ?_) (a' := ?_) mm23 rfl rfl (any_of HT_.out (by kernel_rfl)) (fun _ _ _ h => h) (Or.inl ⟨by rfl, ?_⟩) ?_ ?_
         rotate_left
         ·intro w'
          go_simp
          with_reducible rfl
         rotate_left
         ·exact qq161
         refine pure_ (i := 5) (N := some 38) (v := ?_) (a' := ?_) mm24 rfl rfl (any_of HT_.out (by kernel_rfl)) (fun _ _ _ h => h) (Or.inl ⟨by rfl, ?_⟩) ?_ ?_
         rotate_left
         ·intro w'
          go_simp
          with_reducible rfl
         rotate_left
         ·exact qq161
         refine pure_ (i := 6) (N := some 39) (v := ?_) (a' := ?_) mm25 rfl rfl (any_of HT_.out (by kernel_rfl)) (fun _ _ _ h => h) (Or.inl ⟨by rfl, ?_⟩) ?_ ?_
         rotate_left
         ·intro w'
          go_simp
          with_reducible rfl
         rotate_left
         ·exact qq161
         refine pure_ (i := 7) (N := some 40) (v := ?_) (a' := ?_) mm26 rfl rfl (any_of HT_.out (by kernel_rfl)) (fun _ _ _ h => h) (Or.inl ⟨by rfl, ?_⟩) ?_ ?_
         rotate_left
         ·intro w'
          go_simp
          with_reducible rfl
         rotate_left
         ·exact qq161
         refine take_ (i := 8) (N := some 41) (v := ?_) (a' := ?_) mm27 rfl rfl (take_ofW HT_.out HW_.out (by kernel_rfl)) (fun _ _ _ h => h) (Or.inl ⟨by rfl, ?_⟩) hHeld ?_ ?_
         rotate_left
         ·rintro w' ⟨s0, s1, s2, s3, s4, s5, s6, s7, s8, s9, s10, s11⟩
          go_simp
          with_reducible rfl
         rotate_left
         ·exact qq161
         refine take_ (i := 9) (N := some 42) (v := ?_) (a' := ?_) mm28 rfl rfl (take_ofW HT_.out HW_.out (by kernel_rfl)) (fun _ _ _ h => h) (Or.inl ⟨by rfl, ?_⟩) hHeld ?_ ?_
         rotate_left
         ·rintro w' ⟨s0, s1, s2, s3, s4, s5, s6, s7, s8, s9, s10, s11⟩
          go_simp
          with_reducible rfl
         rotate_left
         ·exact qq161
         refine one_ (i := 10) (N := some 43) mm29 rfl rfl (one_of HT_.out (by kernel_rfl)) (by decide) (fun K hK => ?_)
         refine goes_ Try.func16 (by kernel_rfl) rfl #[.agg #[.int .i64 ((rd_T26 l0 x7_14).f0), .int .i64 ((rd_T26 l0 x7_14).f1), .int .i64 ((rd_T26 l0 x7_14).f2), .int .i64 ((rd_T26 l0 x7_14).f3), .int .i64 ((rd_T26 l0 x7_14).f4), .int .i64 ((rd_T26 l0 x7_14).f5)], .agg #[.int .i64 a1_0, .int .i64 a1_1, .int .i64 a1_2, .int .i64 a1_3, .int .i64 a1_4, .int .i64 a1_5]] (by rfl) rfl rfl (qq5) ?_
         with_reducible refine (impl_SameClaim.calls ((rd_T26 l0 x7_14).f0) ((rd_T26 l0 x7_14).f1) ((rd_T26 l0 x7_14).f2) ((rd_T26 l0 x7_14).f3) ((rd_T26 l0 x7_14).f4) ((rd_T26 l0 x7_14).f5) a1_0 a1_1 a1_2 a1_3 a1_4 a1_5 t407 _ A28.out).mono ?_
         rintro e w30 ⟨rfl, hb⟩
         refine ⟨_, rfl, ?_⟩
         have n0_ := Aside0.mk (Kd.R_below (qq25) hb)
         have n1_ := Aside0.mk (blk_below (g := gb398) (o := .cells #[.int .i64 a1_0, .int .i64 a1_1, .int .i64 a1_2, .int .i64 a1_3, .int .i64 a1_4, .int .i64 a1_5] 26 (0, 0)) (qq19) hb)
         have n2_ := Aside0.mk (below_step (qq20) hb)
         clear HO_6
         clear BK398
         clear HB
         have HO_6 := n0_
         have BK398 := n1_
         have HB := n2_
         clear n0_ n1_ n2_
         (try clear hb)
         (try clear hb2)
         (try clear hk)
         (try clear hi)
         refine hK.out _ _ ⟨(blk_cell BK398.out 0).trans rfl, (blk_cell BK398.out 1).trans rfl, (blk_cell BK398.out 2).trans rfl, (blk_cell BK398.out 3).trans rfl, (blk_cell BK398.out 4).trans rfl, (blk_cell BK398.out 5).trans rfl, ((HB.out.cell (World.block_lt_of_cell? w _ hw406_0)).trans hw406_0), ((HB.out.cell (World.block_lt_of_cell? w _ hw406_1)).trans hw406_1), ((HB.out.cell (World.block_lt_of_cell? w _ hw406_2)).trans hw406_2), ((HB.out.cell (World.block_lt_of_cell? w _ hw406_3)).trans hw406_3), ((HB.out.cell (World.block_lt_of_cell? w _ hw406_4)).trans hw406_4), ((HB.out.cell (World.block_lt_of_cell? w _ hw406_5)).trans hw406_5)⟩ (fun hHeld => ?_)
         clear hK K
         refine norm_ (a' := ?_) ?_ ?_
         rotate_left
         ·show Act.put _ (some 43) _ = _
          simp only [Act.put, List.setIfInBounds_toArray, List.set_cons_zero, List.set_cons_succ, i64_w, i32_w]
          rfl
         refine pure_ (i := 11) (N := some 44) (v := ?_) (a' := ?_) mm30 rfl rfl (any_of HT_.out (by kernel_rfl)) (fun _ _ _ h => h) (Or.inl ⟨by rfl, ?_⟩) ?_ ?_
         rotate_left
         ·intro w'
          go_simp
          with_reducible rfl
         rotate_left
         ·exact qq161
         refine done_ (done_of HT_.out (by kernel_rfl)) ?_
         try go_wp2
         go_meet
         case rel => exact ⟨_, (t407), (qq0), H', ⟨qq27⟩, ⟨qq25⟩, ⟨qq19⟩, ⟨qq20⟩⟩
        ·rw [if_neg c27] at H
         exact absurd H (by simp)
       ·rw [if_neg c26] at H
        have c26b0 : decide (x7_14 < (l0.length : Int)) = false := decide_eq_false c26
        clear c26
        (first | rw [c26b0] | (simp only [i64_w, i32_w]; rw [c26b0]) | skip)
        have H' := Aside0.mk H
        clear H
        try go_wp2
        have n0_ := Aside0.mk (Kd.R_drew HO_6.out)
        have n1_ := Aside0.mk (blk_drew BK398.out)
        have n2_ := Aside0.mk (below_drew1 HB.out)
        clear HO_6
        clear BK398
        clear HB
        have HO_6 := n0_
        have BK398 := n1_
        have HB := n2_
        clear n0_ n1_ n2_
        refine start_ (n := 12) (S := fun w' => True) (ds := []) mm18 (by kernel_rfl) rfl rfl trivial (fun hHeld => ?_); refine with_tabW impl_PutFact.tab6 impl_PutFact.bits6 (fun HT_ HW_ => ?_)
        generalize wc.drew = w31 at HO_6 BK398 HB hHeld ⊢
        refine pure_ (i := 0) (N := some 33) (v := ?_) (a' := ?_) mm19 rfl rfl (any_of HT_.out (by kernel_rfl)) (fun _ _ _ h => h) (Or.inl ⟨by rfl, ?_⟩) ?_ ?_
        rotate_left
        ·intro w'
         go_simp
         with_reducible rfl
        rotate_left
        ·exact qq161
        refine pure_ (i := 1) (N := some 34) (v := ?_) (a' := ?_) mm20 rfl rfl (any_of HT_.out (by kernel_rfl)) (fun _ _ _ h => h) (Or.inl ⟨by rfl, ?_⟩) ?_ ?_
        rotate_left
        ·intro w'
         go_simp
         with_reducible rfl
        rotate_left
        ·exact qq161
        refine pure_ (i := 2) (N := some 35) (v := ?_) (a' := ?_) mm21 rfl rfl (any_of HT_.out (by kernel_rfl)) (fun _ _ _ h => h) (Or.inl ⟨by rfl, ?_⟩) ?_ ?_
        rotate_left
        ·intro w'
         go_simp
         with_reducible rfl
        rotate_left
        ·exact qq161
        refine pure_ (i := 3) (N := some 36) (v := ?_) (a' := ?_) mm22 rfl rfl (any_of HT_.out (by kernel_rfl)) (fun _ _ _ h => h) (Or.inl ⟨by rfl, ?_⟩) ?_ ?_
        rotate_left
        ·intro w'
         go_simp
         with_reducible rfl
        rotate_left
        ·exact qq161
        refine pure_ (i := 4) (N := some 37) (v := ?_) (a' := ?_) mm23 rfl rfl (any_of HT_.out (by kernel_rfl)) (fun _ _ _ h => h) (Or.inl ⟨by rfl, ?_⟩) ?_ ?_
        rotate_left
        ·intro w'
         go_simp
         with_reducible rfl
        rotate_left
        ·exact qq161
        refine pure_ (i := 5) (N := some 38) (v := undef) (a' := ?_) mm24 rfl rfl (any_of HT_.out (by kernel_rfl)) (fun _ _ _ h => h) (Or.inr ⟨by rfl, rfl⟩) ?_ ?_
        rotate_left
        ·exact qq161
        refine pure_ (i := 6) (N := some 39) (v := undef) (a' := ?_) mm25 rfl rfl (any_of HT_.out (by kernel_rfl)) (fun _ _ _ h => h) (Or.inr ⟨by rfl, rfl⟩) ?_ ?_
        rotate_left
        ·exact qq161
        refine pure_ (i := 7) (N := some 40) (v := undef) (a' := ?_) mm26 rfl rfl (any_of HT_.out (by kernel_rfl)) (fun _ _ _ h => h) (Or.inr ⟨by rfl, rfl⟩) ?_ ?_
        rotate_left
        ·exact qq161
        refine pure_ (i := 8) (N := some 41) (v := undef) (a' := ?_) mm27 rfl rfl (any_of HT_.out (by kernel_rfl)) (fun _ _ _ h => h) (Or.inr ⟨by rfl, rfl⟩) ?_ ?_
        rotate_left
        ·exact qq161
        refine pure_ (i := 9) (N := some 42) (v := undef) (a' := ?_) mm28 rfl rfl (any_of HT_.out (by kernel_rfl)) (fun _ _ _ h => h) (Or.inr ⟨by rfl, rfl⟩) ?_ ?_
        rotate_left
        ·exact qq161
        refine pure_ (i := 10) (N := some 43) (v := undef) (a' := ?_) mm29 rfl rfl (any_of HT_.out (by kernel_rfl)) (fun _ _ _ h => h) (Or.inr ⟨by rfl, rfl⟩) ?_ ?_
        rotate_left
        ·exact qq161
        refine pure_ (i := 11) (N := some 44) (v := ?_) (a' := ?_) mm30 rfl rfl (any_of HT_.out (by kernel_rfl)) (fun _ _ _ h => h) (Or.inl ⟨by rfl, ?_⟩) ?_ ?_
        rotate_left
        ·intro w'
         go_simp
         with_reducible rfl
        rotate_left
        ·exact qq161
        refine done_ (done_of HT_.out (by kernel_rfl)) ?_
        try go_wp2
        go_meet
        case rel => exact ⟨_, (false), (qq0), H', ⟨qq27⟩, ⟨qq25⟩, ⟨qq19⟩, ⟨qq20⟩⟩
      case rest =>
       clear HC25
       try clear c1
       try clear c2
       try clear p2
       try clear c3
       try clear p4
       try clear q4
       try clear hx4
       try clear p6
       try clear c8
       try clear c10
       try clear c13
       try clear c14
       try clear c16
       try clear c16b0
       try clear c17
       try clear c17b0
       try clear c19
       try clear c26
       try clear c26b0
       try clear c27
       try clear c27b0
       try clear hcz11_0
       try clear hcz11_1
       try clear hcz11_2
       try clear hcz11_3
       try clear hcz11_4
       try clear hcz11_5
       try clear hfz11_0
       try clear hfz11_1
       try clear hfz11_2
       try clear hfz11_3
       try clear hfz11_4
       try clear hfz11_5
       try clear hx404_0
       try clear hx404_1
       try clear hx404_2
       try clear hx404_3
       try clear hx404_4
       try clear hx404_5
       try clear hx406_0
       try clear hx406_1
       try clear hx406_2
       try clear hx406_3
       try clear hx406_4
       try clear hx406_5
       try clear p2
       try clear p4
       try clear p404
       try clear p406
       try clear p6
       try clear q4
       try clear q404
       try clear q406
       obtain ⟨kq, x44_24, rfl, HA, HJ24, HO_6, BK398, HB⟩ := hcut
       cases kq with
       | zero => exact absurd HA.out (by simp [impl_PutFact.j3])
       | succ kj24 =>
        have H := HA.out
        clear HA
        simp only [impl_PutFact.j3] at H
        by_cases c32 : x44_24 = true
        ·subst c32
         have H1 : (if 0 ≤ x7_14 then (if x7_14 < (l0.length : Int) then ((impl_isLater.f a1_0 a1_1 a1_2 a1_3 a1_4 a1_5 ((rd_T26 l0 x7_14).f0) ((rd_T26 l0 x7_14).f1) ((rd_T26 l0 x7_14).f2) ((rd_T26 l0 x7_14).f3) ((rd_T26 l0 x7_14).f4) ((rd_T26 l0 x7_14).f5)).bind fun t409 => (if t409 = true then (if x7_14 < (t399.length : Int) then (some ((t399.set (x7_14 : Int).toNat (⟨a1_0, a1_1, a1_2, a1_3, a1_4, a1_5⟩ : S26)), true)) else (none)) else (some (t399, true)))) else (none)) else (none)) = some (r1, r2) := by rw [if_pos rfl] at H; exact H
         clear H
         have H := H1
         clear H1
         by_cases c33 : 0 ≤ x7_14
         ·rw [if_pos c33] at H
          have c33b0 : decide (0 ≤ x7_14) = true := decide_eq_true c33
          clear c33
          by_cases c34 : x7_14 < (l0.length : Int)
          ·rw [if_pos c34] at H
           have c34b0 : decide (x7_14 < (l0.length : Int)) = true := decide_eq_true c34
           clear c34
           replace H := Option.bind_eq_some_iff.mp H
           obtain ⟨t409, A350, H⟩ := H
           replace H : (if t409 = true then (if x7_14 < (t399.length : Int) then (some ((t399.set (x7_14 : Int).toNat (⟨a1_0, a1_1, a1_2, a1_3, a1_4, a1_5⟩ : S26)), true)) else (none)) else (some (t399, true))) = some (r1, r2) := H
           have A35 := Aside0.mk A350
           clear A350
           by_cases c36 : t409 = true
           ·subst c36
            have H1 : (if x7_14 < (t399.length : Int) then (some ((t399.set (x7_14 : Int).toNat (⟨a1_0, a1_1, a1_2, a1_3, a1_4, a1_5⟩ : S26)), true)) else (none)) = some (r1, r2) := by rw [if_pos rfl] at H; exact H
            clear H
            have H := H1
            clear H1
            by_cases c37 : x7_14 < (t399.length : Int)
            ·rw [if_pos c37] at H
             have c37b0 : decide (x7_14 < (t399.length : Int)) = true := decide_eq_true c37
             clear c37
             obtain ⟨y410, hy410⟩ : ∃ y_ : List (S26), y_ = (t399.set (x7_14 : Int).toNat (⟨a1_0, a1_1, a1_2, a1_3, a1_4, a1_5⟩ : S26)) := ⟨_, rfl⟩
             replace H : (some (y410, true)) = some (r1, r2) := by first | (rw [hy410]; with_reducible exact H) | (have H2_ := (Option.bind_some _ _).symm.trans H; rw [hy410]; with_reducible exact H2_) | (have H2_ := (Option.bind_some _ _).symm.trans H; with_reducible exact H2_) | with_reducible exact H | (rw [hy410]; exact H) | exact H
             have Ny410 := Aside0.mk hy410
             clear hy410
             simp only [Option.some.injEq, Prod.mk.injEq] at H
             obtain ⟨rfl, rfl⟩ := H
             try go_wp2
             have n0_ := Aside0.mk (Kd.R_drew HO_6.out)
             have n1_ := Aside0.mk (blk_drew BK398.out)
             have n2_ := Aside0.mk (below_drew1 HB.out)
             clear HO_6
             clear BK398
             clear HB
             have HO_6 := n0_
             have BK398 := n1_
             have HB := n2_
             clear n0_ n1_ n2_
             have p408 : 0 ≤ (x7_14 : Int) := of_decide_eq_true (qq2)
             have q408 : x7_14 < (l0.length : Int) := of_decide_eq_true (qq2)
             obtain ⟨ad408, e408, hx408_0, hx408_1, hx408_2, hx408_3, hx408_4, hx408_5⟩ := at_T26 HR0.out x7_14 p408 q408
             have hw408_5 := hx408_5
             have hw408_4 := hx408_4
             have hw408_3 := hx408_3
             have hw408_2 := hx408_2
             have hw408_1 := hx408_1
             have hw408_0 := hx408_0
             cases e408
             replace hx408_0 := (HB.out.cell (World.block_lt_of_cell? w _ hx408_0)).trans hx408_0
             replace hx408_1 := (HB.out.cell (World.block_lt_of_cell? w _ hx408_1)).trans hx408_1
             replace hx408_2 := (HB.out.cell (World.block_lt_of_cell? w _ hx408_2)).trans hx408_2
             replace hx408_3 := (HB.out.cell (World.block_lt_of_cell? w _ hx408_3)).trans hx408_3
             replace hx408_4 := (HB.out.cell (World.block_lt_of_cell? w _ hx408_4)).trans hx408_4
             replace hx408_5 := (HB.out.cell (World.block_lt_of_cell? w _ hx408_5)).trans hx408_5
             replace p408 := eq_true p408
             replace q408 := eq_true q408
             refine start_ (n := 6) (S := fun w' => w'.cell? ⟨gb398, 0, none⟩ = some (.int .i64 a1_0) ∧ w'.cell? ⟨gb398, 1, none⟩ = some (.int .i64 a1_1) ∧ w'.cell? ⟨gb398, 2, none⟩ = some (.int .i64 a1_2) ∧ w'.cell? ⟨gb398, 3, none⟩ = some (.int .i64 a1_3) ∧ w'.cell? ⟨gb398, 4, none⟩ = some (.int .i64 a1_4) ∧ w'.cell? ⟨gb398, 5, none⟩ = some (.int .i64 a1_5) ∧ w'.cell? (ad408.add ((x7_14).toNat * 6)) = some (.int .i64 ((rd_T26 l0 x7_14).f0)) ∧ w'.cell? ⟨(ad408.add ((x7_14).toNat * 6)).block, (ad408.add ((x7_14).toNat * 6)).off + 1, none⟩ = some (.int .i64 ((rd_T26 l0 x7_14).f1)) ∧ w'.cell? ⟨(ad408.add ((x7_14).toNat * 6)).block, (ad408.add ((x7_14).toNat * 6)).off + 2, none⟩ = some (.int .i64 ((rd_T26 l0 x7_14).f2)) ∧ w'.cell? ⟨(ad408.add ((x7_14).toNat * 6)).block, (ad408.add ((x7_14).toNat * 6)).off + 3, none⟩ = some (.int .i64 ((rd_T26 l0 x7_14).f3)) ∧ w'.cell? ⟨(ad408.add ((x7_14).toNat * 6)).block, (ad408.add ((x7_14).toNat * 6)).off + 4, none⟩ = some (.int .i64 ((rd_T26 l0 x7_14).f4)) ∧ w'.cell? ⟨(ad408.add ((x7_14).toNat * 6)).block, (ad408.add ((x7_14).toNat * 6)).off + 5, none⟩ = some (.int .i64 ((rd_T26 l0 x7_14).f5))) (ds := []) mm31 (by kernel_rfl) rfl rfl ⟨(blk_cell BK398.out 0).trans rfl, (blk_cell BK398.out 1).trans rfl, (blk_cell BK398.out 2).trans rfl, (blk_cell BK398.out 3).trans rfl, (blk_cell BK398.out 4).trans rfl, (blk_cell BK398.out 5).trans rfl, ((HB.out.cell (World.block_lt_of_cell? w _ hw408_0)).trans hw408_0), ((HB.out.cell (World.block_lt_of_cell? w _ hw408_1)).trans hw408_1), ((HB.out.cell (World.block_lt_of_cell? w _ hw408_2)).trans hw408_2), ((HB.out.cell (World.block_lt_of_cell? w _ hw408_3)).trans hw408_3), ((HB.out.cell (World.block_lt_of_cell? w _ hw408_4)).trans hw408_4), ((HB.out.cell (World.block_lt_of_cell? w _ hw408_5)).trans hw408_5)⟩ (fun hHeld => ?_)
             generalize wc.drew = w39 at HO_6 BK398 HB hx408_0 hx408_1 hx408_2 hx408_3 hx408_4 hx408_5 hHeld ⊢
             refine pure_ (i := 1) (N := some 46) (v := ?_) (a' := ?_) mm32 rfl rfl (by kernel_rfl) (fun _ _ _ h => h) (Or.inl ⟨by rfl, ?_⟩) ?_ ?_
             rotate_left
             ·intro w'
              go_simp
              with_reducible rfl
             rotate_left
             ·exact qq161
             refine pure_ (i := 2) (N := some 47) (v := ?_) (a' := ?_) mm33 rfl rfl (by kernel_rfl) (fun _ _ _ h => h) (Or.inl ⟨by rfl, ?_⟩) ?_ ?_
             rotate_left
             ·intro w'
              go_simp
              with_reducible rfl
             rotate_left
             ·exact qq161
             refine pure_ (i := 3) (N := some 48) (v := ?_) (a' := ?_) #[false, true, true, true, false, false] rfl rfl (by kernel_rfl) (fun _ _ _ h => h) (Or.inl ⟨by rfl, ?_⟩) ?_ ?_
             rotate_left
             ·intro w'
              go_simp
              with_reducible rfl
             rotate_left
             ·exact qq161
             refine take_ (i := 0) (N := some 45) (v := ?_) (a' := ?_) #[true, true, true, true, false, false] rfl rfl (by kernel_rfl) (fun _ _ _ h => h) (Or.inl ⟨by rfl, ?_⟩) hHeld ?_ ?_
             rotate_left
             ·rintro w' ⟨s0, s1, s2, s3, s4, s5, s6, s7, s8, s9, s10, s11⟩
              go_simp
              with_reducible rfl
             rotate_left
             ·exact qq161
             refine take_ (i := 4) (N := some 49) (v := ?_) (a' := ?_) #[true, true, true, true, true, false] rfl rfl (by kernel_rfl) (fun _ _ _ h => h) (Or.inl ⟨by rfl, ?_⟩) hHeld ?_ ?_
             rotate_left
             ·rintro w' ⟨s0, s1, s2, s3, s4, s5, s6, s7, s8, s9, s10, s11⟩
              go_simp
              with_reducible rfl
             rotate_left
             ·exact qq161
             refine one_ (i := 5) (N := some 50) #[true, true, true, true, true, true] rfl rfl (by kernel_rfl) (by decide) (fun K hK => ?_)
             refine goes_ Try.func40 (by kernel_rfl) rfl #[.agg #[.int .i64 a1_0, .int .i64 a1_1, .int .i64 a1_2, .int .i64 a1_3, .int .i64 a1_4, .int .i64 a1_5], .agg #[.int .i64 ((rd_T26 l0 x7_14).f0), .int .i64 ((rd_T26 l0 x7_14).f1), .int .i64 ((rd_T26 l0 x7_14).f2), .int .i64 ((rd_T26 l0 x7_14).f3), .int .i64 ((rd_T26 l0 x7_14).f4), .int .i64 ((rd_T26 l0 x7_14).f5)]] (by rfl) rfl rfl (qq5) ?_
             with_reducible refine (impl_isLater.calls a1_0 a1_1 a1_2 a1_3 a1_4 a1_5 ((rd_T26 l0 x7_14).f0) ((rd_T26 l0 x7_14).f1) ((rd_T26 l0 x7_14).f2) ((rd_T26 l0 x7_14).f3) ((rd_T26 l0 x7_14).f4) ((rd_T26 l0 x7_14).f5) true _ A35.out).mono ?_
             rintro e w40 ⟨rfl, hb⟩
             refine ⟨_, rfl, ?_⟩
             have n0_ := Aside0.mk (Kd.R_below (qq25) hb)
             have n1_ := Aside0.mk (blk_below (g := gb398) (o := .cells #[.int .i64 a1_0, .int .i64 a1_1, .int .i64 a1_2, .int .i64 a1_3, .int .i64 a1_4, .int .i64 a1_5] 26 (0, 0)) (qq19) hb)
             have n2_ := Aside0.mk (below_step (qq20) hb)
             clear HO_6
             clear BK398
             clear HB
             have HO_6 := n0_
             have BK398 := n1_
             have HB := n2_
             clear n0_ n1_ n2_
             (try clear hb)
             (try clear hb2)
             (try clear hk)
             (try clear hi)
             refine hK.out _ _ ⟨(blk_cell BK398.out 0).trans rfl, (blk_cell BK398.out 1).trans rfl, (blk_cell BK398.out 2).trans rfl, (blk_cell BK398.out 3).trans rfl, (blk_cell BK398.out 4).trans rfl, (blk_cell BK398.out 5).trans rfl, ((HB.out.cell (World.block_lt_of_cell? w _ hw408_0)).trans hw408_0), ((HB.out.cell (World.block_lt_of_cell? w _ hw408_1)).trans hw408_1), ((HB.out.cell (World.block_lt_of_cell? w _ hw408_2)).trans hw408_2), ((HB.out.cell (World.block_lt_of_cell? w _ hw408_3)).trans hw408_3), ((HB.out.cell (World.block_lt_of_cell? w _ hw408_4)).trans hw408_4), ((HB.out.cell (World.block_lt_of_cell? w _ hw408_5)).trans hw408_5)⟩ (fun hHeld => ?_)
             clear hK K
             refine norm_ (a' := ?_) ?_ ?_
             rotate_left
             ·show Act.put _ (some 50) _ = _
              simp only [Act.put, List.setIfInBounds_toArray, List.set_cons_zero, List.set_cons_succ, i64_w, i32_w]
              rfl
             refine done_ (by kernel_rfl) ?_
             have hcz41_0 : w40.cell? ⟨gb398, 0, none⟩ = some (.int .i64 a1_0) := (blk_cell BK398.out 0).trans rfl
             have hcz41_1 : w40.cell? ⟨gb398, 1, none⟩ = some (.int .i64 a1_1) := (blk_cell BK398.out 1).trans rfl
             have hcz41_2 : w40.cell? ⟨gb398, 2, none⟩ = some (.int .i64 a1_2) := (blk_cell BK398.out 2).trans rfl
             have hcz41_3 : w40.cell? ⟨gb398, 3, none⟩ = some (.int .i64 a1_3) := (blk_cell BK398.out 3).trans rfl
             have hcz41_4 : w40.cell? ⟨gb398, 4, none⟩ = some (.int .i64 a1_4) := (blk_cell BK398.out 4).trans rfl
             have hcz41_5 : w40.cell? ⟨gb398, 5, none⟩ = some (.int .i64 a1_5) := (blk_cell BK398.out 5).trans rfl
             have hfz41_0 := blk_frozen BK398.out 0
             have hfz41_1 := blk_frozen BK398.out 1
             have hfz41_2 := blk_frozen BK398.out 2
             have hfz41_3 := blk_frozen BK398.out 3
             have hfz41_4 := blk_frozen BK398.out 4
             have hfz41_5 := blk_frozen BK398.out 5
             have p38 : 0 ≤ (x7_14 : Int) := of_decide_eq_true (qq2)
             have q38 : (x7_14 : Int) < ((t399.length : Int) : Int) := of_decide_eq_true (qq2)
             obtain ⟨go38, co38, eo38, gb38, gl38, cl38, HG38⟩ := Kd.R_form HO_6.out (by omega)
             (first | cases eo38 | (injection eo38 with ea_ en_ ec_; (first | subst ea_ | (injection ea_ with ea_; subst ea_)); subst ec_; clear en_))
             have GB38 := Aside0.mk gb38
             have GG38 := Aside0.mk HG38
             clear gb38 gl38 HG38
             obtain ⟨ce38, hcl38, hM38, hcc38, hfr38⟩ := Kd.R_elem HO_6.out z26 (x7_14 : Int) p38 q38
             obtain rfl := k26_openM hM38
             have hx38_0 : w40.cell? ⟨go38, (x7_14 : Int).toNat * 6, none⟩ = some (.int .i64 ((rd_T26 t399 x7_14).f0)) := hcc38 0 _ rfl
             have hx38_1 : w40.cell? ⟨go38, (x7_14 : Int).toNat * 6 + 1, none⟩ = some (.int .i64 ((rd_T26 t399 x7_14).f1)) := hcc38 1 _ rfl
             have hx38_2 : w40.cell? ⟨go38, (x7_14 : Int).toNat * 6 + 2, none⟩ = some (.int .i64 ((rd_T26 t399 x7_14).f2)) := hcc38 2 _ rfl
             have hx38_3 : w40.cell? ⟨go38, (x7_14 : Int).toNat * 6 + 3, none⟩ = some (.int .i64 ((rd_T26 t399 x7_14).f3)) := hcc38 3 _ rfl
             have hx38_4 : w40.cell? ⟨go38, (x7_14 : Int).toNat * 6 + 4, none⟩ = some (.int .i64 ((rd_T26 t399 x7_14).f4)) := hcc38 4 _ rfl
             have hx38_5 : w40.cell? ⟨go38, (x7_14 : Int).toNat * 6 + 5, none⟩ = some (.int .i64 ((rd_T26 t399 x7_14).f5)) := hcc38 5 _ rfl
             have hf38_0 : w40.frozen? ⟨go38, (x7_14 : Int).toNat * 6, none⟩ = false := hfr38 0
             have hf38_1 : w40.frozen? ⟨go38, (x7_14 : Int).toNat * 6 + 1, none⟩ = false := hfr38 1
             have hf38_2 : w40.frozen? ⟨go38, (x7_14 : Int).toNat * 6 + 2, none⟩ = false := hfr38 2
             have hf38_3 : w40.frozen? ⟨go38, (x7_14 : Int).toNat * 6 + 3, none⟩ = false := hfr38 3
             have hf38_4 : w40.frozen? ⟨go38, (x7_14 : Int).toNat * 6 + 4, none⟩ = false := hfr38 4
             have hf38_5 : w40.frozen? ⟨go38, (x7_14 : Int).toNat * 6 + 5, none⟩ = false := hfr38 5
             clear hcl38 hcc38 hfr38 hM38
             replace p38 := eq_true p38
             replace q38 := eq_true q38
             have HX42 := Aside0.mk (show Kd.R k26 26 w40 w.heap.size (fun k_ => k_ ≠ gb398) (.slice (some ⟨go38, 0, none⟩) t399.length co38) t399 from (qq25))
             obtain ⟨ce42, hcl42, hM42, hcc42, hfr42⟩ := Kd.R_elem HX42.out z26 (x7_14 : Int) (of_decide_eq_true (qq2)) (by have h_ : (x7_14 : Int) < ((t399.length : Int) : Int) := of_decide_eq_true (qq2); first | exact h_ | (have e_ := (Kd.R_reads' HO_6.out).1; omega) | simpa using h_)
             obtain rfl := k26_openM hM42
             have HP42 := Kd.R_seg HX42.out (x7_14 : Int) (of_decide_eq_true (qq2)) (by have h_ : (x7_14 : Int) < ((t399.length : Int) : Int) := of_decide_eq_true (qq2); first | exact h_ | (have e_ := (Kd.R_reads' HO_6.out).1; omega) | simpa using h_) (seg := [.int .i64 a1_0, .int .i64 a1_1, .int .i64 a1_2, .int .i64 a1_3, .int .i64 a1_4, .int .i64 a1_5]) (j := 0) hcl42 hcc42 (show 6 ≤ 6 from by decide) (x' := (⟨a1_0, a1_1, a1_2, a1_3, a1_4, a1_5⟩ : S26)) (k26_mkM _ _ _ (⟨a1_0, a1_1, a1_2, a1_3, a1_4, a1_5⟩ : S26) ) (fun _ hk => hk)
             have hx42_0 := hcc42 0 _ rfl
             (try simp only [show (k26).sz = 6 from rfl, Nat.mul_one, Nat.add_zero] at hx42_0)
             have hf42_0 := hfr42 0
             (try simp only [show (k26).sz = 6 from rfl, Nat.mul_one, Nat.add_zero] at hf42_0)
             have hx42_1 := hcc42 1 _ rfl
             (try simp only [show (k26).sz = 6 from rfl, Nat.mul_one, Nat.add_zero] at hx42_1)
             have hf42_1 := hfr42 1
             (try simp only [show (k26).sz = 6 from rfl, Nat.mul_one, Nat.add_zero] at hf42_1)
             have hx42_2 := hcc42 2 _ rfl
             (try simp only [show (k26).sz = 6 from rfl, Nat.mul_one, Nat.add_zero] at hx42_2)
             have hf42_2 := hfr42 2
             (try simp only [show (k26).sz = 6 from rfl, Nat.mul_one, Nat.add_zero] at hf42_2)
             have hx42_3 := hcc42 3 _ rfl
             (try simp only [show (k26).sz = 6 from rfl, Nat.mul_one, Nat.add_zero] at hx42_3)
             have hf42_3 := hfr42 3
             (try simp only [show (k26).sz = 6 from rfl, Nat.mul_one, Nat.add_zero] at hf42_3)
             have hx42_4 := hcc42 4 _ rfl
             (try simp only [show (k26).sz = 6 from rfl, Nat.mul_one, Nat.add_zero] at hx42_4)
             have hf42_4 := hfr42 4
             (try simp only [show (k26).sz = 6 from rfl, Nat.mul_one, Nat.add_zero] at hf42_4)
             have hx42_5 := hcc42 5 _ rfl
             (try simp only [show (k26).sz = 6 from rfl, Nat.mul_one, Nat.add_zero] at hx42_5)
             have hf42_5 := hfr42 5
             (try simp only [show (k26).sz = 6 from rfl, Nat.mul_one, Nat.add_zero] at hf42_5)
             clear hcl42 hcc42 hfr42 hM42
             try go_wp2_with (first | ((with_reducible refine gate_store (t := 26) (p := 54) rfl ?_); refine store_event (t := 26) (p := 54) (v := ?vo_w43) (w1 := ((((((w40.setCell ⟨go38, (x7_14 : Int).toNat * 6, none⟩ (.int .i64 a1_0)).setCell ⟨go38, (x7_14 : Int).toNat * 6 + 1, none⟩ (.int .i64 a1_1)).setCell ⟨go38, (x7_14 : Int).toNat * 6 + 2, none⟩ (.int .i64 a1_2)).setCell ⟨go38, (x7_14 : Int).toNat * 6 + 3, none⟩ (.int .i64 a1_3)).setCell ⟨go38, (x7_14 : Int).toNat * 6 + 4, none⟩ (.int .i64 a1_4)).setCell ⟨go38, (x7_14 : Int).toNat * 6 + 5, none⟩ (.int .i64 a1_5))) ?hg ?ho ?hn ?hr ?_; (case ho => rfl); (case hg => rfl); (case hn => rfl); (case hr => first | (go_simp; done) | (go_simp; rfl)); intro w43 hw; have hg : w40.grownBy w43 (some go38) := (by rw [hw]; exact HP42.2); have hp_ : Kd.R k26 26 w43 w.heap.size (fun k_ => k_ ≠ gb398) (.slice (some ⟨go38, 0, none⟩) t399.length co38) y410 := (by rw [hw, Ny410.out]; exact HP42.1); clear HP42; have n0_ := Aside0.mk (hp_); have n1_ := Aside0.mk (blk_grown (g := gb398) (o := .cells #[.int .i64 a1_0, .int .i64 a1_1, .int .i64 a1_2, .int .i64 a1_3, .int .i64 a1_4, .int .i64 a1_5] 26 (0, 0)) (qq19) hg (Kd.R_away HO_6.out (fun _ hk => hk))); have n2_ := Aside0.mk ((by rw [hw]; exact below_set (below_set (below_set (below_set (below_set (below_set (HB.out) GB38.out) GB38.out) GB38.out) GB38.out) GB38.out) GB38.out : Below w.heap.size w w43)); clear HO_6; clear BK398; clear HB; have HO_6 := n0_; have BK398 := n1_; have HB := n2_; clear n0_ n1_ n2_; clear hg hw hp_))
             go_ret2
             exact ⟨_, qq9, qq24, qq20⟩
            ·rw [if_neg c37] at H
             exact absurd H (by simp)
           ·replace c36 := Bool.eq_false_iff.mpr c36
            subst c36
            have H1 : (some (t399, true)) = some (r1, r2) := by rw [if_neg (show ¬ (false = true) by decide)] at H; exact H
            clear H
            have H := H1
            clear H1
            simp only [Option.some.injEq, Prod.mk.injEq] at H
            obtain ⟨rfl, rfl⟩ := H
            try go_wp2
            have n0_ := Aside0.mk (Kd.R_drew HO_6.out)
            have n1_ := Aside0.mk (blk_drew BK398.out)
            have n2_ := Aside0.mk (below_drew1 HB.out)
            clear HO_6
            clear BK398
            clear HB
            have HO_6 := n0_
            have BK398 := n1_
            have HB := n2_
            clear n0_ n1_ n2_
            have p408 : 0 ≤ (x7_14 : Int) := of_decide_eq_true (qq2)
            have q408 : x7_14 < (l0.length : Int) := of_decide_eq_true (qq2)
            obtain ⟨ad408, e408, hx408_0, hx408_1, hx408_2, hx408_3, hx408_4, hx408_5⟩ := at_T26 HR0.out x7_14 p408 q408
            have hw408_5 := hx408_5
            have hw408_4 := hx408_4
            have hw408_3 := hx408_3
            have hw408_2 := hx408_2
            have hw408_1 := hx408_1
            have hw408_0 := hx408_0
            cases e408
            replace hx408_0 := (HB.out.cell (World.block_lt_of_cell? w _ hx408_0)).trans hx408_0
            replace hx408_1 := (HB.out.cell (World.block_lt_of_cell? w _ hx408_1)).trans hx408_1
            replace hx408_2 := (HB.out.cell (World.block_lt_of_cell? w _ hx408_2)).trans hx408_2
            replace hx408_3 := (HB.out.cell (World.block_lt_of_cell? w _ hx408_3)).trans hx408_3
            replace hx408_4 := (HB.out.cell (World.block_lt_of_cell? w _ hx408_4)).trans hx408_4
            replace hx408_5 := (HB.out.cell (World.block_lt_of_cell? w _ hx408_5)).trans hx408_5
            replace p408 := eq_true p408
            replace q408 := eq_true q408
            refine start_ (n := 6) (S := fun w' => w'.cell? ⟨gb398, 0, none⟩ = some (.int .i64 a1_0) ∧ w'.cell? ⟨gb398, 1, none⟩ = some (.int .i64 a1_1) ∧ w'.cell? ⟨gb398, 2, none⟩ = some (.int .i64 a1_2) ∧ w'.cell? ⟨gb398, 3, none⟩ = some (.int .i64 a1_3) ∧ w'.cell? ⟨gb398, 4, none⟩ = some (.int .i64 a1_4) ∧ w'.cell? ⟨gb398, 5, none⟩ = some (.int .i64 a1_5) ∧ w'.cell? (ad408.add ((x7_14).toNat * 6)) = some (.int .i64 ((rd_T26 l0 x7_14).f0)) ∧ w'.cell? ⟨(ad408.add ((x7_14).toNat * 6)).block, (ad408.add ((x7_14).toNat * 6)).off + 1, none⟩ = some (.int .i64 ((rd_T26 l0 x7_14).f1)) ∧ w'.cell? ⟨(ad408.add ((x7_14).toNat * 6)).block, (ad408.add ((x7_14).toNat * 6)).off + 2, none⟩ = some (.int .i64 ((rd_T26 l0 x7_14).f2)) ∧ w'.cell? ⟨(ad408.add ((x7_14).toNat * 6)).block, (ad408.add ((x7_14).toNat * 6)).off + 3, none⟩ = some (.int .i64 ((rd_T26 l0 x7_14).f3)) ∧ w'.cell? ⟨(ad408.add ((x7_14).toNat * 6)).block, (ad408.add ((x7_14).toNat * 6)).off + 4, none⟩ = some (.int .i64 ((rd_T26 l0 x7_14).f4)) ∧ w'.cell? ⟨(ad408.add ((x7_14).toNat * 6)).block, (ad408.add ((x7_14).toNat * 6)).off + 5, none⟩ = some (.int .i64 ((rd_T26 l0 x7_14).f5))) (ds := []) mm31 (by kernel_rfl) rfl rfl ⟨(blk_cell BK398.out 0).trans rfl, (blk_cell BK398.out 1).trans rfl, (blk_cell BK398.out 2).trans rfl, (blk_cell BK398.out 3).trans rfl, (blk_cell BK398.out 4).trans rfl, (blk_cell BK398.out 5).trans rfl, ((HB.out.cell (World.block_lt_of_cell? w _ hw408_0)).trans hw408_0), ((HB.out.cell (World.block_lt_of_cell? w _ hw408_1)).trans hw408_1), ((HB.out.cell (World.block_lt_of_cell? w _ hw408_2)).trans hw408_2), ((HB.out.cell (World.block_lt_of_cell? w _ hw408_3)).trans hw408_3), ((HB.out.cell (World.block_lt_of_cell? w _ hw408_4)).trans hw408_4), ((HB.out.cell (World.block_lt_of_cell? w _ hw408_5)).trans hw408_5)⟩ (fun hHeld => ?_)
            generalize wc.drew = w44 at HO_6 BK398 HB hx408_0 hx408_1 hx408_2 hx408_3 hx408_4 hx408_5 hHeld ⊢
            refine pure_ (i := 1) (N := some 46) (v := ?_) (a' := ?_) mm32 rfl rfl (by kernel_rfl) (fun _ _ _ h => h) (Or.inl ⟨by rfl, ?_⟩) ?_ ?_
            rotate_left
            ·intro w'
             go_simp
             with_reducible rfl
            rotate_left
            ·exact qq161
            refine pure_ (i := 2) (N := some 47) (v := ?_) (a' := ?_) mm33 rfl rfl (by kernel_rfl) (fun _ _ _ h => h) (Or.inl ⟨by rfl, ?_⟩) ?_ ?_
            rotate_left
            ·intro w'
             go_simp
             with_reducible rfl
            rotate_left
            ·exact qq161
            refine pure_ (i := 3) (N := some 48) (v := ?_) (a' := ?_) #[false, true, true, true, false, false] rfl rfl (by kernel_rfl) (fun _ _ _ h => h) (Or.inl ⟨by rfl, ?_⟩) ?_ ?_
            rotate_left
            ·intro w'
             go_simp
             with_reducible rfl
            rotate_left
            ·exact qq161
            refine take_ (i := 0) (N := some 45) (v := ?_) (a' := ?_) #[true, true, true, true, false, false] rfl rfl (by kernel_rfl) (fun _ _ _ h => h) (Or.inl ⟨by rfl, ?_⟩) hHeld ?_ ?_
            rotate_left
            ·rintro w' ⟨s0, s1, s2, s3, s4, s5, s6, s7, s8, s9, s10, s11⟩
             go_simp
             with_reducible rfl
            rotate_left
            ·exact qq161
            refine take_ (i := 4) (N := some 49) (v := ?_) (a' := ?_) #[true, true, true, true, true, false] rfl rfl (by kernel_rfl) (fun _ _ _ h => h) (Or.inl ⟨by rfl, ?_⟩) hHeld ?_ ?_
            rotate_left
            ·rintro w' ⟨s0, s1, s2, s3, s4, s5, s6, s7, s8, s9, s10, s11⟩
             go_simp
             with_reducible rfl
            rotate_left
            ·exact qq161
            refine one_ (i := 5) (N := some 50) #[true, true, true, true, true, true] rfl rfl (by kernel_rfl) (by decide) (fun K hK => ?_)
            refine goes_ Try.func40 (by kernel_rfl) rfl #[.agg #[.int .i64 a1_0, .int .i64 a1_1, .int .i64 a1_2, .int .i64 a1_3, .int .i64 a1_4, .int .i64 a1_5], .agg #[.int .i64 ((rd_T26 l0 x7_14).f0), .int .i64 ((rd_T26 l0 x7_14).f1), .int .i64 ((rd_T26 l0 x7_14).f2), .int .i64 ((rd_T26 l0 x7_14).f3), .int .i64 ((rd_T26 l0 x7_14).f4), .int .i64 ((rd_T26 l0 x7_14).f5)]] (by rfl) rfl rfl (qq5) ?_
            with_reducible refine (impl_isLater.calls a1_0 a1_1 a1_2 a1_3 a1_4 a1_5 ((rd_T26 l0 x7_14).f0) ((rd_T26 l0 x7_14).f1) ((rd_T26 l0 x7_14).f2) ((rd_T26 l0 x7_14).f3) ((rd_T26 l0 x7_14).f4) ((rd_T26 l0 x7_14).f5) false _ A35.out).mono ?_
            rintro e w45 ⟨rfl, hb⟩
            refine ⟨_, rfl, ?_⟩
            have n0_ := Aside0.mk (Kd.R_below (qq25) hb)
            have n1_ := Aside0.mk (blk_below (g := gb398) (o := .cells #[.int .i64 a1_0, .int .i64 a1_1, .int .i64 a1_2, .int .i64 a1_3, .int .i64 a1_4, .int .i64 a1_5] 26 (0, 0)) (qq19) hb)
            have n2_ := Aside0.mk (below_step (qq20) hb)
            clear HO_6
            clear BK398
            clear HB
            have HO_6 := n0_
            have BK398 := n1_
            have HB := n2_
            clear n0_ n1_ n2_
            (try clear hb)
            (try clear hb2)
            (try clear hk)
            (try clear hi)
            refine hK.out _ _ ⟨(blk_cell BK398.out 0).trans rfl, (blk_cell BK398.out 1).trans rfl, (blk_cell BK398.out 2).trans rfl, (blk_cell BK398.out 3).trans rfl, (blk_cell BK398.out 4).trans rfl, (blk_cell BK398.out 5).trans rfl, ((HB.out.cell (World.block_lt_of_cell? w _ hw408_0)).trans hw408_0), ((HB.out.cell (World.block_lt_of_cell? w _ hw408_1)).trans hw408_1), ((HB.out.cell (World.block_lt_of_cell? w _ hw408_2)).trans hw408_2), ((HB.out.cell (World.block_lt_of_cell? w _ hw408_3)).trans hw408_3), ((HB.out.cell (World.block_lt_of_cell? w _ hw408_4)).trans hw408_4), ((HB.out.cell (World.block_lt_of_cell? w _ hw408_5)).trans hw408_5)⟩ (fun hHeld => ?_)
            clear hK K
            refine norm_ (a' := ?_) ?_ ?_
            rotate_left
            ·show Act.put _ (some 50) _ = _
             simp only [Act.put, List.setIfInBounds_toArray, List.set_cons_zero, List.set_cons_succ, i64_w, i32_w]
             rfl
            refine done_ (by kernel_rfl) ?_
            try go_wp2
            go_ret2
            exact ⟨_, qq9, qq24, qq20⟩
          ·rw [if_neg c34] at H
           exact absurd H (by simp)
         ·rw [if_neg c33] at H
          exact absurd H (by simp)
        ·replace c32 := Bool.eq_false_iff.mpr c32
         subst c32
         have H1 : (if (l0.length : Int) = 30 then (some (t399, false)) else ((impl_Fact_41.f t399 x7_14 (([(⟨a1_0, a1_1, a1_2, a1_3, a1_4, a1_5⟩ : S26)] : List (S26)))).bind fun t414 => (some (t414, true)))) = some (r1, r2) := by rw [if_neg (show ¬ (false = true) by decide)] at H; exact H
         clear H
         have H := H1
         clear H1
         by_cases c46 : (l0.length : Int) = 30
         ·rw [if_pos c46] at H
          have c46b0 : ((l0.length : Int) == 30) = true := beq_iff_eq.mpr c46
          have c46b1 : ((l0.length : Int) != 30) = false := bne_eq_false_iff_eq.mpr c46
          clear c46
          simp only [Option.some.injEq, Prod.mk.injEq] at H
          obtain ⟨rfl, rfl⟩ := H
          go_wp2
          go_ret2
          exact ⟨_, qq9, qq24, qq20⟩
         ·rw [if_neg c46] at H
          have c46b0 : ((l0.length : Int) == 30) = false := beq_eq_false_iff_ne.mpr c46
          have c46b1 : ((l0.length : Int) != 30) = true := bne_iff_ne.mpr c46
          obtain ⟨y411, hy411⟩ : ∃ y_ : List (S26), y_ = (([(⟨a1_0, a1_1, a1_2, a1_3, a1_4, a1_5⟩ : S26)] : List (S26))) := ⟨_, rfl⟩
          replace H : ((impl_Fact_41.f t399 x7_14 y411).bind fun t414 => (some (t414, true))) = some (r1, r2) := by first | (rw [hy411]; with_reducible exact H) | (have H2_ := (Option.bind_some _ _).symm.trans H; rw [hy411]; with_reducible exact H2_) | (have H2_ := (Option.bind_some _ _).symm.trans H; with_reducible exact H2_) | with_reducible exact H | (rw [hy411]; exact H) | exact H
          have Ny411 := Aside0.mk hy411
          clear hy411
          replace H := Option.bind_eq_some_iff.mp H
          obtain ⟨t414, A470, H⟩ := H
          replace H : (some (t414, true)) = some (r1, r2) := H
          have A47 := Aside0.mk A470
          clear A470
          simp only [Option.some.injEq, Prod.mk.injEq] at H
          obtain ⟨rfl, rfl⟩ := H
          have hcz48_0 : wc.cell? ⟨gb398, 0, none⟩ = some (.int .i64 a1_0) := (blk_cell BK398.out 0).trans rfl
          have hcz48_1 : wc.cell? ⟨gb398, 1, none⟩ = some (.int .i64 a1_1) := (blk_cell BK398.out 1).trans rfl
          have hcz48_2 : wc.cell? ⟨gb398, 2, none⟩ = some (.int .i64 a1_2) := (blk_cell BK398.out 2).trans rfl
          have hcz48_3 : wc.cell? ⟨gb398, 3, none⟩ = some (.int .i64 a1_3) := (blk_cell BK398.out 3).trans rfl
          have hcz48_4 : wc.cell? ⟨gb398, 4, none⟩ = some (.int .i64 a1_4) := (blk_cell BK398.out 4).trans rfl
          have hcz48_5 : wc.cell? ⟨gb398, 5, none⟩ = some (.int .i64 a1_5) := (blk_cell BK398.out 5).trans rfl
          have hfz48_0 := blk_frozen BK398.out 0
          have hfz48_1 := blk_frozen BK398.out 1
          have hfz48_2 := blk_frozen BK398.out 2
          have hfz48_3 := blk_frozen BK398.out 3
          have hfz48_4 := blk_frozen BK398.out 4
          have hfz48_5 := blk_frozen BK398.out 5
          go_wp2_with (first | ((with_reducible refine gate_dst (N := 63) rfl ?_); refine Kd.R_lit k26 _ 26 ?hg (N := 63) ?hd (xs := ([(⟨a1_0, a1_1, a1_2, a1_3, a1_4, a1_5⟩ : S26)] : List (S26))) (inner := [.int .i64 a1_0, .int .i64 a1_1, .int .i64 a1_2, .int .i64 a1_3, .int .i64 a1_4, .int .i64 a1_5]) (ok := fun _ => True) (okp := fun _ => True) ?hr ?hp (fun _ hk => hk) trivial (Below.refl _ _) (Nat.le_refl _) (by simp) ?_; (case hd => rfl); (case hg => rfl); (case hr => first | (go_simp; done) | (go_simp; rfl)); (case hp => exact (Reps.c6 (show Kd.M k26 _ _ _ (⟨a1_0, a1_1, a1_2, a1_3, a1_4, a1_5⟩ : S26) [.int .i64 a1_0, .int .i64 a1_1, .int .i64 a1_2, .int .i64 a1_3, .int .i64 a1_4, .int .i64 a1_5] from (k26_mkM _ _ _ (⟨a1_0, a1_1, a1_2, a1_3, a1_4, a1_5⟩ : S26) )) (Reps.none _ _))); intro v412 w49 ho50 hb hg_ hnew_; clear hg_ hnew_; (first | rw [← Ny411.out] at ho50 | (simp only [Int.reduceToNat] at ho50; rw [← Ny411.out] at ho50)); have n0_ := Aside0.mk (Kd.R_elder' (qq25) (Kd.R_base ho50) hb); have n1_ := Aside0.mk (Kd.R_lower (Kd.R_newB (Kd.R_new' ho50 (Kd.R_lt (qq25))) (g := gb398) (o := .cells #[.int .i64 a1_0, .int .i64 a1_1, .int .i64 a1_2, .int .i64 a1_3, .int .i64 a1_4, .int .i64 a1_5] 26 (0, 0)) (qq19)) (below_size (qq20))); have n2_ := Aside0.mk (blk_below (g := gb398) (o := .cells #[.int .i64 a1_0, .int .i64 a1_1, .int .i64 a1_2, .int .i64 a1_3, .int .i64 a1_4, .int .i64 a1_5] 26 (0, 0)) (qq19) hb); have n3_ := Aside0.mk (below_step (qq20) hb); clear HO_6; clear BK398; clear HB; have HO_6 := n0_; have HO413 := n1_; have BK398 := n2_; have HB := n3_; clear n0_ n1_ n2_ n3_; clear hb ho50; obtain ⟨Ao51, co51, eo51⟩ := Kd.R_slice HO_6.out; subst eo51; obtain ⟨Ao52, co52, eo52⟩ := Kd.R_slice HO413.out; subst eo52) | ((with_reducible refine gate_callee (f := 41) rfl ?_); refine goesL_ (some 64) rfl rfl Try.func41 (by kernel_rfl) rfl #[.slice Ao51 t399.length co51, .int .i64 x7_14, .slice Ao52 y411.length co52] rfl (qq5) ?_; (with_reducible refine (impl_Fact_41.calls (fun k_ => some k_ = (.slice Ao51 t399.length co51 : Value).ownBlock) (.slice Ao51 t399.length co51) t399 x7_14 _ _ y411 t414 w _ ?side1 ?side2 ?side3 ?side4 A47.out).mono ?_); (case side1 => repeat (first | (with_reducible first | exact HB.out | apply below_alloc | apply pw_below_drewN | apply below_drew1 | refine below_set ?_ GE398.out) | exact HB.out)); (case side2 => exact Kd.R_tight rfl HO_6.out); (case side3 => exact ⟨_, _, HO413.out, (fun k_ hk_ hs_ => (hk_.1.2) hs_)⟩); (case side4 => exact (Kd.R_reads' HO413.out).2.1); rintro e w53 ⟨v415, rfl, ho0, hb, hkp⟩; refine ⟨_, rfl, ?_⟩; have n0_ := Aside0.mk (blk_kept (qq19) hkp (fun hs_ => (fun e_ => (Kd.R_away HO_6.out (fun _ hk => hk.1)) e_) hs_)); have n1_ := Aside0.mk (Kd.R_mono (ok' := fun k_ => k_ ≠ gb398 ∧ some k_ ≠ (v415 : Value).ownBlock) (Kd.R_keptB (HO413.out) hkp (fun k_ hk_ hs_ => (hk_.1.2) hs_)) (fun k_ hk_ => ⟨hk_.1.2, fun e_ => Or.elim (ho0.1 k_ e_.symm) (fun hs_ => hk_.2.1 hs_) (fun hn_ => Nat.not_le.2 hk_.2.2 hn_)⟩)); have n2_ := Aside0.mk (Kd.R_mono (ok' := fun k_ => some k_ ≠ (.slice Ao52 y411.length co52 : Value).ownBlock ∧ k_ ≠ gb398) ho0 (fun k_ hk_ => ⟨Or.elim hk_ (fun hs_ => fun e_ => (((HO413.out).1 k_ e_.symm).1.2) hs_) (fun hn_ => (Kd.fresh' (Kd.R_lt (by (with_reducible repeat (first | apply Kd.R_alloc | apply Kd.R_drewN | apply Kd.R_drew)); exact HO413.out)) k_ hn_)), Or.elim hk_ (fun hs_ => fun e_ => (Kd.R_away HO_6.out (fun _ hk => hk.1)) (by rw [← e_]; exact hs_)) (fun hn_ => (Kd.freshB (g := gb398) (o := .cells #[.int .i64 a1_0, .int .i64 a1_1, .int .i64 a1_2, .int .i64 a1_3, .int .i64 a1_4, .int .i64 a1_5] 26 (0, 0)) (qq19) k_ hn_))⟩)); have n3_ := Aside0.mk (hb); clear BK398; clear HO413; clear HB; clear HO_6; have BK398 := n0_; have HO413 := n1_; have HO416 := n2_; have HB := n3_; clear n0_ n1_ n2_ n3_; (try clear hb); (try clear hkp); (try clear ho0)))
          go_ret2
          exact ⟨_, qq9, by (with_reducible repeat (first | apply Kd.R_alloc | apply Kd.R_drewN | apply Kd.R_drew)); exact Kd.R_mono HO416.out (fun _ hk => trivial), qq20⟩
end Go.Proofs.Ythanecnkknimpaa.PFnStores
