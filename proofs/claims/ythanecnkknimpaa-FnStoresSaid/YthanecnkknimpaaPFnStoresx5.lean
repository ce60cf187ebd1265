/- What this law reaches, as plain Lean functions, and the proofs that the machine's calls answer what they answer; laid by a program of this session over the kit's print, some functions by hand. Conditions: none beyond each theorem's own. -/
import Derived.Test.YthanecnkknimpaaPFnStoresx0
import Derived.Test.YthanecnkknimpaaPFnStoresx2
import Derived.Test.YthanecnkknimpaaPFnStoresx3
import Derived.Test.YthanecnkknimpaaPFnStoresx4
-- half the blanks
namespace Go.Proofs.Ythanecnkknimpaa.PFnStores
open Go.RowKit Go.Proofs.YthanecnkknimpaaW.PrintWords Go.Proofs.YthanecnkknimpaaW.PrintLast Go.Proofs.YthanecnkknimpaaW.PrintMore
attribute [local go_sem] max2_int min2_int max_two min_two max_three min_three max_four min_four   -- for this text's walks alone
set_option linter.unusedVariables false
set_option linter.unusedSimpArgs false
/-! ### spec_PutFact: function 29 -/
mutual
def spec_PutFact.j0 : Nat → List (S26) → Bool → Int → Int → Int → Int → Int → Int → Option ((List (S26)) × Bool)
 | 0, _, _, _, _, _, _, _, _ => none
 | k + 1, x0, x17, x141000, x141001, x141002, x141003, x141004, x141005 => if x17 = true then ((spec_l7Copy.f x0).bind fun t143 => (some (t143, false))) else (spec_PutFact.l0 k x0 (([] : List (S26))) false 0 x141000 x141001 x141002 x141003 x141004 x141005)
def spec_PutFact.l0 : Nat → List (S26) → List (S26) → Bool → Int → Int → Int → Int → Int → Int → Int → Option ((List (S26)) × Bool)
 | 0, _, _, _, _, _, _, _, _, _, _ => none
 | k + 1, x0, x6, x7, x8, x141000, x141001, x141002, x141003, x141004, x141005 => if x8 < (x0.length : Int) then (if x7 = true then (spec_PutFact.j2 k x0 x6 x7 x8 false x141000 x141001 x141002 x141003 x141004 x141005) else (if 0 ≤ x8 then ((spec_FactBefore.f x141000 x141001 x141002 x141003 x141004 x141005 ((rd_T26 x0 x8).f0) ((rd_T26 x0 x8).f1) ((rd_T26 x0 x8).f2) ((rd_T26 x0 x8).f3) ((rd_T26 x0 x8).f4) ((rd_T26 x0 x8).f5)).bind fun t150 => (spec_PutFact.j2 k x0 x6 x7 x8 t150 x141000 x141001 x141002 x141003 x141004 x141005)) else (none))) else (if x7 = true then (if (x6.length : Int) > 30 then ((spec_l7Copy.f x0).bind fun t172 => (some (t172, false))) else (some (x6, true))) else (if x6.length < 2932031007402 then ((some (x6 ++ [(⟨x141000, x141001, x141002, x141003, x141004, x141005⟩ : S26)] : List (S26))).bind fun y175 => (if (y175.length : Int) > 30 then ((spec_l7Copy.f x0).bind fun t178 => (some (t178, false))) else (some (y175, true)))) else (none)))
def spec_PutFact.j2 : Nat → List (S26) → List (S26) → Bool → Int → Bool → Int → Int → Int → Int → Int → Int → Option ((List (S26)) × Bool)
 | 0, _, _, _, _, _, _, _, _, _, _, _ => none
 | k + 1, x0, x6, x7, x8, x36, x141000, x141001, x141002, x141003, x141004, x141005 => if x36 = true then (if x6.length < 2932031007402 then (spec_PutFact.j3 k x0 (x6 ++ [(⟨x141000, x141001, x141002, x141003, x141004, x141005⟩ : S26)]) true x8 x141000 x141001 x141002 x141003 x141004 x141005) else (none)) else (spec_PutFact.j3 k x0 x6 x7 x8 x141000 x141001 x141002 x141003 x141004 x141005)
def spec_PutFact.j3 : Nat → List (S26) → List (S26) → Bool → Int → Int → Int → Int → Int → Int → Int → Option ((List (S26)) × Bool)
 | 0, _, _, _, _, _, _, _, _, _, _ => none
 | k + 1, x0, x6, x7, x8, x141000, x141001, x141002, x141003, x141004, x141005 => if 0 ≤ x8 then (if x8 < (x0.length : Int) then ((spec_SameClaim.f x141000 x141001 x141002 x141003 x141004 x141005 ((rd_T26 x0 x8).f0) ((rd_T26 x0 x8).f1) ((rd_T26 x0 x8).f2) ((rd_T26 x0 x8).f3) ((rd_T26 x0 x8).f4) ((rd_T26 x0 x8).f5)).bind fun t156 => (if t156 = true then (if x141004 > ((rd_T26 x0 x8).f4) then (if x6.length < 2932031007402 then (spec_PutFact.l0 k x0 (x6 ++ [(⟨x141000, x141001, x141002, x141003, x141004, x141005⟩ : S26)]) true (wrap64 (x8 + 1)) x141000 x141001 x141002 x141003 x141004 x141005) else (none)) else (if x141004 = ((rd_T26 x0 x8).f4) then (if x141005 > ((rd_T26 x0 x8).f5) then (if x6.length < 2932031007402 then (spec_PutFact.l0 k x0 (x6 ++ [(⟨x141000, x141001, x141002, x141003, x141004, x141005⟩ : S26)]) true (wrap64 (x8 + 1)) x141000 x141001 x141002 x141003 x141004 x141005) else (none)) else (if x6.length < 2932031007402 then (spec_PutFact.l0 k x0 (x6 ++ [(⟨(rd_T26 x0 x8).f0, (rd_T26 x0 x8).f1, (rd_T26 x0 x8).f2, (rd_T26 x0 x8).f3, (rd_T26 x0 x8).f4, (rd_T26 x0 x8).f5⟩ : S26)]) true (wrap64 (x8 + 1)) x141000 x141001 x141002 x141003 x141004 x141005) else (none))) else (if x6.length < 2932031007402 then (spec_PutFact.l0 k x0 (x6 ++ [(⟨(rd_T26 x0 x8).f0, (rd_T26 x0 x8).f1, (rd_T26 x0 x8).f2, (rd_T26 x0 x8).f3, (rd_T26 x0 x8).f4, (rd_T26 x0 x8).f5⟩ : S26)]) true (wrap64 (x8 + 1)) x141000 x141001 x141002 x141003 x141004 x141005) else (none)))) else (if x6.length < 2932031007402 then (spec_PutFact.l0 k x0 (x6 ++ [(⟨(rd_T26 x0 x8).f0, (rd_T26 x0 x8).f1, (rd_T26 x0 x8).f2, (rd_T26 x0 x8).f3, (rd_T26 x0 x8).f4, (rd_T26 x0 x8).f5⟩ : S26)]) x7 (wrap64 (x8 + 1)) x141000 x141001 x141002 x141003 x141004 x141005) else (none)))) else (none)) else (none)
end
def spec_PutFact.f (k : Nat) (l0 : List (S26)) (a1_0 : Int) (a1_1 : Int) (a1_2 : Int) (a1_3 : Int) (a1_4 : Int) (a1_5 : Int) : Option ((List (S26)) × Bool) := (spec_IsStore.f k l0).bind fun t141 => (if t141 = true then ((spec_IsFact.f a1_0 a1_1 a1_2 a1_3 a1_4 a1_5).bind fun t142 => (spec_PutFact.j0 k l0 (!t142) a1_0 a1_1 a1_2 a1_3 a1_4 a1_5)) else (spec_PutFact.j0 k l0 true a1_0 a1_1 a1_2 a1_3 a1_4 a1_5))
theorem spec_PutFact.mono_l : ∀ k, (∀ y0 y1 y2 y3 y4 y5 y6 y7, LeO (spec_PutFact.j0 k y0 y1 y2 y3 y4 y5 y6 y7) (spec_PutFact.j0 (k + 1) y0 y1 y2 y3 y4 y5 y6 y7)) ∧ (∀ y0 y1 y2 y3 y4 y5 y6 y7 y8 y9, LeO (spec_PutFact.l0 k y0 y1 y2 y3 y4 y5 y6 y7 y8 y9) (spec_PutFact.l0 (k + 1) y0 y1 y2 y3 y4 y5 y6 y7 y8 y9)) ∧ (∀ y0 y1 y2 y3 y4 y5 y6 y7 y8 y9 y10, LeO (spec_PutFact.j2 k y0 y1 y2 y3 y4 y5 y6 y7 y8 y9 y10) (spec_PutFact.j2 (k + 1) y0 y1 y2 y3 y4 y5 y6 y7 y8 y9 y10)) ∧ (∀ y0 y1 y2 y3 y4 y5 y6 y7 y8 y9, LeO (spec_PutFact.j3 k y0 y1 y2 y3 y4 y5 y6 y7 y8 y9) (spec_PutFact.j3 (k + 1) y0 y1 y2 y3 y4 y5 y6 y7 y8 y9))
 | 0 => ⟨fun _ _ _ _ _ _ _ _ r h => by simp [spec_PutFact.j0] at h, fun _ _ _ _ _ _ _ _ _ _ r h => by simp [spec_PutFact.l0] at h, fun _ _ _ _ _ _ _ _ _ _ _ r h => by simp [spec_PutFact.j2] at h, fun _ _ _ _ _ _ _ _ _ _ r h => by simp [spec_PutFact.j3] at h⟩
 | k + 1 => by
  obtain ⟨ih0, ih1, ih2, ih3⟩ := spec_PutFact.mono_l k
  refine ⟨?_, ?_, ?_, ?_⟩
  ·intro y0 y1 y2 y3 y4 y5 y6 y7
   unfold spec_PutFact.j0
   repeat' first
   | (with_reducible exact ih0 _ _ _ _ _ _ _ _)
   | (with_reducible exact ih1 _ _ _ _ _ _ _ _ _ _)
   | (with_reducible exact ih2 _ _ _ _ _ _ _ _ _ _ _)
   | (with_reducible exact ih3 _ _ _ _ _ _ _ _ _ _)
   | (with_reducible exact spec_IsStore.mono _ _)
   | (with_reducible exact LeO.refl _)
   | (with_reducible exact LeO.none _)
   | (with_reducible refine LeO.ite ?_ ?_)
   | (with_reducible refine LeO.bind ?_ (fun _ => ?_))
   | exact ih0 _ _ _ _ _ _ _ _
   | exact ih1 _ _ _ _ _ _ _ _ _ _
   | exact ih2 _ _ _ _ _ _ _ _ _ _ _
   | exact ih3 _ _ _ _ _ _ _ _ _ _
   | exact spec_IsStore.mono _ _
   | exact LeO.none _
   | refine LeO.ite ?_ ?_
   | refine LeO.bind ?_ (fun _ => ?_)
  ·intro y0 y1 y2 y3 y4 y5 y6 y7 y8 y9
   unfold spec_PutFact.l0
   repeat' first
   | (with_reducible exact ih0 _ _ _ _ _ _ _ _)
   | (with_reducible exact ih1 _ _ _ _ _ _ _ _ _ _)
   | (with_reducible exact ih2 _ _ _ _ _ _ _ _ _ _ _)
   | (with_reducible exact ih3 _ _ _ _ _ _ _ _ _ _)
   | (with_reducible exact spec_IsStore.mono _ _)
   | (with_reducible exact LeO.refl _)
   | (with_reducible exact LeO.none _)
   | (with_reducible refine LeO.ite ?_ ?_)
   | (with_reducible refine LeO.bind ?_ (fun _ => ?_))
   | exact ih0 _ _ _ _ _ _ _ _
   | exact ih1 _ _ _ _ _ _ _ _ _ _
   | exact ih2 _ _ _ _ _ _ _ _ _ _ _
   | exact ih3 _ _ _ _ _ _ _ _ _ _
   | exact spec_IsStore.mono _ _
   | exact LeO.none _
   | refine LeO.ite ?_ ?_
   | refine LeO.bind ?_ (fun _ => ?_)
  ·intro y0 y1 y2 y3 y4 y5 y6 y7 y8 y9 y10
   unfold spec_PutFact.j2
   repeat' first
   | (with_reducible exact ih0 _ _ _ _ _ _ _ _)
   | (with_reducible exact ih1 _ _ _ _ _ _ _ _ _ _)
   | (with_reducible exact ih2 _ _ _ _ _ _ _ _ _ _ _)
   | (with_reducible exact ih3 _ _ _ _ _ _ _ _ _ _)
   | (with_reducible exact spec_IsStore.mono _ _)
   | (with_reducible exact LeO.refl _)
   | (with_reducible exact LeO.none _)
   | (with_reducible refine LeO.ite ?_ ?_)
   | (with_reducible refine LeO.bind ?_ (fun _ => ?_))
   | exact ih0 _ _ _ _ _ _ _ _
   | exact ih1 _ _ _ _ _ _ _ _ _ _
   | exact ih2 _ _ _ _ _ _ _ _ _ _ _
   | exact ih3 _ _ _ _ _ _ _ _ _ _
   | exact spec_IsStore.mono _ _
   | exact LeO.none _
   | refine LeO.ite ?_ ?_
   | refine LeO.bind ?_ (fun _ => ?_)
  ·intro y0 y1 y2 y3 y4 y5 y6 y7 y8 y9
   unfold spec_PutFact.j3
   repeat' first
   | (with_reducible exact ih0 _ _ _ _ _ _ _ _)
   | (with_reducible exact ih1 _ _ _ _ _ _ _ _ _ _)
   | (with_reducible exact ih2 _ _ _ _ _ _ _ _ _ _ _)
   | (with_reducible exact ih3 _ _ _ _ _ _ _ _ _ _)
   | (with_reducible exact spec_IsStore.mono _ _)
   | (with_reducible exact LeO.refl _)
   | (with_reducible exact LeO.none _)
   | (with_reducible refine LeO.ite ?_ ?_)
   | (with_reducible refine LeO.bind ?_ (fun _ => ?_))
   | exact ih0 _ _ _ _ _ _ _ _
   | exact ih1 _ _ _ _ _ _ _ _ _ _
   | exact ih2 _ _ _ _ _ _ _ _ _ _ _
   | exact ih3 _ _ _ _ _ _ _ _ _ _
   | exact spec_IsStore.mono _ _
   | exact LeO.none _
   | refine LeO.ite ?_ ?_
   | refine LeO.bind ?_ (fun _ => ?_)
theorem spec_PutFact.mono : ∀ a0 a1 a2 a3 a4 a5 a6 k, LeO (spec_PutFact.f k a0 a1 a2 a3 a4 a5 a6) (spec_PutFact.f (k + 1) a0 a1 a2 a3 a4 a5 a6) := by
 intro a0 a1 a2 a3 a4 a5 a6 k
 obtain ⟨ih0, ih1, ih2, ih3⟩ := spec_PutFact.mono_l k
 unfold spec_PutFact.f
 repeat' first
   | (with_reducible exact ih0 _ _ _ _ _ _ _ _)
   | (with_reducible exact ih1 _ _ _ _ _ _ _ _ _ _)
   | (with_reducible exact ih2 _ _ _ _ _ _ _ _ _ _ _)
   | (with_reducible exact ih3 _ _ _ _ _ _ _ _ _ _)
   | (with_reducible exact spec_IsStore.mono _ _)
   | (with_reducible exact LeO.refl _)
   | (with_reducible exact LeO.none _)
   | (with_reducible refine LeO.ite ?_ ?_)
   | (with_reducible refine LeO.bind ?_ (fun _ => ?_))
   | exact ih0 _ _ _ _ _ _ _ _
   | exact ih1 _ _ _ _ _ _ _ _ _ _
   | exact ih2 _ _ _ _ _ _ _ _ _ _ _
   | exact ih3 _ _ _ _ _ _ _ _ _ _
   | exact spec_IsStore.mono _ _
   | exact LeO.none _
   | refine LeO.ite ?_ ?_
   | refine LeO.bind ?_ (fun _ => ?_)
def spec_PutFact.T8 : Bool × List (List Nat × List Nat) := (true, [([], []), ([0], [0]), ([1], [1]), ([2], [2]), ([2], [2]), ([2], [2]), ([4, 5, 2], [2, 4, 5]), ([6, 2], [2, 6]), ([3, 7, 2, 2], [2, 3, 7]), ([2, 8], [2, 8])])
def spec_PutFact.B8 : List Nat := [0, 1, 3, 7, 7, 7, 55, 119, 255, 511]
theorem spec_PutFact.tab8 : rtab .any (opsOf Try.f29 8) = spec_PutFact.T8 := by kernel_rfl
theorem spec_PutFact.bits8 : waitsOk spec_PutFact.T8.2 spec_PutFact.B8 = true := by kernel_rfl
set_option maxHeartbeats 8000000 in
set_option maxRecDepth 100000 in
theorem spec_PutFact.calls (k : Nat) (A0 : Option Addr) (c0 : Nat) (l0 : List (S26)) (a1_0 : Int) (a1_1 : Int) (a1_2 : Int) (a1_3 : Int) (a1_4 : Int) (a1_5 : Int) (r1 : List (S26)) (r2 : Bool) (w : World) (hr0 : Kd.C k26 w A0 l0.length l0) (hc0 : l0.length ≤ c0) (h : spec_PutFact.f k l0 a1_0 a1_1 a1_2 a1_3 a1_4 a1_5 = some (r1, r2)) :
  Calls Try.prog 29 #[.slice A0 l0.length c0, .agg #[.int .i64 a1_0, .int .i64 a1_1, .int .i64 a1_2, .int .i64 a1_3, .int .i64 a1_4, .int .i64 a1_5]] w fun e w' => ∃ v0_ : Value, e = .returned (.tuple #[v0_, .bool r2]) ∧ Kd.R k26 26 w' w.heap.size (fun _ => True) v0_ r1 ∧ Below w.heap.size w w' := by
 have hu26 := Try.underlying26
 have HR0 := Aside0.mk hr0
 have HC0 := Aside0.mk hc0
 clear hr0 hc0
 have HB := Aside0.mk (Below.refl w.heap.size w)
 have H : ((spec_IsStore.f k l0).bind fun t141 => (if t141 = true then ((spec_IsFact.f a1_0 a1_1 a1_2 a1_3 a1_4 a1_5).bind fun t142 => (spec_PutFact.j0 k l0 (!t142) a1_0 a1_1 a1_2 a1_3 a1_4 a1_5)) else (spec_PutFact.j0 k l0 true a1_0 a1_1 a1_2 a1_3 a1_4 a1_5))) = some (r1, r2) := h
 clear h
 have HC3 := Aside0.mk H
 clear H
 go_enter Try.func29, Try.ntmps29
 go_upto_region 1 with (first | ((with_reducible refine gate_dst (N := 3) rfl ?_); refine box_event ?hg (N := 3) ?hd (cs := #[.int .i64 a1_0, .int .i64 a1_1, .int .i64 a1_2, .int .i64 a1_3, .int .i64 a1_4, .int .i64 a1_5]) (t := 26) ?hr ?_; (case hd => rfl); (case hg => rfl); (case hr => first | (go_simp; done) | (go_simp; rfl)); intro gb140 hg w4 hbox hb; have n0_ := Aside0.mk (below_step (qq1) hb); have n1_ := Aside0.mk (hbox); have n2_ := Aside0.mk ((qq124 : w.heap.size ≤ gb140)); have n3_ := Aside0.mk ((qq124 : w.heap.size ≤ gb140)); clear HB; have HB := n0_; have BK140 := n1_; have GW140 := n2_; have GE140 := n3_; clear n0_ n1_ n2_ n3_; clear hb hbox hg))
 (try simp only [Act.put, List.setIfInBounds_toArray, List.set_cons_zero, List.set_cons_succ])
 go_cut [17] (fun v17 wc => ∃ (kq : Nat) (x17_2 : Bool), v17 = .bool x17_2 ∧ Aside0 (spec_PutFact.j0 kq l0 x17_2 a1_0 a1_1 a1_2 a1_3 a1_4 a1_5 = some (r1, r2)) ∧ Aside0 (kq ≤ k) ∧ Aside0 (wc.heap[gb140]? = some (.cells #[.int .i64 a1_0, .int .i64 a1_1, .int .i64 a1_2, .int .i64 a1_3, .int .i64 a1_4, .int .i64 a1_5] 26 (0, 0))) ∧ Aside0 (Below w.heap.size w wc))
 case first =>
  have H := HC3.out
  clear HC3
  replace H := Option.bind_eq_some_iff.mp H
  obtain ⟨t141, A50, H⟩ := H
  replace H : (if t141 = true then ((spec_IsFact.f a1_0 a1_1 a1_2 a1_3 a1_4 a1_5).bind fun t142 => (spec_PutFact.j0 k l0 (!t142) a1_0 a1_1 a1_2 a1_3 a1_4 a1_5)) else (spec_PutFact.j0 k l0 true a1_0 a1_1 a1_2 a1_3 a1_4 a1_5)) = some (r1, r2) := H
  have A5 := Aside0.mk A50
  clear A50
  by_cases c6 : t141 = true
  ·subst c6
   have H1 : ((spec_IsFact.f a1_0 a1_1 a1_2 a1_3 a1_4 a1_5).bind fun t142 => (spec_PutFact.j0 k l0 (!t142) a1_0 a1_1 a1_2 a1_3 a1_4 a1_5)) = some (r1, r2) := by rw [if_pos rfl] at H; exact H
   clear H
   have H := H1
   clear H1
   replace H := Option.bind_eq_some_iff.mp H
   obtain ⟨t142, A70, H⟩ := H
   replace H : (spec_PutFact.j0 k l0 (!t142) a1_0 a1_1 a1_2 a1_3 a1_4 a1_5) = some (r1, r2) := H
   have A7 := Aside0.mk A70
   clear A70
   have H' := Aside0.mk H
   clear H
   go_wp2_with (first | ((with_reducible refine gate_callee (f := 54) rfl ?_); refine goesL_ (some 11) rfl rfl Try.func54 (by kernel_rfl) rfl #[.slice A0 l0.length c0] rfl (qq5) ?_; (with_reducible refine (spec_IsStore.calls k _ _ l0 true _ ?side1 ?side2 A5.out).mono ?_); (case side1 => exact qq145); (case side2 => exact HC0.out); rintro e w8 ⟨rfl, hb⟩; refine ⟨_, rfl, ?_⟩; have n0_ := Aside0.mk (blk_below (g := gb140) (o := .cells #[.int .i64 a1_0, .int .i64 a1_1, .int .i64 a1_2, .int .i64 a1_3, .int .i64 a1_4, .int .i64 a1_5] 26 (0, 0)) (qq58) hb); have n1_ := Aside0.mk (below_step (qq59) hb); clear BK140; clear HB; have BK140 := n0_; have HB := n1_; clear n0_ n1_; (try clear hb); (try clear hb2); (try clear hk); (try clear hi); have hcz9_0 : w8.cell? ⟨gb140, 0, none⟩ = some (.int .i64 a1_0) := (blk_cell BK140.out 0).trans rfl; have hcz9_1 : w8.cell? ⟨gb140, 1, none⟩ = some (.int .i64 a1_1) := (blk_cell BK140.out 1).trans rfl; have hcz9_2 : w8.cell? ⟨gb140, 2, none⟩ = some (.int .i64 a1_2) := (blk_cell BK140.out 2).trans rfl; have hcz9_3 : w8.cell? ⟨gb140, 3, none⟩ = some (.int .i64 a1_3) := (blk_cell BK140.out 3).trans rfl; have hcz9_4 : w8.cell? ⟨gb140, 4, none⟩ = some (.int .i64 a1_4) := (blk_cell BK140.out 4).trans rfl; have hcz9_5 : w8.cell? ⟨gb140, 5, none⟩ = some (.int .i64 a1_5) := (blk_cell BK140.out 5).trans rfl; have hfz9_0 := blk_frozen BK140.out 0; have hfz9_1 := blk_frozen BK140.out 1; have hfz9_2 := blk_frozen BK140.out 2; have hfz9_3 := blk_frozen BK140.out 3; have hfz9_4 := blk_frozen BK140.out 4; have hfz9_5 := blk_frozen BK140.out 5) | (go_at_call 55; (with_reducible refine (spec_IsFact.calls a1_0 a1_1 a1_2 a1_3 a1_4 a1_5 t142 _ A7.out).mono ?_); rintro e w10 ⟨rfl, hb⟩; have n0_ := Aside0.mk (blk_below (g := gb140) (o := .cells #[.int .i64 a1_0, .int .i64 a1_1, .int .i64 a1_2, .int .i64 a1_3, .int .i64 a1_4, .int .i64 a1_5] 26 (0, 0)) (qq58) hb); have n1_ := Aside0.mk (below_step (qq59) hb); clear BK140; clear HB; have BK140 := n0_; have HB := n1_; clear n0_ n1_; (try clear hb); (try clear hb2); (try clear hk); (try clear hi)))
   go_meet
   case rel => exact ⟨_, (!t142), (qq0), H', ⟨qq22⟩, ⟨qq58⟩, ⟨qq59⟩⟩
  ·replace c6 := Bool.eq_false_iff.mpr c6
   subst c6
   have H1 : (spec_PutFact.j0 k l0 true a1_0 a1_1 a1_2 a1_3 a1_4 a1_5) = some (r1, r2) := by rw [if_neg (show ¬ (false = true) by decide)] at H; exact H
   clear H
   have H := H1
   clear H1
   have H' := Aside0.mk H
   clear H
   go_wp2_with (first | ((with_reducible refine gate_callee (f := 54) rfl ?_); refine goesL_ (some 11) rfl rfl Try.func54 (by kernel_rfl) rfl #[.slice A0 l0.length c0] rfl (qq5) ?_; (with_reducible refine (spec_IsStore.calls k _ _ l0 false _ ?side1 ?side2 A5.out).mono ?_); (case side1 => exact qq145); (case side2 => exact HC0.out); rintro e w11 ⟨rfl, hb⟩; refine ⟨_, rfl, ?_⟩; have n0_ := Aside0.mk (blk_below (g := gb140) (o := .cells #[.int .i64 a1_0, .int .i64 a1_1, .int .i64 a1_2, .int .i64 a1_3, .int .i64 a1_4, .int .i64 a1_5] 26 (0, 0)) (qq58) hb); have n1_ := Aside0.mk (below_step (qq59) hb); clear BK140; clear HB; have BK140 := n0_; have HB := n1_; clear n0_ n1_; (try clear hb); (try clear hb2); (try clear hk); (try clear hi)))
   go_meet
   case rel => exact ⟨_, (true), (qq0), H', ⟨qq22⟩, ⟨qq58⟩, ⟨qq59⟩⟩
 case rest =>
  clear HC3
  try clear c2
  try clear p2
  try clear c5
  try clear c6
  try clear hcz9_0
  try clear hcz9_1
  try clear hcz9_2
  try clear hcz9_3
  try clear hcz9_4
  try clear hcz9_5
  try clear hfz9_0
  try clear hfz9_1
  try clear hfz9_2
  try clear hfz9_3
  try clear hfz9_4
  try clear hfz9_5
  obtain ⟨kq, x17_2, rfl, HA, HJ2, BK140, HB⟩ := hcut
  cases kq with
  | zero => exact absurd HA.out (by simp [spec_PutFact.j0])
  | succ kj2 =>
   have H := HA.out
   clear HA
   simp only [spec_PutFact.j0] at H
   by_cases c12 : x17_2 = true
   ·subst c12
    have H1 : ((spec_l7Copy.f l0).bind fun t143 => (some (t143, false))) = some (r1, r2) := by rw [if_pos rfl] at H; exact H
    clear H
    have H := H1
    clear H1
    replace H := Option.bind_eq_some_iff.mp H
    obtain ⟨t143, A130, H⟩ := H
    replace H : (some (t143, false)) = some (r1, r2) := H
    have A13 := Aside0.mk A130
    clear A130
    simp only [Option.some.injEq, Prod.mk.injEq] at H
    obtain ⟨rfl, rfl⟩ := H
    go_wp2_with (first | ((with_reducible refine gate_callee (f := 56) rfl ?_); refine goesL_ (some 19) rfl rfl Try.func56 (by kernel_rfl) rfl #[.slice A0 l0.length c0] rfl (qq5) ?_; (with_reducible refine (spec_l7Copy.calls _ _ l0 t143 _ ?side1 ?side2 A13.out).mono ?_); (case side1 => exact qq145); (case side2 => exact HC0.out); rintro e w14 ⟨v144, rfl, ho0, hb⟩; refine ⟨_, rfl, ?_⟩; have n0_ := Aside0.mk (Kd.R_lower (Kd.R_newB ho0 (g := gb140) (o := .cells #[.int .i64 a1_0, .int .i64 a1_1, .int .i64 a1_2, .int .i64 a1_3, .int .i64 a1_4, .int .i64 a1_5] 26 (0, 0)) (qq58)) (below_size (qq59))); have n1_ := Aside0.mk (blk_below (g := gb140) (o := .cells #[.int .i64 a1_0, .int .i64 a1_1, .int .i64 a1_2, .int .i64 a1_3, .int .i64 a1_4, .int .i64 a1_5] 26 (0, 0)) (qq58) hb); have n2_ := Aside0.mk (below_step (qq59) hb); clear BK140; clear HB; have HO145 := n0_; have BK140 := n1_; have HB := n2_; clear n0_ n1_ n2_; (try clear hb); (try clear hb2); (try clear hk); (try clear hi); (try clear ho0)))
    go_ret2
    exact ⟨_, qq9, by (with_reducible repeat (first | apply Kd.R_alloc | apply Kd.R_drewN | apply Kd.R_drew)); exact Kd.R_mono HO145.out (fun _ hk => trivial), qq59⟩
   ·replace c12 := Bool.eq_false_iff.mpr c12
    subst c12
    have H1 : (spec_PutFact.l0 kj2 l0 (([] : List (S26))) false 0 a1_0 a1_1 a1_2 a1_3 a1_4 a1_5) = some (r1, r2) := by rw [if_neg (show ¬ (false = true) by decide)] at H; exact H
    clear H
    have H := H1
    clear H1
    obtain ⟨y146, hy146⟩ : ∃ y_ : List (S26), y_ = (([] : List (S26))) := ⟨_, rfl⟩
    replace H : (spec_PutFact.l0 kj2 l0 y146 false 0 a1_0 a1_1 a1_2 a1_3 a1_4 a1_5) = some (r1, r2) := by first | (rw [hy146]; with_reducible exact H) | (have H2_ := (Option.bind_some _ _).symm.trans H; rw [hy146]; with_reducible exact H2_) | (have H2_ := (Option.bind_some _ _).symm.trans H; with_reducible exact H2_) | with_reducible exact H | (rw [hy146]; exact H) | exact H
    have Ny146 := Aside0.mk hy146
    clear hy146
    have H' := Aside0.mk H
    clear H
    go_wp2_with (first | ((with_reducible refine gate_dst (N := 20) rfl ?_); refine Kd.R_lit k26 _ 26 ?hg (N := 20) ?hd (xs := ([] : List (S26))) (inner := []) (ok := fun _ => True) (okp := fun _ => True) ?hr ?hp (fun _ hk => hk) trivial (Below.refl _ _) (Nat.le_refl _) (by simp) ?_; (case hd => rfl); (case hg => rfl); (case hr => first | (go_simp; done) | (go_simp; rfl)); (case hp => exact (Reps.none _ _)); intro v147 w15 ho16 hb hg_ hnew_; clear hg_ hnew_; (first | rw [← Ny146.out] at ho16 | (simp only [Int.reduceToNat] at ho16; rw [← Ny146.out] at ho16)); have n0_ := Aside0.mk (Kd.R_lower (Kd.R_newB ho16 (g := gb140) (o := .cells #[.int .i64 a1_0, .int .i64 a1_1, .int .i64 a1_2, .int .i64 a1_3, .int .i64 a1_4, .int .i64 a1_5] 26 (0, 0)) (qq58)) (below_size (qq59))); have n1_ := Aside0.mk (blk_below (g := gb140) (o := .cells #[.int .i64 a1_0, .int .i64 a1_1, .int .i64 a1_2, .int .i64 a1_3, .int .i64 a1_4, .int .i64 a1_5] 26 (0, 0)) (qq58) hb); have n2_ := Aside0.mk (below_step (qq59) hb); clear BK140; clear HB; have HO148 := n0_; have BK140 := n1_; have HB := n2_; clear n0_ n1_ n2_; clear hb ho16))
    go_loopg [6, 7, 8] kj2 (fun kq v6 v7 v8 w' => ∃ (x6_2 : List (S26)) (x7_2 : Bool) (x8_2 : Int), v7 = .bool x7_2 ∧ v8 = .int .i64 x8_2 ∧ Aside0 (spec_PutFact.l0 kq l0 x6_2 x7_2 x8_2 a1_0 a1_1 a1_2 a1_3 a1_4 a1_5 = some (r1, r2)) ∧ Aside0 (kq ≤ kj2) ∧ Aside0 (Kd.R k26 26 w' w.heap.size (fun k_ => k_ ≠ gb140) v6 x6_2) ∧ Aside0 (w'.heap[gb140]? = some (.cells #[.int .i64 a1_0, .int .i64 a1_1, .int .i64 a1_2, .int .i64 a1_3, .int .i64 a1_4, .int .i64 a1_5] 26 (0, 0))) ∧ Aside0 (Below w.heap.size w w'))
    case atStart => exact ⟨(y146), (false), (0), (qq0), (qq0), H', ⟨Nat.le_refl _⟩, ⟨by (with_reducible repeat (first | apply Kd.R_alloc | apply Kd.R_drewN | apply Kd.R_drew)); exact Kd.R_mono HO148.out (fun _ hk => hk.2)⟩, ⟨qq58⟩, ⟨qq59⟩⟩
    case round =>
     clear H'
     try clear c1
     try clear c2
     try clear p2
     try clear c5
     try clear c6
     try clear c12
     try clear hcz9_0
     try clear hcz9_1
     try clear hcz9_2
     try clear hcz9_3
     try clear hcz9_4
     try clear hcz9_5
     try clear hfz9_0
     try clear hfz9_1
     try clear hfz9_2
     try clear hfz9_3
     try clear hfz9_4
     try clear hfz9_5
     try clear p2
     obtain ⟨x6_2, x7_2, x8_2, rfl, rfl, HA, HK2, HO_6, BK140, HB⟩ := hrel
     cases gk with
     | zero => exact absurd HA.out (by simp [spec_PutFact.l0])
     | succ k2 =>
      have H := HA.out
      clear HA
      simp only [spec_PutFact.l0] at H
      by_cases c17 : x8_2 < (l0.length : Int)
      ·rw [if_pos c17] at H
       have c17b0 : decide (x8_2 < (l0.length : Int)) = true := decide_eq_true c17
       clear c17
       have HC18 := Aside0.mk H
       clear H
       go_upto_region 8 with (fail)
       go_cut [36] (fun v36 wc => ∃ (kq : Nat) (x36_17 : Bool), v36 = .bool x36_17 ∧ Aside0 (spec_PutFact.j2 kq l0 x6_2 x7_2 x8_2 x36_17 a1_0 a1_1 a1_2 a1_3 a1_4 a1_5 = some (r1, r2)) ∧ Aside0 (kq ≤ k2) ∧ Aside0 (Kd.R k26 26 wc w.heap.size (fun k_ => k_ ≠ gb140) u6 x6_2) ∧ Aside0 (wc.heap[gb140]? = some (.cells #[.int .i64 a1_0, .int .i64 a1_1, .int .i64 a1_2, .int .i64 a1_3, .int .i64 a1_4, .int .i64 a1_5] 26 (0, 0))) ∧ Aside0 (Below w.heap.size w wc))
       case first =>
        have H := HC18.out
        clear HC18
        by_cases c19 : x7_2 = true
        ·subst c19
         have H1 : (spec_PutFact.j2 k2 l0 x6_2 true x8_2 false a1_0 a1_1 a1_2 a1_3 a1_4 a1_5) = some (r1, r2) := by rw [if_pos rfl] at H; exact H
         clear H
         have H := H1
         clear H1
         have H' := Aside0.mk H
         clear H
         try go_wp2
         have n0_ := Aside0.mk (Kd.R_drew HO_6.out)
         have n1_ := Aside0.mk (blk_drew BK140.out)
         have n2_ := Aside0.mk (below_drew1 HB.out)
         clear HO_6
         clear BK140
         clear HB
         have HO_6 := n0_
         have BK140 := n1_
         have HB := n2_
         clear n0_ n1_ n2_
         refine start_ (n := 10) (S := fun w' => True) (ds := []) mm102 (by kernel_rfl) rfl rfl trivial (fun hHeld => ?_); refine with_tabW spec_PutFact.tab8 spec_PutFact.bits8 (fun HT_ HW_ => ?_)
         generalize wr.drew = w20 at HO_6 BK140 HB hHeld ⊢
         refine pure_ (i := 0) (N := some 27) (v := ?_) (a' := ?_) mm103 rfl rfl (any_of HT_.out (by kernel_rfl)) (fun _ _ _ h => h) (Or.inl ⟨by rfl, ?_⟩) ?_ ?_
         rotate_left
         ·intro w'
          go_simp
          with_reducible rfl
         rotate_left
         ·exact qq161
         refine pure_ (i := 1) (N := some 28) (v := ?_) (a' := ?_) mm104 rfl rfl (any_of HT_.out (by kernel_rfl)) (fun _ _ _ h => h) (Or.inl ⟨by rfl, ?_⟩) ?_ ?_
         rotate_left
         ·intro w'
          go_simp
          with_reducible rfl
         rotate_left
         ·exact qq161
         refine pure_ (i := 2) (N := some 29) (v := ?_) (a' := ?_) mm105 rfl rfl (any_of HT_.out (by kernel_rfl)) (fun _ _ _ h => h) (Or.inl ⟨by rfl, ?_⟩) ?_ ?_
         rotate_left
         ·intro w'
          go_simp
          with_reducible rfl
         rotate_left
         ·exact qq161
         refine pure_ (i := 3) (N := some 30) (v := undef) (a' := ?_) #[true, true, true, true, false, false, false, false, false, false] rfl rfl (any_of HT_.out (by kernel_rfl)) (fun _ _ _ h => h) (Or.inr ⟨by rfl, rfl⟩) ?_ ?_
         rotate_left
         ·exact qq161
         refine pure_ (i := 4) (N := some 31) (v := undef) (a' := ?_) #[true, true, true, true, true, false, false, false, false, false] rfl rfl (any_of HT_.out (by kernel_rfl)) (fun _ _ _ h => h) (Or.inr ⟨by rfl, rfl⟩) ?_ ?_
         rotate_left
         ·exact qq161
         refine pure_ (i := 5) (N := some 32) (v := undef) (a' := ?_) #[true, true, true, true, true, true, false, false, false, false] rfl rfl (any_of HT_.out (by kernel_rfl)) (fun _ _ _ h => h) (Or.inr ⟨by rfl, rfl⟩) ?_ ?_
         rotate_left
         ·exact qq161
         refine pure_ (i := 6) (N := some 33) (v := undef) (a' := ?_) mm106 rfl rfl (any_of HT_.out (by kernel_rfl)) (fun _ _ _ h => h) (Or.inr ⟨by rfl, rfl⟩) ?_ ?_
         rotate_left
         ·exact qq161
         refine pure_ (i := 7) (N := some 34) (v := undef) (a' := ?_) mm107 rfl rfl (any_of HT_.out (by kernel_rfl)) (fun _ _ _ h => h) (Or.inr ⟨by rfl, rfl⟩) ?_ ?_
         rotate_left
         ·exact qq161
         refine pure_ (i := 8) (N := some 35) (v := undef) (a' := ?_) mm108 rfl rfl (any_of HT_.out (by kernel_rfl)) (fun _ _ _ h => h) (Or.inr ⟨by rfl, rfl⟩) ?_ ?_
         rotate_left
         ·exact qq161
         refine pure_ (i := 9) (N := some 36) (v := ?_) (a' := ?_) mm109 rfl rfl (any_of HT_.out (by kernel_rfl)) (fun _ _ _ h => h) (Or.inl ⟨by rfl, ?_⟩) ?_ ?_
         rotate_left
         ·intro w'
          go_simp
          with_reducible rfl
         rotate_left
         ·exact qq161
         refine done_ (done_of HT_.out (by kernel_rfl)) ?_
         try go_wp2
         go_meet
         case rel => exact ⟨_, (false), (qq0), H', ⟨qq60⟩, ⟨qq25⟩, ⟨qq58⟩, ⟨qq59⟩⟩
        ·replace c19 := Bool.eq_false_iff.mpr c19
         subst c19
         have H1 : (if 0 ≤ x8_2 then ((spec_FactBefore.f a1_0 a1_1 a1_2 a1_3 a1_4 a1_5 ((rd_T26 l0 x8_2).f0) ((rd_T26 l0 x8_2).f1) ((rd_T26 l0 x8_2).f2) ((rd_T26 l0 x8_2).f3) ((rd_T26 l0 x8_2).f4) ((rd_T26 l0 x8_2).f5)).bind fun t150 => (spec_PutFact.j2 k2 l0 x6_2 false x8_2 t150 a1_0 a1_1 a1_2 a1_3 a1_4 a1_5)) else (none)) = some (r1, r2) := by rw [if_neg (show ¬ (false = true) by decide)] at H; exact H
         clear H
         have H := H1
         clear H1
         by_cases c21 : 0 ≤ x8_2
         ·rw [if_pos c21] at H
          have c21b0 : decide (0 ≤ x8_2) = true := decide_eq_true c21
          clear c21
          (first | rw [c21b0] | (simp only [i64_w, i32_w]; rw [c21b0]) | skip)
          replace H := Option.bind_eq_some_iff.mp H
          obtain ⟨t150, A220, H⟩ := H
          replace H : (spec_PutFact.j2 k2 l0 x6_2 false x8_2 t150 a1_0 a1_1 a1_2 a1_3 a1_4 a1_5) = some (r1, r2) := H
          have A22 := Aside0.mk A220
          clear A220
          have H' := Aside0.mk H
          clear H
          try go_wp2
          have n0_ := Aside0.mk (Kd.R_drew HO_6.out)
          have n1_ := Aside0.mk (blk_drew BK140.out)
          have n2_ := Aside0.mk (below_drew1 HB.out)
          clear HO_6
          clear BK140
          clear HB
          have HO_6 := n0_
          have BK140 := n1_
          have HB := n2_
          clear n0_ n1_ n2_
          have p149 : 0 ≤ (x8_2 : Int) := of_decide_eq_true (qq2)
          have q149 : x8_2 < (l0.length : Int) := of_decide_eq_true (qq2)
          obtain ⟨ad149, e149, hx149_0, hx149_1, hx149_2, hx149_3, hx149_4, hx149_5⟩ := at_T26 HR0.out x8_2 p149 q149
          have hw149_5 := hx149_5
          have hw149_4 := hx149_4
          have hw149_3 := hx149_3
          have hw149_2 := hx149_2
          have hw149_1 := hx149_1
          have hw149_0 := hx149_0
          cases e149
          replace hx149_0 := (HB.out.cell (World.block_lt_of_cell? w _ hx149_0)).trans hx149_0
          replace hx149_1 := (HB.out.cell (World.block_lt_of_cell? w _ hx149_1)).trans hx149_1
          replace hx149_2 := (HB.out.cell (World.block_lt_of_cell? w _ hx149_2)).trans hx149_2
          replace hx149_3 := (HB.out.cell (World.block_lt_of_cell? w _ hx149_3)).trans hx149_3
          replace hx149_4 := (HB.out.cell (World.block_lt_of_cell? w _ hx149_4)).trans hx149_4
          replace hx149_5 := (HB.out.cell (World.block_lt_of_cell? w _ hx149_5)).trans hx149_5
          replace p149 := eq_true p149
          replace q149 := eq_true q149
          refine start_ (n := 10) (S := fun w' => w'.cell? ⟨gb140, 0, none⟩ = some (.int .i64 a1_0) ∧ w'.cell? ⟨gb140, 1, none⟩ = some (.int .i64 a1_1) ∧ w'.cell? ⟨gb140, 2, none⟩ = some (.int .i64 a1_2) ∧ w'.cell? ⟨gb140, 3, none⟩ = some (.int .i64 a1_3) ∧ w'.cell? ⟨gb140, 4, none⟩ = some (.int .i64 a1_4) ∧ w'.cell? ⟨gb140, 5, none⟩ = some (.int .i64 a1_5) ∧ w'.cell? (ad149.add ((x8_2).toNat * 6)) = some (.int .i64 ((rd_T26 l0 x8_2).f0)) ∧ w'.cell? ⟨(ad149.add ((x8_2).toNat * 6)).block, (ad149.add ((x8_2).toNat * 6)).off + 1, none⟩ = some (.int .i64 ((rd_T26 l0 x8_2).f1)) ∧ w'.cell? ⟨(ad149.add ((x8_2).toNat * 6)).block, (ad149.add ((x8_2).toNat * 6)).off + 2, none⟩ = some (.int .i64 ((rd_T26 l0 x8_2).f2)) ∧ w'.cell? ⟨(ad149.add ((x8_2).toNat * 6)).block, (ad149.add ((x8_2).toNat * 6)).off + 3, none⟩ = some (.int .i64 ((rd_T26 l0 x8_2).f3)) ∧ w'.cell? ⟨(ad149.add ((x8_2).toNat * 6)).block, (ad149.add ((x8_2).toNat * 6)).off + 4, none⟩ = some (.int .i64 ((rd_T26 l0 x8_2).f4)) ∧ w'.cell? ⟨(ad149.add ((x8_2).toNat * 6)).block, (ad149.add ((x8_2).toNat * 6)).off + 5, none⟩ = some (.int .i64 ((rd_T26 l0 x8_2).f5))) (ds := []) mm102 (by kernel_rfl) rfl rfl ⟨(blk_cell BK140.out 0).trans rfl, (blk_cell BK140.out 1).trans rfl, (blk_cell BK140.out 2).trans rfl, (blk_cell BK140.out 3).trans rfl, (blk_cell BK140.out 4).trans rfl, (blk_cell BK140.out 5).trans rfl, ((HB.out.cell (World.block_lt_of_cell? w _ hw149_0)).trans hw149_0), ((HB.out.cell (World.block_lt_of_cell? w _ hw149_1)).trans hw149_1), ((HB.out.cell (World.block_lt_of_cell? w _ hw149_2)).trans hw149_2), ((HB.out.cell (World.block_lt_of_cell? w _ hw149_3)).trans hw149_3), ((HB.out.cell (World.block_lt_of_cell? w _ hw149_4)).trans hw149_4), ((HB.out.cell (World.block_lt_of_cell? w _ hw149_5)).trans hw149_5)⟩ (fun hHeld => ?_); refine with_tabW spec_PutFact.tab8 spec_PutFact.bits8 (fun HT_ HW_ => ?_)
          generalize wr.drew = w23 at HO_6 BK140 HB hx149_0 hx149_1 hx149_2 hx149_3 hx149_4 hx149_5 hHeld ⊢
          refine pure_ (i := 0) (N := some 27) (v := ?_) (a' := ?_) mm103 rfl rfl (any_of HT_.out (by kernel_rfl)) (fun _ _ _ h => h) (Or.inl ⟨by rfl, ?_⟩) ?_ ?_
          rotate_left
          ·intro w'
           go_simp
           with_reducible rfl
          rotate_left
          ·exact qq161
          refine pure_ (i := 1) (N := some 28) (v := ?_) (a' := ?_) mm104 rfl rfl (any_of HT_.out (by kernel_rfl)) (fun _ _ _ h => h) (Or.inl ⟨by rfl, ?_⟩) ?_ ?_
          rotate_left
          ·intro w'
           go_simp
           with_reducible rfl
          rotate_left
          ·exact qq161
          refine pure_ (i := 2) (N := some 29) (v := ?_) (a' := ?_) mm105 rfl rfl (any_of HT_.out (by kernel_rfl)) (fun _ _ _ h => h) (Or.inl ⟨by rfl, ?_⟩) ?_ ?_
          rotate_left
          ·intro w'
           go_simp
           with_reducible rfl
          rotate_left
          ·exact qq161
          refine pure_ (i := 4) (N := some 31) (v := ?_) (a' := ?_) #[true, true, true, false, true, false, false, false, false, false] rfl rfl (any_of HT_.out (by kernel_rfl)) (fun _ _ _ h => h) (Or.inl ⟨by rfl, ?_⟩) ?_ ?_
          rotate_left
          ·intro w'
           go_simp
           with_reducible rfl
          rotate_left
          ·exact qq161
          refine pure_ (i := 5) (N := some 32) (v := ?_) (a' := ?_) #[true, true, true, false, true, true, false, false, false, false] rfl rfl (any_of HT_.out (by kernel_rfl)) (fun _ _ _ h => h) (Or.inl ⟨by rfl, ?_⟩) ?_ ?_
          rotate_left
          ·intro w'
           go_simp
           with_reducible rfl
          rotate_left
          ·exact qq161
          refine pure_ (i := 6) (N := some 33) (v := ?_) (a' := ?_) #[true, true, true, false, true, true, true, false, false, false] rfl rfl (any_of HT_.out (by kernel_rfl)) (fun _ _ _ h => h) (Or.inl ⟨by rfl, ?_⟩) ?_ ?_
          rotate_left
          ·intro w'
           go_simp
           with_reducible rfl
          rotate_left
          ·exact qq161
          refine take_ (i := 3) (N := some 30) (v := ?_) (a' := ?_) mm106 rfl rfl (take_ofW HT_.out HW_.out (by kernel_rfl)) (fun _ _ _ h => h) (Or.inl ⟨by rfl, ?_⟩) hHeld ?_ ?_
          rotate_left
          ·rintro w' ⟨s0, s1, s2, s3, s4, s5, s6, s7, s8, s9, s10, s11⟩
           go_simp
           with_reducible rfl
          rotate_left
          ·exact qq161
          refine take_ (i := 7) (N := some 34) (v := ?_) (a' := ?_) mm107 rfl rfl (take_ofW HT_.out HW_.out (by kernel_rfl)) (fun _ _ _ h => h) (Or.inl ⟨by rfl, ?_⟩) hHeld ?_ ?_
          rotate_left
          ·rintro w' ⟨s0, s1, s2, s3, s4, s5, s6, s7, s8, s9, s10, s11⟩
           go_simp
           with_reducible rfl
          rotate_left
          ·exact qq161
          refine one_ (i := 8) (N := some 35) mm108 rfl rfl (one_of HT_.out (by kernel_rfl)) (by decide) (fun K hK => ?_)
          refine goes_ Try.func57 (by kernel_rfl) rfl #[.agg #[.int .i64 a1_0, .int .i64 a1_1, .int .i64 a1_2, .int .i64 a1_3, .int .i64 a1_4, .int .i64 a1_5], .agg #[.int .i64 ((rd_T26 l0 x8_2).f0), .int .i64 ((rd_T26 l0 x8_2).f1), .int .i64 ((rd_T26 l0 x8_2).f2), .int .i64 ((rd_T26 l0 x8_2).f3), .int .i64 ((rd_T26 l0 x8_2).f4), .int .i64 ((rd_T26 l0 x8_2).f5)]] (by rfl) rfl rfl (qq5) ?_
          with_reducible refine (spec_FactBefore.calls a1_0 a1_1 a1_2 a1_3 a1_4 a1_5 ((rd_T26 l0 x8_2).f0) ((rd_T26 l0 x8_2).f1) ((rd_T26 l0 x8_2).f2) ((rd_T26 l0 x8_2).f3) ((rd_T26 l0 x8_2).f4) ((rd_T26 l0 x8_2).f5) t150 _ A22.out).mono ?_
          rintro e w24 ⟨rfl, hb⟩
          refine ⟨_, rfl, ?_⟩
          have n0_ := Aside0.mk (Kd.R_below (qq25) hb)
          have n1_ := Aside0.mk (blk_below (g := gb140) (o := .cells #[.int .i64 a1_0, .int .i64 a1_1, .int .i64 a1_2, .int .i64 a1_3, .int .i64 a1_4, .int .i64 a1_5] 26 (0, 0)) (qq58) hb)
          have n2_ := Aside0.mk (below_step (qq59) hb)
          clear HO_6
          clear BK140
          clear HB
          have HO_6 := n0_
          have BK140 := n1_
          have HB := n2_
          clear n0_ n1_ n2_
          (try clear hb)
          (try clear hb2)
          (try clear hk)
          (try clear hi)
          refine hK.out _ _ ⟨(blk_cell BK140.out 0).trans rfl, (blk_cell BK140.out 1).trans rfl, (blk_cell BK140.out 2).trans rfl, (blk_cell BK140.out 3).trans rfl, (blk_cell BK140.out 4).trans rfl, (blk_cell BK140.out 5).trans rfl, ((HB.out.cell (World.block_lt_of_cell? w _ hw149_0)).trans hw149_0), ((HB.out.cell (World.block_lt_of_cell? w _ hw149_1)).trans hw149_1), ((HB.out.cell (World.block_lt_of_cell? w _ hw149_2)).trans hw149_2), ((HB.out.cell (World.block_lt_of_cell? w _ hw149_3)).trans hw149_3), ((HB.out.cell (World.block_lt_of_cell? w _ hw149_4)).trans hw149_4), ((HB.out.cell (World.block_lt_of_cell? w _ hw149_5)).trans hw149_5)⟩ (fun hHeld => ?_)
          clear hK K
          refine norm_ (a' := ?_) ?_ ?_
          rotate_left
          ·show Act.put _ (some 35) _ = _
           simp only [Act.put, List.setIfInBounds_toArray, List.set_cons_zero, List.set_cons_succ, i64_w, i32_w]
           rfl
          refine pure_ (i := 9) (N := some 36) (v := ?_) (a' := ?_) mm109 rfl rfl (any_of HT_.out (by kernel_rfl)) (fun _ _ _ h => h) (Or.inl ⟨by rfl, ?_⟩) ?_ ?_
          rotate_left
          ·intro w'
           go_simp
           with_reducible rfl
          rotate_left
          ·exact qq161
          refine done_ (done_of HT_.out (by kernel_rfl)) ?_
          try go_wp2
          go_meet
          case rel => exact ⟨_, (t150), (qq0), H', ⟨qq60⟩, ⟨qq25⟩, ⟨qq58⟩, ⟨qq59⟩⟩
         ·rw [if_neg c21] at H
          exact absurd H (by simp)
       case rest =>
        clear HC18
        try clear c1
        try clear p1
        try clear q1
        try clear hx1
        try clear c2
        try clear p2
        try clear c5
        try clear c6
        try clear c12
        try clear p14
        try clear q14
        try clear hx14
        try clear c17
        try clear c17b0
        try clear c19
        try clear c21
        try clear c21b0
        try clear hcz9_0
        try clear hcz9_1
        try clear hcz9_2
        try clear hcz9_3
        try clear hcz9_4
        try clear hcz9_5
        try clear hfz9_0
        try clear hfz9_1
        try clear hfz9_2
        try clear hfz9_3
        try clear hfz9_4
        try clear hfz9_5
        try clear hx149_0
        try clear hx149_1
        try clear hx149_2
        try clear hx149_3
        try clear hx149_4
        try clear hx149_5
        try clear p149
        try clear p2
        try clear q149
        obtain ⟨kq, x36_17, rfl, HA, HJ17, HO_6, BK140, HB⟩ := hcut
        cases kq with
        | zero => exact absurd HA.out (by simp [spec_PutFact.j2])
        | succ kj17 =>
         have H := HA.out
         clear HA
         simp only [spec_PutFact.j2] at H
         have HC25 := Aside0.mk H
         clear H
         go_upto_if 36 with (fail)
         go_cut [6, 7] (fun v6 v7 wc => ∃ (kq : Nat) (x6_24 : List (S26)) (x7_24 : Bool), v7 = .bool x7_24 ∧ Aside0 (spec_PutFact.j3 kq l0 x6_24 x7_24 x8_2 a1_0 a1_1 a1_2 a1_3 a1_4 a1_5 = some (r1, r2)) ∧ Aside0 (kq ≤ kj17) ∧ Aside0 (Kd.R k26 26 wc w.heap.size (fun k_ => k_ ≠ gb140) v6 x6_24) ∧ Aside0 (wc.heap[gb140]? = some (.cells #[.int .i64 a1_0, .int .i64 a1_1, .int .i64 a1_2, .int .i64 a1_3, .int .i64 a1_4, .int .i64 a1_5] 26 (0, 0))) ∧ Aside0 (Below w.heap.size w wc))
         case first =>
          have H := HC25.out
          clear HC25
          by_cases c26 : x36_17 = true
          ·subst c26
           have H1 : (if x6_2.length < 2932031007402 then (spec_PutFact.j3 kj17 l0 (x6_2 ++ [(⟨a1_0, a1_1, a1_2, a1_3, a1_4, a1_5⟩ : S26)]) true x8_2 a1_0 a1_1 a1_2 a1_3 a1_4 a1_5) else (none)) = some (r1, r2) := by rw [if_pos rfl] at H; exact H
           clear H
           have H := H1
           clear H1
           by_cases c27 : x6_2.length < 2932031007402
           ·rw [if_pos c27] at H
            have LMc27 := Aside0.mk c27
            clear c27
            obtain ⟨y151, hy151⟩ : ∃ y_ : List (S26), y_ = (x6_2 ++ [(⟨a1_0, a1_1, a1_2, a1_3, a1_4, a1_5⟩ : S26)]) := ⟨_, rfl⟩
            replace H : (spec_PutFact.j3 kj17 l0 y151 true x8_2 a1_0 a1_1 a1_2 a1_3 a1_4 a1_5) = some (r1, r2) := by first | (rw [hy151]; with_reducible exact H) | (have H2_ := (Option.bind_some _ _).symm.trans H; rw [hy151]; with_reducible exact H2_) | (have H2_ := (Option.bind_some _ _).symm.trans H; with_reducible exact H2_) | with_reducible exact H | (rw [hy151]; exact H) | exact H
            have Ny151 := Aside0.mk hy151
            clear hy151
            have H' := Aside0.mk H
            clear H
            have hcz28_0 : wc.cell? ⟨gb140, 0, none⟩ = some (.int .i64 a1_0) := (blk_cell BK140.out 0).trans rfl
            have hcz28_1 : wc.cell? ⟨gb140, 1, none⟩ = some (.int .i64 a1_1) := (blk_cell BK140.out 1).trans rfl
            have hcz28_2 : wc.cell? ⟨gb140, 2, none⟩ = some (.int .i64 a1_2) := (blk_cell BK140.out 2).trans rfl
            have hcz28_3 : wc.cell? ⟨gb140, 3, none⟩ = some (.int .i64 a1_3) := (blk_cell BK140.out 3).trans rfl
            have hcz28_4 : wc.cell? ⟨gb140, 4, none⟩ = some (.int .i64 a1_4) := (blk_cell BK140.out 4).trans rfl
            have hcz28_5 : wc.cell? ⟨gb140, 5, none⟩ = some (.int .i64 a1_5) := (blk_cell BK140.out 5).trans rfl
            have hfz28_0 := blk_frozen BK140.out 0
            have hfz28_1 := blk_frozen BK140.out 1
            have hfz28_2 := blk_frozen BK140.out 2
            have hfz28_3 := blk_frozen BK140.out 3
            have hfz28_4 := blk_frozen BK140.out 4
            have hfz28_5 := blk_frozen BK140.out 5
            go_wp2_with (first | ((with_reducible refine gate_builtin (b := .append) (xs := #[.tmp 37, .tmp 39]) rfl ?_); at_builtin; refine Kd.R_append k26 (w0 := w) w.heap.size rfl (.tmp 37) (.tmp 39) 24 26 (.agg #[(.int .i64 0), (.int .i64 0), (.int .i64 0), (.int .i64 0), (.int .i64 0), (.int .i64 0)]) 48 rfl Try.underlying24 info26 rfl (by decide) (by omega) u6 x6_2 (⟨a1_0, a1_1, a1_2, a1_3, a1_4, a1_5⟩ : S26) [.int .i64 a1_0, .int .i64 a1_1, .int .i64 a1_2, .int .i64 a1_3, .int .i64 a1_4, .int .i64 a1_5] (fun k_ => k_ ≠ gb140) (fun _ => False) rfl rfl ?aP (fun _ hk => hk.elim) ?aF ?aO ?aB ?aS ?aL ?_; (case aP => exact k26_mkM _ _ _ (⟨a1_0, a1_1, a1_2, a1_3, a1_4, a1_5⟩ : S26)); (case aB => exact (qq59)); (case aF => exact (fun k_ hk => Kd.freshB (g := gb140) (o := .cells #[.int .i64 a1_0, .int .i64 a1_1, .int .i64 a1_2, .int .i64 a1_3, .int .i64 a1_4, .int .i64 a1_5] 26 (0, 0)) (qq58) k_ hk)); (case aO => exact (qq25)); (case aS => exact (below_size (qq59))); (case aL => have := LMc27.out; omega); intro v152 w29 ho hb hg hat; rw [← Ny151.out] at ho; have n0_ := Aside0.mk (blk_grown (g := gb140) (o := .cells #[.int .i64 a1_0, .int .i64 a1_1, .int .i64 a1_2, .int .i64 a1_3, .int .i64 a1_4, .int .i64 a1_5] 26 (0, 0)) (qq58) hg (Kd.R_away HO_6.out (fun _ hk => hk))); have n1_ := Aside0.mk (hb); have n2_ := Aside0.mk (ho); clear BK140; clear HB; clear HO_6; have BK140 := n0_; have HB := n1_; have HO153 := n2_; clear n0_ n1_ n2_; clear ho hb hg hat))
            go_meet
            case rel => exact ⟨_, (y151), (true), (qq0), H', ⟨qq61⟩, ⟨by (with_reducible repeat (first | apply Kd.R_alloc | apply Kd.R_drewN | apply Kd.R_drew)); exact HO153.out⟩, ⟨qq58⟩, ⟨qq59⟩⟩
           ·rw [if_neg c27] at H
            exact absurd H (by simp)
          ·replace c26 := Bool.eq_false_iff.mpr c26
           subst c26
           have H1 : (spec_PutFact.j3 kj17 l0 x6_2 x7_2 x8_2 a1_0 a1_1 a1_2 a1_3 a1_4 a1_5) = some (r1, r2) := by rw [if_neg (show ¬ (false = true) by decide)] at H; exact H
           clear H
           have H := H1
           clear H1
           have H' := Aside0.mk H
           clear H
           go_wp2
           go_meet
           case rel => exact ⟨_, (x6_2), (x7_2), (qq0), H', ⟨qq61⟩, ⟨qq25⟩, ⟨qq58⟩, ⟨qq59⟩⟩
         case rest =>
          clear HC25
          try clear c1
          try clear p1
          try clear q1
          try clear hx1
          try clear c2
          try clear p2
          try clear c5
          try clear c6
          try clear c12
          try clear p14
          try clear q14
          try clear hx14
          try clear c17
          try clear c17b0
          try clear c19
          try clear c21
          try clear c21b0
          try clear c26
          try clear c27
          try clear c29
          try clear hcz28_0
          try clear hcz28_1
          try clear hcz28_2
          try clear hcz28_3
          try clear hcz28_4
          try clear hcz28_5
          try clear hcz9_0
          try clear hcz9_1
          try clear hcz9_2
          try clear hcz9_3
          try clear hcz9_4
          try clear hcz9_5
          try clear hfz28_0
          try clear hfz28_1
          try clear hfz28_2
          try clear hfz28_3
          try clear hfz28_4
          try clear hfz28_5
          try clear hfz9_0
          try clear hfz9_1
          try clear hfz9_2
          try clear hfz9_3
          try clear hfz9_4
          try clear hfz9_5
          try clear hx149_0
          try clear hx149_1
          try clear hx149_2
          try clear hx149_3
          try clear hx149_4
          try clear hx149_5
          try clear p1
          try clear p14
          try clear p149
          try clear p2
          try clear q1
          try clear q14
          try clear q149
          obtain ⟨kq, x6_24, x7_24, rfl, HA, HJ24, HO_6, BK140, HB⟩ := hcut
          cases kq with
          | zero => exact absurd HA.out (by simp [spec_PutFact.j3])
          | succ kj24 =>
           have H := HA.out
           clear HA
           simp only [spec_PutFact.j3] at H
           by_cases c30 : 0 ≤ x8_2
           ·rw [if_pos c30] at H
            have c30b0 : decide (0 ≤ x8_2) = true := decide_eq_true c30
            clear c30
            by_cases c31 : x8_2 < (l0.length : Int)
            ·rw [if_pos c31] at H
             have c31b0 : decide (x8_2 < (l0.length : Int)) = true := decide_eq_true c31
             clear c31
             replace H := Option.bind_eq_some_iff.mp H
             obtain ⟨t156, A320, H⟩ := H
             replace H : (if t156 = true then (if a1_4 > ((rd_T26 l0 x8_2).f4) then (if x6_24.length < 2932031007402 then (spec_PutFact.l0 kj24 l0 (x6_24 ++ [(⟨a1_0, a1_1, a1_2, a1_3, a1_4, a1_5⟩ : S26)]) true (wrap64 (x8_2 + 1)) a1_0 a1_1 a1_2 a1_3 a1_4 a1_5) else (none)) else (if a1_4 = ((rd_T26 l0 x8_2).f4) then (if a1_5 > ((rd_T26 l0 x8_2).f5) then (if x6_24.length < 2932031007402 then (spec_PutFact.l0 kj24 l0 (x6_24 ++ [(⟨a1_0, a1_1, a1_2, a1_3, a1_4, a1_5⟩ : S26)]) true (wrap64 (x8_2 + 1)) a1_0 a1_1 a1_2 a1_3 a1_4 a1_5) else (none)) else (if x6_24.length < 2932031007402 then (spec_PutFact.l0 kj24 l0 (x6_24 ++ [(⟨(rd_T26 l0 x8_2).f0, (rd_T26 l0 x8_2).f1, (rd_T26 l0 x8_2).f2, (rd_T26 l0 x8_2).f3, (rd_T26 l0 x8_2).f4, (rd_T26 l0 x8_2).f5⟩ : S26)]) true (wrap64 (x8_2 + 1)) a1_0 a1_1 a1_2 a1_3 a1_4 a1_5) else (none))) else (if x6_24.length < 2932031007402 then (spec_PutFact.l0 kj24 l0 (x6_24 ++ [(⟨(rd_T26 l0 x8_2).f0, (rd_T26 l0 x8_2).f1, (rd_T26 l0 x8_2).f2, (rd_T26 l0 x8_2).f3, (rd_T26 l0 x8_2).f4, (rd_T26 l0 x8_2).f5⟩ : S26)]) true (wrap64 (x8_2 + 1)) a1_0 a1_1 a1_2 a1_3 a1_4 a1_5) else (none)))) else (if x6_24.length < 2932031007402 then (spec_PutFact.l0 kj24 l0 (x6_24 ++ [(⟨(rd_T26 l0 x8_2).f0, (rd_T26 l0 x8_2).f1, (rd_T26 l0 x8_2).f2, (rd_T26 l0 x8_2).f3, (rd_T26 l0 x8_2).f4, (rd_T26 l0 x8_2).f5⟩ : S26)]) x7_24 (wrap64 (x8_2 + 1)) a1_0 a1_1 a1_2 a1_3 a1_4 a1_5) else (none))) = some (r1, r2) := H
             have A32 := Aside0.mk A320
             clear A320
             by_cases c33 : t156 = true
             ·subst c33
              have H1 : (if a1_4 > ((rd_T26 l0 x8_2).f4) then (if x6_24.length < 2932031007402 then (spec_PutFact.l0 kj24 l0 (x6_24 ++ [(⟨a1_0, a1_1, a1_2, a1_3, a1_4, a1_5⟩ : S26)]) true (wrap64 (x8_2 + 1)) a1_0 a1_1 a1_2 a1_3 a1_4 a1_5) else (none)) else (if a1_4 = ((rd_T26 l0 x8_2).f4) then (if a1_5 > ((rd_T26 l0 x8_2).f5) then (if x6_24.length < 2932031007402 then (spec_PutFact.l0 kj24 l0 (x6_24 ++ [(⟨a1_0, a1_1, a1_2, a1_3, a1_4, a1_5⟩ : S26)]) true (wrap64 (x8_2 + 1)) a1_0 a1_1 a1_2 a1_3 a1_4 a1_5) else (none)) else (if x6_24.length < 2932031007402 then (spec_PutFact.l0 kj24 l0 (x6_24 ++ [(⟨(rd_T26 l0 x8_2).f0, (rd_T26 l0 x8_2).f1, (rd_T26 l0 x8_2).f2, (rd_T26 l0 x8_2).f3, (rd_T26 l0 x8_2).f4, (rd_T26 l0 x8_2).f5⟩ : S26)]) true (wrap64 (x8_2 + 1)) a1_0 a1_1 a1_2 a1_3 a1_4 a1_5) else (none))) else (if x6_24.length < 2932031007402 then (spec_PutFact.l0 kj24 l0 (x6_24 ++ [(⟨(rd_T26 l0 x8_2).f0, (rd_T26 l0 x8_2).f1, (rd_T26 l0 x8_2).f2, (rd_T26 l0 x8_2).f3, (rd_T26 l0 x8_2).f4, (rd_T26 l0 x8_2).f5⟩ : S26)]) true (wrap64 (x8_2 + 1)) a1_0 a1_1 a1_2 a1_3 a1_4 a1_5) else (none)))) = some (r1, r2) := by rw [if_pos rfl] at H; exact H
              clear H
              have H := H1
              clear H1
              by_cases c34 : a1_4 > ((rd_T26 l0 x8_2).f4)
              ·rw [if_pos c34] at H
               have c34b0 : decide (((rd_T26 l0 x8_2).f4) < a1_4) = true := decide_eq_true c34
               clear c34
               by_cases c35 : x6_24.length < 2932031007402
               ·rw [if_pos c35] at H
                have LMc35 := Aside0.mk c35
                clear c35
                obtain ⟨y157, hy157⟩ : ∃ y_ : List (S26), y_ = (x6_24 ++ [(⟨a1_0, a1_1, a1_2, a1_3, a1_4, a1_5⟩ : S26)]) := ⟨_, rfl⟩
                replace H : (spec_PutFact.l0 kj24 l0 y157 true (wrap64 (x8_2 + 1)) a1_0 a1_1 a1_2 a1_3 a1_4 a1_5) = some (r1, r2) := by first | (rw [hy157]; with_reducible exact H) | (have H2_ := (Option.bind_some _ _).symm.trans H; rw [hy157]; with_reducible exact H2_) | (have H2_ := (Option.bind_some _ _).symm.trans H; with_reducible exact H2_) | with_reducible exact H | (rw [hy157]; exact H) | exact H
                have Ny157 := Aside0.mk hy157
                clear hy157
                have H' := Aside0.mk H
                clear H
                have p154 : 0 ≤ (x8_2 : Int) := of_decide_eq_true (qq2)
                have q154 : x8_2 < (l0.length : Int) := of_decide_eq_true (qq2)
                obtain ⟨ad154, e154, hx154_0, hx154_1, hx154_2, hx154_3, hx154_4, hx154_5⟩ := at_T26 HR0.out x8_2 p154 q154
                cases e154
                replace hx154_0 := (HB.out.cell (World.block_lt_of_cell? w _ hx154_0)).trans hx154_0
                replace hx154_1 := (HB.out.cell (World.block_lt_of_cell? w _ hx154_1)).trans hx154_1
                replace hx154_2 := (HB.out.cell (World.block_lt_of_cell? w _ hx154_2)).trans hx154_2
                replace hx154_3 := (HB.out.cell (World.block_lt_of_cell? w _ hx154_3)).trans hx154_3
                replace hx154_4 := (HB.out.cell (World.block_lt_of_cell? w _ hx154_4)).trans hx154_4
                replace hx154_5 := (HB.out.cell (World.block_lt_of_cell? w _ hx154_5)).trans hx154_5
                replace p154 := eq_true p154
                replace q154 := eq_true q154
                go_wp2_with (first | ((with_reducible refine gate_dst (N := 9) rfl ?_); refine box_event ?hg (N := 9) ?hd (cs := #[.int .i64 0, .int .i64 0, .int .i64 0, .int .i64 0, .int .i64 0, .int .i64 0]) (t := 26) ?hr ?_; (case hd => rfl); (case hg => rfl); (case hr => first | (go_simp; done) | (go_simp; rfl)); intro gb155 hg w36 hbox hb; have n0_ := Aside0.mk (Kd.R_below (Kd.R_elderB (qq25) gb155 (Nat.le_of_eq hg.symm)) hb); have n1_ := Aside0.mk (blk_below (g := gb140) (o := .cells #[.int .i64 a1_0, .int .i64 a1_1, .int .i64 a1_2, .int .i64 a1_3, .int .i64 a1_4, .int .i64 a1_5] 26 (0, 0)) (qq58) hb); have n2_ := Aside0.mk (below_step (qq59) hb); have n3_ := Aside0.mk (hbox); have n4_ := Aside0.mk ((qq134 : w.heap.size ≤ gb155)); have n5_ := Aside0.mk ((qq134 : w.heap.size ≤ gb155)); have n6_ := Aside0.mk ((qq135 : gb140 ≠ gb155)); have n7_ := Aside0.mk ((qq136 : gb155 ≠ gb140)); clear HO_6; clear BK140; clear HB; have HO_6 := n0_; have BK140 := n1_; have HB := n2_; have BK155 := n3_; have GW155 := n4_; have GE155 := n5_; have NB140_155 := n6_; have NB155_140 := n7_; clear n0_ n1_ n2_ n3_ n4_ n5_ n6_ n7_; clear hb hbox hg; have hnb37 := NB155_140.out; have hnc37 := NB140_155.out; have hcz38_0 : w36.cell? ⟨gb155, 0, none⟩ = some (.int .i64 0) := (blk_cell BK155.out 0).trans rfl; have hcz38_1 : w36.cell? ⟨gb155, 1, none⟩ = some (.int .i64 0) := (blk_cell BK155.out 1).trans rfl; have hcz38_2 : w36.cell? ⟨gb155, 2, none⟩ = some (.int .i64 0) := (blk_cell BK155.out 2).trans rfl; have hcz38_3 : w36.cell? ⟨gb155, 3, none⟩ = some (.int .i64 0) := (blk_cell BK155.out 3).trans rfl; have hcz38_4 : w36.cell? ⟨gb155, 4, none⟩ = some (.int .i64 0) := (blk_cell BK155.out 4).trans rfl; have hcz38_5 : w36.cell? ⟨gb155, 5, none⟩ = some (.int .i64 0) := (blk_cell BK155.out 5).trans rfl; have hfz38_0 := blk_frozen BK155.out 0; have hfz38_1 := blk_frozen BK155.out 1; have hfz38_2 := blk_frozen BK155.out 2; have hfz38_3 := blk_frozen BK155.out 3; have hfz38_4 := blk_frozen BK155.out 4; have hfz38_5 := blk_frozen BK155.out 5; have hcz39_0 : w36.cell? ⟨gb140, 0, none⟩ = some (.int .i64 a1_0) := (blk_cell BK140.out 0).trans rfl; have hcz39_1 : w36.cell? ⟨gb140, 1, none⟩ = some (.int .i64 a1_1) := (blk_cell BK140.out 1).trans rfl; have hcz39_2 : w36.cell? ⟨gb140, 2, none⟩ = some (.int .i64 a1_2) := (blk_cell BK140.out 2).trans rfl; have hcz39_3 : w36.cell? ⟨gb140, 3, none⟩ = some (.int .i64 a1_3) := (blk_cell BK140.out 3).trans rfl; have hcz39_4 : w36.cell? ⟨gb140, 4, none⟩ = some (.int .i64 a1_4) := (blk_cell BK140.out 4).trans rfl; have hcz39_5 : w36.cell? ⟨gb140, 5, none⟩ = some (.int .i64 a1_5) := (blk_cell BK140.out 5).trans rfl; have hfz39_0 := blk_frozen BK140.out 0; have hfz39_1 := blk_frozen BK140.out 1; have hfz39_2 := blk_frozen BK140.out 2; have hfz39_3 := blk_frozen BK140.out 3; have hfz39_4 := blk_frozen BK140.out 4; have hfz39_5 := blk_frozen BK140.out 5) | ((with_reducible refine gate_callee (f := 58) rfl ?_); refine goesL_ (some 47) rfl rfl Try.func58 (by kernel_rfl) rfl #[.agg #[.int .i64 a1_0, .int .i64 a1_1, .int .i64 a1_2, .int .i64 a1_3, .int .i64 a1_4, .int .i64 a1_5], .agg #[.int .i64 ((rd_T26 l0 x8_2).f0), .int .i64 ((rd_T26 l0 x8_2).f1), .int .i64 ((rd_T26 l0 x8_2).f2), .int .i64 ((rd_T26 l0 x8_2).f3), .int .i64 ((rd_T26 l0 x8_2).f4), .int .i64 ((rd_T26 l0 x8_2).f5)]] rfl (qq5) ?_; (with_reducible refine (spec_SameClaim.calls a1_0 a1_1 a1_2 a1_3 a1_4 a1_5 ((rd_T26 l0 x8_2).f0) ((rd_T26 l0 x8_2).f1) ((rd_T26 l0 x8_2).f2) ((rd_T26 l0 x8_2).f3) ((rd_T26 l0 x8_2).f4) ((rd_T26 l0 x8_2).f5) true _ A32.out).mono ?_); rintro e w40 ⟨rfl, hb⟩; refine ⟨_, rfl, ?_⟩; have n0_ := Aside0.mk (Kd.R_below (qq62) hb); have n1_ := Aside0.mk (blk_below (g := gb140) (o := .cells #[.int .i64 a1_0, .int .i64 a1_1, .int .i64 a1_2, .int .i64 a1_3, .int .i64 a1_4, .int .i64 a1_5] 26 (0, 0)) (qq63) hb); have n2_ := Aside0.mk (blk_below (g := gb155) (o := .cells #[.int .i64 ((rd_T26 l0 x8_2).f0), .int .i64 ((rd_T26 l0 x8_2).f1), .int .i64 ((rd_T26 l0 x8_2).f2), .int .i64 ((rd_T26 l0 x8_2).f3), .int .i64 ((rd_T26 l0 x8_2).f4), .int .i64 ((rd_T26 l0 x8_2).f5)] 26 (0, 0)) (qq64) hb); have n3_ := Aside0.mk (below_step (qq65) hb); clear HO_6; clear BK140; clear BK155; clear HB; have HO_6 := n0_; have BK140 := n1_; have BK155 := n2_; have HB := n3_; clear n0_ n1_ n2_ n3_; (try clear hb); (try clear hb2); (try clear hk); (try clear hi); have hcz41_0 : w40.cell? ⟨gb140, 0, none⟩ = some (.int .i64 a1_0) := (blk_cell BK140.out 0).trans rfl; have hcz41_1 : w40.cell? ⟨gb140, 1, none⟩ = some (.int .i64 a1_1) := (blk_cell BK140.out 1).trans rfl; have hcz41_2 : w40.cell? ⟨gb140, 2, none⟩ = some (.int .i64 a1_2) := (blk_cell BK140.out 2).trans rfl; have hcz41_3 : w40.cell? ⟨gb140, 3, none⟩ = some (.int .i64 a1_3) := (blk_cell BK140.out 3).trans rfl; have hcz41_4 : w40.cell? ⟨gb140, 4, none⟩ = some (.int .i64 a1_4) := (blk_cell BK140.out 4).trans rfl; have hcz41_5 : w40.cell? ⟨gb140, 5, none⟩ = some (.int .i64 a1_5) := (blk_cell BK140.out 5).trans rfl; have hfz41_0 := blk_frozen BK140.out 0; have hfz41_1 := blk_frozen BK140.out 1; have hfz41_2 := blk_frozen BK140.out 2; have hfz41_3 := blk_frozen BK140.out 3; have hfz41_4 := blk_frozen BK140.out 4; have hfz41_5 := blk_frozen BK140.out 5; have hcz42_0 : w40.cell? ⟨gb155, 0, none⟩ = some (.int .i64 ((rd_T26 l0 x8_2).f0)) := (blk_cell BK155.out 0).trans rfl; have hcz42_1 : w40.cell? ⟨gb155, 1, none⟩ = some (.int .i64 ((rd_T26 l0 x8_2).f1)) := (blk_cell BK155.out 1).trans rfl; have hcz42_2 : w40.cell? ⟨gb155, 2, none⟩ = some (.int .i64 ((rd_T26 l0 x8_2).f2)) := (blk_cell BK155.out 2).trans rfl; have hcz42_3 : w40.cell? ⟨gb155, 3, none⟩ = some (.int .i64 ((rd_T26 l0 x8_2).f3)) := (blk_cell BK155.out 3).trans rfl; have hcz42_4 : w40.cell? ⟨gb155, 4, none⟩ = some (.int .i64 ((rd_T26 l0 x8_2).f4)) := (blk_cell BK155.out 4).trans rfl; have hcz42_5 : w40.cell? ⟨gb155, 5, none⟩ = some (.int .i64 ((rd_T26 l0 x8_2).f5)) := (blk_cell BK155.out 5).trans rfl; have hfz42_0 := blk_frozen BK155.out 0; have hfz42_1 := blk_frozen BK155.out 1; have hfz42_2 := blk_frozen BK155.out 2; have hfz42_3 := blk_frozen BK155.out 3; have hfz42_4 := blk_frozen BK155.out 4; have hfz42_5 := blk_frozen BK155.out 5) | ((with_reducible refine gate_builtin (b := .append) (xs := #[.tmp 68, .tmp 70]) rfl ?_); at_builtin; refine Kd.R_append k26 (w0 := w) w.heap.size rfl (.tmp 68) (.tmp 70) 24 26 (.agg #[(.int .i64 0), (.int .i64 0), (.int .i64 0), (.int .i64 0), (.int .i64 0), (.int .i64 0)]) 48 rfl Try.underlying24 info26 rfl (by decide) (by omega) u6 x6_24 (⟨a1_0, a1_1, a1_2, a1_3, a1_4, a1_5⟩ : S26) [.int .i64 a1_0, .int .i64 a1_1, .int .i64 a1_2, .int .i64 a1_3, .int .i64 a1_4, .int .i64 a1_5] (fun k_ => k_ ≠ gb140 ∧ k_ ≠ gb155) (fun _ => False) rfl (by first | (go_simp; done) | (go_simp; rfl)) ?aP (fun _ hk => hk.elim) ?aF ?aO ?aB ?aS ?aL ?_; (case aP => exact k26_mkM _ _ _ (⟨a1_0, a1_1, a1_2, a1_3, a1_4, a1_5⟩ : S26)); (case aB => exact (qq65)); (case aF => exact (fun k_ hk => ⟨Kd.freshB (g := gb140) (o := .cells #[.int .i64 a1_0, .int .i64 a1_1, .int .i64 a1_2, .int .i64 a1_3, .int .i64 a1_4, .int .i64 a1_5] 26 (0, 0)) (qq63) k_ hk, Kd.freshB (g := gb155) (o := .cells #[.int .i64 a1_0, .int .i64 a1_1, .int .i64 a1_2, .int .i64 a1_3, .int .i64 a1_4, .int .i64 a1_5] 26 (0, 0)) (qq66) k_ hk⟩)); (case aO => exact (qq67)); (case aS => exact (below_size (qq65))); (case aL => have := LMc35.out; omega); intro v158 w43 ho hb hg hat; rw [← Ny157.out] at ho; have n0_ := Aside0.mk (blk_grown (g := gb140) (o := .cells #[.int .i64 a1_0, .int .i64 a1_1, .int .i64 a1_2, .int .i64 a1_3, .int .i64 a1_4, .int .i64 a1_5] 26 (0, 0)) (qq63) hg (Kd.R_away HO_6.out (fun _ hk => hk.1))); have n1_ := Aside0.mk (blk_grown (g := gb155) (o := .cells #[.int .i64 a1_0, .int .i64 a1_1, .int .i64 a1_2, .int .i64 a1_3, .int .i64 a1_4, .int .i64 a1_5] 26 (0, 0)) (qq66) hg (Kd.R_away HO_6.out (fun _ hk => hk.2))); have n2_ := Aside0.mk (hb); have n3_ := Aside0.mk (ho); clear BK140; clear BK155; clear HB; clear HO_6; have BK140 := n0_; have BK155 := n1_; have HB := n2_; have HO159 := n3_; clear n0_ n1_ n2_ n3_; clear ho hb hg hat))
                go_roundg kj24
                case measure => have := HJ2.out; have := HK2.out; have := HJ17.out; have := HJ24.out; omega
                case rel => exact ⟨(y157), (true), (wrap64 (x8_2 + 1)), (qq0), (qq0), H', ⟨qq68⟩, ⟨by (with_reducible repeat (first | apply Kd.R_alloc | apply Kd.R_drewN | apply Kd.R_drew)); exact Kd.R_mono HO159.out (fun _ hk => hk.1)⟩, ⟨qq58⟩, ⟨qq65⟩⟩
               ·rw [if_neg c35] at H
                exact absurd H (by simp)
              ·rw [if_neg c34] at H
               have c34b0 : decide (((rd_T26 l0 x8_2).f4) < a1_4) = false := decide_eq_false c34
               clear c34
               by_cases c44 : a1_4 = ((rd_T26 l0 x8_2).f4)
               ·rw [if_pos c44] at H
                have c44b0 : (a1_4 == ((rd_T26 l0 x8_2).f4)) = true := beq_iff_eq.mpr c44
                have c44b1 : (a1_4 != ((rd_T26 l0 x8_2).f4)) = false := bne_eq_false_iff_eq.mpr c44
                clear c44
                by_cases c45 : a1_5 > ((rd_T26 l0 x8_2).f5)
                ·rw [if_pos c45] at H
                 have c45b0 : decide (((rd_T26 l0 x8_2).f5) < a1_5) = true := decide_eq_true c45
                 clear c45
                 by_cases c46 : x6_24.length < 2932031007402
                 ·rw [if_pos c46] at H
                  have LMc46 := Aside0.mk c46
                  clear c46
                  obtain ⟨y160, hy160⟩ : ∃ y_ : List (S26), y_ = (x6_24 ++ [(⟨a1_0, a1_1, a1_2, a1_3, a1_4, a1_5⟩ : S26)]) := ⟨_, rfl⟩
                  replace H : (spec_PutFact.l0 kj24 l0 y160 true (wrap64 (x8_2 + 1)) a1_0 a1_1 a1_2 a1_3 a1_4 a1_5) = some (r1, r2) := by first | (rw [hy160]; with_reducible exact H) | (have H2_ := (Option.bind_some _ _).symm.trans H; rw [hy160]; with_reducible exact H2_) | (have H2_ := (Option.bind_some _ _).symm.trans H; with_reducible exact H2_) | with_reducible exact H | (rw [hy160]; exact H) | exact H
                  have Ny160 := Aside0.mk hy160
                  clear hy160
                  have H' := Aside0.mk H
                  clear H
                  have p154 : 0 ≤ (x8_2 : Int) := of_decide_eq_true (qq2)
                  have q154 : x8_2 < (l0.length : Int) := of_decide_eq_true (qq2)
                  obtain ⟨ad154, e154, hx154_0, hx154_1, hx154_2, hx154_3, hx154_4, hx154_5⟩ := at_T26 HR0.out x8_2 p154 q154
                  cases e154
                  replace hx154_0 := (HB.out.cell (World.block_lt_of_cell? w _ hx154_0)).trans hx154_0
                  replace hx154_1 := (HB.out.cell (World.block_lt_of_cell? w _ hx154_1)).trans hx154_1
                  replace hx154_2 := (HB.out.cell (World.block_lt_of_cell? w _ hx154_2)).trans hx154_2
                  replace hx154_3 := (HB.out.cell (World.block_lt_of_cell? w _ hx154_3)).trans hx154_3
                  replace hx154_4 := (HB.out.cell (World.block_lt_of_cell? w _ hx154_4)).trans hx154_4
                  replace hx154_5 := (HB.out.cell (World.block_lt_of_cell? w _ hx154_5)).trans hx154_5
                  replace p154 := eq_true p154
                  replace q154 := eq_true q154
                  go_wp2_with (first | ((with_reducible refine gate_dst (N := 9) rfl ?_); refine box_event ?hg (N := 9) ?hd (cs := #[.int .i64 0, .int .i64 0, .int .i64 0, .int .i64 0, .int .i64 0, .int .i64 0]) (t := 26) ?hr ?_; (case hd => rfl); (case hg => rfl); (case hr => first | (go_simp; done) | (go_simp; rfl)); intro gb155 hg w47 hbox hb; have n0_ := Aside0.mk (Kd.R_below (Kd.R_elderB (qq25) gb155 (Nat.le_of_eq hg.symm)) hb); have n1_ := Aside0.mk (blk_below (g := gb140) (o := .cells #[.int .i64 a1_0, .int .i64 a1_1, .int .i64 a1_2, .int .i64 a1_3, .int .i64 a1_4, .int .i64 a1_5] 26 (0, 0)) (qq58) hb); have n2_ := Aside0.mk (below_step (qq59) hb); have n3_ := Aside0.mk (hbox); have n4_ := Aside0.mk ((qq134 : w.heap.size ≤ gb155)); have n5_ := Aside0.mk ((qq134 : w.heap.size ≤ gb155)); have n6_ := Aside0.mk ((qq135 : gb140 ≠ gb155)); have n7_ := Aside0.mk ((qq136 : gb155 ≠ gb140)); clear HO_6; clear BK140; clear HB; have HO_6 := n0_; have BK140 := n1_; have HB := n2_; have BK155 := n3_; have GW155 := n4_; have GE155 := n5_; have NB140_155 := n6_; have NB155_140 := n7_; clear n0_ n1_ n2_ n3_ n4_ n5_ n6_ n7_; clear hb hbox hg; have hnb48 := NB155_140.out; have hnc48 := NB140_155.out; have hcz49_0 : w47.cell? ⟨gb155, 0, none⟩ = some (.int .i64 0) := (blk_cell BK155.out 0).trans rfl; have hcz49_1 : w47.cell? ⟨gb155, 1, none⟩ = some (.int .i64 0) := (blk_cell BK155.out 1).trans rfl; have hcz49_2 : w47.cell? ⟨gb155, 2, none⟩ = some (.int .i64 0) := (blk_cell BK155.out 2).trans rfl; have hcz49_3 : w47.cell? ⟨gb155, 3, none⟩ = some (.int .i64 0) := (blk_cell BK155.out 3).trans rfl; have hcz49_4 : w47.cell? ⟨gb155, 4, none⟩ = some (.int .i64 0) := (blk_cell BK155.out 4).trans rfl; have hcz49_5 : w47.cell? ⟨gb155, 5, none⟩ = some (.int .i64 0) := (blk_cell BK155.out 5).trans rfl; have hfz49_0 := blk_frozen BK155.out 0; have hfz49_1 := blk_frozen BK155.out 1; have hfz49_2 := blk_frozen BK155.out 2; have hfz49_3 := blk_frozen BK155.out 3; have hfz49_4 := blk_frozen BK155.out 4; have hfz49_5 := blk_frozen BK155.out 5; have hcz50_0 : w47.cell? ⟨gb140, 0, none⟩ = some (.int .i64 a1_0) := (blk_cell BK140.out 0).trans rfl; have hcz50_1 : w47.cell? ⟨gb140, 1, none⟩ = some (.int .i64 a1_1) := (blk_cell BK140.out 1).trans rfl; have hcz50_2 : w47.cell? ⟨gb140, 2, none⟩ = some (.int .i64 a1_2) := (blk_cell BK140.out 2).trans rfl; have hcz50_3 : w47.cell? ⟨gb140, 3, none⟩ = some (.int .i64 a1_3) := (blk_cell BK140.out 3).trans rfl; have hcz50_4 : w47.cell? ⟨gb140, 4, none⟩ = some (.int .i64 a1_4) := (blk_cell BK140.out 4).trans rfl; have hcz50_5 : w47.cell? ⟨gb140, 5, none⟩ = some (.int .i64 a1_5) := (blk_cell BK140.out 5).trans rfl; have hfz50_0 := blk_frozen BK140.out 0; have hfz50_1 := blk_frozen BK140.out 1; have hfz50_2 := blk_frozen BK140.out 2; have hfz50_3 := blk_frozen BK140.out 3; have hfz50_4 := blk_frozen BK140.out 4; have hfz50_5 := blk_frozen BK140.out 5) | ((with_reducible refine gate_callee (f := 58) rfl ?_); refine goesL_ (some 47) rfl rfl Try.func58 (by kernel_rfl) rfl #[.agg #[.int .i64 a1_0, .int .i64 a1_1, .int .i64 a1_2, .int .i64 a1_3, .int .i64 a1_4, .int .i64 a1_5], .agg #[.int .i64 ((rd_T26 l0 x8_2).f0), .int .i64 ((rd_T26 l0 x8_2).f1), .int .i64 ((rd_T26 l0 x8_2).f2), .int .i64 ((rd_T26 l0 x8_2).f3), .int .i64 ((rd_T26 l0 x8_2).f4), .int .i64 ((rd_T26 l0 x8_2).f5)]] rfl (qq5) ?_; (with_reducible refine (spec_SameClaim.calls a1_0 a1_1 a1_2 a1_3 a1_4 a1_5 ((rd_T26 l0 x8_2).f0) ((rd_T26 l0 x8_2).f1) ((rd_T26 l0 x8_2).f2) ((rd_T26 l0 x8_2).f3) ((rd_T26 l0 x8_2).f4) ((rd_T26 l0 x8_2).f5) true _ A32.out).mono ?_); rintro e w51 ⟨rfl, hb⟩; refine ⟨_, rfl, ?_⟩; have n0_ := Aside0.mk (Kd.R_below (qq62) hb); have n1_ := Aside0.mk (blk_below (g := gb140) (o := .cells #[.int .i64 a1_0, .int .i64 a1_1, .int .i64 a1_2, .int .i64 a1_3, .int .i64 a1_4, .int .i64 a1_5] 26 (0, 0)) (qq63) hb); have n2_ := Aside0.mk (blk_below (g := gb155) (o := .cells #[.int .i64 ((rd_T26 l0 x8_2).f0), .int .i64 ((rd_T26 l0 x8_2).f1), .int .i64 ((rd_T26 l0 x8_2).f2), .int .i64 ((rd_T26 l0 x8_2).f3), .int .i64 ((rd_T26 l0 x8_2).f4), .int .i64 ((rd_T26 l0 x8_2).f5)] 26 (0, 0)) (qq64) hb); have n3_ := Aside0.mk (below_step (qq65) hb); clear HO_6; clear BK140; clear BK155; clear HB; have HO_6 := n0_; have BK140 := n1_; have BK155 := n2_; have HB := n3_; clear n0_ n1_ n2_ n3_; (try clear hb); (try clear hb2); (try clear hk); (try clear hi); have hcz52_0 : w51.cell? ⟨gb140, 0, none⟩ = some (.int .i64 a1_0) := (blk_cell BK140.out 0).trans rfl; have hcz52_1 : w51.cell? ⟨gb140, 1, none⟩ = some (.int .i64 a1_1) := (blk_cell BK140.out 1).trans rfl; have hcz52_2 : w51.cell? ⟨gb140, 2, none⟩ = some (.int .i64 a1_2) := (blk_cell BK140.out 2).trans rfl; have hcz52_3 : w51.cell? ⟨gb140, 3, none⟩ = some (.int .i64 a1_3) := (blk_cell BK140.out 3).trans rfl; have hcz52_4 : w51.cell? ⟨gb140, 4, none⟩ = some (.int .i64 a1_4) := (blk_cell BK140.out 4).trans rfl; have hcz52_5 : w51.cell? ⟨gb140, 5, none⟩ = some (.int .i64 a1_5) := (blk_cell BK140.out 5).trans rfl; have hfz52_0 := blk_frozen BK140.out 0; have hfz52_1 := blk_frozen BK140.out 1; have hfz52_2 := blk_frozen BK140.out 2; have hfz52_3 := blk_frozen BK140.out 3; have hfz52_4 := blk_frozen BK140.out 4; have hfz52_5 := blk_frozen BK140.out 5; have hcz53_0 : w51.cell? ⟨gb155, 0, none⟩ = some (.int .i64 ((rd_T26 l0 x8_2).f0)) := (blk_cell BK155.out 0).trans rfl; have hcz53_1 : w51.cell? ⟨gb155, 1, none⟩ = some (.int .i64 ((rd_T26 l0 x8_2).f1)) := (blk_cell BK155.out 1).trans rfl; have hcz53_2 : w51.cell? ⟨gb155, 2, none⟩ = some (.int .i64 ((rd_T26 l0 x8_2).f2)) := (blk_cell BK155.out 2).trans rfl; have hcz53_3 : w51.cell? ⟨gb155, 3, none⟩ = some (.int .i64 ((rd_T26 l0 x8_2).f3)) := (blk_cell BK155.out 3).trans rfl; have hcz53_4 : w51.cell? ⟨gb155, 4, none⟩ = some (.int .i64 ((rd_T26 l0 x8_2).f4)) := (blk_cell BK155.out 4).trans rfl; have hcz53_5 : w51.cell? ⟨gb155, 5, none⟩ = some (.int .i64 ((rd_T26 l0 x8_2).f5)) := (blk_cell BK155.out 5).trans rfl; have hfz53_0 := blk_frozen BK155.out 0; have hfz53_1 := blk_frozen BK155.out 1; have hfz53_2 := blk_frozen BK155.out 2; have hfz53_3 := blk_frozen BK155.out 3; have hfz53_4 := blk_frozen BK155.out 4; have hfz53_5 := blk_frozen BK155.out 5) | ((with_reducible refine gate_builtin (b := .append) (xs := #[.tmp 68, .tmp 70]) rfl ?_); at_builtin; refine Kd.R_append k26 (w0 := w) w.heap.size rfl (.tmp 68) (.tmp 70) 24 26 (.agg #[(.int .i64 0), (.int .i64 0), (.int .i64 0), (.int .i64 0), (.int .i64 0), (.int .i64 0)]) 48 rfl Try.underlying24 info26 rfl (by decide) (by omega) u6 x6_24 (⟨a1_0, a1_1, a1_2, a1_3, a1_4, a1_5⟩ : S26) [.int .i64 a1_0, .int .i64 a1_1, .int .i64 a1_2, .int .i64 a1_3, .int .i64 a1_4, .int .i64 a1_5] (fun k_ => k_ ≠ gb140 ∧ k_ ≠ gb155) (fun _ => False) rfl (by first | (go_simp; done) | (go_simp; rfl)) ?aP (fun _ hk => hk.elim) ?aF ?aO ?aB ?aS ?aL ?_; (case aP => exact k26_mkM _ _ _ (⟨a1_0, a1_1, a1_2, a1_3, a1_4, a1_5⟩ : S26)); (case aB => exact (qq65)); (case aF => exact (fun k_ hk => ⟨Kd.freshB (g := gb140) (o := .cells #[.int .i64 a1_0, .int .i64 a1_1, .int .i64 a1_2, .int .i64 a1_3, .int .i64 a1_4, .int .i64 a1_5] 26 (0, 0)) (qq63) k_ hk, Kd.freshB (g := gb155) (o := .cells #[.int .i64 a1_0, .int .i64 a1_1, .int .i64 a1_2, .int .i64 a1_3, .int .i64 a1_4, .int .i64 a1_5] 26 (0, 0)) (qq66) k_ hk⟩)); (case aO => exact (qq67)); (case aS => exact (below_size (qq65))); (case aL => have := LMc46.out; omega); intro v161 w54 ho hb hg hat; rw [← Ny160.out] at ho; have n0_ := Aside0.mk (blk_grown (g := gb140) (o := .cells #[.int .i64 a1_0, .int .i64 a1_1, .int .i64 a1_2, .int .i64 a1_3, .int .i64 a1_4, .int .i64 a1_5] 26 (0, 0)) (qq63) hg (Kd.R_away HO_6.out (fun _ hk => hk.1))); have n1_ := Aside0.mk (blk_grown (g := gb155) (o := .cells #[.int .i64 a1_0, .int .i64 a1_1, .int .i64 a1_2, .int .i64 a1_3, .int .i64 a1_4, .int .i64 a1_5] 26 (0, 0)) (qq66) hg (Kd.R_away HO_6.out (fun _ hk => hk.2))); have n2_ := Aside0.mk (hb); have n3_ := Aside0.mk (ho); clear BK140; clear BK155; clear HB; clear HO_6; have BK140 := n0_; have BK155 := n1_; have HB := n2_; have HO162 := n3_; clear n0_ n1_ n2_ n3_; clear ho hb hg hat))
                  go_roundg kj24
                  case measure => have := HJ2.out; have := HK2.out; have := HJ17.out; have := HJ24.out; omega
                  case rel => exact ⟨(y160), (true), (wrap64 (x8_2 + 1)), (qq0), (qq0), H', ⟨qq68⟩, ⟨by (with_reducible repeat (first | apply Kd.R_alloc | apply Kd.R_drewN | apply Kd.R_drew)); exact Kd.R_mono HO162.out (fun _ hk => hk.1)⟩, ⟨qq58⟩, ⟨qq65⟩⟩
                 ·rw [if_neg c46] at H
                  exact absurd H (by simp)
                ·rw [if_neg c45] at H
                 have c45b0 : decide (((rd_T26 l0 x8_2).f5) < a1_5) = false := decide_eq_false c45
                 clear c45
                 by_cases c55 : x6_24.length < 2932031007402
                 ·rw [if_pos c55] at H
                  have LMc55 := Aside0.mk c55
                  clear c55
                  obtain ⟨y163, hy163⟩ : ∃ y_ : List (S26), y_ = (x6_24 ++ [(⟨(rd_T26 l0 x8_2).f0, (rd_T26 l0 x8_2).f1, (rd_T26 l0 x8_2).f2, (rd_T26 l0 x8_2).f3, (rd_T26 l0 x8_2).f4, (rd_T26 l0 x8_2).f5⟩ : S26)]) := ⟨_, rfl⟩
                  replace H : (spec_PutFact.l0 kj24 l0 y163 true (wrap64 (x8_2 + 1)) a1_0 a1_1 a1_2 a1_3 a1_4 a1_5) = some (r1, r2) := by first | (rw [hy163]; with_reducible exact H) | (have H2_ := (Option.bind_some _ _).symm.trans H; rw [hy163]; with_reducible exact H2_) | (have H2_ := (Option.bind_some _ _).symm.trans H; with_reducible exact H2_) | with_reducible exact H | (rw [hy163]; exact H) | exact H
                  have Ny163 := Aside0.mk hy163
                  clear hy163
                  have H' := Aside0.mk H
                  clear H
                  have p154 : 0 ≤ (x8_2 : Int) := of_decide_eq_true (qq2)
                  have q154 : x8_2 < (l0.length : Int) := of_decide_eq_true (qq2)
                  obtain ⟨ad154, e154, hx154_0, hx154_1, hx154_2, hx154_3, hx154_4, hx154_5⟩ := at_T26 HR0.out x8_2 p154 q154
                  cases e154
                  replace hx154_0 := (HB.out.cell (World.block_lt_of_cell? w _ hx154_0)).trans hx154_0
                  replace hx154_1 := (HB.out.cell (World.block_lt_of_cell? w _ hx154_1)).trans hx154_1
                  replace hx154_2 := (HB.out.cell (World.block_lt_of_cell? w _ hx154_2)).trans hx154_2
                  replace hx154_3 := (HB.out.cell (World.block_lt_of_cell? w _ hx154_3)).trans hx154_3
                  replace hx154_4 := (HB.out.cell (World.block_lt_of_cell? w _ hx154_4)).trans hx154_4
                  replace hx154_5 := (HB.out.cell (World.block_lt_of_cell? w _ hx154_5)).trans hx154_5
                  replace p154 := eq_true p154
                  replace q154 := eq_true q154
                  go_wp2_with (first | ((with_reducible refine gate_dst (N := 9) rfl ?_); refine box_event ?hg (N := 9) ?hd (cs := #[.int .i64 0, .int .i64 0, .int .i64 0, .int .i64 0, .int .i64 0, .int .i64 0]) (t := 26) ?hr ?_; (case hd => rfl); (case hg => rfl); (case hr => first | (go_simp; done) | (go_simp; rfl)); intro gb155 hg w56 hbox hb; have n0_ := Aside0.mk (Kd.R_below (Kd.R_elderB (qq25) gb155 (Nat.le_of_eq hg.symm)) hb); have n1_ := Aside0.mk (blk_below (g := gb140) (o := .cells #[.int .i64 a1_0, .int .i64 a1_1, .int .i64 a1_2, .int .i64 a1_3, .int .i64 a1_4, .int .i64 a1_5] 26 (0, 0)) (qq58) hb); have n2_ := Aside0.mk (below_step (qq59) hb); have n3_ := Aside0.mk (hbox); have n4_ := Aside0.mk ((qq134 : w.heap.size ≤ gb155)); have n5_ := Aside0.mk ((qq134 : w.heap.size ≤ gb155)); have n6_ := Aside0.mk ((qq135 : gb140 ≠ gb155)); have n7_ := Aside0.mk ((qq136 : gb155 ≠ gb140)); clear HO_6; clear BK140; clear HB; have HO_6 := n0_; have BK140 := n1_; have HB := n2_; have BK155 := n3_; have GW155 := n4_; have GE155 := n5_; have NB140_155 := n6_; have NB155_140 := n7_; clear n0_ n1_ n2_ n3_ n4_ n5_ n6_ n7_; clear hb hbox hg; have hnb57 := NB155_140.out; have hnc57 := NB140_155.out; have hcz58_0 : w56.cell? ⟨gb155, 0, none⟩ = some (.int .i64 0) := (blk_cell BK155.out 0).trans rfl; have hcz58_1 : w56.cell? ⟨gb155, 1, none⟩ = some (.int .i64 0) := (blk_cell BK155.out 1).trans rfl; have hcz58_2 : w56.cell? ⟨gb155, 2, none⟩ = some (.int .i64 0) := (blk_cell BK155.out 2).trans rfl; have hcz58_3 : w56.cell? ⟨gb155, 3, none⟩ = some (.int .i64 0) := (blk_cell BK155.out 3).trans rfl; have hcz58_4 : w56.cell? ⟨gb155, 4, none⟩ = some (.int .i64 0) := (blk_cell BK155.out 4).trans rfl; have hcz58_5 : w56.cell? ⟨gb155, 5, none⟩ = some (.int .i64 0) := (blk_cell BK155.out 5).trans rfl; have hfz58_0 := blk_frozen BK155.out 0; have hfz58_1 := blk_frozen BK155.out 1; have hfz58_2 := blk_frozen BK155.out 2; have hfz58_3 := blk_frozen BK155.out 3; have hfz58_4 := blk_frozen BK155.out 4; have hfz58_5 := blk_frozen BK155.out 5; have hcz59_0 : w56.cell? ⟨gb140, 0, none⟩ = some (.int .i64 a1_0) := (blk_cell BK140.out 0).trans rfl; have hcz59_1 : w56.cell? ⟨gb140, 1, none⟩ = some (.int .i64 a1_1) := (blk_cell BK140.out 1).trans rfl; have hcz59_2 : w56.cell? ⟨gb140, 2, none⟩ = some (.int .i64 a1_2) := (blk_cell BK140.out 2).trans rfl; have hcz59_3 : w56.cell? ⟨gb140, 3, none⟩ = some (.int .i64 a1_3) := (blk_cell BK140.out 3).trans rfl; have hcz59_4 : w56.cell? ⟨gb140, 4, none⟩ = some (.int .i64 a1_4) := (blk_cell BK140.out 4).trans rfl; have hcz59_5 : w56.cell? ⟨gb140, 5, none⟩ = some (.int .i64 a1_5) := (blk_cell BK140.out 5).trans rfl; have hfz59_0 := blk_frozen BK140.out 0; have hfz59_1 := blk_frozen BK140.out 1; have hfz59_2 := blk_frozen BK140.out 2; have hfz59_3 := blk_frozen BK140.out 3; have hfz59_4 := blk_frozen BK140.out 4; have hfz59_5 := blk_frozen BK140.out 5) | ((with_reducible refine gate_callee (f := 58) rfl ?_); refine goesL_ (some 47) rfl rfl Try.func58 (by kernel_rfl) rfl #[.agg #[.int .i64 a1_0, .int .i64 a1_1, .int .i64 a1_2, .int .i64 a1_3, .int .i64 a1_4, .int .i64 a1_5], .agg #[.int .i64 ((rd_T26 l0 x8_2).f0), .int .i64 ((rd_T26 l0 x8_2).f1), .int .i64 ((rd_T26 l0 x8_2).f2), .int .i64 ((rd_T26 l0 x8_2).f3), .int .i64 ((rd_T26 l0 x8_2).f4), .int .i64 ((rd_T26 l0 x8_2).f5)]] rfl (qq5) ?_; (with_reducible refine (spec_SameClaim.calls a1_0 a1_1 a1_2 a1_3 a1_4 a1_5 ((rd_T26 l0 x8_2).f0) ((rd_T26 l0 x8_2).f1) ((rd_T26 l0 x8_2).f2) ((rd_T26 l0 x8_2).f3) ((rd_T26 l0 x8_2).f4) ((rd_T26 l0 x8_2).f5) true _ A32.out).mono ?_); rintro e w60 ⟨rfl, hb⟩; refine ⟨_, rfl, ?_⟩; have n0_ := Aside0.mk (Kd.R_below (qq62) hb); have n1_ := Aside0.mk (blk_below (g := gb140) (o := .cells #[.int .i64 a1_0, .int .i64 a1_1, .int .i64 a1_2, .int .i64 a1_3, .int .i64 a1_4, .int .i64 a1_5] 26 (0, 0)) (qq63) hb); have n2_ := Aside0.mk (blk_below (g := gb155) (o := .cells #[.int .i64 ((rd_T26 l0 x8_2).f0), .int .i64 ((rd_T26 l0 x8_2).f1), .int .i64 ((rd_T26 l0 x8_2).f2), .int .i64 ((rd_T26 l0 x8_2).f3), .int .i64 ((rd_T26 l0 x8_2).f4), .int .i64 ((rd_T26 l0 x8_2).f5)] 26 (0, 0)) (qq64) hb); have n3_ := Aside0.mk (below_step (qq65) hb); clear HO_6; clear BK140; clear BK155; clear HB; have HO_6 := n0_; have BK140 := n1_; have BK155 := n2_; have HB := n3_; clear n0_ n1_ n2_ n3_; (try clear hb); (try clear hb2); (try clear hk); (try clear hi); have hcz61_0 : w60.cell? ⟨gb140, 0, none⟩ = some (.int .i64 a1_0) := (blk_cell BK140.out 0).trans rfl; have hcz61_1 : w60.cell? ⟨gb140, 1, none⟩ = some (.int .i64 a1_1) := (blk_cell BK140.out 1).trans rfl; have hcz61_2 : w60.cell? ⟨gb140, 2, none⟩ = some (.int .i64 a1_2) := (blk_cell BK140.out 2).trans rfl; have hcz61_3 : w60.cell? ⟨gb140, 3, none⟩ = some (.int .i64 a1_3) := (blk_cell BK140.out 3).trans rfl; have hcz61_4 : w60.cell? ⟨gb140, 4, none⟩ = some (.int .i64 a1_4) := (blk_cell BK140.out 4).trans rfl; have hcz61_5 : w60.cell? ⟨gb140, 5, none⟩ = some (.int .i64 a1_5) := (blk_cell BK140.out 5).trans rfl; have hfz61_0 := blk_frozen BK140.out 0; have hfz61_1 := blk_frozen BK140.out 1; have hfz61_2 := blk_frozen BK140.out 2; have hfz61_3 := blk_frozen BK140.out 3; have hfz61_4 := blk_frozen BK140.out 4; have hfz61_5 := blk_frozen BK140.out 5; have hcz62_0 : w60.cell? ⟨gb155, 0, none⟩ = some (.int .i64 ((rd_T26 l0 x8_2).f0)) := (blk_cell BK155.out 0).trans rfl; have hcz62_1 : w60.cell? ⟨gb155, 1, none⟩ = some (.int .i64 ((rd_T26 l0 x8_2).f1)) := (blk_cell BK155.out 1).trans rfl; have hcz62_2 : w60.cell? ⟨gb155, 2, none⟩ = some (.int .i64 ((rd_T26 l0 x8_2).f2)) := (blk_cell BK155.out 2).trans rfl; have hcz62_3 : w60.cell? ⟨gb155, 3, none⟩ = some (.int .i64 ((rd_T26 l0 x8_2).f3)) := (blk_cell BK155.out 3).trans rfl; have hcz62_4 : w60.cell? ⟨gb155, 4, none⟩ = some (.int .i64 ((rd_T26 l0 x8_2).f4)) := (blk_cell BK155.out 4).trans rfl; have hcz62_5 : w60.cell? ⟨gb155, 5, none⟩ = some (.int .i64 ((rd_T26 l0 x8_2).f5)) := (blk_cell BK155.out 5).trans rfl; have hfz62_0 := blk_frozen BK155.out 0; have hfz62_1 := blk_frozen BK155.out 1; have hfz62_2 := blk_frozen BK155.out 2; have hfz62_3 := blk_frozen BK155.out 3; have hfz62_4 := blk_frozen BK155.out 4; have hfz62_5 := blk_frozen BK155.out 5) | ((with_reducible refine gate_builtin (b := .append) (xs := #[.tmp 68, .tmp 70]) rfl ?_); at_builtin; refine Kd.R_append k26 (w0 := w) w.heap.size rfl (.tmp 68) (.tmp 70) 24 26 (.agg #[(.int .i64 0), (.int .i64 0), (.int .i64 0), (.int .i64 0), (.int .i64 0), (.int .i64 0)]) 48 rfl Try.underlying24 info26 rfl (by decide) (by omega) u6 x6_24 (⟨(rd_T26 l0 x8_2).f0, (rd_T26 l0 x8_2).f1, (rd_T26 l0 x8_2).f2, (rd_T26 l0 x8_2).f3, (rd_T26 l0 x8_2).f4, (rd_T26 l0 x8_2).f5⟩ : S26) [.int .i64 ((rd_T26 l0 x8_2).f0), .int .i64 ((rd_T26 l0 x8_2).f1), .int .i64 ((rd_T26 l0 x8_2).f2), .int .i64 ((rd_T26 l0 x8_2).f3), .int .i64 ((rd_T26 l0 x8_2).f4), .int .i64 ((rd_T26 l0 x8_2).f5)] (fun k_ => k_ ≠ gb140 ∧ k_ ≠ gb155) (fun _ => False) rfl rfl ?aP (fun _ hk => hk.elim) ?aF ?aO ?aB ?aS ?aL ?_; (case aP => exact k26_mkM _ _ _ (⟨(rd_T26 l0 x8_2).f0, (rd_T26 l0 x8_2).f1, (rd_T26 l0 x8_2).f2, (rd_T26 l0 x8_2).f3, (rd_T26 l0 x8_2).f4, (rd_T26 l0 x8_2).f5⟩ : S26)); (case aB => exact (qq65)); (case aF => exact (fun k_ hk => ⟨Kd.freshB (g := gb140) (o := .cells #[.int .i64 a1_0, .int .i64 a1_1, .int .i64 a1_2, .int .i64 a1_3, .int .i64 a1_4, .int .i64 a1_5] 26 (0, 0)) (qq58) k_ hk, Kd.freshB (g := gb155) (o := .cells #[.int .i64 ((rd_T26 l0 x8_2).f0), .int .i64 ((rd_T26 l0 x8_2).f1), .int .i64 ((rd_T26 l0 x8_2).f2), .int .i64 ((rd_T26 l0 x8_2).f3), .int .i64 ((rd_T26 l0 x8_2).f4), .int .i64 ((rd_T26 l0 x8_2).f5)] 26 (0, 0)) (qq69) k_ hk⟩)); (case aO => exact (qq25)); (case aS => exact (below_size (qq65))); (case aL => have := LMc55.out; omega); intro v164 w63 ho hb hg hat; rw [← Ny163.out] at ho; have n0_ := Aside0.mk (blk_grown (g := gb140) (o := .cells #[.int .i64 a1_0, .int .i64 a1_1, .int .i64 a1_2, .int .i64 a1_3, .int .i64 a1_4, .int .i64 a1_5] 26 (0, 0)) (qq58) hg (Kd.R_away HO_6.out (fun _ hk => hk.1))); have n1_ := Aside0.mk (blk_grown (g := gb155) (o := .cells #[.int .i64 ((rd_T26 l0 x8_2).f0), .int .i64 ((rd_T26 l0 x8_2).f1), .int .i64 ((rd_T26 l0 x8_2).f2), .int .i64 ((rd_T26 l0 x8_2).f3), .int .i64 ((rd_T26 l0 x8_2).f4), .int .i64 ((rd_T26 l0 x8_2).f5)] 26 (0, 0)) (qq69) hg (Kd.R_away HO_6.out (fun _ hk => hk.2))); have n2_ := Aside0.mk (hb); have n3_ := Aside0.mk (ho); clear BK140; clear BK155; clear HB; clear HO_6; have BK140 := n0_; have BK155 := n1_; have HB := n2_; have HO165 := n3_; clear n0_ n1_ n2_ n3_; clear ho hb hg hat))
                  go_roundg kj24
                  case measure => have := HJ2.out; have := HK2.out; have := HJ17.out; have := HJ24.out; omega
                  case rel => exact ⟨(y163), (true), (wrap64 (x8_2 + 1)), (qq0), (qq0), H', ⟨qq68⟩, ⟨by (with_reducible repeat (first | apply Kd.R_alloc | apply Kd.R_drewN | apply Kd.R_drew)); exact Kd.R_mono HO165.out (fun _ hk => hk.1)⟩, ⟨qq58⟩, ⟨qq65⟩⟩
                 ·rw [if_neg c55] at H
                  exact absurd H (by simp)
               ·rw [if_neg c44] at H
                have c44b0 : (a1_4 == ((rd_T26 l0 x8_2).f4)) = false := beq_eq_false_iff_ne.mpr c44
                have c44b1 : (a1_4 != ((rd_T26 l0 x8_2).f4)) = true := bne_iff_ne.mpr c44
                by_cases c64 : x6_24.length < 2932031007402
                ·rw [if_pos c64] at H
                 have LMc64 := Aside0.mk c64
                 clear c64
                 obtain ⟨y166, hy166⟩ : ∃ y_ : List (S26), y_ = (x6_24 ++ [(⟨(rd_T26 l0 x8_2).f0, (rd_T26 l0 x8_2).f1, (rd_T26 l0 x8_2).f2, (rd_T26 l0 x8_2).f3, (rd_T26 l0 x8_2).f4, (rd_T26 l0 x8_2).f5⟩ : S26)]) := ⟨_, rfl⟩
                 replace H : (spec_PutFact.l0 kj24 l0 y166 true (wrap64 (x8_2 + 1)) a1_0 a1_1 a1_2 a1_3 a1_4 a1_5) = some (r1, r2) := by first | (rw [hy166]; with_reducible exact H) | (have H2_ := (Option.bind_some _ _).symm.trans H; rw [hy166]; with_reducible exact H2_) | (have H2_ := (Option.bind_some _ _).symm.trans H; with_reducible exact H2_) | with_reducible exact H | (rw [hy166]; exact H) | exact H
                 have Ny166 := Aside0.mk hy166
                 clear hy166
                 have H' := Aside0.mk H
                 clear H
                 have p154 : 0 ≤ (x8_2 : Int) := of_decide_eq_true (qq2)
                 have q154 : x8_2 < (l0.length : Int) := of_decide_eq_true (qq2)
                 obtain ⟨ad154, e154, hx154_0, hx154_1, hx154_2, hx154_3, hx154_4, hx154_5⟩ := at_T26 HR0.out x8_2 p154 q154
                 cases e154
                 replace hx154_0 := (HB.out.cell (World.block_lt_of_cell? w _ hx154_0)).trans hx154_0
                 replace hx154_1 := (HB.out.cell (World.block_lt_of_cell? w _ hx154_1)).trans hx154_1
                 replace hx154_2 := (HB.out.cell (World.block_lt_of_cell? w _ hx154_2)).trans hx154_2
                 replace hx154_3 := (HB.out.cell (World.block_lt_of_cell? w _ hx154_3)).trans hx154_3
                 replace hx154_4 := (HB.out.cell (World.block_lt_of_cell? w _ hx154_4)).trans hx154_4
                 replace hx154_5 := (HB.out.cell (World.block_lt_of_cell? w _ hx154_5)).trans hx154_5
                 replace p154 := eq_true p154
                 replace q154 := eq_true q154
                 go_wp2_with (first | ((with_reducible refine gate_dst (N := 9) rfl ?_); refine box_event ?hg (N := 9) ?hd (cs := #[.int .i64 0, .int .i64 0, .int .i64 0, .int .i64 0, .int .i64 0, .int .i64 0]) (t := 26) ?hr ?_; (case hd => rfl); (case hg => rfl); (case hr => first | (go_simp; done) | (go_simp; rfl)); intro gb155 hg w65 hbox hb; have n0_ := Aside0.mk (Kd.R_below (Kd.R_elderB (qq25) gb155 (Nat.le_of_eq hg.symm)) hb); have n1_ := Aside0.mk (blk_below (g := gb140) (o := .cells #[.int .i64 a1_0, .int .i64 a1_1, .int .i64 a1_2, .int .i64 a1_3, .int .i64 a1_4, .int .i64 a1_5] 26 (0, 0)) (qq58) hb); have n2_ := Aside0.mk (below_step (qq59) hb); have n3_ := Aside0.mk (hbox); have n4_ := Aside0.mk ((qq134 : w.heap.size ≤ gb155)); have n5_ := Aside0.mk ((qq134 : w.heap.size ≤ gb155)); have n6_ := Aside0.mk ((qq135 : gb140 ≠ gb155)); have n7_ := Aside0.mk ((qq136 : gb155 ≠ gb140)); clear HO_6; clear BK140; clear HB; have HO_6 := n0_; have BK140 := n1_; have HB := n2_; have BK155 := n3_; have GW155 := n4_; have GE155 := n5_; have NB140_155 := n6_; have NB155_140 := n7_; clear n0_ n1_ n2_ n3_ n4_ n5_ n6_ n7_; clear hb hbox hg; have hnb66 := NB155_140.out; have hnc66 := NB140_155.out; have hcz67_0 : w65.cell? ⟨gb155, 0, none⟩ = some (.int .i64 0) := (blk_cell BK155.out 0).trans rfl; have hcz67_1 : w65.cell? ⟨gb155, 1, none⟩ = some (.int .i64 0) := (blk_cell BK155.out 1).trans rfl; have hcz67_2 : w65.cell? ⟨gb155, 2, none⟩ = some (.int .i64 0) := (blk_cell BK155.out 2).trans rfl; have hcz67_3 : w65.cell? ⟨gb155, 3, none⟩ = some (.int .i64 0) := (blk_cell BK155.out 3).trans rfl; have hcz67_4 : w65.cell? ⟨gb155, 4, none⟩ = some (.int .i64 0) := (blk_cell BK155.out 4).trans rfl; have hcz67_5 : w65.cell? ⟨gb155, 5, none⟩ = some (.int .i64 0) := (blk_cell BK155.out 5).trans rfl; have hfz67_0 := blk_frozen BK155.out 0; have hfz67_1 := blk_frozen BK155.out 1; have hfz67_2 := blk_frozen BK155.out 2; have hfz67_3 := blk_frozen BK155.out 3; have hfz67_4 := blk_frozen BK155.out 4; have hfz67_5 := blk_frozen BK155.out 5; have hcz68_0 : w65.cell? ⟨gb140, 0, none⟩ = some (.int .i64 a1_0) := (blk_cell BK140.out 0).trans rfl; have hcz68_1 : w65.cell? ⟨gb140, 1, none⟩ = some (.int .i64 a1_1) := (blk_cell BK140.out 1).trans rfl; have hcz68_2 : w65.cell? ⟨gb140, 2, none⟩ = some (.int .i64 a1_2) := (blk_cell BK140.out 2).trans rfl; have hcz68_3 : w65.cell? ⟨gb140, 3, none⟩ = some (.int .i64 a1_3) := (blk_cell BK140.out 3).trans rfl; have hcz68_4 : w65.cell? ⟨gb140, 4, none⟩ = some (.int .i64 a1_4) := (blk_cell BK140.out 4).trans rfl; have hcz68_5 : w65.cell? ⟨gb140, 5, none⟩ = some (.int .i64 a1_5) := (blk_cell BK140.out 5).trans rfl; have hfz68_0 := blk_frozen BK140.out 0; have hfz68_1 := blk_frozen BK140.out 1; have hfz68_2 := blk_frozen BK140.out 2; have hfz68_3 := blk_frozen BK140.out 3; have hfz68_4 := blk_frozen BK140.out 4; have hfz68_5 := blk_frozen BK140.out 5) | ((with_reducible refine gate_callee (f := 58) rfl ?_); refine goesL_ (some 47) rfl rfl Try.func58 (by kernel_rfl) rfl #[.agg #[.int .i64 a1_0, .int .i64 a1_1, .int .i64 a1_2, .int .i64 a1_3, .int .i64 a1_4, .int .i64 a1_5], .agg #[.int .i64 ((rd_T26 l0 x8_2).f0), .int .i64 ((rd_T26 l0 x8_2).f1), .int .i64 ((rd_T26 l0 x8_2).f2), .int .i64 ((rd_T26 l0 x8_2).f3), .int .i64 ((rd_T26 l0 x8_2).f4), .int .i64 ((rd_T26 l0 x8_2).f5)]] rfl (qq5) ?_; (with_reducible refine (spec_SameClaim.calls a1_0 a1_1 a1_2 a1_3 a1_4 a1_5 ((rd_T26 l0 x8_2).f0) ((rd_T26 l0 x8_2).f1) ((rd_T26 l0 x8_2).f2) ((rd_T26 l0 x8_2).f3) ((rd_T26 l0 x8_2).f4) ((rd_T26 l0 x8_2).f5) true _ A32.out).mono ?_); rintro e w69 ⟨rfl, hb⟩; refine ⟨_, rfl, ?_⟩; have n0_ := Aside0.mk (Kd.R_below (qq62) hb); have n1_ := Aside0.mk (blk_below (g := gb140) (o := .cells #[.int .i64 a1_0, .int .i64 a1_1, .int .i64 a1_2, .int .i64 a1_3, .int .i64 a1_4, .int .i64 a1_5] 26 (0, 0)) (qq63) hb); have n2_ := Aside0.mk (blk_below (g := gb155) (o := .cells #[.int .i64 ((rd_T26 l0 x8_2).f0), .int .i64 ((rd_T26 l0 x8_2).f1), .int .i64 ((rd_T26 l0 x8_2).f2), .int .i64 ((rd_T26 l0 x8_2).f3), .int .i64 ((rd_T26 l0 x8_2).f4), .int .i64 ((rd_T26 l0 x8_2).f5)] 26 (0, 0)) (qq64) hb); have n3_ := Aside0.mk (below_step (qq65) hb); clear HO_6; clear BK140; clear BK155; clear HB; have HO_6 := n0_; have BK140 := n1_; have BK155 := n2_; have HB := n3_; clear n0_ n1_ n2_ n3_; (try clear hb); (try clear hb2); (try clear hk); (try clear hi); have hcz70_0 : w69.cell? ⟨gb140, 0, none⟩ = some (.int .i64 a1_0) := (blk_cell BK140.out 0).trans rfl; have hcz70_1 : w69.cell? ⟨gb140, 1, none⟩ = some (.int .i64 a1_1) := (blk_cell BK140.out 1).trans rfl; have hcz70_2 : w69.cell? ⟨gb140, 2, none⟩ = some (.int .i64 a1_2) := (blk_cell BK140.out 2).trans rfl; have hcz70_3 : w69.cell? ⟨gb140, 3, none⟩ = some (.int .i64 a1_3) := (blk_cell BK140.out 3).trans rfl; have hcz70_4 : w69.cell? ⟨gb140, 4, none⟩ = some (.int .i64 a1_4) := (blk_cell BK140.out 4).trans rfl; have hcz70_5 : w69.cell? ⟨gb140, 5, none⟩ = some (.int .i64 a1_5) := (blk_cell BK140.out 5).trans rfl; have hfz70_0 := blk_frozen BK140.out 0; have hfz70_1 := blk_frozen BK140.out 1; have hfz70_2 := blk_frozen BK140.out 2; have hfz70_3 := blk_frozen BK140.out 3; have hfz70_4 := blk_frozen BK140.out 4; have hfz70_5 := blk_frozen BK140.out 5; have hcz71_0 : w69.cell? ⟨gb155, 0, none⟩ = some (.int .i64 ((rd_T26 l0 x8_2).f0)) := (blk_cell BK155.out 0).trans rfl; have hcz71_1 : w69.cell? ⟨gb155, 1, none⟩ = some (.int .i64 ((rd_T26 l0 x8_2).f1)) := (blk_cell BK155.out 1).trans rfl; have hcz71_2 : w69.cell? ⟨gb155, 2, none⟩ = some (.int .i64 ((rd_T26 l0 x8_2).f2)) := (blk_cell BK155.out 2).trans rfl; have hcz71_3 : w69.cell? ⟨gb155, 3, none⟩ = some (.int .i64 ((rd_T26 l0 x8_2).f3)) := (blk_cell BK155.out 3).trans rfl; have hcz71_4 : w69.cell? ⟨gb155, 4, none⟩ = some (.int .i64 ((rd_T26 l0 x8_2).f4)) := (blk_cell BK155.out 4).trans rfl; have hcz71_5 : w69.cell? ⟨gb155, 5, none⟩ = some (.int .i64 ((rd_T26 l0 x8_2).f5)) := (blk_cell BK155.out 5).trans rfl; have hfz71_0 := blk_frozen BK155.out 0; have hfz71_1 := blk_frozen BK155.out 1; have hfz71_2 := blk_frozen BK155.out 2; have hfz71_3 := blk_frozen BK155.out 3; have hfz71_4 := blk_frozen BK155.out 4; have hfz71_5 := blk_frozen BK155.out 5) | ((with_reducible refine gate_builtin (b := .append) (xs := #[.tmp 68, .tmp 70]) rfl ?_); at_builtin; refine Kd.R_append k26 (w0 := w) w.heap.size rfl (.tmp 68) (.tmp 70) 24 26 (.agg #[(.int .i64 0), (.int .i64 0), (.int .i64 0), (.int .i64 0), (.int .i64 0), (.int .i64 0)]) 48 rfl Try.underlying24 info26 rfl (by decide) (by omega) u6 x6_24 (⟨(rd_T26 l0 x8_2).f0, (rd_T26 l0 x8_2).f1, (rd_T26 l0 x8_2).f2, (rd_T26 l0 x8_2).f3, (rd_T26 l0 x8_2).f4, (rd_T26 l0 x8_2).f5⟩ : S26) [.int .i64 ((rd_T26 l0 x8_2).f0), .int .i64 ((rd_T26 l0 x8_2).f1), .int .i64 ((rd_T26 l0 x8_2).f2), .int .i64 ((rd_T26 l0 x8_2).f3), .int .i64 ((rd_T26 l0 x8_2).f4), .int .i64 ((rd_T26 l0 x8_2).f5)] (fun k_ => k_ ≠ gb140 ∧ k_ ≠ gb155) (fun _ => False) rfl rfl ?aP (fun _ hk => hk.elim) ?aF ?aO ?aB ?aS ?aL ?_; (case aP => exact k26_mkM _ _ _ (⟨(rd_T26 l0 x8_2).f0, (rd_T26 l0 x8_2).f1, (rd_T26 l0 x8_2).f2, (rd_T26 l0 x8_2).f3, (rd_T26 l0 x8_2).f4, (rd_T26 l0 x8_2).f5⟩ : S26)); (case aB => exact (qq65)); (case aF => exact (fun k_ hk => ⟨Kd.freshB (g := gb140) (o := .cells #[.int .i64 a1_0, .int .i64 a1_1, .int .i64 a1_2, .int .i64 a1_3, .int .i64 a1_4, .int .i64 a1_5] 26 (0, 0)) (qq58) k_ hk, Kd.freshB (g := gb155) (o := .cells #[.int .i64 ((rd_T26 l0 x8_2).f0), .int .i64 ((rd_T26 l0 x8_2).f1), .int .i64 ((rd_T26 l0 x8_2).f2), .int .i64 ((rd_T26 l0 x8_2).f3), .int .i64 ((rd_T26 l0 x8_2).f4), .int .i64 ((rd_T26 l0 x8_2).f5)] 26 (0, 0)) (qq69) k_ hk⟩)); (case aO => exact (qq25)); (case aS => exact (below_size (qq65))); (case aL => have := LMc64.out; omega); intro v167 w72 ho hb hg hat; rw [← Ny166.out] at ho; have n0_ := Aside0.mk (blk_grown (g := gb140) (o := .cells #[.int .i64 a1_0, .int .i64 a1_1, .int .i64 a1_2, .int .i64 a1_3, .int .i64 a1_4, .int .i64 a1_5] 26 (0, 0)) (qq58) hg (Kd.R_away HO_6.out (fun _ hk => hk.1))); have n1_ := Aside0.mk (blk_grown (g := gb155) (o := .cells #[.int .i64 ((rd_T26 l0 x8_2).f0), .int .i64 ((rd_T26 l0 x8_2).f1), .int .i64 ((rd_T26 l0 x8_2).f2), .int .i64 ((rd_T26 l0 x8_2).f3), .int .i64 ((rd_T26 l0 x8_2).f4), .int .i64 ((rd_T26 l0 x8_2).f5)] 26 (0, 0)) (qq69) hg (Kd.R_away HO_6.out (fun _ hk => hk.2))); have n2_ := Aside0.mk (hb); have n3_ := Aside0.mk (ho); clear BK140; clear BK155; clear HB; clear HO_6; have BK140 := n0_; have BK155 := n1_; have HB := n2_; have HO168 := n3_; clear n0_ n1_ n2_ n3_; clear ho hb hg hat))
                 go_roundg kj24
                 case measure => have := HJ2.out; have := HK2.out; have := HJ17.out; have := HJ24.out; omega
                 case rel => exact ⟨(y166), (true), (wrap64 (x8_2 + 1)), (qq0), (qq0), H', ⟨qq68⟩, ⟨by (with_reducible repeat (first | apply Kd.R_alloc | apply Kd.R_drewN | apply Kd.R_drew)); exact Kd.R_mono HO168.out (fun _ hk => hk.1)⟩, ⟨qq58⟩, ⟨qq65⟩⟩
                ·rw [if_neg c64] at H
                 exact absurd H (by simp)
             ·replace c33 := Bool.eq_false_iff.mpr c33
              subst c33
              have H1 : (if x6_24.length < 2932031007402 then (spec_PutFact.l0 kj24 l0 (x6_24 ++ [(⟨(rd_T26 l0 x8_2).f0, (rd_T26 l0 x8_2).f1, (rd_T26 l0 x8_2).f2, (rd_T26 l0 x8_2).f3, (rd_T26 l0 x8_2).f4, (rd_T26 l0 x8_2).f5⟩ : S26)]) x7_24 (wrap64 (x8_2 + 1)) a1_0 a1_1 a1_2 a1_3 a1_4 a1_5) else (none)) = some (r1, r2) := by rw [if_neg (show ¬ (false = true) by decide)] at H; exact H
              clear H
              have H := H1
              clear H1
              by_cases c73 : x6_24.length < 2932031007402
              ·rw [if_pos c73] at H
               have LMc73 := Aside0.mk c73
               clear c73
               obtain ⟨y169, hy169⟩ : ∃ y_ : List (S26), y_ = (x6_24 ++ [(⟨(rd_T26 l0 x8_2).f0, (rd_T26 l0 x8_2).f1, (rd_T26 l0 x8_2).f2, (rd_T26 l0 x8_2).f3, (rd_T26 l0 x8_2).f4, (rd_T26 l0 x8_2).f5⟩ : S26)]) := ⟨_, rfl⟩
               replace H : (spec_PutFact.l0 kj24 l0 y169 x7_24 (wrap64 (x8_2 + 1)) a1_0 a1_1 a1_2 a1_3 a1_4 a1_5) = some (r1, r2) := by first | (rw [hy169]; with_reducible exact H) | (have H2_ := (Option.bind_some _ _).symm.trans H; rw [hy169]; with_reducible exact H2_) | (have H2_ := (Option.bind_some _ _).symm.trans H; with_reducible exact H2_) | with_reducible exact H | (rw [hy169]; exact H) | exact H
               have Ny169 := Aside0.mk hy169
               clear hy169
               have H' := Aside0.mk H
               clear H
               have p154 : 0 ≤ (x8_2 : Int) := of_decide_eq_true (qq2)
               have q154 : x8_2 < (l0.length : Int) := of_decide_eq_true (qq2)
               obtain ⟨ad154, e154, hx154_0, hx154_1, hx154_2, hx154_3, hx154_4, hx154_5⟩ := at_T26 HR0.out x8_2 p154 q154
               cases e154
               replace hx154_0 := (HB.out.cell (World.block_lt_of_cell? w _ hx154_0)).trans hx154_0
               replace hx154_1 := (HB.out.cell (World.block_lt_of_cell? w _ hx154_1)).trans hx154_1
               replace hx154_2 := (HB.out.cell (World.block_lt_of_cell? w _ hx154_2)).trans hx154_2
               replace hx154_3 := (HB.out.cell (World.block_lt_of_cell? w _ hx154_3)).trans hx154_3
               replace hx154_4 := (HB.out.cell (World.block_lt_of_cell? w _ hx154_4)).trans hx154_4
               replace hx154_5 := (HB.out.cell (World.block_lt_of_cell? w _ hx154_5)).trans hx154_5
               replace p154 := eq_true p154
               replace q154 := eq_true q154
               go_wp2_with (first | ((with_reducible refine gate_dst (N := 9) rfl ?_); refine box_event ?hg (N := 9) ?hd (cs := #[.int .i64 0, .int .i64 0, .int .i64 0, .int .i64 0, .int .i64 0, .int .i64 0]) (t := 26) ?hr ?_; (case hd => rfl); (case hg => rfl); (case hr => first | (go_simp; done) | (go_simp; rfl)); intro gb155 hg w74 hbox hb; have n0_ := Aside0.mk (Kd.R_below (Kd.R_elderB (qq25) gb155 (Nat.le_of_eq hg.symm)) hb); have n1_ := Aside0.mk (blk_below (g := gb140) (o := .cells #[.int .i64 a1_0, .int .i64 a1_1, .int .i64 a1_2, .int .i64 a1_3, .int .i64 a1_4, .int .i64 a1_5] 26 (0, 0)) (qq58) hb); have n2_ := Aside0.mk (below_step (qq59) hb); have n3_ := Aside0.mk (hbox); have n4_ := Aside0.mk ((qq134 : w.heap.size ≤ gb155)); have n5_ := Aside0.mk ((qq134 : w.heap.size ≤ gb155)); have n6_ := Aside0.mk ((qq135 : gb140 ≠ gb155)); have n7_ := Aside0.mk ((qq136 : gb155 ≠ gb140)); clear HO_6; clear BK140; clear HB; have HO_6 := n0_; have BK140 := n1_; have HB := n2_; have BK155 := n3_; have GW155 := n4_; have GE155 := n5_; have NB140_155 := n6_; have NB155_140 := n7_; clear n0_ n1_ n2_ n3_ n4_ n5_ n6_ n7_; clear hb hbox hg; have hnb75 := NB155_140.out; have hnc75 := NB140_155.out; have hcz76_0 : w74.cell? ⟨gb155, 0, none⟩ = some (.int .i64 0) := (blk_cell BK155.out 0).trans rfl; have hcz76_1 : w74.cell? ⟨gb155, 1, none⟩ = some (.int .i64 0) := (blk_cell BK155.out 1).trans rfl; have hcz76_2 : w74.cell? ⟨gb155, 2, none⟩ = some (.int .i64 0) := (blk_cell BK155.out 2).trans rfl; have hcz76_3 : w74.cell? ⟨gb155, 3, none⟩ = some (.int .i64 0) := (blk_cell BK155.out 3).trans rfl; have hcz76_4 : w74.cell? ⟨gb155, 4, none⟩ = some (.int .i64 0) := (blk_cell BK155.out 4).trans rfl; have hcz76_5 : w74.cell? ⟨gb155, 5, none⟩ = some (.int .i64 0) := (blk_cell BK155.out 5).trans rfl; have hfz76_0 := blk_frozen BK155.out 0; have hfz76_1 := blk_frozen BK155.out 1; have hfz76_2 := blk_frozen BK155.out 2; have hfz76_3 := blk_frozen BK155.out 3; have hfz76_4 := blk_frozen BK155.out 4; have hfz76_5 := blk_frozen BK155.out 5; have hcz77_0 : w74.cell? ⟨gb140, 0, none⟩ = some (.int .i64 a1_0) := (blk_cell BK140.out 0).trans rfl; have hcz77_1 : w74.cell? ⟨gb140, 1, none⟩ = some (.int .i64 a1_1) := (blk_cell BK140.out 1).trans rfl; have hcz77_2 : w74.cell? ⟨gb140, 2, none⟩ = some (.int .i64 a1_2) := (blk_cell BK140.out 2).trans rfl; have hcz77_3 : w74.cell? ⟨gb140, 3, none⟩ = some (.int .i64 a1_3) := (blk_cell BK140.out 3).trans rfl; have hcz77_4 : w74.cell? ⟨gb140, 4, none⟩ = some (.int .i64 a1_4) := (blk_cell BK140.out 4).trans rfl; have hcz77_5 : w74.cell? ⟨gb140, 5, none⟩ = some (.int .i64 a1_5) := (blk_cell BK140.out 5).trans rfl; have hfz77_0 := blk_frozen BK140.out 0; have hfz77_1 := blk_frozen BK140.out 1; have hfz77_2 := blk_frozen BK140.out 2; have hfz77_3 := blk_frozen BK140.out 3; have hfz77_4 := blk_frozen BK140.out 4; have hfz77_5 := blk_frozen BK140.out 5) | ((with_reducible refine gate_callee (f := 58) rfl ?_); refine goesL_ (some 47) rfl rfl Try.func58 (by kernel_rfl) rfl #[.agg #[.int .i64 a1_0, .int .i64 a1_1, .int .i64 a1_2, .int .i64 a1_3, .int .i64 a1_4, .int .i64 a1_5], .agg #[.int .i64 ((rd_T26 l0 x8_2).f0), .int .i64 ((rd_T26 l0 x8_2).f1), .int .i64 ((rd_T26 l0 x8_2).f2), .int .i64 ((rd_T26 l0 x8_2).f3), .int .i64 ((rd_T26 l0 x8_2).f4), .int .i64 ((rd_T26 l0 x8_2).f5)]] rfl (qq5) ?_; (with_reducible refine (spec_SameClaim.calls a1_0 a1_1 a1_2 a1_3 a1_4 a1_5 ((rd_T26 l0 x8_2).f0) ((rd_T26 l0 x8_2).f1) ((rd_T26 l0 x8_2).f2) ((rd_T26 l0 x8_2).f3) ((rd_T26 l0 x8_2).f4) ((rd_T26 l0 x8_2).f5) false _ A32.out).mono ?_); rintro e w78 ⟨rfl, hb⟩; refine ⟨_, rfl, ?_⟩; have n0_ := Aside0.mk (Kd.R_below (qq62) hb); have n1_ := Aside0.mk (blk_below (g := gb140) (o := .cells #[.int .i64 a1_0, .int .i64 a1_1, .int .i64 a1_2, .int .i64 a1_3, .int .i64 a1_4, .int .i64 a1_5] 26 (0, 0)) (qq63) hb); have n2_ := Aside0.mk (blk_below (g := gb155) (o := .cells #[.int .i64 ((rd_T26 l0 x8_2).f0), .int .i64 ((rd_T26 l0 x8_2).f1), .int .i64 ((rd_T26 l0 x8_2).f2), .int .i64 ((rd_T26 l0 x8_2).f3), .int .i64 ((rd_T26 l0 x8_2).f4), .int .i64 ((rd_T26 l0 x8_2).f5)] 26 (0, 0)) (qq64) hb); have n3_ := Aside0.mk (below_step (qq65) hb); clear HO_6; clear BK140; clear BK155; clear HB; have HO_6 := n0_; have BK140 := n1_; have BK155 := n2_; have HB := n3_; clear n0_ n1_ n2_ n3_; (try clear hb); (try clear hb2); (try clear hk); (try clear hi); have hcz79_0 : w78.cell? ⟨gb155, 0, none⟩ = some (.int .i64 ((rd_T26 l0 x8_2).f0)) := (blk_cell BK155.out 0).trans rfl; have hcz79_1 : w78.cell? ⟨gb155, 1, none⟩ = some (.int .i64 ((rd_T26 l0 x8_2).f1)) := (blk_cell BK155.out 1).trans rfl; have hcz79_2 : w78.cell? ⟨gb155, 2, none⟩ = some (.int .i64 ((rd_T26 l0 x8_2).f2)) := (blk_cell BK155.out 2).trans rfl; have hcz79_3 : w78.cell? ⟨gb155, 3, none⟩ = some (.int .i64 ((rd_T26 l0 x8_2).f3)) := (blk_cell BK155.out 3).trans rfl; have hcz79_4 : w78.cell? ⟨gb155, 4, none⟩ = some (.int .i64 ((rd_T26 l0 x8_2).f4)) := (blk_cell BK155.out 4).trans rfl; have hcz79_5 : w78.cell? ⟨gb155, 5, none⟩ = some (.int .i64 ((rd_T26 l0 x8_2).f5)) := (blk_cell BK155.out 5).trans rfl; have hfz79_0 := blk_frozen BK155.out 0; have hfz79_1 := blk_frozen BK155.out 1; have hfz79_2 := blk_frozen BK155.out 2; have hfz79_3 := blk_frozen BK155.out 3; have hfz79_4 := blk_frozen BK155.out 4; have hfz79_5 := blk_frozen BK155.out 5) | ((with_reducible refine gate_builtin (b := .append) (xs := #[.tmp 68, .tmp 70]) rfl ?_); at_builtin; refine Kd.R_append k26 (w0 := w) w.heap.size rfl (.tmp 68) (.tmp 70) 24 26 (.agg #[(.int .i64 0), (.int .i64 0), (.int .i64 0), (.int .i64 0), (.int .i64 0), (.int .i64 0)]) 48 rfl Try.underlying24 info26 rfl (by decide) (by omega) u6 x6_24 (⟨(rd_T26 l0 x8_2).f0, (rd_T26 l0 x8_2).f1, (rd_T26 l0 x8_2).f2, (rd_T26 l0 x8_2).f3, (rd_T26 l0 x8_2).f4, (rd_T26 l0 x8_2).f5⟩ : S26) [.int .i64 ((rd_T26 l0 x8_2).f0), .int .i64 ((rd_T26 l0 x8_2).f1), .int .i64 ((rd_T26 l0 x8_2).f2), .int .i64 ((rd_T26 l0 x8_2).f3), .int .i64 ((rd_T26 l0 x8_2).f4), .int .i64 ((rd_T26 l0 x8_2).f5)] (fun k_ => k_ ≠ gb140 ∧ k_ ≠ gb155) (fun _ => False) rfl rfl ?aP (fun _ hk => hk.elim) ?aF ?aO ?aB ?aS ?aL ?_; (case aP => exact k26_mkM _ _ _ (⟨(rd_T26 l0 x8_2).f0, (rd_T26 l0 x8_2).f1, (rd_T26 l0 x8_2).f2, (rd_T26 l0 x8_2).f3, (rd_T26 l0 x8_2).f4, (rd_T26 l0 x8_2).f5⟩ : S26)); (case aB => exact (qq65)); (case aF => exact (fun k_ hk => ⟨Kd.freshB (g := gb140) (o := .cells #[.int .i64 a1_0, .int .i64 a1_1, .int .i64 a1_2, .int .i64 a1_3, .int .i64 a1_4, .int .i64 a1_5] 26 (0, 0)) (qq58) k_ hk, Kd.freshB (g := gb155) (o := .cells #[.int .i64 ((rd_T26 l0 x8_2).f0), .int .i64 ((rd_T26 l0 x8_2).f1), .int .i64 ((rd_T26 l0 x8_2).f2), .int .i64 ((rd_T26 l0 x8_2).f3), .int .i64 ((rd_T26 l0 x8_2).f4), .int .i64 ((rd_T26 l0 x8_2).f5)] 26 (0, 0)) (qq69) k_ hk⟩)); (case aO => exact (qq25)); (case aS => exact (below_size (qq65))); (case aL => have := LMc73.out; omega); intro v170 w80 ho hb hg hat; rw [← Ny169.out] at ho; have n0_ := Aside0.mk (blk_grown (g := gb140) (o := .cells #[.int .i64 a1_0, .int .i64 a1_1, .int .i64 a1_2, .int .i64 a1_3, .int .i64 a1_4, .int .i64 a1_5] 26 (0, 0)) (qq58) hg (Kd.R_away HO_6.out (fun _ hk => hk.1))); have n1_ := Aside0.mk (blk_grown (g := gb155) (o := .cells #[.int .i64 ((rd_T26 l0 x8_2).f0), .int .i64 ((rd_T26 l0 x8_2).f1), .int .i64 ((rd_T26 l0 x8_2).f2), .int .i64 ((rd_T26 l0 x8_2).f3), .int .i64 ((rd_T26 l0 x8_2).f4), .int .i64 ((rd_T26 l0 x8_2).f5)] 26 (0, 0)) (qq69) hg (Kd.R_away HO_6.out (fun _ hk => hk.2))); have n2_ := Aside0.mk (hb); have n3_ := Aside0.mk (ho); clear BK140; clear BK155; clear HB; clear HO_6; have BK140 := n0_; have BK155 := n1_; have HB := n2_; have HO171 := n3_; clear n0_ n1_ n2_ n3_; clear ho hb hg hat))
               go_roundg kj24
               case measure => have := HJ2.out; have := HK2.out; have := HJ17.out; have := HJ24.out; omega
               case rel => exact ⟨(y169), (x7_24), (wrap64 (x8_2 + 1)), (qq0), (qq0), H', ⟨qq68⟩, ⟨by (with_reducible repeat (first | apply Kd.R_alloc | apply Kd.R_drewN | apply Kd.R_drew)); exact Kd.R_mono HO171.out (fun _ hk => hk.1)⟩, ⟨qq58⟩, ⟨qq65⟩⟩
              ·rw [if_neg c73] at H
               exact absurd H (by simp)
            ·rw [if_neg c31] at H
             exact absurd H (by simp)
           ·rw [if_neg c30] at H
            exact absurd H (by simp)
      ·rw [if_neg c17] at H
       have c17b0 : decide (x8_2 < (l0.length : Int)) = false := decide_eq_false c17
       clear c17
       by_cases c81 : x7_2 = true
       ·subst c81
        have H1 : (if (x6_2.length : Int) > 30 then ((spec_l7Copy.f l0).bind fun t172 => (some (t172, false))) else (some (x6_2, true))) = some (r1, r2) := by rw [if_pos rfl] at H; exact H
        clear H
        have H := H1
        clear H1
        by_cases c82 : (x6_2.length : Int) > 30
        ·rw [if_pos c82] at H
         have c82b0 : decide (30 < (x6_2.length : Int)) = true := decide_eq_true c82
         have c82b1 : decide (30 < x6_2.length) = true := decide_eq_true (by omega)
         clear c82
         replace H := Option.bind_eq_some_iff.mp H
         obtain ⟨t172, A830, H⟩ := H
         replace H : (some (t172, false)) = some (r1, r2) := H
         have A83 := Aside0.mk A830
         clear A830
         simp only [Option.some.injEq, Prod.mk.injEq] at H
         obtain ⟨rfl, rfl⟩ := H
         obtain ⟨Ao84, co84, eo84⟩ := Kd.R_slice HO_6.out
         subst eo84
         go_wp2_with (first | ((with_reducible refine gate_callee (f := 56) rfl ?_); refine goesL_ (some 82) rfl rfl Try.func56 (by kernel_rfl) rfl #[.slice A0 l0.length c0] rfl (qq5) ?_; (with_reducible refine (spec_l7Copy.calls _ _ l0 t172 _ ?side1 ?side2 A83.out).mono ?_); (case side1 => exact qq145); (case side2 => exact HC0.out); rintro e w85 ⟨v173, rfl, ho0, hb⟩; refine ⟨_, rfl, ?_⟩; have n0_ := Aside0.mk (Kd.R_elder' (qq25) (Kd.R_base ho0) hb); have n1_ := Aside0.mk (Kd.R_lower (Kd.R_newB (Kd.R_new' ho0 (Kd.R_lt (qq25))) (g := gb140) (o := .cells #[.int .i64 a1_0, .int .i64 a1_1, .int .i64 a1_2, .int .i64 a1_3, .int .i64 a1_4, .int .i64 a1_5] 26 (0, 0)) (qq58)) (below_size (qq59))); have n2_ := Aside0.mk (blk_below (g := gb140) (o := .cells #[.int .i64 a1_0, .int .i64 a1_1, .int .i64 a1_2, .int .i64 a1_3, .int .i64 a1_4, .int .i64 a1_5] 26 (0, 0)) (qq58) hb); have n3_ := Aside0.mk (below_step (qq59) hb); clear HO_6; clear BK140; clear HB; have HO_6 := n0_; have HO174 := n1_; have BK140 := n2_; have HB := n3_; clear n0_ n1_ n2_ n3_; (try clear hb); (try clear hb2); (try clear hk); (try clear hi); (try clear ho0)))
         go_ret2
         exact ⟨_, qq9, by (with_reducible repeat (first | apply Kd.R_alloc | apply Kd.R_drewN | apply Kd.R_drew)); exact Kd.R_mono HO174.out (fun _ hk => trivial), qq59⟩
        ·rw [if_neg c82] at H
         have c82b0 : decide (30 < (x6_2.length : Int)) = false := decide_eq_false c82
         have c82b1 : decide (30 < x6_2.length) = false := decide_eq_false (by omega)
         clear c82
         simp only [Option.some.injEq, Prod.mk.injEq] at H
         obtain ⟨rfl, rfl⟩ := H
         obtain ⟨Ao86, co86, eo86⟩ := Kd.R_slice HO_6.out
         subst eo86
         go_wp2
         go_ret2
         exact ⟨_, qq9, qq24, qq59⟩
       ·replace c81 := Bool.eq_false_iff.mpr c81
        subst c81
        have H1 : (if x6_2.length < 2932031007402 then ((some (x6_2 ++ [(⟨a1_0, a1_1, a1_2, a1_3, a1_4, a1_5⟩ : S26)] : List (S26))).bind fun y175 => (if (y175.length : Int) > 30 then ((spec_l7Copy.f l0).bind fun t178 => (some (t178, false))) else (some (y175, true)))) else (none)) = some (r1, r2) := by rw [if_neg (show ¬ (false = true) by decide)] at H; exact H
        clear H
        have H := H1
        clear H1
        by_cases c87 : x6_2.length < 2932031007402
        ·rw [if_pos c87] at H
         have LMc87 := Aside0.mk c87
         clear c87
         obtain ⟨y175, hy175⟩ : ∃ y_ : List (S26), y_ = (x6_2 ++ [(⟨a1_0, a1_1, a1_2, a1_3, a1_4, a1_5⟩ : S26)]) := ⟨_, rfl⟩
         replace H : (if (y175.length : Int) > 30 then ((spec_l7Copy.f l0).bind fun t178 => (some (t178, false))) else (some (y175, true))) = some (r1, r2) := by first | (rw [hy175]; with_reducible exact H) | (have H2_ := (Option.bind_some _ _).symm.trans H; rw [hy175]; with_reducible exact H2_) | (have H2_ := (Option.bind_some _ _).symm.trans H; with_reducible exact H2_) | with_reducible exact H | (rw [hy175]; exact H) | exact H
         have Ny175 := Aside0.mk hy175
         clear hy175
         by_cases c88 : (y175.length : Int) > 30
         ·rw [if_pos c88] at H
          have c88b0 : decide (30 < (y175.length : Int)) = true := decide_eq_true c88
          have c88b1 : decide (30 < y175.length) = true := decide_eq_true (by omega)
          clear c88
          replace H := Option.bind_eq_some_iff.mp H
          obtain ⟨t178, A890, H⟩ := H
          replace H : (some (t178, false)) = some (r1, r2) := H
          have A89 := Aside0.mk A890
          clear A890
          simp only [Option.some.injEq, Prod.mk.injEq] at H
          obtain ⟨rfl, rfl⟩ := H
          have hcz90_0 : wr.cell? ⟨gb140, 0, none⟩ = some (.int .i64 a1_0) := (blk_cell BK140.out 0).trans rfl
          have hcz90_1 : wr.cell? ⟨gb140, 1, none⟩ = some (.int .i64 a1_1) := (blk_cell BK140.out 1).trans rfl
          have hcz90_2 : wr.cell? ⟨gb140, 2, none⟩ = some (.int .i64 a1_2) := (blk_cell BK140.out 2).trans rfl
          have hcz90_3 : wr.cell? ⟨gb140, 3, none⟩ = some (.int .i64 a1_3) := (blk_cell BK140.out 3).trans rfl
          have hcz90_4 : wr.cell? ⟨gb140, 4, none⟩ = some (.int .i64 a1_4) := (blk_cell BK140.out 4).trans rfl
          have hcz90_5 : wr.cell? ⟨gb140, 5, none⟩ = some (.int .i64 a1_5) := (blk_cell BK140.out 5).trans rfl
          have hfz90_0 := blk_frozen BK140.out 0
          have hfz90_1 := blk_frozen BK140.out 1
          have hfz90_2 := blk_frozen BK140.out 2
          have hfz90_3 := blk_frozen BK140.out 3
          have hfz90_4 := blk_frozen BK140.out 4
          have hfz90_5 := blk_frozen BK140.out 5
          go_wp2_with (first | ((with_reducible refine gate_builtin (b := .append) (xs := #[.tmp 74, .tmp 76]) rfl ?_); at_builtin; refine Kd.R_append k26 (w0 := w) w.heap.size rfl (.tmp 74) (.tmp 76) 24 26 (.agg #[(.int .i64 0), (.int .i64 0), (.int .i64 0), (.int .i64 0), (.int .i64 0), (.int .i64 0)]) 48 rfl Try.underlying24 info26 rfl (by decide) (by omega) u6 x6_2 (⟨a1_0, a1_1, a1_2, a1_3, a1_4, a1_5⟩ : S26) [.int .i64 a1_0, .int .i64 a1_1, .int .i64 a1_2, .int .i64 a1_3, .int .i64 a1_4, .int .i64 a1_5] (fun k_ => k_ ≠ gb140) (fun _ => False) rfl rfl ?aP (fun _ hk => hk.elim) ?aF ?aO ?aB ?aS ?aL ?_; (case aP => exact k26_mkM _ _ _ (⟨a1_0, a1_1, a1_2, a1_3, a1_4, a1_5⟩ : S26)); (case aB => exact (qq59)); (case aF => exact (fun k_ hk => Kd.freshB (g := gb140) (o := .cells #[.int .i64 a1_0, .int .i64 a1_1, .int .i64 a1_2, .int .i64 a1_3, .int .i64 a1_4, .int .i64 a1_5] 26 (0, 0)) (qq58) k_ hk)); (case aO => exact (qq25)); (case aS => exact (below_size (qq59))); (case aL => have := LMc87.out; omega); intro v176 w91 ho hb hg hat; rw [← Ny175.out] at ho; have n0_ := Aside0.mk (blk_grown (g := gb140) (o := .cells #[.int .i64 a1_0, .int .i64 a1_1, .int .i64 a1_2, .int .i64 a1_3, .int .i64 a1_4, .int .i64 a1_5] 26 (0, 0)) (qq58) hg (Kd.R_away HO_6.out (fun _ hk => hk))); have n1_ := Aside0.mk (hb); have n2_ := Aside0.mk (ho); clear BK140; clear HB; clear HO_6; have BK140 := n0_; have HB := n1_; have HO177 := n2_; clear n0_ n1_ n2_; clear ho hb hg hat; obtain ⟨Ao92, co92, eo92⟩ := Kd.R_slice HO177.out; subst eo92) | ((with_reducible refine gate_callee (f := 56) rfl ?_); refine goesL_ (some 82) rfl rfl Try.func56 (by kernel_rfl) rfl #[.slice A0 l0.length c0] rfl (qq5) ?_; (with_reducible refine (spec_l7Copy.calls _ _ l0 t178 _ ?side1 ?side2 A89.out).mono ?_); (case side1 => exact qq145); (case side2 => exact HC0.out); rintro e w93 ⟨v179, rfl, ho0, hb⟩; refine ⟨_, rfl, ?_⟩; have n0_ := Aside0.mk (Kd.R_elder' (qq70) (Kd.R_base ho0) hb); have n1_ := Aside0.mk (Kd.R_lower (Kd.R_newB (Kd.R_new' ho0 (Kd.R_lt (qq70))) (g := gb140) (o := .cells #[.int .i64 a1_0, .int .i64 a1_1, .int .i64 a1_2, .int .i64 a1_3, .int .i64 a1_4, .int .i64 a1_5] 26 (0, 0)) (qq58)) (below_size (qq59))); have n2_ := Aside0.mk (blk_below (g := gb140) (o := .cells #[.int .i64 a1_0, .int .i64 a1_1, .int .i64 a1_2, .int .i64 a1_3, .int .i64 a1_4, .int .i64 a1_5] 26 (0, 0)) (qq58) hb); have n3_ := Aside0.mk (below_step (qq59) hb); clear HO177; clear BK140; clear HB; have HO177 := n0_; have HO180 := n1_; have BK140 := n2_; have HB := n3_; clear n0_ n1_ n2_ n3_; (try clear hb); (try clear hb2); (try clear hk); (try clear hi); (try clear ho0)))
          go_ret2
          exact ⟨_, qq9, by (with_reducible repeat (first | apply Kd.R_alloc | apply Kd.R_drewN | apply Kd.R_drew)); exact Kd.R_mono HO180.out (fun _ hk => trivial), qq59⟩
         ·rw [if_neg c88] at H
          have c88b0 : decide (30 < (y175.length : Int)) = false := decide_eq_false c88
          have c88b1 : decide (30 < y175.length) = false := decide_eq_false (by omega)
          clear c88
          simp only [Option.some.injEq, Prod.mk.injEq] at H
          obtain ⟨rfl, rfl⟩ := H
          have hcz94_0 : wr.cell? ⟨gb140, 0, none⟩ = some (.int .i64 a1_0) := (blk_cell BK140.out 0).trans rfl
          have hcz94_1 : wr.cell? ⟨gb140, 1, none⟩ = some (.int .i64 a1_1) := (blk_cell BK140.out 1).trans rfl
          have hcz94_2 : wr.cell? ⟨gb140, 2, none⟩ = some (.int .i64 a1_2) := (blk_cell BK140.out 2).trans rfl
          have hcz94_3 : wr.cell? ⟨gb140, 3, none⟩ = some (.int .i64 a1_3) := (blk_cell BK140.out 3).trans rfl
          have hcz94_4 : wr.cell? ⟨gb140, 4, none⟩ = some (.int .i64 a1_4) := (blk_cell BK140.out 4).trans rfl
          have hcz94_5 : wr.cell? ⟨gb140, 5, none⟩ = some (.int .i64 a1_5) := (blk_cell BK140.out 5).trans rfl
          have hfz94_0 := blk_frozen BK140.out 0
          have hfz94_1 := blk_frozen BK140.out 1
          have hfz94_2 := blk_frozen BK140.out 2
          have hfz94_3 := blk_frozen BK140.out 3
          have hfz94_4 := blk_frozen BK140.out 4
          have hfz94_5 := blk_frozen BK140.out 5
          go_wp2_with (first | ((with_reducible refine gate_builtin (b := .append) (xs := #[.tmp 74, .tmp 76]) rfl ?_); at_builtin; refine Kd.R_append k26 (w0 := w) w.heap.size rfl (.tmp 74) (.tmp 76) 24 26 (.agg #[(.int .i64 0), (.int .i64 0), (.int .i64 0), (.int .i64 0), (.int .i64 0), (.int .i64 0)]) 48 rfl Try.underlying24 info26 rfl (by decide) (by omega) u6 x6_2 (⟨a1_0, a1_1, a1_2, a1_3, a1_4, a1_5⟩ : S26) [.int .i64 a1_0, .int .i64 a1_1, .int .i64 a1_2, .int .i64 a1_3, .int .i64 a1_4, .int .i64 a1_5] (fun k_ => k_ ≠ gb140) (fun _ => False) rfl rfl ?aP (fun _ hk => hk.elim) ?aF ?aO ?aB ?aS ?aL ?_; (case aP => exact k26_mkM _ _ _ (⟨a1_0, a1_1, a1_2, a1_3, a1_4, a1_5⟩ : S26)); (case aB => exact (qq59)); (case aF => exact (fun k_ hk => Kd.freshB (g := gb140) (o := .cells #[.int .i64 a1_0, .int .i64 a1_1, .int .i64 a1_2, .int .i64 a1_3, .int .i64 a1_4, .int .i64 a1_5] 26 (0, 0)) (qq58) k_ hk)); (case aO => exact (qq25)); (case aS => exact (below_size (qq59))); (case aL => have := LMc87.out; omega); intro v176 w95 ho hb hg hat; rw [← Ny175.out] at ho; have n0_ := Aside0.mk (blk_grown (g := gb140) (o := .cells #[.int .i64 a1_0, .int .i64 a1_1, .int .i64 a1_2, .int .i64 a1_3, .int .i64 a1_4, .int .i64 a1_5] 26 (0, 0)) (qq58) hg (Kd.R_away HO_6.out (fun _ hk => hk))); have n1_ := Aside0.mk (hb); have n2_ := Aside0.mk (ho); clear BK140; clear HB; clear HO_6; have BK140 := n0_; have HB := n1_; have HO177 := n2_; clear n0_ n1_ n2_; clear ho hb hg hat; obtain ⟨Ao96, co96, eo96⟩ := Kd.R_slice HO177.out; subst eo96))
          go_ret2
          exact ⟨_, qq9, by (with_reducible repeat (first | apply Kd.R_alloc | apply Kd.R_drewN | apply Kd.R_drew)); exact Kd.R_mono HO177.out (fun _ hk => trivial), qq59⟩
        ·rw [if_neg c87] at H
         exact absurd H (by simp)
end Go.Proofs.Ythanecnkknimpaa.PFnStores
