/- What this law reaches, as plain Lean functions, and the proofs that the machine's calls answer what they answer; laid by a program of this session over the kit's print, some functions by hand. Conditions: none beyond each theorem's own. -/
import Derived.Test.YthanecnkknimpaaPFnStoresx0
-- half the blanks
namespace Go.Proofs.Ythanecnkknimpaa.PFnStores
open Go.RowKit Go.Proofs.YthanecnkknimpaaW.PrintWords Go.Proofs.YthanecnkknimpaaW.PrintLast Go.Proofs.YthanecnkknimpaaW.PrintMore
attribute [local go_sem] max2_int min2_int max_two min_two max_three min_three max_four min_four   -- for this text's walks alone
set_option linter.unusedVariables false
set_option linter.unusedSimpArgs false
/-! ### impl_copyFacts: function 37 -/
def impl_copyFacts.f (l0 : List (S26)) : Option ((List (S26))) := (some (([] : List (S26)) : List (S26))).bind fun y390 => (if y390.length + l0.length < 2932031007402 then (some (y390 ++ l0)) else (none))
set_option maxHeartbeats 8000000 in
set_option maxRecDepth 100000 in
theorem impl_copyFacts.calls (A0 : Option Addr) (c0 : Nat) (l0 : List (S26)) (r : List (S26)) (w : World) (hr0 : Kd.C k26 w A0 l0.length l0) (hc0 : l0.length ≤ c0) (h : impl_copyFacts.f l0 = some r) :
  Calls Try.prog 37 #[.slice A0 l0.length c0] w fun e w' => ∃ v0_ : Value, e = .returned (v0_) ∧ Kd.R k26 26 w' w.heap.size (fun _ => True) v0_ r ∧ Below w.heap.size w w' := by
 have HR0 := Aside0.mk hr0
 have HC0 := Aside0.mk hc0
 clear hr0 hc0
 have HB := Aside0.mk (Below.refl w.heap.size w)
 have H : ((some (([] : List (S26)) : List (S26))).bind fun y390 => (if y390.length + l0.length < 2932031007402 then (some (y390 ++ l0)) else (none))) = some r := h
 clear h
 obtain ⟨y390, hy390⟩ : ∃ y_ : List (S26), y_ = (([] : List (S26))) := ⟨_, rfl⟩
 replace H : (if y390.length + l0.length < 2932031007402 then (some (y390 ++ l0)) else (none)) = some r := by first | (rw [hy390]; with_reducible exact H) | (have H2_ := (Option.bind_some _ _).symm.trans H; rw [hy390]; with_reducible exact H2_) | (have H2_ := (Option.bind_some _ _).symm.trans H; with_reducible exact H2_) | with_reducible exact H | (rw [hy390]; exact H) | exact H
 have Ny390 := Aside0.mk hy390
 clear hy390
 by_cases c2 : y390.length + l0.length < 2932031007402
 ·rw [if_pos c2] at H
  have LMc2 := Aside0.mk c2
  clear c2
  obtain ⟨y393, hy393⟩ : ∃ y_ : List (S26), y_ = (y390 ++ l0) := ⟨_, rfl⟩
  replace H : (some y393) = some r := by first | (rw [hy393]; with_reducible exact H) | (have H2_ := (Option.bind_some _ _).symm.trans H; rw [hy393]; with_reducible exact H2_) | (have H2_ := (Option.bind_some _ _).symm.trans H; with_reducible exact H2_) | with_reducible exact H | (rw [hy393]; exact H) | exact H
  have Ny393 := Aside0.mk hy393
  clear hy393
  obtain rfl := Option.some.inj H
  go_enter Try.func37, Try.ntmps37
  go_wp2_with (first | ((with_reducible refine gate_dst (N := 3) rfl ?_); refine Kd.R_lit k26 _ 26 ?hg (N := 3) ?hd (xs := ([] : List (S26))) (inner := []) (ok := fun _ => True) (okp := fun _ => True) ?hr ?hp (fun _ hk => hk) trivial (Below.refl _ _) (Nat.le_refl _) (by simp) ?_; (case hd => rfl); (case hg => rfl); (case hr => first | (go_simp; done) | (go_simp; rfl)); (case hp => exact (Reps.none _ _)); intro v391 w3 ho4 hb hg_ hnew_; clear hg_ hnew_; (first | rw [← Ny390.out] at ho4 | (simp only [Int.reduceToNat] at ho4; rw [← Ny390.out] at ho4)); have n0_ := Aside0.mk (Kd.R_lower ho4 (below_size (qq1))); have n1_ := Aside0.mk (below_step (qq1) hb); clear HB; have HO392 := n0_; have HB := n1_; clear n0_ n1_; clear hb ho4) | ((with_reducible refine gate_builtin (b := .append) (xs := #[.tmp 3, .tmp 4]) rfl ?_); at_builtin; refine Kd.R_append_rows k26 (w0 := w) w.heap.size rfl (.tmp 3) (.tmp 4) 24 26 (.agg #[(.int .i64 0), (.int .i64 0), (.int .i64 0), (.int .i64 0), (.int .i64 0), (.int .i64 0)]) 48 rfl Try.underlying24 info26 rfl (by decide) (by omega) v391 y390 l0 _ _ _ (fun _ => True) (fun _ => False) rfl rfl ?aO ?aR (fun _ _ h => h) (fun _ h => h.elim) ?aF ?aB ?aS ?aL ?_; (case aR => repeat (first | exact (Kd.C_below HR0.out HB.out) | (with_reducible refine Kd.C_alloc ?_ _) | (with_reducible refine Kd.C_drewN ?_ _) | (with_reducible refine Kd.C_drew ?_))); (case aB => exact (qq1)); (case aF => exact (fun _ _ => trivial)); (case aO => exact (by (with_reducible repeat (first | apply Kd.R_alloc | apply Kd.R_drewN | apply Kd.R_drew)); exact HO392.out)); (case aS => exact (below_size (qq1))); (case aL => have := LMc2.out; omega); intro v394 w5 ho hb hg hat; rw [← Ny393.out] at ho; have n0_ := Aside0.mk (hb); have n1_ := Aside0.mk (ho); clear HB; clear HO392; have HB := n0_; have HO395 := n1_; clear n0_ n1_; clear ho hb hg hat))
  go_ret
  exact ⟨_, qq9, by (with_reducible repeat (first | apply Kd.R_alloc | apply Kd.R_drewN | apply Kd.R_drew)); exact HO395.out, qq1⟩
 ·rw [if_neg c2] at H
  exact absurd H (by simp)
/-! ### impl_isLater: function 40 -/
def impl_isLater.f (a0_0 : Int) (a0_1 : Int) (a0_2 : Int) (a0_3 : Int) (a0_4 : Int) (a0_5 : Int) (a1_0 : Int) (a1_1 : Int) (a1_2 : Int) (a1_3 : Int) (a1_4 : Int) (a1_5 : Int) : Option (Bool) := if a0_4 > a1_4 then (some true) else (if a0_4 = a1_4 then (some (decide (a0_5 > a1_5))) else (some false))
set_option maxHeartbeats 8000000 in
set_option maxRecDepth 100000 in
theorem impl_isLater.calls (a0_0 : Int) (a0_1 : Int) (a0_2 : Int) (a0_3 : Int) (a0_4 : Int) (a0_5 : Int) (a1_0 : Int) (a1_1 : Int) (a1_2 : Int) (a1_3 : Int) (a1_4 : Int) (a1_5 : Int) (r : Bool) (w : World) (h : impl_isLater.f a0_0 a0_1 a0_2 a0_3 a0_4 a0_5 a1_0 a1_1 a1_2 a1_3 a1_4 a1_5 = some r) :
  Calls Try.prog 40 #[.agg #[.int .i64 a0_0, .int .i64 a0_1, .int .i64 a0_2, .int .i64 a0_3, .int .i64 a0_4, .int .i64 a0_5], .agg #[.int .i64 a1_0, .int .i64 a1_1, .int .i64 a1_2, .int .i64 a1_3, .int .i64 a1_4, .int .i64 a1_5]] w fun e w' => e = .returned (.bool r) ∧ Below w.heap.size w w' := by
 have hu26 := Try.underlying26
 have HB := Aside0.mk (Below.refl w.heap.size w)
 have H : (if a0_4 > a1_4 then (some true) else (if a0_4 = a1_4 then (some (decide (a0_5 > a1_5))) else (some false))) = some r := h
 clear h
 by_cases c3 : a0_4 > a1_4
 ·rw [if_pos c3] at H
  have c3b0 : decide (a1_4 < a0_4) = true := decide_eq_true c3
  clear c3
  obtain rfl := Option.some.inj H
  go_enter Try.func40, Try.ntmps40
  go_wp2_with (first | ((with_reducible refine gate_dst (N := 2) rfl ?_); refine box_event ?hg (N := 2) ?hd (cs := #[.int .i64 a0_0, .int .i64 a0_1, .int .i64 a0_2, .int .i64 a0_3, .int .i64 a0_4, .int .i64 a0_5]) (t := 26) ?hr ?_; (case hd => rfl); (case hg => rfl); (case hr => first | (go_simp; done) | (go_simp; rfl)); intro gb396 hg w4 hbox hb; have n0_ := Aside0.mk (below_step (qq1) hb); have n1_ := Aside0.mk (hbox); have n2_ := Aside0.mk ((qq124 : w.heap.size ≤ gb396)); have n3_ := Aside0.mk ((qq124 : w.heap.size ≤ gb396)); clear HB; have HB := n0_; have BK396 := n1_; have GW396 := n2_; have GE396 := n3_; clear n0_ n1_ n2_ n3_; clear hb hbox hg) | ((with_reducible refine gate_dst (N := 3) rfl ?_); refine box_event ?hg (N := 3) ?hd (cs := #[.int .i64 a1_0, .int .i64 a1_1, .int .i64 a1_2, .int .i64 a1_3, .int .i64 a1_4, .int .i64 a1_5]) (t := 26) ?hr ?_; (case hd => rfl); (case hg => rfl); (case hr => first | (go_simp; done) | (go_simp; rfl)); intro gb397 hg w5 hbox hb; have n0_ := Aside0.mk (blk_below (g := gb396) (o := .cells #[.int .i64 a0_0, .int .i64 a0_1, .int .i64 a0_2, .int .i64 a0_3, .int .i64 a0_4, .int .i64 a0_5] 26 (0, 0)) (qq13) hb); have n1_ := Aside0.mk (below_step (qq14) hb); have n2_ := Aside0.mk (hbox); have n3_ := Aside0.mk ((qq125 : w.heap.size ≤ gb397)); have n4_ := Aside0.mk ((qq125 : w.heap.size ≤ gb397)); have n5_ := Aside0.mk ((qq126 : gb396 ≠ gb397)); have n6_ := Aside0.mk ((qq127 : gb397 ≠ gb396)); clear BK396; clear HB; have BK396 := n0_; have HB := n1_; have BK397 := n2_; have GW397 := n3_; have GE397 := n4_; have NB396_397 := n5_; have NB397_396 := n6_; clear n0_ n1_ n2_ n3_ n4_ n5_ n6_; clear hb hbox hg; have hnb6 := NB396_397.out; have hnc6 := NB397_396.out; have hcz7_0 : w5.cell? ⟨gb396, 0, none⟩ = some (.int .i64 a0_0) := (blk_cell BK396.out 0).trans rfl; have hcz7_1 : w5.cell? ⟨gb396, 1, none⟩ = some (.int .i64 a0_1) := (blk_cell BK396.out 1).trans rfl; have hcz7_2 : w5.cell? ⟨gb396, 2, none⟩ = some (.int .i64 a0_2) := (blk_cell BK396.out 2).trans rfl; have hcz7_3 : w5.cell? ⟨gb396, 3, none⟩ = some (.int .i64 a0_3) := (blk_cell BK396.out 3).trans rfl; have hcz7_4 : w5.cell? ⟨gb396, 4, none⟩ = some (.int .i64 a0_4) := (blk_cell BK396.out 4).trans rfl; have hcz7_5 : w5.cell? ⟨gb396, 5, none⟩ = some (.int .i64 a0_5) := (blk_cell BK396.out 5).trans rfl; have hfz7_0 := blk_frozen BK396.out 0; have hfz7_1 := blk_frozen BK396.out 1; have hfz7_2 := blk_frozen BK396.out 2; have hfz7_3 := blk_frozen BK396.out 3; have hfz7_4 := blk_frozen BK396.out 4; have hfz7_5 := blk_frozen BK396.out 5; have hcz8_0 : w5.cell? ⟨gb397, 0, none⟩ = some (.int .i64 a1_0) := (blk_cell BK397.out 0).trans rfl; have hcz8_1 : w5.cell? ⟨gb397, 1, none⟩ = some (.int .i64 a1_1) := (blk_cell BK397.out 1).trans rfl; have hcz8_2 : w5.cell? ⟨gb397, 2, none⟩ = some (.int .i64 a1_2) := (blk_cell BK397.out 2).trans rfl; have hcz8_3 : w5.cell? ⟨gb397, 3, none⟩ = some (.int .i64 a1_3) := (blk_cell BK397.out 3).trans rfl; have hcz8_4 : w5.cell? ⟨gb397, 4, none⟩ = some (.int .i64 a1_4) := (blk_cell BK397.out 4).trans rfl; have hcz8_5 : w5.cell? ⟨gb397, 5, none⟩ = some (.int .i64 a1_5) := (blk_cell BK397.out 5).trans rfl; have hfz8_0 := blk_frozen BK397.out 0; have hfz8_1 := blk_frozen BK397.out 1; have hfz8_2 := blk_frozen BK397.out 2; have hfz8_3 := blk_frozen BK397.out 3; have hfz8_4 := blk_frozen BK397.out 4; have hfz8_5 := blk_frozen BK397.out 5))
  go_ret
  exact ⟨qq9, qq15⟩
 ·rw [if_neg c3] at H
  have c3b0 : decide (a1_4 < a0_4) = false := decide_eq_false c3
  clear c3
  by_cases c9 : a0_4 = a1_4
  ·rw [if_pos c9] at H
   have c9b0 : (a0_4 == a1_4) = true := beq_iff_eq.mpr c9
   have c9b1 : (a0_4 != a1_4) = false := bne_eq_false_iff_eq.mpr c9
   clear c9
   obtain rfl := Option.some.inj H
   go_enter Try.func40, Try.ntmps40
   go_wp2_with (first | ((with_reducible refine gate_dst (N := 2) rfl ?_); refine box_event ?hg (N := 2) ?hd (cs := #[.int .i64 a0_0, .int .i64 a0_1, .int .i64 a0_2, .int .i64 a0_3, .int .i64 a0_4, .int .i64 a0_5]) (t := 26) ?hr ?_; (case hd => rfl); (case hg => rfl); (case hr => first | (go_simp; done) | (go_simp; rfl)); intro gb396 hg w10 hbox hb; have n0_ := Aside0.mk (below_step (qq1) hb); have n1_ := Aside0.mk (hbox); have n2_ := Aside0.mk ((qq124 : w.heap.size ≤ gb396)); have n3_ := Aside0.mk ((qq124 : w.heap.size ≤ gb396)); clear HB; have HB := n0_; have BK396 := n1_; have GW396 := n2_; have GE396 := n3_; clear n0_ n1_ n2_ n3_; clear hb hbox hg) | ((with_reducible refine gate_dst (N := 3) rfl ?_); refine box_event ?hg (N := 3) ?hd (cs := #[.int .i64 a1_0, .int .i64 a1_1, .int .i64 a1_2, .int .i64 a1_3, .int .i64 a1_4, .int .i64 a1_5]) (t := 26) ?hr ?_; (case hd => rfl); (case hg => rfl); (case hr => first | (go_simp; done) | (go_simp; rfl)); intro gb397 hg w11 hbox hb; have n0_ := Aside0.mk (blk_below (g := gb396) (o := .cells #[.int .i64 a0_0, .int .i64 a0_1, .int .i64 a0_2, .int .i64 a0_3, .int .i64 a0_4, .int .i64 a0_5] 26 (0, 0)) (qq13) hb); have n1_ := Aside0.mk (below_step (qq14) hb); have n2_ := Aside0.mk (hbox); have n3_ := Aside0.mk ((qq125 : w.heap.size ≤ gb397)); have n4_ := Aside0.mk ((qq125 : w.heap.size ≤ gb397)); have n5_ := Aside0.mk ((qq126 : gb396 ≠ gb397)); have n6_ := Aside0.mk ((qq127 : gb397 ≠ gb396)); clear BK396; clear HB; have BK396 := n0_; have HB := n1_; have BK397 := n2_; have GW397 := n3_; have GE397 := n4_; have NB396_397 := n5_; have NB397_396 := n6_; clear n0_ n1_ n2_ n3_ n4_ n5_ n6_; clear hb hbox hg; have hnb12 := NB396_397.out; have hnc12 := NB397_396.out; have hcz13_0 : w11.cell? ⟨gb396, 0, none⟩ = some (.int .i64 a0_0) := (blk_cell BK396.out 0).trans rfl; have hcz13_1 : w11.cell? ⟨gb396, 1, none⟩ = some (.int .i64 a0_1) := (blk_cell BK396.out 1).trans rfl; have hcz13_2 : w11.cell? ⟨gb396, 2, none⟩ = some (.int .i64 a0_2) := (blk_cell BK396.out 2).trans rfl; have hcz13_3 : w11.cell? ⟨gb396, 3, none⟩ = some (.int .i64 a0_3) := (blk_cell BK396.out 3).trans rfl; have hcz13_4 : w11.cell? ⟨gb396, 4, none⟩ = some (.int .i64 a0_4) := (blk_cell BK396.out 4).trans rfl; have hcz13_5 : w11.cell? ⟨gb396, 5, none⟩ = some (.int .i64 a0_5) := (blk_cell BK396.out 5).trans rfl; have hfz13_0 := blk_frozen BK396.out 0; have hfz13_1 := blk_frozen BK396.out 1; have hfz13_2 := blk_frozen BK396.out 2; have hfz13_3 := blk_frozen BK396.out 3; have hfz13_4 := blk_frozen BK396.out 4; have hfz13_5 := blk_frozen BK396.out 5; have hcz14_0 : w11.cell? ⟨gb397, 0, none⟩ = some (.int .i64 a1_0) := (blk_cell BK397.out 0).trans rfl; have hcz14_1 : w11.cell? ⟨gb397, 1, none⟩ = some (.int .i64 a1_1) := (blk_cell BK397.out 1).trans rfl; have hcz14_2 : w11.cell? ⟨gb397, 2, none⟩ = some (.int .i64 a1_2) := (blk_cell BK397.out 2).trans rfl; have hcz14_3 : w11.cell? ⟨gb397, 3, none⟩ = some (.int .i64 a1_3) := (blk_cell BK397.out 3).trans rfl; have hcz14_4 : w11.cell? ⟨gb397, 4, none⟩ = some (.int .i64 a1_4) := (blk_cell BK397.out 4).trans rfl; have hcz14_5 : w11.cell? ⟨gb397, 5, none⟩ = some (.int .i64 a1_5) := (blk_cell BK397.out 5).trans rfl; have hfz14_0 := blk_frozen BK397.out 0; have hfz14_1 := blk_frozen BK397.out 1; have hfz14_2 := blk_frozen BK397.out 2; have hfz14_3 := blk_frozen BK397.out 3; have hfz14_4 := blk_frozen BK397.out 4; have hfz14_5 := blk_frozen BK397.out 5))
   go_ret
   exact ⟨qq9, qq15⟩
  ·rw [if_neg c9] at H
   have c9b0 : (a0_4 == a1_4) = false := beq_eq_false_iff_ne.mpr c9
   have c9b1 : (a0_4 != a1_4) = true := bne_iff_ne.mpr c9
   obtain rfl := Option.some.inj H
   go_enter Try.func40, Try.ntmps40
   go_wp2_with (first | ((with_reducible refine gate_dst (N := 2) rfl ?_); refine box_event ?hg (N := 2) ?hd (cs := #[.int .i64 a0_0, .int .i64 a0_1, .int .i64 a0_2, .int .i64 a0_3, .int .i64 a0_4, .int .i64 a0_5]) (t := 26) ?hr ?_; (case hd => rfl); (case hg => rfl); (case hr => first | (go_simp; done) | (go_simp; rfl)); intro gb396 hg w15 hbox hb; have n0_ := Aside0.mk (below_step (qq1) hb); have n1_ := Aside0.mk (hbox); have n2_ := Aside0.mk ((qq124 : w.heap.size ≤ gb396)); have n3_ := Aside0.mk ((qq124 : w.heap.size ≤ gb396)); clear HB; have HB := n0_; have BK396 := n1_; have GW396 := n2_; have GE396 := n3_; clear n0_ n1_ n2_ n3_; clear hb hbox hg) | ((with_reducible refine gate_dst (N := 3) rfl ?_); refine box_event ?hg (N := 3) ?hd (cs := #[.int .i64 a1_0, .int .i64 a1_1, .int .i64 a1_2, .int .i64 a1_3, .int .i64 a1_4, .int .i64 a1_5]) (t := 26) ?hr ?_; (case hd => rfl); (case hg => rfl); (case hr => first | (go_simp; done) | (go_simp; rfl)); intro gb397 hg w16 hbox hb; have n0_ := Aside0.mk (blk_below (g := gb396) (o := .cells #[.int .i64 a0_0, .int .i64 a0_1, .int .i64 a0_2, .int .i64 a0_3, .int .i64 a0_4, .int .i64 a0_5] 26 (0, 0)) (qq13) hb); have n1_ := Aside0.mk (below_step (qq14) hb); have n2_ := Aside0.mk (hbox); have n3_ := Aside0.mk ((qq125 : w.heap.size ≤ gb397)); have n4_ := Aside0.mk ((qq125 : w.heap.size ≤ gb397)); have n5_ := Aside0.mk ((qq126 : gb396 ≠ gb397)); have n6_ := Aside0.mk ((qq127 : gb397 ≠ gb396)); clear BK396; clear HB; have BK396 := n0_; have HB := n1_; have BK397 := n2_; have GW397 := n3_; have GE397 := n4_; have NB396_397 := n5_; have NB397_396 := n6_; clear n0_ n1_ n2_ n3_ n4_ n5_ n6_; clear hb hbox hg; have hnb17 := NB396_397.out; have hnc17 := NB397_396.out; have hcz18_0 : w16.cell? ⟨gb396, 0, none⟩ = some (.int .i64 a0_0) := (blk_cell BK396.out 0).trans rfl; have hcz18_1 : w16.cell? ⟨gb396, 1, none⟩ = some (.int .i64 a0_1) := (blk_cell BK396.out 1).trans rfl; have hcz18_2 : w16.cell? ⟨gb396, 2, none⟩ = some (.int .i64 a0_2) := (blk_cell BK396.out 2).trans rfl; have hcz18_3 : w16.cell? ⟨gb396, 3, none⟩ = some (.int .i64 a0_3) := (blk_cell BK396.out 3).trans rfl; have hcz18_4 : w16.cell? ⟨gb396, 4, none⟩ = some (.int .i64 a0_4) := (blk_cell BK396.out 4).trans rfl; have hcz18_5 : w16.cell? ⟨gb396, 5, none⟩ = some (.int .i64 a0_5) := (blk_cell BK396.out 5).trans rfl; have hfz18_0 := blk_frozen BK396.out 0; have hfz18_1 := blk_frozen BK396.out 1; have hfz18_2 := blk_frozen BK396.out 2; have hfz18_3 := blk_frozen BK396.out 3; have hfz18_4 := blk_frozen BK396.out 4; have hfz18_5 := blk_frozen BK396.out 5; have hcz19_0 : w16.cell? ⟨gb397, 0, none⟩ = some (.int .i64 a1_0) := (blk_cell BK397.out 0).trans rfl; have hcz19_1 : w16.cell? ⟨gb397, 1, none⟩ = some (.int .i64 a1_1) := (blk_cell BK397.out 1).trans rfl; have hcz19_2 : w16.cell? ⟨gb397, 2, none⟩ = some (.int .i64 a1_2) := (blk_cell BK397.out 2).trans rfl; have hcz19_3 : w16.cell? ⟨gb397, 3, none⟩ = some (.int .i64 a1_3) := (blk_cell BK397.out 3).trans rfl; have hcz19_4 : w16.cell? ⟨gb397, 4, none⟩ = some (.int .i64 a1_4) := (blk_cell BK397.out 4).trans rfl; have hcz19_5 : w16.cell? ⟨gb397, 5, none⟩ = some (.int .i64 a1_5) := (blk_cell BK397.out 5).trans rfl; have hfz19_0 := blk_frozen BK397.out 0; have hfz19_1 := blk_frozen BK397.out 1; have hfz19_2 := blk_frozen BK397.out 2; have hfz19_3 := blk_frozen BK397.out 3; have hfz19_4 := blk_frozen BK397.out 4; have hfz19_5 := blk_frozen BK397.out 5))
   go_ret
   exact ⟨qq9, qq15⟩
/-! ### impl_Fact_41: function 41, by hand -/
/-! #### own rows of a flat kind as plain cells; copies and cuts of many cells (laid for slices.Insert and slices.DeleteFunc over facts) -/
theorem rows_inner {α : Type} {R : α → List Value → Prop} {enc : α → List Value} {sz : Nat} (hR : ∀ x c, R x c → c = enc x) : ∀ (xs : List α) (cs : List Value), Reps R sz xs cs → cs = xs.flatMap enc
 | [], cs, h => by
  have := h.1
  simpa using this
 | x :: r, cs, h => by
  have h0 := hR _ _ (h.2 0 x rfl)
  rw [Nat.zero_mul, List.drop_zero] at h0
  have ht : Reps R sz r (cs.drop sz) := ⟨by rw [List.length_drop, h.1, List.length_cons, Nat.succ_mul, Nat.add_sub_cancel], fun j p hj => by
   have := h.2 (j + 1) p (by simpa using hj)
   rw [List.drop_drop, Nat.add_comm sz, ← Nat.succ_mul]
   exact this⟩
  have h1 := rows_inner hR r _ ht
  rw [List.flatMap_cons, ← h0, ← h1, List.take_append_drop]
theorem rows_reps {α : Type} {R : α → List Value → Prop} {enc : α → List Value} {sz : Nat} (hR : ∀ x, R x (enc x)) (hl : ∀ x, (enc x).length = sz) : ∀ (xs : List α), Reps R sz xs (xs.flatMap enc)
 | [] => Reps.none _ _
 | x :: r => Reps.front (hR x) (hl x) (rows_reps hR hl r) rfl
theorem rows_len {α : Type} {enc : α → List Value} {sz : Nat} (hl : ∀ x, (enc x).length = sz) : ∀ (xs : List α), (xs.flatMap enc).length = xs.length * sz
 | [] => by simp
 | x :: r => by rw [List.flatMap_cons, List.length_append, hl, rows_len hl r, List.length_cons, Nat.succ_mul, Nat.add_comm]
theorem rows_take {α : Type} {enc : α → List Value} {sz : Nat} (hl : ∀ x, (enc x).length = sz) : ∀ (xs : List α) (i : Nat), (xs.flatMap enc).take (i * sz) = (xs.take i).flatMap enc
 | [], i => by simp
 | x :: r, 0 => by simp
 | x :: r, i + 1 => by
  rw [List.flatMap_cons, List.take_succ_cons, List.flatMap_cons, ← rows_take hl r i, Nat.succ_mul, Nat.add_comm (i * sz), ← hl x, List.take_append, List.take_of_length_le (by omega), Nat.add_sub_cancel_left]
theorem rows_drop {α : Type} {enc : α → List Value} {sz : Nat} (hl : ∀ x, (enc x).length = sz) : ∀ (xs : List α) (i : Nat), (xs.flatMap enc).drop (i * sz) = (xs.drop i).flatMap enc
 | [], i => by simp
 | x :: r, 0 => by simp
 | x :: r, i + 1 => by
  rw [List.flatMap_cons, List.drop_succ_cons, ← rows_drop hl r i, Nat.succ_mul, Nat.add_comm (i * sz), ← hl x, List.drop_append, List.drop_of_length_le (by omega), Nat.add_sub_cancel_left, List.nil_append]
theorem flat_own {α : Type} {d : Kd α} {enc : α → List Value} (hf : ∀ {w : World} {base : Nat} {ok : Nat → Prop} {x : α} {cs : List Value}, d.M w base ok x cs → cs = enc x) {e base : Nat} {ok : Nat → Prop} {w : World} {v : Value} {xs : List α} (h : d.R e w base ok v xs) : w.ownsRow base e d.sz v xs.length (xs.flatMap enc) := by
 obtain ⟨h0, inner, ho, hr⟩ := h
 rwa [rows_inner (fun _ _ h => hf h) xs inner hr] at ho
theorem own_flat {α : Type} {d : Kd α} {enc : α → List Value} (hm : ∀ (w : World) (base : Nat) (ok : Nat → Prop) (x : α), d.M w base ok x (enc x)) (hl : ∀ x, (enc x).length = d.sz) {e base : Nat} {ok : Nat → Prop} {w : World} {v : Value} {xs : List α} (ho : w.ownsRow base e d.sz v xs.length (xs.flatMap enc)) (h0 : ∀ k, v.ownBlock = some k → ok k) : d.R e w base ok v xs :=
 ⟨h0, _, ho, rows_reps (fun x => hm _ _ _ x) hl xs⟩
theorem own_opened {w : World} {base sz g n c : Nat} {e : TypeId} {cs : List Value} (h : w.ownsRow base e sz (.slice (some ⟨g, 0, none⟩) n c) n cs) : ∃ cur, w.heap[g]? = some (.cells cur e (0, 0)) ∧ base ≤ g ∧ n ≤ c ∧ c ≤ maxLen ∧ cur.size = c * sz ∧ cur.toList.take (n * sz) = cs := by
 rcases h.2 with ⟨h2, _⟩ | ⟨g', cap, cur, he, hb, hh, hn, hm, hs, ht⟩
 ·cases h2
 ·injection he with h1 h2 h3
  injection h1 with h1
  injection h1 with h1
  subst h1 h3
  exact ⟨cur, hh, hb, hn, hm, hs, ht⟩
/-- Cells behind the elements have been written: the row is as it was. -/
theorem own_beyond {w : World} {base sz g n c o : Nat} {e : TypeId} {cs vs : List Value} (h : w.ownsRow base e sz (.slice (some ⟨g, 0, none⟩) n c) n cs) (ho : n * sz ≤ o) (hc : o + vs.length ≤ c * sz) : (w.setCells g o vs).ownsRow base e sz (.slice (some ⟨g, 0, none⟩) n c) n cs := by
 obtain ⟨cur, hh, hb, hn, hm, hs, ht⟩ := own_opened h
 obtain ⟨cur', h3, h4, h5⟩ := setCells_row vs o w cur hh (by omega)
 refine ⟨h.1, .inr ⟨g, c, cur', rfl, hb, h3, hn, hm, by rw [h4, hs], ?_⟩⟩
 rw [h5, List.append_assoc, List.take_append_of_le_length (qq16), List.take_take, Nat.min_eq_left ho, ht]
/-- One element put in at i: what stood from i on has been moved up by one, then the element written. -/
theorem own_put_in {α : Type} {enc : α → List Value} {w : World} {base sz g n c i : Nat} {e : TypeId} {xs : List α} {f : α} (hl : ∀ x, (enc x).length = sz) (hn : xs.length = n) (h : w.ownsRow base e sz (.slice (some ⟨g, 0, none⟩) n c) n (xs.flatMap enc)) (hi : i ≤ n) (hr : n + 1 ≤ c) :
  ((w.setCells g ((i + 1) * sz) ((xs.drop i).flatMap enc)).setCells g (i * sz) (enc f)).ownsRow base e sz (.slice (some ⟨g, 0, none⟩) (n + 1) c) (n + 1) ((xs.take i ++ f :: xs.drop i).flatMap enc) := by
 obtain ⟨cur, hh, hb, _, hm, hs, ht⟩ := own_opened h
 have e1 : ((xs.drop i).flatMap enc).length = (n - i) * sz := by rw [rows_len hl, List.length_drop, hn]
 have e2 : (i + 1) * sz + (n - i) * sz = (n + 1) * sz := by rw [← Nat.add_mul]; congr 1; omega
 have e3 : (n + 1) * sz ≤ c * sz := Nat.mul_le_mul_right _ hr
 have e4 : i * sz + sz = (i + 1) * sz := by rw [Nat.succ_mul]
 have e5 : i * sz ≤ n * sz := Nat.mul_le_mul_right _ hi
 obtain ⟨cur1, h3, h4, h5⟩ := setCells_row ((xs.drop i).flatMap enc) ((i + 1) * sz) w cur hh (by omega)
 obtain ⟨cur2, h6, h7, h8⟩ := setCells_row (enc f) (i * sz) (w.setCells g ((i + 1) * sz) ((xs.drop i).flatMap enc)) cur1 h3 (by rw [hl]; omega)
 refine ⟨by rw [rows_len hl]; congr 1; simp [hn]; omega, .inr ⟨g, c, cur2, rfl, hb, h6, hr, hm, by rw [h7, h4, hs], ?_⟩⟩
 have k1 : cur1.toList.take (i * sz) = (xs.take i).flatMap enc := by
  rw [h5, List.append_assoc, List.take_append_of_le_length (qq16), List.take_take, Nat.min_eq_left (by omega), ← rows_take hl, ← ht, List.take_take, Nat.min_eq_left e5]
 have k2 : cur1.toList.drop (i * sz + (enc f).length) = (xs.drop i).flatMap enc ++ cur.toList.drop ((i + 1) * sz + ((xs.drop i).flatMap enc).length) := by
  rw [h5, hl, e4, List.append_assoc, List.drop_append_of_le_length (qq16), List.drop_of_length_le (by rw [List.length_take]; omega), List.nil_append]
 rw [h8, k1, k2, List.flatMap_append, List.flatMap_cons, ← List.append_assoc, ← List.append_assoc]
 refine List.take_left' ?_
 rw [List.length_append, List.length_append, rows_len hl, hl, e1, List.length_take, hn, Nat.min_eq_left hi]
 omega
/-- A new block, what stood ahead of i laid in it: the element written at i, what stood from i on behind it. -/
theorem own_put_new {α : Type} {enc : α → List Value} {w : World} {base sz g n c i : Nat} {e : TypeId} {cur : Array Value} {xs : List α} {f : α} (hl : ∀ x, (enc x).length = sz) (hn : xs.length = n) (hh : w.heap[g]? = some (.cells cur e (0, 0))) (hb : base ≤ g) (hm : c ≤ maxLen) (hs : cur.size = c * sz) (ht : cur.toList.take (i * sz) = (xs.take i).flatMap enc) (hi : i ≤ n) (hr : n + 1 ≤ c) :
  ((w.setCells g (i * sz) (enc f)).setCells g ((i + 1) * sz) ((xs.drop i).flatMap enc)).ownsRow base e sz (.slice (some ⟨g, 0, none⟩) (n + 1) c) (n + 1) ((xs.take i ++ f :: xs.drop i).flatMap enc) := by
 have e1 : ((xs.drop i).flatMap enc).length = (n - i) * sz := by rw [rows_len hl, List.length_drop, hn]
 have e2 : (i + 1) * sz + (n - i) * sz = (n + 1) * sz := by rw [← Nat.add_mul]; congr 1; omega
 have e3 : (n + 1) * sz ≤ c * sz := Nat.mul_le_mul_right _ hr
 have e4 : i * sz + sz = (i + 1) * sz := by rw [Nat.succ_mul]
 have e5 : (i + 1) * sz ≤ (n + 1) * sz := Nat.mul_le_mul_right _ (by omega)
 obtain ⟨cur1, h3, h4, h5⟩ := setCells_row (enc f) (i * sz) w cur hh (by rw [hl]; omega)
 obtain ⟨cur2, h6, h7, h8⟩ := setCells_row ((xs.drop i).flatMap enc) ((i + 1) * sz) (w.setCells g (i * sz) (enc f)) cur1 h3 (by omega)
 refine ⟨by rw [rows_len hl]; congr 1; simp [hn]; omega, .inr ⟨g, c, cur2, rfl, hb, h6, hr, hm, by rw [h7, h4, hs], ?_⟩⟩
 have k1 : cur1.toList.take ((i + 1) * sz) = (xs.take i).flatMap enc ++ enc f := by
  rw [h5, ht, List.take_left']
  rw [List.length_append, rows_len hl, hl, List.length_take, hn, Nat.min_eq_left hi, e4]
 rw [h8, k1, List.flatMap_append, List.flatMap_cons, ← List.append_assoc]
 refine List.take_left' ?_
 rw [List.length_append, List.length_append, rows_len hl, hl, e1, List.length_take, hn, Nat.min_eq_left hi]
 omega
theorem run_copy_many {P : Program} (w : World) (dT sT ty elem : TypeId) (sz b o dLen dCap : Nat) (a : Addr) (sLen sCap m : Nat) (cs : List Value)
  (hu : P.underlying dT = some (.slice elem)) (hs : (P.info? elem).map (·.size) = some sz) (hm : m = Nat.min sLen dLen) (hl : cs.length = m * sz)
  (hsrc : ∀ j v, cs[j]? = some v → w.cell? (a.add j) = some v) (hc : ∀ j, j < cs.length → (w.cell? ⟨b, o + j, none⟩).isSome = true) (hf : ∀ j, j < cs.length → w.frozen? ⟨b, o + j, none⟩ = false) (h1 : ∀ v ∈ cs, v.oneCell' = true) :
  (Builtin.copy_ #[dT, sT] ty #[.slice (some ⟨b, o, none⟩) dLen dCap, .slice (some a) sLen sCap]).run P w = .ok (goInt m) (w.setCells b o cs) := by
 have hl' := run_loadCells_list (P := P) w a cs hsrc
 have hst := run_storeCells_cells (P := P) b o cs 0 w (by simpa using hc) (by simpa using hf) h1
 cases hq : P.info? elem with
 | none => simp [hq] at hs
 | some i =>
  have hi : i.size = sz := by simpa [hq] using hs
  simp [Builtin.copy_, run_underlying hu, Builtin.lenOf, Builtin.firstCells, sizeOf, typeInfo, hq, hi, ← hm, ← hl, hl', hst]
theorem run_clear_many {P : Program} (w : World) (t e ty : TypeId) (z : Value) (ht : P.underlying t = some (.slice e)) (hv : ∀ w, (zeroValue e).run P w = .ok z w) (b o n c : Nat) (hn : 0 < n) (zs : List Value) (hz : (Builtin.zeroCells z.cells n).toList = zs)
  (hc : ∀ j, j < zs.length → (w.cell? ⟨b, o + j, none⟩).isSome = true) (hf : ∀ j, j < zs.length → w.frozen? ⟨b, o + j, none⟩ = false) (h1 : ∀ v ∈ zs, v.oneCell' = true) :
  (Builtin.clear_ #[t] ty #[.slice (some ⟨b, o, none⟩) n c]).run P w = .ok (.tuple #[]) (w.setCells b o zs) := by
 have hst := run_storeCells_cells (P := P) b o zs 0 w (by simpa using hc) (by simpa using hf) h1
 simp only [Nat.add_zero] at hst
 obtain ⟨m, rfl⟩ : ∃ m, n = m + 1 := ⟨n - 1, by omega⟩
 simp [Builtin.clear_, run_underlying ht, hv, hz, hst]
theorem grown_setCells (w : World) (g o : Nat) (vs : List Value) : w.grownBy (w.setCells g o vs) (some g) := by
 obtain ⟨s1, s2, s3, s4⟩ := setCells_same g vs o w
 exact ⟨s1, s2, s3, by rw [s4]; exact Nat.le_refl _, fun k _ hk => setCells_far vs _ k (fun he => hk (by rw [he]))⟩
/-- The zero cells of n structs of six whole numbers. -/
theorem zeros6 (n : Nat) : (Builtin.zeroCells (Value.agg #[.int .i64 0, .int .i64 0, .int .i64 0, .int .i64 0, .int .i64 0, .int .i64 0]).cells n).toList = List.replicate (n * 6) (.int .i64 0) := by
 rw [List.eq_replicate_iff]
 refine ⟨by simp [Builtin.zeroCells, Value.cells], fun b hb => ?_⟩
 simp only [Builtin.zeroCells, Value.cells, Array.toList_map, List.mem_map] at hb
 obtain ⟨i, _, rfl⟩ := hb
 show (#[Value.int .i64 0, .int .i64 0, .int .i64 0, .int .i64 0, .int .i64 0, .int .i64 0] : Array Value)[i % 6]! = _
 obtain h | h | h | h | h | h : i % 6 = 0 ∨ i % 6 = 1 ∨ i % 6 = 2 ∨ i % 6 = 3 ∨ i % 6 = 4 ∨ i % 6 = 5 := by omega
 all_goals (rw [h]; rfl)
theorem put_in_len {α : Type} (xs : List α) (i : Nat) (f : α) (h : i ≤ xs.length) : (xs.take i ++ f :: xs.drop i).length = xs.length + 1 := by
 rw [List.length_append, List.length_take, List.length_cons, List.length_drop]
 omega
theorem own_drew {w : World} {base sz n : Nat} {e : TypeId} {v : Value} {xs : List Value} (h : w.ownsRow base e sz v n xs) : w.drew.ownsRow base e sz v n xs := own_move h (fun _ _ => rfl)
theorem drew_cells (w : World) (b o : Nat) (vs : List Value) : w.drew.setCells b o vs = (w.setCells b o vs).drew := (drew_setCells b vs o w).symm
theorem grown_drew_cells (w : World) (g o : Nat) (vs : List Value) : w.grownBy (w.drew.setCells g o vs) (some g) := by
 have h := grown_setCells w.drew g o vs
 exact ⟨h.os, h.tape, h.output, h.size, h.block⟩
def impl_Fact_41.f (l0 : List S26) (a1 : Int) (l2 : List S26) : Option (List S26) := if l2.length = 1 then (if 0 ≤ a1 then (if a1 ≤ (l0.length : Int) then (if l0.length ≤ 1000000 then some (l0.take a1.toNat ++ l2 ++ l0.drop a1.toNat) else none) else none) else none) else none
theorem impl_Fact_41.cut_lo {P : Program} {t e : TypeId} {sz : Nat} (ht : P.underlying t = some (.slice e)) (hs : (P.info? e).map (·.size) = some sz) (g n c m : Nat) (a : Int) (ha : a = (m : Int)) (h1 : m ≤ n) (hc : ¬ c = m) :
  ∀ W : World, (Instr.slice t (.slice (some ⟨g, 0, none⟩) n c) (some (.int .i64 a)) none none).run P W = .ok (.slice (some ⟨g, m * sz, none⟩) (n - m) (c - m)) W := by
 intro W
 subst ha
 obtain ⟨q, hq, rfl⟩ := Option.map_eq_some_iff.1 hs
 have hel : P.elem t = e := by simp [Program.elem, ht]
 have hu : P.underlying t = some (.slice (P.elem t)) := by rw [hel]; exact ht
 rw [run_slice_l W t (some ⟨g, 0, none⟩) n c hu .i64 (m : Int) (Int.natCast_nonneg _) (by omega), hel]
 simp [sizeOf, typeInfo, hq, sliced, Result.andThen, hc, Addr.add]
 first | done | exact fun h => h.symm
theorem impl_Fact_41.cut_hi {P : Program} {t e : TypeId} {sz : Nat} (ht : P.underlying t = some (.slice e)) (hs : (P.info? e).map (·.size) = some sz) (g n c m : Nat) (a : Int) (ha : a = (m : Int)) (h1 : m ≤ c) :
  ∀ W : World, (Instr.slice t (.slice (some ⟨g, 0, none⟩) n c) none (some (.int .i64 a)) none).run P W = .ok (.slice (some ⟨g, 0, none⟩) m c) W := by
 intro W
 subst ha
 obtain ⟨q, hq, rfl⟩ := Option.map_eq_some_iff.1 hs
 have hel : P.elem t = e := by simp [Program.elem, ht]
 have hu : P.underlying t = some (.slice (P.elem t)) := by rw [hel]; exact ht
 rw [run_slice_h W t (some ⟨g, 0, none⟩) n c hu .i64 (m : Int) (Int.natCast_nonneg _) (by omega), hel]
 simp [sizeOf, typeInfo, hq, sliced, Result.andThen, Addr.add]
theorem impl_Fact_41.cut_any {P : Program} {t e : TypeId} {sz : Nat} (ht : P.underlying t = some (.slice e)) (hs : (P.info? e).map (·.size) = some sz) (A : Option Addr) (n c m : Nat) (h1 : m ≤ n) :
  ∃ A', ∀ W : World, (Instr.slice t (.slice A n c) (some (.int .i64 (m : Int))) none none).run P W = .ok (.slice A' (n - m) (c - m)) W := by
 obtain ⟨q, hq, rfl⟩ := Option.map_eq_some_iff.1 hs
 refine ⟨if c = m then A else A.map (·.add (m * q.size)), fun W => ?_⟩
 have hel : P.elem t = e := by simp [Program.elem, ht]
 have hu : P.underlying t = some (.slice (P.elem t)) := by rw [hel]; exact ht
 rw [run_slice_l W t A n c hu .i64 (m : Int) (Int.natCast_nonneg _) (by omega), hel]
 simp [sizeOf, typeInfo, hq, sliced, Result.andThen]
theorem impl_Fact_41.enc_one (x : S26) : ∀ u ∈ ([.int .i64 x.f0, .int .i64 x.f1, .int .i64 x.f2, .int .i64 x.f3, .int .i64 x.f4, .int .i64 x.f5] : List Value), u.oneCell' = true := by simp [Value.oneCell']
set_option maxHeartbeats 8000000 in
set_option maxRecDepth 100000 in
theorem impl_Fact_41.at_end (P0_ : Nat → Prop) (A : Option Addr) (c : Nat) (l0 : List S26) (f : S26) (A2 : Option Addr) (c2 : Nat) (w0 w : World) (hB : Below w0.heap.size w0 w) (hO : Kd.R k26 26 w w0.heap.size P0_ (.slice A l0.length c) l0) (hC2 : Kd.C k26 w A2 1 [f]) (hl : l0.length ≤ 1000000) :
  Calls Try.prog 41 #[.slice A l0.length c, .int .i64 (l0.length : Int), .slice A2 1 c2] w fun e w' => ∃ v0_ : Value, e = .returned (v0_) ∧ Kd.R k26 26 w' w0.heap.size (fun k_ => (P0_ k_ ∨ w.heap.size ≤ k_)) v0_ (l0 ++ [f]) ∧ Below w0.heap.size w0 w' ∧ Kept w w' (fun k_ => P0_ k_) := by
 have hs6 : (Try.prog.info? 26).map (·.size) = some 6 := by kernel_rfl
 obtain ⟨A', hcut⟩ := impl_Fact_41.cut_any (P := Try.prog) Try.underlying24 hs6 A l0.length c l0.length (Nat.le_refl _)
 have HB := Aside0.mk hB
 have HO := Aside0.mk (Kd.R_mono (ok' := fun k_ => P0_ k_ ∨ w.heap.size ≤ k_) hO (fun _ hk => .inl hk))
 have HP := Aside0.mk hO.1
 have HC2 := Aside0.mk hC2
 have HL := Aside0.mk hl
 clear hB hO hC2 hl hs6
 go_enter Try.func41, Try.ntmps41
 go_wp2_with (first | ((with_reducible refine gate_builtin (b := .append) (xs := #[.tmp 23, .tmp 24]) rfl ?_); at_builtin; refine Kd.R_append_rows k26 (w0 := w0) w0.heap.size rfl (.tmp 23) (.tmp 24) 24 26 (.agg #[(.int .i64 0), (.int .i64 0), (.int .i64 0), (.int .i64 0), (.int .i64 0), (.int .i64 0)]) 48 rfl Try.underlying24 info26 rfl (by decide) (by omega) _ l0 [f] _ _ _ (fun k_ => P0_ k_ ∨ w.heap.size ≤ k_) (fun _ => False) rfl rfl HO.out HC2.out (fun _ _ h => h) (fun _ h => h.elim) (fun _ hk => .inr hk) HB.out HB.out.size ?aL ?_; (case aL => have := HL.out; omega); intro v1 w1 ho hb hg hat; have HO1 := Aside0.mk ho; have HB1 := Aside0.mk hb; have HK1 := Aside0.mk (Kept.of_grown hg (Kept.refl w (fun k_ => P0_ k_)) (fun k hk => .inl (HP.out k hk))); clear ho hb hg hat))
 go_ret
 exact ⟨_, rfl, HO1.out, HB1.out, HK1.out⟩
set_option maxHeartbeats 8000000 in
set_option maxRecDepth 100000 in
theorem impl_Fact_41.in_place (P0_ : Nat → Prop) (g c i vb c2 : Nat) (l0 : List S26) (f : S26) (w0 w : World) (hB : Below w0.heap.size w0 w) (hO : Kd.R k26 26 w w0.heap.size P0_ (.slice (some ⟨g, 0, none⟩) l0.length c) l0) (hi : i < l0.length) (hr : l0.length + 1 ≤ c) (hl : l0.length ≤ 1000000)
  (curv : Array Value) (hbv : w.heap[vb]? = some (.cells curv 26 (0, 0))) (hne : vb ≠ g) (hv : ∀ j v, ([.int .i64 f.f0, .int .i64 f.f1, .int .i64 f.f2, .int .i64 f.f3, .int .i64 f.f4, .int .i64 f.f5] : List Value)[j]? = some v → w.cell? ⟨vb, 0 + j, none⟩ = some v) :
  Calls Try.prog 41 #[.slice (some ⟨g, 0, none⟩) l0.length c, .int .i64 (i : Int), .slice (some ⟨vb, 0, none⟩) 1 c2] w fun e w' => ∃ v0_ : Value, e = .returned (v0_) ∧ Kd.R k26 26 w' w0.heap.size (fun k_ => (P0_ k_ ∨ w.heap.size ≤ k_)) v0_ (l0.take i ++ f :: l0.drop i) ∧ Below w0.heap.size w0 w' ∧ Kept w w' (fun k_ => P0_ k_) := by
 have hs6 : (Try.prog.info? 26).map (·.size) = some 6 := by kernel_rfl
 obtain ⟨n, hn⟩ : ∃ n, n = l0.length := ⟨_, rfl⟩
 rw [← hn] at hO hi hr hl ⊢
 have hw1 : wrap64 ((n : Int) + 1) = (n : Int) + 1 := by unfold wrap64; omega
 have hw2 : wrap64 ((i : Int) + 1) = (i : Int) + 1 := by unfold wrap64; omega
 have hw3 : IntKind.i64.wrap ((i : Int) + 1) = (i : Int) + 1 := by rw [IntKind.wrap_i64]; omega
 have hb1 : (0 : Int) ≤ (i : Int) + 1 := by omega
 have htn : ((i : Int) + 1).toNat = i + 1 := by omega
 have hb2 : ¬ (c = i + 1) := by omega
 have hb3 : (i : Int) ≤ (n : Int) + 1 := by omega
 have hb4 : ¬ (c = i) := by omega
 have hb5 : (i : Int) ≤ (n : Int) := by omega
 have hown := flat_own (d := k26) (enc := fun x => [.int .i64 x.f0, .int .i64 x.f1, .int .i64 x.f2, .int .i64 x.f3, .int .i64 x.f4, .int .i64 x.f5]) (fun h => k26_openM h) hO
 rw [← hn] at hown
 obtain ⟨cur, hh, hbg, hnc, hcm, hcs, htk⟩ := own_opened hown
 have hcs6 : cur.size = c * 6 := hcs
 have hcm' : c ≤ 9223372036854775807 := by unfold maxLen at hcm; exact hcm
 have hlen : ((l0.drop i).flatMap (fun x => ([.int .i64 x.f0, .int .i64 x.f1, .int .i64 x.f2, .int .i64 x.f3, .int .i64 x.f4, .int .i64 x.f5] : List Value))).length = (n - i) * 6 := by rw [rows_len (sz := 6) (fun _ => rfl), List.length_drop, ← hn]
 have hone : ∀ u ∈ (l0.drop i).flatMap (fun x => ([.int .i64 x.f0, .int .i64 x.f1, .int .i64 x.f2, .int .i64 x.f3, .int .i64 x.f4, .int .i64 x.f5] : List Value)), u.oneCell' = true := by
  intro u hu
  obtain ⟨x, _, hx⟩ := List.mem_flatMap.1 hu
  exact impl_Fact_41.enc_one x u hx
 have hin : i ≤ n := by omega
 have hcellsG : ∀ j, j < c * 6 → (w.cell? ⟨g, j, none⟩).isSome = true := fun j hj => by rw [cell_of_row w g _ cur 26 (0, 0) hh, Array.getElem?_eq_getElem (by omega)]; rfl
 have hsrc : ∀ j v, ((l0.drop i).flatMap (fun x => ([.int .i64 x.f0, .int .i64 x.f1, .int .i64 x.f2, .int .i64 x.f3, .int .i64 x.f4, .int .i64 x.f5] : List Value)))[j]? = some v → w.cell? ⟨g, i * 6 + j, none⟩ = some v := fun j v hj => by
  have h1 : j < (n - i) * 6 := by rw [← hlen]; exact (List.getElem?_eq_some_iff.1 hj).1
  rw [cell_of_row w g _ cur 26 (0, 0) hh, ← Array.getElem?_toList]
  rw [← rows_drop (sz := 6) (fun _ => rfl), List.getElem?_drop, ← htk, List.getElem?_take, if_pos (by show _ < n * 6; omega)] at hj
  exact hj
 have hE := own_put_in (enc := fun x => ([.int .i64 x.f0, .int .i64 x.f1, .int .i64 x.f2, .int .i64 x.f3, .int .i64 x.f4, .int .i64 x.f5] : List Value)) (w := w) (f := f) (i := i) (sz := 6) (fun _ => rfl) hn.symm hown hin hr
 have hz2 : ¬ ((i : Int) = (n : Int)) := by omega
 have hz2' : ((i : Int) == (n : Int)) = false := beq_eq_false_iff_ne.2 hz2
 have hz3 : ¬ ((c : Int) < (n : Int) + 1) := by omega
 have hz3' : decide ((c : Int) < (n : Int) + 1) = false := decide_eq_false hz3
 have hc0 := impl_Fact_41.cut_lo (P := Try.prog) Try.underlying24 hs6 g n c i (i : Int) rfl hin (by omega)
 have hc1 := impl_Fact_41.cut_hi (P := Try.prog) Try.underlying24 hs6 g n c (n + 1) ((n : Int) + 1) (by omega) hr
 have hc2 := impl_Fact_41.cut_lo (P := Try.prog) Try.underlying24 hs6 g (n + 1) c (i + 1) ((i : Int) + 1) (by omega) (by omega) (by omega)
 have hc3 := impl_Fact_41.cut_lo (P := Try.prog) Try.underlying24 hs6 g (n + 1) c i (i : Int) rfl (by omega) (by omega)
 have hsz : ∀ w, (Go.sizeOf 26).run Try.prog w = .ok 6 w := by
  obtain ⟨q, hq, hq6⟩ := Option.map_eq_some_iff.1 hs6
  intro w
  simp [Go.sizeOf, typeInfo, hq, hq6]
 have hov : ∀ la lb cb, (callFunc 64 #[.slice (some ⟨vb, 0, none⟩) 1 la, .slice (some ⟨g, (i + 1) * 6, none⟩) lb cb]).run Try.prog w = .ok (.value (.bool false)) w := fun la lb cb => by
  rw [run_callFunc_extern Try.func64 (by kernel_rfl) (by kernel_rfl) (by kernel_rfl) (e := Extern.SlicesOverlaps.overlaps #[24, 24] #[4]) (by kernel_rfl),
   Lib.run_overlaps_apart w 24 4 26 Try.underlying24 6 hsz ⟨vb, 0, none⟩ ⟨g, (i + 1) * 6, none⟩ 1 la lb cb hne 26 26 curv.size cur.size (by simp [World.shape?, hbv]) (by simp [World.shape?, hh]) (by omega) (blk_frozen hbv _) (blk_frozen hbv _)]
  rfl
 have hcp1 : ∀ ty dc sc, (Builtin.copy_ #[24, 24] ty #[.slice (some ⟨g, (i + 1) * 6, none⟩) (n - i) dc, .slice (some ⟨g, i * 6, none⟩) (n + 1 - i) sc]).run Try.prog w.drew = .ok (goInt (n - i : Nat)) (w.drew.setCells g ((i + 1) * 6) ((l0.drop i).flatMap (fun x => ([.int .i64 x.f0, .int .i64 x.f1, .int .i64 x.f2, .int .i64 x.f3, .int .i64 x.f4, .int .i64 x.f5] : List Value)))) := fun ty dc sc =>
  run_copy_many w.drew _ _ ty 26 6 g ((i + 1) * 6) (n - i) dc ⟨g, i * 6, none⟩ (n + 1 - i) sc (n - i) _ Try.underlying24 hs6 (qq17) hlen
   (fun j v hj => by rw [add_at]; exact hsrc j v hj)
   (fun j hj => by rw [hlen] at hj; exact hcellsG _ (by omega)) (fun j hj => blk_frozen (w := w.drew) hh _) hone
 obtain ⟨W1, hW1⟩ : ∃ W1, W1 = w.drew.setCells g ((i + 1) * 6) ((l0.drop i).flatMap (fun x => ([.int .i64 x.f0, .int .i64 x.f1, .int .i64 x.f2, .int .i64 x.f3, .int .i64 x.f4, .int .i64 x.f5] : List Value))) := ⟨_, rfl⟩
 obtain ⟨cur1, hh1, hcs1, _⟩ := setCells_row ((l0.drop i).flatMap (fun x => ([.int .i64 x.f0, .int .i64 x.f1, .int .i64 x.f2, .int .i64 x.f3, .int .i64 x.f4, .int .i64 x.f5] : List Value))) ((i + 1) * 6) w.drew cur hh (by rw [hlen]; omega)
 rw [← hW1] at hh1
 have hcp2 : ∀ (W : World), (∀ x, W.cell? x = W1.cell? x) → (∀ x, W.frozen? x = W1.frozen? x) → ∀ ty dc, (Builtin.copy_ #[24, 24] ty #[.slice (some ⟨g, i * 6, none⟩) (n + 1 - i) dc, .slice (some ⟨vb, 0, none⟩) 1 c2]).run Try.prog W = .ok (goInt (1 : Nat)) (W.setCells g (i * 6) [.int .i64 f.f0, .int .i64 f.f1, .int .i64 f.f2, .int .i64 f.f3, .int .i64 f.f4, .int .i64 f.f5]) := fun W hWc hWf ty dc =>
  run_copy_many W _ _ ty 26 6 g (i * 6) (n + 1 - i) dc ⟨vb, 0, none⟩ 1 c2 1 _ Try.underlying24 hs6 (qq17) rfl
   (fun j v hj => by
    rw [add_at, hWc, hW1, World.cell?_setCells_out g _ _ _ _ (fun h _ => absurd h hne)]
    exact hv j v hj)
   (fun j hj => by
    have hj6 : j < 6 := hj
    rw [hWc, cell_of_row W1 g _ cur1 26 (0, 0) hh1, Array.getElem?_eq_getElem (by omega)]
    rfl)
   (fun j hj => by rw [hWf]; exact blk_frozen hh1 _) (impl_Fact_41.enc_one f)
 rw [← hW1] at hcp1
 have hpg : P0_ g := hO.1 g rfl
 have hE' : (W1.setCells g (i * 6) [.int .i64 f.f0, .int .i64 f.f1, .int .i64 f.f2, .int .i64 f.f3, .int .i64 f.f4, .int .i64 f.f5]).ownsRow w0.heap.size 26 6 (.slice (some ⟨g, 0, none⟩) (n + 1) c) (n + 1) ((l0.take i ++ f :: l0.drop i).flatMap (fun x => ([.int .i64 x.f0, .int .i64 x.f1, .int .i64 x.f2, .int .i64 x.f3, .int .i64 x.f4, .int .i64 x.f5] : List Value))) := by
  rw [hW1, drew_cells, drew_cells]
  exact own_drew hE
 have hlr : (l0.take i ++ f :: l0.drop i).length = n + 1 := by rw [hn]; exact put_in_len l0 i f (by rw [← hn]; exact hin)
 have HR := Aside0.mk (own_flat (d := k26) (enc := fun x => ([.int .i64 x.f0, .int .i64 x.f1, .int .i64 x.f2, .int .i64 x.f3, .int .i64 x.f4, .int .i64 x.f5] : List Value)) (fun _ _ _ x => k26_mkM _ _ _ x) (fun _ => rfl) (ok := fun k_ => P0_ k_ ∨ w.heap.size ≤ k_) (v := .slice (some ⟨g, 0, none⟩) (n + 1) c) (xs := l0.take i ++ f :: l0.drop i) (by rw [hlr]; exact hE') (fun k hk => by injection hk with hk; rw [← hk]; exact .inl hpg))
 have hg1 : w.grownBy W1 (some g) := by rw [hW1]; exact grown_drew_cells w g _ _
 have hg2 := grown_setCells W1 g (i * 6) [.int .i64 f.f0, .int .i64 f.f1, .int .i64 f.f2, .int .i64 f.f3, .int .i64 f.f4, .int .i64 f.f5]
 have HKf := Aside0.mk (Kept.of_grown hg2 (Kept.of_grown hg1 (Kept.refl w (fun k_ => P0_ k_)) (fun k hk => by injection hk with hk; rw [← hk]; exact .inl hpg)) (fun k hk => by injection hk with hk; rw [← hk]; exact .inl hpg))
 have HBf := Aside0.mk ((hB.grown hg1 hB.size (fun k hk => by injection hk with hk; rw [← hk]; exact hbg)).grown hg2 (Nat.le_trans hB.size hg1.size) (fun k hk => by injection hk with hk; rw [← hk]; exact hbg))
 have HN := Aside0.mk hn
 clear hn hE hE' hlr hpg hB hg1 hg2 hown hh hbg hnc hcm hcs htk hcs6 hlen hone hcellsG hsrc hbv hsz hO hh1 hcs1 hs6 hW1 hv
 go_enter Try.func41, Try.ntmps41
 go_wp2_with (simp only [hov])
 go_region_law (refine step_copy_runI rfl _ _ 24 24 rfl _ _ (qq18) (qq18) (hcp1 _ _ _) ?_)
 go_wp2_with (at_builtin; refine wpList_copy_runI _ rfl _ _ 24 24 rfl _ _ rfl rfl (hcp2 _ (fun _ => rfl) (fun _ => rfl) _ _) ?_)
 go_ret
 exact ⟨_, rfl, HR.out, HBf.out, HKf.out⟩
set_option maxHeartbeats 8000000 in
set_option maxRecDepth 100000 in
theorem impl_Fact_41.grow (P0_ : Nat → Prop) (g c i vb c2 : Nat) (l0 : List S26) (f : S26) (w0 w : World) (hB : Below w0.heap.size w0 w) (hO : Kd.R k26 26 w w0.heap.size P0_ (.slice (some ⟨g, 0, none⟩) l0.length c) l0) (hi : i < l0.length) (hnc : l0.length ≤ c) (hr : c < l0.length + 1) (hl : l0.length ≤ 1000000)
  (hvw : vb < w.heap.size) (hv : ∀ j v, ([.int .i64 f.f0, .int .i64 f.f1, .int .i64 f.f2, .int .i64 f.f3, .int .i64 f.f4, .int .i64 f.f5] : List Value)[j]? = some v → w.cell? ⟨vb, 0 + j, none⟩ = some v) :
  Calls Try.prog 41 #[.slice (some ⟨g, 0, none⟩) l0.length c, .int .i64 (i : Int), .slice (some ⟨vb, 0, none⟩) 1 c2] w fun e w' => ∃ v0_ : Value, e = .returned (v0_) ∧ Kd.R k26 26 w' w0.heap.size (fun k_ => (P0_ k_ ∨ w.heap.size ≤ k_)) v0_ (l0.take i ++ f :: l0.drop i) ∧ Below w0.heap.size w0 w' ∧ Kept w w' (fun k_ => P0_ k_) := by
 have hs6 : (Try.prog.info? 26).map (·.size) = some 6 := by kernel_rfl
 obtain ⟨n, hn⟩ : ∃ n, n = l0.length := ⟨_, rfl⟩
 rw [← hn] at hO hi hnc hr hl ⊢
 have hw1 : wrap64 ((n : Int) + 1) = (n : Int) + 1 := by unfold wrap64; omega
 have hw2 : wrap64 ((i : Int) + 1) = (i : Int) + 1 := by unfold wrap64; omega
 have hw3 : IntKind.i64.wrap ((i : Int) + 1) = (i : Int) + 1 := by rw [IntKind.wrap_i64]; omega
 have hw4 : wrap64 ((n : Int) + 1 - (i : Int)) = (n : Int) + 1 - (i : Int) := by unfold wrap64; omega
 have hb1 : (0 : Int) ≤ (i : Int) + 1 := by omega
 have htn : ((i : Int) + 1).toNat = i + 1 := by omega
 have hb3 : (i : Int) ≤ (n : Int) + 1 := by omega
 have hb5 : (i : Int) ≤ (n : Int) := by omega
 have hci : ¬ (c = i) := by omega
 have hin : i ≤ n := by omega
 have hz2 : ¬ ((i : Int) = (n : Int)) := by omega
 have hz2' : ((i : Int) == (n : Int)) = false := beq_eq_false_iff_ne.2 hz2
 have hz3 : (c : Int) < (n : Int) + 1 := by omega
 have hz3' : decide ((c : Int) < (n : Int) + 1) = true := decide_eq_true hz3
 have hkk : (n : Int) + 1 - (i : Int) = ((n + 1 - i : Nat) : Int) := by omega
 have hik : i + (n + 1 - i) = n + 1 := by omega
 obtain ⟨G, hG⟩ : ∃ G, G = grownCap w (n + 1) c 26 := ⟨_, rfl⟩
 have hGn : n + 1 ≤ G := by rw [hG]; exact grownCap_ge w _ _ _
 have hGm : G ≤ maxLen := by rw [hG]; exact grownCap_le_maxLen w (n + 1) c 26 (by unfold maxLen; omega)
 have hGi : ¬ (G = i) := by omega
 have hGim : ¬ (G = i + 1) := by omega
 have hfit : Builtin.nextslicecap (n + 1) c * 48 ≤ 281474976710656 := growslice_fits hr (by omega)
 obtain ⟨i0, hi0, hinf⟩ := Option.map_eq_some_iff.1 info26
 simp only [Prod.mk.injEq] at hinf
 obtain ⟨hz0, hzs, hzb⟩ := hinf
 have hzs6 : i0.size = 6 := hzs
 have hown := flat_own (d := k26) (enc := fun x => [.int .i64 x.f0, .int .i64 x.f1, .int .i64 x.f2, .int .i64 x.f3, .int .i64 x.f4, .int .i64 x.f5]) (fun h => k26_openM h) hO
 rw [← hn] at hown
 obtain ⟨cur, hh, hbg, _, hcm, hcs, htk⟩ := own_opened hown
 have hgw : g < w.heap.size := blk_lt hh
 obtain ⟨F, hF⟩ : ∃ F, F = ([.int .i64 f.f0, .int .i64 f.f1, .int .i64 f.f2, .int .i64 f.f3, .int .i64 f.f4, .int .i64 f.f5] : List Value) := ⟨_, rfl⟩
 have hFl : F.length = 6 := by rw [hF]; rfl
 have hFo : ∀ u ∈ F, u.oneCell' = true := by rw [hF]; exact impl_Fact_41.enc_one f
 rw [← hF] at hv
 obtain ⟨T, hT⟩ : ∃ T, T = (l0.take i).flatMap (fun x => ([.int .i64 x.f0, .int .i64 x.f1, .int .i64 x.f2, .int .i64 x.f3, .int .i64 x.f4, .int .i64 x.f5] : List Value)) := ⟨_, rfl⟩
 obtain ⟨D, hD⟩ : ∃ D, D = (l0.drop i).flatMap (fun x => ([.int .i64 x.f0, .int .i64 x.f1, .int .i64 x.f2, .int .i64 x.f3, .int .i64 x.f4, .int .i64 x.f5] : List Value)) := ⟨_, rfl⟩
 have hTl : T.length = i * 6 := by rw [hT, rows_len (sz := 6) (fun _ => rfl), List.length_take, ← hn, Nat.min_eq_left hin]
 have hDl : D.length = (n - i) * 6 := by rw [hD, rows_len (sz := 6) (fun _ => rfl), List.length_drop, ← hn]
 have hone : ∀ u ∈ D, u.oneCell' = true := by
  intro u hu
  rw [hD] at hu
  obtain ⟨x, _, hx⟩ := List.mem_flatMap.1 hu
  exact impl_Fact_41.enc_one x u hx
 have hsrcT : ∀ j v, T[j]? = some v → w.cell? ⟨g, 0 + j, none⟩ = some v := fun j v hj => by
  have h1 : j < i * 6 := by rw [← hTl]; exact (List.getElem?_eq_some_iff.1 hj).1
  rw [cell_of_row w g _ cur 26 (0, 0) hh, ← Array.getElem?_toList, Nat.zero_add]
  rw [hT, ← rows_take (sz := 6) (fun _ => rfl), List.getElem?_take, if_pos h1, ← htk, List.getElem?_take, if_pos (by show _ < n * 6; omega)] at hj
  exact hj
 have hsrc : ∀ j v, D[j]? = some v → w.cell? ⟨g, i * 6 + j, none⟩ = some v := fun j v hj => by
  have h1 : j < (n - i) * 6 := by rw [← hDl]; exact (List.getElem?_eq_some_iff.1 hj).1
  rw [cell_of_row w g _ cur 26 (0, 0) hh, ← Array.getElem?_toList]
  rw [hD, ← rows_drop (sz := 6) (fun _ => rfl), List.getElem?_drop, ← htk, List.getElem?_take, if_pos (by show _ < n * 6; omega)] at hj
  exact hj
 have hold : (Builtin.firstCells i0.size i (.slice (some ⟨g, 0, none⟩) i c)).run Try.prog w.drew = .ok T.toArray w.drew := by
  rw [hzs6]
  exact run_firstCells_some w.drew 6 i ⟨g, 0, none⟩ i c T hTl (fun j v hj => by rw [add_at]; exact hsrcT j v hj)
 obtain ⟨ROW, hROW⟩ : ∃ ROW : Array Value, ROW = T.toArray ++ Builtin.zeroCells (.agg #[(.int .i64 0), (.int .i64 0), (.int .i64 0), (.int .i64 0), (.int .i64 0), (.int .i64 0)] : Value).cells (n + 1 - i) ++ Builtin.zeroCells (.agg #[(.int .i64 0), (.int .i64 0), (.int .i64 0), (.int .i64 0), (.int .i64 0), (.int .i64 0)] : Value).cells (G - (n + 1)) := ⟨_, rfl⟩
 have hrz : ∀ ty, (Builtin.append_ #[24, 3] ty #[.slice (some ⟨g, 0, none⟩) i c, .int .i64 ((n : Int) + 1 - (i : Int))]).run Try.prog w = .ok (.slice (some ⟨w.heap.size, 0, none⟩) (n + 1) G) (w.drew.alloc (.cells ROW 26)) := fun ty => by
  have h := Lib.run_append_grow_zeros w 24 3 ty 26 i0 _ .i64 .i64 Try.underlying24 Try.underlying3 hi0 hz0 (some ⟨g, 0, none⟩) i c T hold (n + 1 - i) (by omega) (by omega) (by omega) (by omega) (by rw [hzb]; omega) (by rw [hzb, hik]; exact hfit)
  rw [hik, ← hG, ← hROW] at h
  rw [hkk]
  exact h
 have hRs : ROW.size = G * 6 := by
  rw [hROW]
  simp only [Builtin.zeroCells, Value.cells, Array.size_append, Array.size_map, Array.size_range, List.size_toArray, hTl]
  show i * 6 + (n + 1 - i) * 6 + (G - (n + 1)) * 6 = G * 6
  omega
 have hRt : ROW.toList.take (i * 6) = T := by
  rw [hROW, Array.toList_append, Array.toList_append, List.append_assoc]
  exact List.take_left' hTl
 obtain ⟨W1, hW1⟩ : ∃ W1, W1 = w.drew.alloc (.cells ROW 26) := ⟨_, rfl⟩
 have hh1 : W1.heap[w.heap.size]? = some (.cells ROW 26 (0, 0)) := by rw [hW1]; exact heap_alloc_new w.drew _
 have hold1 : ∀ b j, b < w.heap.size → W1.cell? ⟨b, j, none⟩ = w.cell? ⟨b, j, none⟩ := fun b j hb => by rw [hW1]; exact World.cell?_alloc_past (w := w.drew) _ b j hb
 obtain ⟨cur1, hh2, hcs2, _⟩ := setCells_row F (i * 6) W1 ROW hh1 (by rw [hFl]; omega)
 have hcpA : ∀ (W : World), (∀ x, W.cell? x = W1.cell? x) → (∀ x, W.frozen? x = W1.frozen? x) → ∀ ty dc, (Builtin.copy_ #[24, 24] ty #[.slice (some ⟨w.heap.size, i * 6, none⟩) (n + 1 - i) dc, .slice (some ⟨vb, 0, none⟩) 1 c2]).run Try.prog W = .ok (goInt (1 : Nat)) (W.setCells w.heap.size (i * 6) F) := fun W hWc hWf ty dc =>
  run_copy_many W _ _ ty 26 6 w.heap.size (i * 6) (n + 1 - i) dc ⟨vb, 0, none⟩ 1 c2 1 _ Try.underlying24 hs6 (qq17) hFl
   (fun j v hj => by rw [add_at, hWc, hold1 vb _ hvw]; exact hv j v hj)
   (fun j hj => by
    have hj6 : j < 6 := by rw [← hFl]; exact hj
    rw [hWc, cell_of_row W1 w.heap.size _ ROW 26 (0, 0) hh1, Array.getElem?_eq_getElem (by omega)]
    rfl)
   (fun j hj => by rw [hWf]; exact blk_frozen hh1 _) hFo
 have hgN : g ≠ w.heap.size := by omega
 have hcpB : ∀ (W : World), (∀ x, W.cell? x = (W1.setCells w.heap.size (i * 6) F).cell? x) → (∀ x, W.frozen? x = (W1.setCells w.heap.size (i * 6) F).frozen? x) → ∀ ty dc sc, (Builtin.copy_ #[24, 24] ty #[.slice (some ⟨w.heap.size, (i + 1) * 6, none⟩) (n - i) dc, .slice (some ⟨g, i * 6, none⟩) (n - i) sc]).run Try.prog W = .ok (goInt (n - i : Nat)) (W.setCells w.heap.size ((i + 1) * 6) D) := fun W hWc hWf ty dc sc =>
  run_copy_many W _ _ ty 26 6 w.heap.size ((i + 1) * 6) (n - i) dc ⟨g, i * 6, none⟩ (n - i) sc (n - i) _ Try.underlying24 hs6 (qq17) hDl
   (fun j v hj => by
    rw [add_at, hWc, World.cell?_setCells_out w.heap.size _ _ _ _ (fun h _ => absurd h hgN), hold1 g _ hgw]
    exact hsrc j v hj)
   (fun j hj => by
    rw [hDl] at hj
    rw [hWc, cell_of_row _ w.heap.size _ cur1 26 (0, 0) hh2, Array.getElem?_eq_getElem (by omega)]
    rfl)
   (fun j hj => by rw [hWf]; exact blk_frozen hh2 _) hone
 have hE := own_put_new (enc := fun x => ([.int .i64 x.f0, .int .i64 x.f1, .int .i64 x.f2, .int .i64 x.f3, .int .i64 x.f4, .int .i64 x.f5] : List Value)) (w := W1) (base := w0.heap.size) (c := G) (f := f) (i := i) (sz := 6) (xs := l0) (fun _ => rfl) hn.symm hh1 (hB.size) hGm hRs (by rw [hRt, hT]) hin hGn
 have hlr : (l0.take i ++ f :: l0.drop i).length = n + 1 := by rw [hn]; exact put_in_len l0 i f (by rw [← hn]; exact hin)
 rw [← hD] at hE
 replace hE : ((W1.setCells w.heap.size (i * 6) F).setCells w.heap.size ((i + 1) * 6) D).ownsRow w0.heap.size 26 6 (.slice (some ⟨w.heap.size, 0, none⟩) (n + 1) G) (n + 1) ((l0.take i ++ f :: l0.drop i).flatMap (fun x => ([.int .i64 x.f0, .int .i64 x.f1, .int .i64 x.f2, .int .i64 x.f3, .int .i64 x.f4, .int .i64 x.f5] : List Value))) := by rw [hF]; exact hE
 have HR := Aside0.mk (own_flat (d := k26) (enc := fun x => ([.int .i64 x.f0, .int .i64 x.f1, .int .i64 x.f2, .int .i64 x.f3, .int .i64 x.f4, .int .i64 x.f5] : List Value)) (fun _ _ _ x => k26_mkM _ _ _ x) (fun _ => rfl) (ok := fun k_ => P0_ k_ ∨ w.heap.size ≤ k_) (v := .slice (some ⟨w.heap.size, 0, none⟩) (n + 1) G) (xs := l0.take i ++ f :: l0.drop i) (by rw [hlr]; exact hE) (fun k hk => by injection hk with hk; rw [← hk]; exact .inr (Nat.le_refl _)))
 have hg2 := grown_setCells W1 w.heap.size (i * 6) F
 have hg3 := grown_setCells (W1.setCells w.heap.size (i * 6) F) w.heap.size ((i + 1) * 6) D
 have hB1 : Below w0.heap.size w0 W1 := by rw [hW1]; exact (below_drew hB).alloc hB.size _
 have hK1 : Kept w W1 (fun k_ => P0_ k_) := by rw [hW1]; exact (Kept.drew (Kept.refl w _)).alloc _
 have HKf := Aside0.mk (Kept.of_grown hg3 (Kept.of_grown hg2 hK1 (fun k hk => by injection hk with hk; rw [← hk]; exact .inr (Nat.le_refl _))) (fun k hk => by injection hk with hk; rw [← hk]; exact .inr (Nat.le_refl _)))
 have HBf := Aside0.mk ((hB1.grown hg2 hB1.size (fun k hk => by injection hk with hk; rw [← hk]; exact hB.size)).grown hg3 (Nat.le_trans hB1.size hg2.size) (fun k hk => by injection hk with hk; rw [← hk]; exact hB.size))
 have hc0 := impl_Fact_41.cut_lo (P := Try.prog) Try.underlying24 hs6 g n c i (i : Int) rfl hin hci
 have hc1 := impl_Fact_41.cut_hi (P := Try.prog) Try.underlying24 hs6 g n c i (i : Int) rfl (by omega)
 have hc2 := impl_Fact_41.cut_lo (P := Try.prog) Try.underlying24 hs6 w.heap.size (n + 1) G i (i : Int) rfl (by omega) hGi
 subst hW1
 have hE1 : ∀ x, ((w.alloc (.cells ROW 26)).drew).cell? x = (w.drew.alloc (.cells ROW 26)).cell? x := fun x => rfl
 have hE2 : ∀ x, ((w.alloc (.cells ROW 26)).drew).frozen? x = (w.drew.alloc (.cells ROW 26)).frozen? x := fun x => rfl
 have hF1 : ∀ x, (((w.alloc (.cells ROW 26)).drew.setCells w.heap.size (i * 6) F).drew).cell? x = ((w.drew.alloc (.cells ROW 26)).setCells w.heap.size (i * 6) F).cell? x := fun x => rfl
 have hF2 : ∀ x, (((w.alloc (.cells ROW 26)).drew.setCells w.heap.size (i * 6) F).drew).frozen? x = ((w.drew.alloc (.cells ROW 26)).setCells w.heap.size (i * 6) F).frozen? x := fun x => rfl
 have HN := Aside0.mk hn
 clear hn hF hFl hFo hE hlr hg2 hg3 hB1 hK1 hold1 hh1 hh2 hcs2 hgN hRs hRt hROW hold hsrc hsrcT hone hTl hDl hD hT hgw hh hbg hcm hcs htk hown hzs hzs6 hzb hz0 hi0 hfit hG hGn hGm hkk hik hO hB hv hvw hs6
 go_enter Try.func41, Try.ntmps41
 go_wp2_with (first
  | (at_builtin; refine Lib.wpList_append_run _ rfl _ _ _ _ rfl _ _ rfl rfl _ _ (hrz _) ?_)
  | (at_builtin; refine wpList_copy_runI _ rfl _ _ 24 24 rfl _ _ rfl rfl (hcpA _ hE1 hE2 _ _) ?_)
  | (at_builtin; refine wpList_copy_runI _ rfl _ _ 24 24 rfl _ _ rfl rfl (hcpB _ (fun _ => rfl) (fun _ => rfl) _ _ _) ?_))
 go_region_law (refine step_copy_runI rfl _ _ 24 24 rfl (.slice (some ⟨w.heap.size, (i + 1) * 6, none⟩) (n - i) (G - (i + 1))) (.slice (some ⟨g, i * 6, none⟩) (n - i) (c - i)) (qq18) (qq18) (hcpB _ hF1 hF2 3 (G - (i + 1)) (c - i)) ?_)
 go_wp2
 go_ret
 have e := drew_cells ((w.alloc (.cells ROW 26)).drew.setCells w.heap.size (i * 6) F) w.heap.size ((i + 1) * 6) D
 rw [e]
 exact ⟨_, rfl, Kd.R_drew HR.out, below_drew HBf.out, Kept.drew HKf.out⟩
set_option maxHeartbeats 8000000 in
set_option maxRecDepth 100000 in
theorem impl_Fact_41.calls (P0_ : Nat → Prop) (u9000_ : Value) (l0 : List S26) (a1 : Int) (A2 : Option Addr) (c2 : Nat) (l2 : List S26) (r : List S26) (w0 w : World) (hB : Below w0.heap.size w0 w) (ho0 : Kd.R k26 26 w w0.heap.size P0_ u9000_ l0) (hr2 : ∃ base2 ok2, Kd.R k26 26 w base2 ok2 (.slice A2 l2.length c2) l2 ∧ ∀ k_, ok2 k_ → ¬ P0_ k_) (hc2 : l2.length ≤ c2) (h : impl_Fact_41.f l0 a1 l2 = some r) :
  Calls Try.prog 41 #[u9000_, .int .i64 a1, .slice A2 l2.length c2] w fun e w' => ∃ v0_ : Value, e = .returned (v0_) ∧ Kd.R k26 26 w' w0.heap.size (fun k_ => (P0_ k_ ∨ w.heap.size ≤ k_)) v0_ r ∧ Below w0.heap.size w0 w' ∧ Kept w w' (fun k_ => P0_ k_) := by
 unfold impl_Fact_41.f at h
 by_cases c1 : l2.length = 1
 ·rw [if_pos c1] at h
  by_cases c2_ : 0 ≤ a1
  ·rw [if_pos c2_] at h
   by_cases c3 : a1 ≤ (l0.length : Int)
   ·rw [if_pos c3] at h
    by_cases c4 : l0.length ≤ 1000000
    ·rw [if_pos c4] at h
     obtain rfl := Option.some.inj h
     obtain ⟨f, rfl⟩ := List.length_eq_one_iff.1 c1
     obtain ⟨i, rfl⟩ := Int.eq_ofNat_of_zero_le c2_
     obtain ⟨base2, ok2, hR2, hap⟩ := hr2
     obtain ⟨vb, cv, hev, _, hvl, curv, hbv⟩ := Kd.R_form hR2 (by simp)
     injection hev with hA2 _ hcv
     subst hA2 hcv
     have hC2 := (Kd.R_reads' hR2).2.2
     have hin : i ≤ l0.length := by omega
     rw [Int.toNat_natCast, List.append_assoc, List.singleton_append]
     by_cases hend : i = l0.length
     ·subst hend
      obtain ⟨A, c, rfl⟩ := Kd.R_slice ho0
      rw [List.take_length, List.drop_length]
      exact impl_Fact_41.at_end P0_ A c l0 f (some ⟨vb, 0, none⟩) c2 w0 w hB ho0 hC2 c4
     ·have hi : i < l0.length := by omega
      obtain ⟨g, c, rfl, hbg, hgl, cells, hh⟩ := Kd.R_form ho0 (by omega)
      have hpg : P0_ g := ho0.1 g rfl
      have hov2 : ok2 vb := hR2.1 vb rfl
      have hne : vb ≠ g := fun e => hap vb hov2 (by rw [e]; exact hpg)
      have hv : ∀ j v, ([.int .i64 f.f0, .int .i64 f.f1, .int .i64 f.f2, .int .i64 f.f3, .int .i64 f.f4, .int .i64 f.f5] : List Value)[j]? = some v → w.cell? ⟨vb, 0 + j, none⟩ = some v := by
       obtain ⟨_, _, hcells⟩ := hC2
       obtain ⟨ad, had, hget⟩ := hcells (by simp)
       injection had with had
       subst had
       obtain ⟨ce, hcl, hK, hget2⟩ := hget 0 f rfl
       obtain rfl := k26_open hK
       intro j v hj
       have := hget2 j v hj
       rwa [Nat.zero_mul, Nat.zero_add, add_at] at this
      have hnc : l0.length ≤ c := by
       obtain ⟨A, c', he, hlc, _⟩ := Kd.R_reads ho0
       injection he with _ _ he
       omega
      by_cases hroom : l0.length + 1 ≤ c
      ·exact impl_Fact_41.in_place P0_ g c i vb c2 l0 f w0 w hB ho0 hi hroom c4 curv hbv hne hv
      ·exact impl_Fact_41.grow P0_ g c i vb c2 l0 f w0 w hB ho0 hi hnc (by omega) c4 hvl hv
    ·rw [if_neg c4] at h
     exact absurd h (by simp)
   ·rw [if_neg c3] at h
    exact absurd h (by simp)
  ·rw [if_neg c2_] at h
   exact absurd h (by simp)
 ·rw [if_neg c1] at h
  exact absurd h (by simp)
end Go.Proofs.Ythanecnkknimpaa.PFnStores
