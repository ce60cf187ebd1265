/- What this law reaches, as plain Lean functions, and the proofs that the machine's calls answer what they answer; laid by a program of this session over the kit's print, some functions by hand. Conditions: none beyond each theorem's own. -/
import Derived.Test.YthanecnkknimpaaPFnExactDropPastx0
namespace Go.Proofs.Ythanecnkknimpaa.PFnExactDropPast
open Go.RowKit Go.Proofs.YthanecnkknimpaaW.PrintWords Go.Proofs.YthanecnkknimpaaW.PrintLast Go.Proofs.YthanecnkknimpaaW.PrintMore
attribute [local go_sem] max2_int min2_int max_two min_two max_three min_three max_four min_four   -- for this text's walks alone
set_option linter.unusedVariables false
set_option linter.unusedSimpArgs false

/-! ### laws_szFactS: function 17 -/
def laws_szFactS.f (l0 : List (S50)) (a1 : Int) : Option (Int) := if (wrap64 (a1 - (l0.length : Int))) < 0 then (some (-1)) else (some (wrap64 (a1 - (l0.length : Int))))
set_option maxHeartbeats 8000000 in
set_option maxRecDepth 100000 in
theorem laws_szFactS.calls (A0 : Option Addr) (c0 : Nat) (l0 : List (S50)) (a1 : Int) (r : Int) (w : World) (hr0 : Kd.C k50 w A0 l0.length l0) (hc0 : l0.length ≤ c0) (h : laws_szFactS.f l0 a1 = some r) :
    Calls Try.prog 17 #[.slice A0 l0.length c0, .int .i64 a1] w fun e w' => e = .returned (.int .i64 r) ∧ Drawn0 w w' := by
  have HR0 := Aside0.mk hr0
  have HC0 := Aside0.mk hc0
  clear hr0 hc0
  have H : (if (wrap64 (a1 - (l0.length : Int))) < 0 then (some (-1)) else (some (wrap64 (a1 - (l0.length : Int))))) = some r := h
  clear h
  by_cases c3 : (wrap64 (a1 - (l0.length : Int))) < 0
  · rw [if_pos c3] at H
    have c3b0 : decide ((wrap64 (a1 - (l0.length : Int))) < 0) = true := decide_eq_true c3
    clear c3
    obtain rfl := Option.some.inj H
    go_enter Try.func17, Try.ntmps17
    go_wp2
    go_ret
    exact ⟨by first | rfl | (simp; done) | (simp [*]; done), by repeat (first | exact Drawn0.refl _ | apply Drawn0.step)⟩
  · rw [if_neg c3] at H
    have c3b0 : decide ((wrap64 (a1 - (l0.length : Int))) < 0) = false := decide_eq_false c3
    clear c3
    obtain rfl := Option.some.inj H
    go_enter Try.func17, Try.ntmps17
    go_wp2
    go_ret
    exact ⟨by first | rfl | (simp; done) | (simp [*]; done), by repeat (first | exact Drawn0.refl _ | apply Drawn0.step)⟩

/-! ### spec_DropPast: function 18 -/
def spec_DropPast.l0 : Nat → List (S26) → Int → List (S26) → Int → Option ((List (S26)))
  | 0, _, _, _, _ => none
  | k + 1, x0, x1, x5, x6 => if x6 < (x0.length : Int) then (if 0 ≤ x6 then (if ((rd_T26 x0 x6).f5) ≥ x1 then (if x5.length < 2932031007402 then (spec_DropPast.l0 k x0 x1 (x5 ++ [(⟨(rd_T26 x0 x6).f0, (rd_T26 x0 x6).f1, (rd_T26 x0 x6).f2, (rd_T26 x0 x6).f3, (rd_T26 x0 x6).f4, (rd_T26 x0 x6).f5⟩ : S26)]) (wrap64 (x6 + 1))) else (none)) else (spec_DropPast.l0 k x0 x1 x5 (wrap64 (x6 + 1)))) else (none)) else (some x5)
def spec_DropPast.f (k : Nat) (l0 : List (S26)) (a1 : Int) : Option ((List (S26))) := spec_DropPast.l0 k l0 a1 (([] : List (S26))) 0
theorem spec_DropPast.mono_l : ∀ k, (∀ y0 y1 y2 y3, LeO (spec_DropPast.l0 k y0 y1 y2 y3) (spec_DropPast.l0 (k + 1) y0 y1 y2 y3))
  | 0 => fun _ _ _ _ r h => by simp [spec_DropPast.l0] at h
  | k + 1 => by
    have ih0 := spec_DropPast.mono_l k
    · intro y0 y1 y2 y3
      unfold spec_DropPast.l0
      repeat' first
      | (with_reducible exact ih0 _ _ _ _)
      | (with_reducible exact LeO.refl _)
      | (with_reducible exact LeO.none _)
      | (with_reducible refine LeO.ite ?_ ?_)
      | (with_reducible refine LeO.bind ?_ (fun _ => ?_))
      | exact ih0 _ _ _ _
      | exact LeO.none _
      | refine LeO.ite ?_ ?_
      | refine LeO.bind ?_ (fun _ => ?_)
theorem spec_DropPast.mono : ∀ a0 a1 k, LeO (spec_DropPast.f k a0 a1) (spec_DropPast.f (k + 1) a0 a1) := by
  intro a0 a1 k
  have ih0 := spec_DropPast.mono_l k
  unfold spec_DropPast.f
  repeat' first
      | (with_reducible exact ih0 _ _ _ _)
      | (with_reducible exact LeO.refl _)
      | (with_reducible exact LeO.none _)
      | (with_reducible refine LeO.ite ?_ ?_)
      | (with_reducible refine LeO.bind ?_ (fun _ => ?_))
      | exact ih0 _ _ _ _
      | exact LeO.none _
      | refine LeO.ite ?_ ?_
      | refine LeO.bind ?_ (fun _ => ?_)
set_option maxHeartbeats 8000000 in
set_option maxRecDepth 100000 in
theorem spec_DropPast.calls (k : Nat) (A0 : Option Addr) (c0 : Nat) (l0 : List (S26)) (a1 : Int) (r : List (S26)) (w : World) (hr0 : Kd.C k26 w A0 l0.length l0) (hc0 : l0.length ≤ c0) (h : spec_DropPast.f k l0 a1 = some r) :
    Calls Try.prog 18 #[.slice A0 l0.length c0, .int .i64 a1] w fun e w' => ∃ v0_ : Value, e = .returned (v0_) ∧ Kd.R k26 26 w' w.heap.size (fun _ => True) v0_ r ∧ Below w.heap.size w w' := by
  have hu26 := Try.underlying26
  have HR0 := Aside0.mk hr0
  have HC0 := Aside0.mk hc0
  clear hr0 hc0
  have HB := Aside0.mk (Below.refl w.heap.size w)
  have H : (spec_DropPast.l0 k l0 a1 (([] : List (S26))) 0) = some r := h
  clear h
  obtain ⟨y101, hy101⟩ : ∃ y_ : List (S26), y_ = (([] : List (S26))) := ⟨_, rfl⟩
  replace H : (spec_DropPast.l0 k l0 a1 y101 0) = some r := by first | (rw [hy101]; with_reducible exact H) | (have H2_ := (Option.bind_some _ _).symm.trans H; rw [hy101]; with_reducible exact H2_) | (have H2_ := (Option.bind_some _ _).symm.trans H; with_reducible exact H2_) | with_reducible exact H | (rw [hy101]; exact H) | exact H
  have Ny101 := Aside0.mk hy101
  clear hy101
  have H' := Aside0.mk H
  clear H
  go_enter Try.func18, Try.ntmps18
  go_wp2_with (first | ((with_reducible refine gate_dst (N := 7) rfl ?_); refine Kd.R_lit k26 _ 26 ?hg (N := 7) ?hd (xs := ([] : List (S26))) (inner := []) (ok := fun _ => True) (okp := fun _ => True) ?hr ?hp (fun _ hk => hk) trivial (Below.refl _ _) (Nat.le_refl _) (by simp) ?_; (case hd => rfl); (case hg => rfl); (case hr => first | (go_simp; done) | (go_simp; rfl)); (case hp => exact (Reps.none _ _)); intro v102 w3 ho4 hb hg_ hnew_; clear hg_ hnew_; (first | rw [← Ny101.out] at ho4 | (simp only [Int.reduceToNat] at ho4; rw [← Ny101.out] at ho4)); have n0_ := Aside0.mk (Kd.R_lower ho4 (below_size (by repeat (first | (with_reducible first | exact HB.out | apply below_alloc | apply pw_below_drewN | apply below_drew1) | exact HB.out)))); have n1_ := Aside0.mk (below_step (by repeat (first | (with_reducible first | exact HB.out | apply below_alloc | apply pw_below_drewN | apply below_drew1) | exact HB.out)) hb); clear HB; have HO103 := n0_; have HB := n1_; clear n0_ n1_; clear hb ho4))
  go_loopg [5, 6] k (fun kq v5 v6 w' => ∃ (x5_1 : List (S26)) (x6_1 : Int), v6 = .int .i64 x6_1 ∧ Aside0 (spec_DropPast.l0 kq l0 a1 x5_1 x6_1 = some r) ∧ Aside0 (kq ≤ k) ∧ Aside0 (Kd.R k26 26 w' w.heap.size (fun _ => True) v5 x5_1) ∧ Aside0 (Below w.heap.size w w'))
  case atStart => exact ⟨(y101), (0), (by first | rfl | (simp; done) | (simp [*]; done)), H', ⟨Nat.le_refl _⟩, ⟨by (with_reducible repeat (first | apply Kd.R_alloc | apply Kd.R_drewN | apply Kd.R_drew)); exact HO103.out⟩, ⟨by repeat (first | (with_reducible first | exact HB.out | apply below_alloc | apply pw_below_drewN | apply below_drew1) | exact HB.out)⟩⟩
  case round =>
    clear H'
    try clear c1
    try clear p2
    obtain ⟨x5_1, x6_1, rfl, HA, HK1, HO_5, HB⟩ := hrel
    cases gk with
    | zero => exact absurd HA.out (by simp [spec_DropPast.l0])
    | succ k1 =>
      have H := HA.out
      clear HA
      simp only [spec_DropPast.l0] at H
      by_cases c5 : x6_1 < (l0.length : Int)
      · rw [if_pos c5] at H
        have c5b0 : decide (x6_1 < (l0.length : Int)) = true := decide_eq_true c5
        clear c5
        by_cases c6 : 0 ≤ x6_1
        · rw [if_pos c6] at H
          have c6b0 : decide (0 ≤ x6_1) = true := decide_eq_true c6
          clear c6
          by_cases c7 : ((rd_T26 l0 x6_1).f5) ≥ a1
          · rw [if_pos c7] at H
            have c7b0 : decide (a1 ≤ ((rd_T26 l0 x6_1).f5)) = true := decide_eq_true c7
            clear c7
            by_cases c8 : x5_1.length < 2932031007402
            · rw [if_pos c8] at H
              have LMc8 := Aside0.mk c8
              clear c8
              obtain ⟨y106, hy106⟩ : ∃ y_ : List (S26), y_ = (x5_1 ++ [(⟨(rd_T26 l0 x6_1).f0, (rd_T26 l0 x6_1).f1, (rd_T26 l0 x6_1).f2, (rd_T26 l0 x6_1).f3, (rd_T26 l0 x6_1).f4, (rd_T26 l0 x6_1).f5⟩ : S26)]) := ⟨_, rfl⟩
              replace H : (spec_DropPast.l0 k1 l0 a1 y106 (wrap64 (x6_1 + 1))) = some r := by first | (rw [hy106]; with_reducible exact H) | (have H2_ := (Option.bind_some _ _).symm.trans H; rw [hy106]; with_reducible exact H2_) | (have H2_ := (Option.bind_some _ _).symm.trans H; with_reducible exact H2_) | with_reducible exact H | (rw [hy106]; exact H) | exact H
              have Ny106 := Aside0.mk hy106
              clear hy106
              have H' := Aside0.mk H
              clear H
              have p104 : 0 ≤ (x6_1 : Int) := of_decide_eq_true (by first | (with_reducible assumption) | assumption)
              have q104 : x6_1 < (l0.length : Int) := of_decide_eq_true (by first | (with_reducible assumption) | assumption)
              obtain ⟨ad104, e104, hx104_0, hx104_1, hx104_2, hx104_3, hx104_4, hx104_5⟩ := at_T26 HR0.out x6_1 p104 q104
              cases e104
              replace hx104_0 := (HB.out.cell (World.block_lt_of_cell? w _ hx104_0)).trans hx104_0
              replace hx104_1 := (HB.out.cell (World.block_lt_of_cell? w _ hx104_1)).trans hx104_1
              replace hx104_2 := (HB.out.cell (World.block_lt_of_cell? w _ hx104_2)).trans hx104_2
              replace hx104_3 := (HB.out.cell (World.block_lt_of_cell? w _ hx104_3)).trans hx104_3
              replace hx104_4 := (HB.out.cell (World.block_lt_of_cell? w _ hx104_4)).trans hx104_4
              replace hx104_5 := (HB.out.cell (World.block_lt_of_cell? w _ hx104_5)).trans hx104_5
              replace p104 := eq_true p104
              replace q104 := eq_true q104
              have p105 : 0 ≤ (x6_1 : Int) := of_decide_eq_true (by first | (with_reducible assumption) | assumption)
              have q105 : x6_1 < (l0.length : Int) := of_decide_eq_true (by first | (with_reducible assumption) | assumption)
              obtain ⟨ad105, e105, hx105_0, hx105_1, hx105_2, hx105_3, hx105_4, hx105_5⟩ := at_T26 HR0.out x6_1 p105 q105
              obtain rfl : ad104 = ad105 := (by injection e105)
              replace hx105_0 := (HB.out.cell (World.block_lt_of_cell? w _ hx105_0)).trans hx105_0
              replace hx105_1 := (HB.out.cell (World.block_lt_of_cell? w _ hx105_1)).trans hx105_1
              replace hx105_2 := (HB.out.cell (World.block_lt_of_cell? w _ hx105_2)).trans hx105_2
              replace hx105_3 := (HB.out.cell (World.block_lt_of_cell? w _ hx105_3)).trans hx105_3
              replace hx105_4 := (HB.out.cell (World.block_lt_of_cell? w _ hx105_4)).trans hx105_4
              replace hx105_5 := (HB.out.cell (World.block_lt_of_cell? w _ hx105_5)).trans hx105_5
              replace p105 := eq_true p105
              replace q105 := eq_true q105
              go_wp2_with (first | ((with_reducible refine gate_builtin (b := .append) (xs := #[.tmp 21, .tmp 26]) rfl ?_); at_builtin; refine Kd.R_append k26 (w0 := w) w.heap.size rfl (.tmp 21) (.tmp 26) 24 26 (.agg #[(.int .i64 0), (.int .i64 0), (.int .i64 0), (.int .i64 0), (.int .i64 0), (.int .i64 0)]) 48 rfl Try.underlying24 info26 rfl (by decide) (by omega) u5 x5_1 (⟨(rd_T26 l0 x6_1).f0, (rd_T26 l0 x6_1).f1, (rd_T26 l0 x6_1).f2, (rd_T26 l0 x6_1).f3, (rd_T26 l0 x6_1).f4, (rd_T26 l0 x6_1).f5⟩ : S26) [.int .i64 ((rd_T26 l0 x6_1).f0), .int .i64 ((rd_T26 l0 x6_1).f1), .int .i64 ((rd_T26 l0 x6_1).f2), .int .i64 ((rd_T26 l0 x6_1).f3), .int .i64 ((rd_T26 l0 x6_1).f4), .int .i64 ((rd_T26 l0 x6_1).f5)] (fun _ => True) (fun _ => False) rfl rfl ?aP (fun _ hk => hk.elim) ?aF ?aO ?aB ?aS ?aL ?_; (case aP => exact k26_mkM _ _ _ (⟨(rd_T26 l0 x6_1).f0, (rd_T26 l0 x6_1).f1, (rd_T26 l0 x6_1).f2, (rd_T26 l0 x6_1).f3, (rd_T26 l0 x6_1).f4, (rd_T26 l0 x6_1).f5⟩ : S26)); (case aB => exact (by repeat (first | (with_reducible first | exact HB.out | apply below_alloc | apply pw_below_drewN | apply below_drew1) | exact HB.out))); (case aF => exact (fun _ _ => trivial)); (case aO => exact (by (with_reducible repeat (first | apply Kd.R_alloc | apply Kd.R_drewN | apply Kd.R_drew)); exact HO_5.out)); (case aS => exact (below_size (by repeat (first | (with_reducible first | exact HB.out | apply below_alloc | apply pw_below_drewN | apply below_drew1) | exact HB.out)))); (case aL => have := LMc8.out; omega); intro v107 w9 ho hb hg hat; rw [← Ny106.out] at ho; have n0_ := Aside0.mk (hb); have n1_ := Aside0.mk (ho); clear HB; clear HO_5; have HB := n0_; have HO108 := n1_; clear n0_ n1_; clear ho hb hg hat))
              go_roundg k1
              case measure => have := HK1.out; omega
              case rel => exact ⟨(y106), (wrap64 (x6_1 + 1)), (by first | rfl | (simp; done) | (simp [*]; done)), H', ⟨by have := HK1.out; omega⟩, ⟨by (with_reducible repeat (first | apply Kd.R_alloc | apply Kd.R_drewN | apply Kd.R_drew)); exact HO108.out⟩, ⟨by repeat (first | (with_reducible first | exact HB.out | apply below_alloc | apply pw_below_drewN | apply below_drew1) | exact HB.out)⟩⟩
            · rw [if_neg c8] at H
              exact absurd H (by simp)
          · rw [if_neg c7] at H
            have c7b0 : decide (a1 ≤ ((rd_T26 l0 x6_1).f5)) = false := decide_eq_false c7
            clear c7
            have H' := Aside0.mk H
            clear H
            have p104 : 0 ≤ (x6_1 : Int) := of_decide_eq_true (by first | (with_reducible assumption) | assumption)
            have q104 : x6_1 < (l0.length : Int) := of_decide_eq_true (by first | (with_reducible assumption) | assumption)
            obtain ⟨ad104, e104, hx104_0, hx104_1, hx104_2, hx104_3, hx104_4, hx104_5⟩ := at_T26 HR0.out x6_1 p104 q104
            cases e104
            replace hx104_0 := (HB.out.cell (World.block_lt_of_cell? w _ hx104_0)).trans hx104_0
            replace hx104_1 := (HB.out.cell (World.block_lt_of_cell? w _ hx104_1)).trans hx104_1
            replace hx104_2 := (HB.out.cell (World.block_lt_of_cell? w _ hx104_2)).trans hx104_2
            replace hx104_3 := (HB.out.cell (World.block_lt_of_cell? w _ hx104_3)).trans hx104_3
            replace hx104_4 := (HB.out.cell (World.block_lt_of_cell? w _ hx104_4)).trans hx104_4
            replace hx104_5 := (HB.out.cell (World.block_lt_of_cell? w _ hx104_5)).trans hx104_5
            replace p104 := eq_true p104
            replace q104 := eq_true q104
            go_wp2
            go_roundg k1
            case measure => have := HK1.out; omega
            case rel => exact ⟨(x5_1), (wrap64 (x6_1 + 1)), (by first | rfl | (simp; done) | (simp [*]; done)), H', ⟨by have := HK1.out; omega⟩, ⟨by (with_reducible repeat (first | apply Kd.R_alloc | apply Kd.R_drewN | apply Kd.R_drew)); exact HO_5.out⟩, ⟨by repeat (first | (with_reducible first | exact HB.out | apply below_alloc | apply pw_below_drewN | apply below_drew1) | exact HB.out)⟩⟩
        · rw [if_neg c6] at H
          exact absurd H (by simp)
      · rw [if_neg c5] at H
        have c5b0 : decide (x6_1 < (l0.length : Int)) = false := decide_eq_false c5
        clear c5
        obtain rfl := Option.some.inj H
        go_wp2
        go_ret
        exact ⟨_, by first | rfl | (simp [errW_none, errW_some] <;> rfl) | (simp [*, errW_none, errW_some] <;> rfl), by (with_reducible repeat (first | apply Kd.R_alloc | apply Kd.R_drewN | apply Kd.R_drew)); exact HO_5.out, by repeat (first | (with_reducible first | exact HB.out | apply below_alloc | apply pw_below_drewN | apply below_drew1) | exact HB.out)⟩

/-! ### laws_toFact: function 30 -/
def laws_toFact.f (a0_0 : Int) (a0_1 : Int) (a0_2 : Int) (a0_3 : Int) (a0_4 : Int) (a0_5 : Int) : Option (Int × Int × Int × Int × Int × Int) := some (a0_0, a0_1, a0_2, a0_3, a0_4, a0_5)
set_option maxHeartbeats 8000000 in
set_option maxRecDepth 100000 in
theorem laws_toFact.calls (a0_0 : Int) (a0_1 : Int) (a0_2 : Int) (a0_3 : Int) (a0_4 : Int) (a0_5 : Int) (r1 : Int) (r2 : Int) (r3 : Int) (r4 : Int) (r5 : Int) (r6 : Int) (w : World) (h : laws_toFact.f a0_0 a0_1 a0_2 a0_3 a0_4 a0_5 = some (r1, r2, r3, r4, r5, r6)) :
    Calls Try.prog 30 #[.agg #[.int .i64 a0_0, .int .i64 a0_1, .int .i64 a0_2, .int .i64 a0_3, .int .i64 a0_4, .int .i64 a0_5]] w fun e w' => e = .returned (.agg #[.int .i64 r1, .int .i64 r2, .int .i64 r3, .int .i64 r4, .int .i64 r5, .int .i64 r6]) ∧ Below w.heap.size w w' := by
  have hu50 := Try.underlying50
  have hu26 := Try.underlying26
  have HB := Aside0.mk (Below.refl w.heap.size w)
  have H : (some (a0_0, a0_1, a0_2, a0_3, a0_4, a0_5)) = some (r1, r2, r3, r4, r5, r6) := h
  clear h
  simp only [Option.some.injEq, Prod.mk.injEq] at H
  obtain ⟨rfl, rfl, rfl, rfl, rfl, rfl⟩ := H
  go_enter Try.func30, Try.ntmps30
  go_wp2_with (first | ((with_reducible refine gate_dst (N := 1) rfl ?_); refine box_event ?hg (N := 1) ?hd (cs := #[.int .i64 a0_0, .int .i64 a0_1, .int .i64 a0_2, .int .i64 a0_3, .int .i64 a0_4, .int .i64 a0_5]) (t := 50) ?hr ?_; (case hd => rfl); (case hg => rfl); (case hr => first | (go_simp; done) | (go_simp; rfl)); intro gb109 hg w2 hbox hb; have n0_ := Aside0.mk (below_step (by repeat (first | (with_reducible first | exact HB.out | apply below_alloc | apply pw_below_drewN | apply below_drew1) | exact HB.out)) hb); have n1_ := Aside0.mk (hbox); have n2_ := Aside0.mk ((by rw [hg]; exact (below_size (by repeat (first | (with_reducible first | exact HB.out | apply below_alloc | apply pw_below_drewN | apply below_drew1) | exact HB.out))) : w.heap.size ≤ gb109)); have n3_ := Aside0.mk ((by rw [hg]; exact (below_size (by repeat (first | (with_reducible first | exact HB.out | apply below_alloc | apply pw_below_drewN | apply below_drew1) | exact HB.out))) : w.heap.size ≤ gb109)); clear HB; have HB := n0_; have BK109 := n1_; have GW109 := n2_; have GE109 := n3_; clear n0_ n1_ n2_ n3_; clear hb hbox hg) | ((with_reducible refine gate_dst (N := 2) rfl ?_); refine box_event ?hg (N := 2) ?hd (cs := #[.int .i64 0, .int .i64 0, .int .i64 0, .int .i64 0, .int .i64 0, .int .i64 0]) (t := 26) ?hr ?_; (case hd => rfl); (case hg => rfl); (case hr => first | (go_simp; done) | (go_simp; rfl)); intro gb110 hg w3 hbox hb; have n0_ := Aside0.mk (blk_below (g := gb109) (o := .cells #[.int .i64 a0_0, .int .i64 a0_1, .int .i64 a0_2, .int .i64 a0_3, .int .i64 a0_4, .int .i64 a0_5] 50 (0, 0)) (by (with_reducible repeat (first | refine blk_drewN ?_ _ | refine blk_drew ?_ | refine blk_alloc ?_ _)); exact BK109.out) hb); have n1_ := Aside0.mk (below_step (by repeat (first | (with_reducible first | exact HB.out | apply below_alloc | apply pw_below_drewN | apply below_drew1 | refine below_set ?_ GE109.out) | exact HB.out)) hb); have n2_ := Aside0.mk (hbox); have n3_ := Aside0.mk ((by rw [hg]; exact (below_size (by repeat (first | (with_reducible first | exact HB.out | apply below_alloc | apply pw_below_drewN | apply below_drew1 | refine below_set ?_ GE109.out) | exact HB.out))) : w.heap.size ≤ gb110)); have n4_ := Aside0.mk ((by rw [hg]; exact (below_size (by repeat (first | (with_reducible first | exact HB.out | apply below_alloc | apply pw_below_drewN | apply below_drew1 | refine below_set ?_ GE109.out) | exact HB.out))) : w.heap.size ≤ gb110)); have n5_ := Aside0.mk ((by rw [hg]; exact Nat.ne_of_lt (blk_lt (g := gb109) (o := .cells #[.int .i64 a0_0, .int .i64 a0_1, .int .i64 a0_2, .int .i64 a0_3, .int .i64 a0_4, .int .i64 a0_5] 50 (0, 0)) (by (with_reducible repeat (first | refine blk_drewN ?_ _ | refine blk_drew ?_ | refine blk_alloc ?_ _)); exact BK109.out)) : gb109 ≠ gb110)); have n6_ := Aside0.mk ((by rw [hg]; exact Nat.ne_of_gt (blk_lt (g := gb109) (o := .cells #[.int .i64 a0_0, .int .i64 a0_1, .int .i64 a0_2, .int .i64 a0_3, .int .i64 a0_4, .int .i64 a0_5] 50 (0, 0)) (by (with_reducible repeat (first | refine blk_drewN ?_ _ | refine blk_drew ?_ | refine blk_alloc ?_ _)); exact BK109.out)) : gb110 ≠ gb109)); clear BK109; clear HB; have BK109 := n0_; have HB := n1_; have BK110 := n2_; have GW110 := n3_; have GE110 := n4_; have NB109_110 := n5_; have NB110_109 := n6_; clear n0_ n1_ n2_ n3_ n4_ n5_ n6_; clear hb hbox hg) | ((with_reducible refine gate_dst (N := 3) rfl ?_); refine box_event ?hg (N := 3) ?hd (cs := #[.int .i64 0, .int .i64 0, .int .i64 0, .int .i64 0, .int .i64 0, .int .i64 0]) (t := 26) ?hr ?_; (case hd => rfl); (case hg => rfl); (case hr => first | (go_simp; done) | (go_simp; rfl)); intro gb111 hg w4 hbox hb; have n0_ := Aside0.mk (blk_below (g := gb109) (o := .cells #[.int .i64 a0_0, .int .i64 a0_1, .int .i64 a0_2, .int .i64 a0_3, .int .i64 a0_4, .int .i64 a0_5] 50 (0, 0)) (by (with_reducible repeat (first | refine blk_drewN ?_ _ | refine blk_drew ?_ | refine blk_alloc ?_ _)); exact BK109.out) hb); have n1_ := Aside0.mk (blk_below (g := gb110) (o := .cells #[.int .i64 0, .int .i64 0, .int .i64 0, .int .i64 0, .int .i64 0, .int .i64 0] 26 (0, 0)) (by (with_reducible repeat (first | refine blk_drewN ?_ _ | refine blk_drew ?_ | refine blk_alloc ?_ _)); exact BK110.out) hb); have n2_ := Aside0.mk (below_step (by repeat (first | (with_reducible first | exact HB.out | apply below_alloc | apply pw_below_drewN | apply below_drew1 | refine below_set ?_ GE109.out | refine below_set ?_ GE110.out) | exact HB.out)) hb); have n3_ := Aside0.mk (hbox); have n4_ := Aside0.mk ((by rw [hg]; exact (below_size (by repeat (first | (with_reducible first | exact HB.out | apply below_alloc | apply pw_below_drewN | apply below_drew1 | refine below_set ?_ GE109.out | refine below_set ?_ GE110.out) | exact HB.out))) : w.heap.size ≤ gb111)); have n5_ := Aside0.mk ((by rw [hg]; exact (below_size (by repeat (first | (with_reducible first | exact HB.out | apply below_alloc | apply pw_below_drewN | apply below_drew1 | refine below_set ?_ GE109.out | refine below_set ?_ GE110.out) | exact HB.out))) : w.heap.size ≤ gb111)); have n6_ := Aside0.mk ((by rw [hg]; exact Nat.ne_of_lt (blk_lt (g := gb109) (o := .cells #[.int .i64 a0_0, .int .i64 a0_1, .int .i64 a0_2, .int .i64 a0_3, .int .i64 a0_4, .int .i64 a0_5] 50 (0, 0)) (by (with_reducible repeat (first | refine blk_drewN ?_ _ | refine blk_drew ?_ | refine blk_alloc ?_ _)); exact BK109.out)) : gb109 ≠ gb111)); have n7_ := Aside0.mk ((by rw [hg]; exact Nat.ne_of_gt (blk_lt (g := gb109) (o := .cells #[.int .i64 a0_0, .int .i64 a0_1, .int .i64 a0_2, .int .i64 a0_3, .int .i64 a0_4, .int .i64 a0_5] 50 (0, 0)) (by (with_reducible repeat (first | refine blk_drewN ?_ _ | refine blk_drew ?_ | refine blk_alloc ?_ _)); exact BK109.out)) : gb111 ≠ gb109)); have n8_ := Aside0.mk ((by rw [hg]; exact Nat.ne_of_lt (blk_lt (g := gb110) (o := .cells #[.int .i64 0, .int .i64 0, .int .i64 0, .int .i64 0, .int .i64 0, .int .i64 0] 26 (0, 0)) (by (with_reducible repeat (first | refine blk_drewN ?_ _ | refine blk_drew ?_ | refine blk_alloc ?_ _)); exact BK110.out)) : gb110 ≠ gb111)); have n9_ := Aside0.mk ((by rw [hg]; exact Nat.ne_of_gt (blk_lt (g := gb110) (o := .cells #[.int .i64 0, .int .i64 0, .int .i64 0, .int .i64 0, .int .i64 0, .int .i64 0] 26 (0, 0)) (by (with_reducible repeat (first | refine blk_drewN ?_ _ | refine blk_drew ?_ | refine blk_alloc ?_ _)); exact BK110.out)) : gb111 ≠ gb110)); clear BK109; clear BK110; clear HB; have BK109 := n0_; have BK110 := n1_; have HB := n2_; have BK111 := n3_; have GW111 := n4_; have GE111 := n5_; have NB109_111 := n6_; have NB111_109 := n7_; have NB110_111 := n8_; have NB111_110 := n9_; clear n0_ n1_ n2_ n3_ n4_ n5_ n6_ n7_ n8_ n9_; clear hb hbox hg; have hnb5 := NB109_110.out; have hnc5 := NB110_109.out; have hnb6 := NB109_111.out; have hnc6 := NB111_109.out; have hcz7_0 : w4.cell? ⟨gb109, 0, none⟩ = some (.int .i64 a0_0) := (blk_cell BK109.out 0).trans rfl; have hcz7_1 : w4.cell? ⟨gb109, 1, none⟩ = some (.int .i64 a0_1) := (blk_cell BK109.out 1).trans rfl; have hcz7_2 : w4.cell? ⟨gb109, 2, none⟩ = some (.int .i64 a0_2) := (blk_cell BK109.out 2).trans rfl; have hcz7_3 : w4.cell? ⟨gb109, 3, none⟩ = some (.int .i64 a0_3) := (blk_cell BK109.out 3).trans rfl; have hcz7_4 : w4.cell? ⟨gb109, 4, none⟩ = some (.int .i64 a0_4) := (blk_cell BK109.out 4).trans rfl; have hcz7_5 : w4.cell? ⟨gb109, 5, none⟩ = some (.int .i64 a0_5) := (blk_cell BK109.out 5).trans rfl; have hfz7_0 := blk_frozen BK109.out 0; have hfz7_1 := blk_frozen BK109.out 1; have hfz7_2 := blk_frozen BK109.out 2; have hfz7_3 := blk_frozen BK109.out 3; have hfz7_4 := blk_frozen BK109.out 4; have hfz7_5 := blk_frozen BK109.out 5; have hnb8 := NB111_110.out; have hnc8 := NB110_111.out; have hcz9_0 : w4.cell? ⟨gb111, 0, none⟩ = some (.int .i64 0) := (blk_cell BK111.out 0).trans rfl; have hcz9_1 : w4.cell? ⟨gb111, 1, none⟩ = some (.int .i64 0) := (blk_cell BK111.out 1).trans rfl; have hcz9_2 : w4.cell? ⟨gb111, 2, none⟩ = some (.int .i64 0) := (blk_cell BK111.out 2).trans rfl; have hcz9_3 : w4.cell? ⟨gb111, 3, none⟩ = some (.int .i64 0) := (blk_cell BK111.out 3).trans rfl; have hcz9_4 : w4.cell? ⟨gb111, 4, none⟩ = some (.int .i64 0) := (blk_cell BK111.out 4).trans rfl; have hcz9_5 : w4.cell? ⟨gb111, 5, none⟩ = some (.int .i64 0) := (blk_cell BK111.out 5).trans rfl; have hfz9_0 := blk_frozen BK111.out 0; have hfz9_1 := blk_frozen BK111.out 1; have hfz9_2 := blk_frozen BK111.out 2; have hfz9_3 := blk_frozen BK111.out 3; have hfz9_4 := blk_frozen BK111.out 4; have hfz9_5 := blk_frozen BK111.out 5; have hcz10_0 : w4.cell? ⟨gb110, 0, none⟩ = some (.int .i64 0) := (blk_cell BK110.out 0).trans rfl; have hcz10_1 : w4.cell? ⟨gb110, 1, none⟩ = some (.int .i64 0) := (blk_cell BK110.out 1).trans rfl; have hcz10_2 : w4.cell? ⟨gb110, 2, none⟩ = some (.int .i64 0) := (blk_cell BK110.out 2).trans rfl; have hcz10_3 : w4.cell? ⟨gb110, 3, none⟩ = some (.int .i64 0) := (blk_cell BK110.out 3).trans rfl; have hcz10_4 : w4.cell? ⟨gb110, 4, none⟩ = some (.int .i64 0) := (blk_cell BK110.out 4).trans rfl; have hcz10_5 : w4.cell? ⟨gb110, 5, none⟩ = some (.int .i64 0) := (blk_cell BK110.out 5).trans rfl; have hfz10_0 := blk_frozen BK110.out 0; have hfz10_1 := blk_frozen BK110.out 1; have hfz10_2 := blk_frozen BK110.out 2; have hfz10_3 := blk_frozen BK110.out 3; have hfz10_4 := blk_frozen BK110.out 4; have hfz10_5 := blk_frozen BK110.out 5))
  refine bodyPost_ret (results_cell_row rfl _ _ gb110 26 #[.int .i64 a0_0, .int .i64 a0_1, .int .i64 a0_2, .int .i64 a0_3, .int .i64 a0_4, .int .i64 a0_5] (0, 0) _ rfl (by (with_reducible repeat (first | refine blk_drewN ?_ _ | refine blk_drew ?_ | refine blk_alloc ?_ _)); refine blk_put (cs := #[.int .i64 a0_0, .int .i64 a0_1, .int .i64 a0_2, .int .i64 a0_3, .int .i64 a0_4, .int .i64 0]) ?_ 5 _ rfl; (with_reducible repeat (first | refine blk_drewN ?_ _ | refine blk_drew ?_ | refine blk_alloc ?_ _)); refine blk_put (cs := #[.int .i64 a0_0, .int .i64 a0_1, .int .i64 a0_2, .int .i64 a0_3, .int .i64 0, .int .i64 0]) ?_ 4 _ rfl; (with_reducible repeat (first | refine blk_drewN ?_ _ | refine blk_drew ?_ | refine blk_alloc ?_ _)); refine blk_put (cs := #[.int .i64 a0_0, .int .i64 a0_1, .int .i64 a0_2, .int .i64 0, .int .i64 0, .int .i64 0]) ?_ 3 _ rfl; (with_reducible repeat (first | refine blk_drewN ?_ _ | refine blk_drew ?_ | refine blk_alloc ?_ _)); refine blk_put (cs := #[.int .i64 a0_0, .int .i64 a0_1, .int .i64 0, .int .i64 0, .int .i64 0, .int .i64 0]) ?_ 2 _ rfl; (with_reducible repeat (first | refine blk_drewN ?_ _ | refine blk_drew ?_ | refine blk_alloc ?_ _)); refine blk_put (cs := #[.int .i64 a0_0, .int .i64 0, .int .i64 0, .int .i64 0, .int .i64 0, .int .i64 0]) ?_ 1 _ rfl; (with_reducible repeat (first | refine blk_drewN ?_ _ | refine blk_drew ?_ | refine blk_alloc ?_ _)); refine blk_put (cs := #[.int .i64 0, .int .i64 0, .int .i64 0, .int .i64 0, .int .i64 0, .int .i64 0]) ?_ 0 _ rfl; (with_reducible repeat (first | refine blk_drewN ?_ _ | refine blk_drew ?_ | refine blk_alloc ?_ _)); refine blk_far ?_ NB110_111.out _; (with_reducible repeat (first | refine blk_drewN ?_ _ | refine blk_drew ?_ | refine blk_alloc ?_ _)); refine blk_far ?_ NB110_111.out _; (with_reducible repeat (first | refine blk_drewN ?_ _ | refine blk_drew ?_ | refine blk_alloc ?_ _)); refine blk_far ?_ NB110_111.out _; (with_reducible repeat (first | refine blk_drewN ?_ _ | refine blk_drew ?_ | refine blk_alloc ?_ _)); refine blk_far ?_ NB110_111.out _; (with_reducible repeat (first | refine blk_drewN ?_ _ | refine blk_drew ?_ | refine blk_alloc ?_ _)); refine blk_far ?_ NB110_111.out _; (with_reducible repeat (first | refine blk_drewN ?_ _ | refine blk_drew ?_ | refine blk_alloc ?_ _)); refine blk_far ?_ NB110_111.out _; (with_reducible repeat (first | refine blk_drewN ?_ _ | refine blk_drew ?_ | refine blk_alloc ?_ _)); exact BK110.out) Try.underlying26 rfl (by kernel_rfl)) rfl ?_
  exact ⟨by first | rfl | (simp [errW_none, errW_some] <;> rfl) | (simp [*, errW_none, errW_some] <;> rfl), by repeat (first | (with_reducible first | exact HB.out | apply below_alloc | apply pw_below_drewN | apply below_drew1 | refine below_set ?_ GE109.out | refine below_set ?_ GE110.out | refine below_set ?_ GE111.out) | exact HB.out)⟩

/-! ### laws_toFactS: function 19 -/
def laws_toFactS.l0 : Nat → List (S50) → List (S26) → Int → Option ((List (S26)))
  | 0, _, _, _ => none
  | k + 1, x0, x3, x4 => if x4 < (x0.length : Int) then (if 0 ≤ x4 then ((laws_toFact.f ((rd_T50 x0 x4).f0) ((rd_T50 x0 x4).f1) ((rd_T50 x0 x4).f2) ((rd_T50 x0 x4).f3) ((rd_T50 x0 x4).f4) ((rd_T50 x0 x4).f5)).bind fun bt116 => (if x4 < (x3.length : Int) then (laws_toFactS.l0 k x0 (x3.set (x4 : Int).toNat (⟨bt116.1, bt116.2.1, bt116.2.2.1, bt116.2.2.2.1, bt116.2.2.2.2.1, bt116.2.2.2.2.2⟩ : S26)) (wrap64 (x4 + 1))) else (none))) else (none)) else (some x3)
def laws_toFactS.f (k : Nat) (l0 : List (S50)) : Option ((List (S26))) := if 0 ≤ (l0.length : Int) then (if ((l0.length : Int) : Int).toNat ≤ 5864062014805 then (laws_toFactS.l0 k l0 (List.replicate ((l0.length : Int) : Int).toNat z26) 0) else (none)) else (none)
theorem laws_toFactS.mono_l : ∀ k, (∀ y0 y1 y2, LeO (laws_toFactS.l0 k y0 y1 y2) (laws_toFactS.l0 (k + 1) y0 y1 y2))
  | 0 => fun _ _ _ r h => by simp [laws_toFactS.l0] at h
  | k + 1 => by
    have ih0 := laws_toFactS.mono_l k
    · intro y0 y1 y2
      unfold laws_toFactS.l0
      repeat' first
      | (with_reducible exact ih0 _ _ _)
      | (with_reducible exact LeO.refl _)
      | (with_reducible exact LeO.none _)
      | (with_reducible refine LeO.ite ?_ ?_)
      | (with_reducible refine LeO.bind ?_ (fun _ => ?_))
      | exact ih0 _ _ _
      | exact LeO.none _
      | refine LeO.ite ?_ ?_
      | refine LeO.bind ?_ (fun _ => ?_)
theorem laws_toFactS.mono : ∀ a0 k, LeO (laws_toFactS.f k a0) (laws_toFactS.f (k + 1) a0) := by
  intro a0 k
  have ih0 := laws_toFactS.mono_l k
  unfold laws_toFactS.f
  repeat' first
      | (with_reducible exact ih0 _ _ _)
      | (with_reducible exact LeO.refl _)
      | (with_reducible exact LeO.none _)
      | (with_reducible refine LeO.ite ?_ ?_)
      | (with_reducible refine LeO.bind ?_ (fun _ => ?_))
      | exact ih0 _ _ _
      | exact LeO.none _
      | refine LeO.ite ?_ ?_
      | refine LeO.bind ?_ (fun _ => ?_)
set_option maxHeartbeats 8000000 in
set_option maxRecDepth 100000 in
theorem laws_toFactS.calls (k : Nat) (A0 : Option Addr) (c0 : Nat) (l0 : List (S50)) (r : List (S26)) (w : World) (hr0 : Kd.C k50 w A0 l0.length l0) (hc0 : l0.length ≤ c0) (h : laws_toFactS.f k l0 = some r) :
    Calls Try.prog 19 #[.slice A0 l0.length c0] w fun e w' => ∃ v0_ : Value, e = .returned (v0_) ∧ Kd.R k26 26 w' w.heap.size (fun _ => True) v0_ r ∧ Below w.heap.size w w' := by
  have hu50 := Try.underlying50
  have hu26 := Try.underlying26
  have HR0 := Aside0.mk hr0
  have HC0 := Aside0.mk hc0
  clear hr0 hc0
  have HB := Aside0.mk (Below.refl w.heap.size w)
  have H : (if 0 ≤ (l0.length : Int) then (if ((l0.length : Int) : Int).toNat ≤ 5864062014805 then (laws_toFactS.l0 k l0 (List.replicate ((l0.length : Int) : Int).toNat z26) 0) else (none)) else (none)) = some r := h
  clear h
  by_cases c2 : 0 ≤ (l0.length : Int)
  · rw [if_pos c2] at H
    have c2b0 := eq_true c2
    have c2b1 : decide (0 ≤ (l0.length : Int)) = true := decide_eq_true c2
    clear c2
    by_cases c3 : ((l0.length : Int) : Int).toNat ≤ 5864062014805
    · rw [if_pos c3] at H
      have c3b0 := eq_true c3
      have c3b1 : decide (((l0.length : Int) : Int).toNat ≤ 5864062014805) = true := decide_eq_true c3
      clear c3
      obtain ⟨y112, hy112⟩ : ∃ y_ : List (S26), y_ = (List.replicate ((l0.length : Int) : Int).toNat z26) := ⟨_, rfl⟩
      replace H : (laws_toFactS.l0 k l0 y112 0) = some r := by first | (rw [hy112]; with_reducible exact H) | (have H2_ := (Option.bind_some _ _).symm.trans H; rw [hy112]; with_reducible exact H2_) | (have H2_ := (Option.bind_some _ _).symm.trans H; with_reducible exact H2_) | with_reducible exact H | (rw [hy112]; exact H) | exact H
      have Ny112 := Aside0.mk hy112
      clear hy112
      have H' := Aside0.mk H
      clear H
      go_enter Try.func19, Try.ntmps19
      go_wp2_with (first | ((with_reducible refine gate_dst (N := 7) rfl ?_); refine Kd.R_make k26 _ 26 rfl (N := 7) rfl 24 _ _ rfl (l0.length : Int) rfl rfl Try.underlying24 (.agg #[(.int .i64 0), (.int .i64 0), (.int .i64 0), (.int .i64 0), (.int .i64 0), (.int .i64 0)]) 48 info26 rfl (by decide) (by omega) z26 (ok := fun _ => True) (okp := fun _ => True) (k26_mkM _ _ _ z26 ) (fun _ hk => hk) trivial (of_decide_eq_true (by first | (with_reducible assumption) | assumption)) (Nat.le_trans (Nat.mul_le_mul_right _ (of_decide_eq_true (by first | (with_reducible assumption) | assumption) : (l0.length : Int).toNat ≤ 5864062014805)) (by omega)) (Below.refl _ _) (Nat.le_refl _) ?_; intro v113 w4 ho5 hb hg_ hnew_; clear hg_ hnew_; (first | rw [← Ny112.out] at ho5 | (simp only [Int.reduceToNat] at ho5; rw [← Ny112.out] at ho5)); have n0_ := Aside0.mk (Kd.R_lower ho5 (below_size (by repeat (first | (with_reducible first | exact HB.out | apply below_alloc | apply pw_below_drewN | apply below_drew1) | exact HB.out)))); have n1_ := Aside0.mk (below_step (by repeat (first | (with_reducible first | exact HB.out | apply below_alloc | apply pw_below_drewN | apply below_drew1) | exact HB.out)) hb); clear HB; have HO114 := n0_; have HB := n1_; clear n0_ n1_; clear hb ho5))
      go_loopg [4] k (fun kq v4 w' => ∃ (x3_1 : List (S26)) (x4_1 : Int), v4 = .int .i64 x4_1 ∧ Aside0 (laws_toFactS.l0 kq l0 x3_1 x4_1 = some r) ∧ Aside0 (kq ≤ k) ∧ Aside0 (Kd.R k26 26 w' w.heap.size (fun _ => True) v113 x3_1) ∧ Aside0 (Below w.heap.size w w'))
      case atStart => exact ⟨(y112), (0), (by first | rfl | (simp; done) | (simp [*]; done)), H', ⟨Nat.le_refl _⟩, ⟨by (with_reducible repeat (first | apply Kd.R_alloc | apply Kd.R_drewN | apply Kd.R_drew)); exact HO114.out⟩, ⟨by repeat (first | (with_reducible first | exact HB.out | apply below_alloc | apply pw_below_drewN | apply below_drew1) | exact HB.out)⟩⟩
      case round =>
        clear H'
        try clear c1
        try clear c2
        try clear c2b0
        try clear c2b1
        try clear p2
        try clear c3
        try clear c3b0
        try clear c3b1
        obtain ⟨x3_1, x4_1, rfl, HA, HK1, HO_3, HB⟩ := hrel
        cases gk with
        | zero => exact absurd HA.out (by simp [laws_toFactS.l0])
        | succ k1 =>
          have H := HA.out
          clear HA
          simp only [laws_toFactS.l0] at H
          by_cases c6 : x4_1 < (l0.length : Int)
          · rw [if_pos c6] at H
            have c6b0 : decide (x4_1 < (l0.length : Int)) = true := decide_eq_true c6
            clear c6
            by_cases c7 : 0 ≤ x4_1
            · rw [if_pos c7] at H
              have c7b0 : decide (0 ≤ x4_1) = true := decide_eq_true c7
              clear c7
              replace H := Option.bind_eq_some_iff.mp H
              obtain ⟨⟨t116, t117, t118, t119, t120, t121⟩, A80, H⟩ := H
              replace H : (if x4_1 < (x3_1.length : Int) then (laws_toFactS.l0 k1 l0 (x3_1.set (x4_1 : Int).toNat (⟨t116, t117, t118, t119, t120, t121⟩ : S26)) (wrap64 (x4_1 + 1))) else (none)) = some r := H
              have A8 := Aside0.mk A80
              clear A80
              by_cases c9 : x4_1 < (x3_1.length : Int)
              · rw [if_pos c9] at H
                have c9b0 : decide (x4_1 < (x3_1.length : Int)) = true := decide_eq_true c9
                clear c9
                obtain ⟨y122, hy122⟩ : ∃ y_ : List (S26), y_ = (x3_1.set (x4_1 : Int).toNat (⟨t116, t117, t118, t119, t120, t121⟩ : S26)) := ⟨_, rfl⟩
                replace H : (laws_toFactS.l0 k1 l0 y122 (wrap64 (x4_1 + 1))) = some r := by first | (rw [hy122]; with_reducible exact H) | (have H2_ := (Option.bind_some _ _).symm.trans H; rw [hy122]; with_reducible exact H2_) | (have H2_ := (Option.bind_some _ _).symm.trans H; with_reducible exact H2_) | with_reducible exact H | (rw [hy122]; exact H) | exact H
                have Ny122 := Aside0.mk hy122
                clear hy122
                have H' := Aside0.mk H
                clear H
                have p115 : 0 ≤ (x4_1 : Int) := of_decide_eq_true (by first | (with_reducible assumption) | assumption)
                have q115 : x4_1 < (l0.length : Int) := of_decide_eq_true (by first | (with_reducible assumption) | assumption)
                obtain ⟨ad115, e115, hx115_0, hx115_1, hx115_2, hx115_3, hx115_4, hx115_5⟩ := at_T50 HR0.out x4_1 p115 q115
                cases e115
                replace hx115_0 := (HB.out.cell (World.block_lt_of_cell? w _ hx115_0)).trans hx115_0
                replace hx115_1 := (HB.out.cell (World.block_lt_of_cell? w _ hx115_1)).trans hx115_1
                replace hx115_2 := (HB.out.cell (World.block_lt_of_cell? w _ hx115_2)).trans hx115_2
                replace hx115_3 := (HB.out.cell (World.block_lt_of_cell? w _ hx115_3)).trans hx115_3
                replace hx115_4 := (HB.out.cell (World.block_lt_of_cell? w _ hx115_4)).trans hx115_4
                replace hx115_5 := (HB.out.cell (World.block_lt_of_cell? w _ hx115_5)).trans hx115_5
                replace p115 := eq_true p115
                replace q115 := eq_true q115
                go_wp2_with (first | ((with_reducible refine gate_callee (f := 30) rfl ?_); refine goesL_ (some 20) rfl rfl Try.func30 (by kernel_rfl) rfl #[.agg #[.int .i64 ((rd_T50 l0 x4_1).f0), .int .i64 ((rd_T50 l0 x4_1).f1), .int .i64 ((rd_T50 l0 x4_1).f2), .int .i64 ((rd_T50 l0 x4_1).f3), .int .i64 ((rd_T50 l0 x4_1).f4), .int .i64 ((rd_T50 l0 x4_1).f5)]] rfl (by (try simp only [List.map_toArray, List.map_cons, List.map_nil]); first | done | rfl | (simp only [List.length_drop, List.length_take]; rfl)) ?_; (with_reducible refine (laws_toFact.calls ((rd_T50 l0 x4_1).f0) ((rd_T50 l0 x4_1).f1) ((rd_T50 l0 x4_1).f2) ((rd_T50 l0 x4_1).f3) ((rd_T50 l0 x4_1).f4) ((rd_T50 l0 x4_1).f5) t116 t117 t118 t119 t120 t121 _ A8.out).mono ?_); rintro e w11 ⟨rfl, hb⟩; refine ⟨_, rfl, ?_⟩; have n0_ := Aside0.mk (Kd.R_below (by (with_reducible repeat (first | apply Kd.R_alloc | apply Kd.R_drewN | apply Kd.R_drew)); exact HO_3.out) hb); have n1_ := Aside0.mk (below_step (by repeat (first | (with_reducible first | exact HB.out | apply below_alloc | apply pw_below_drewN | apply below_drew1) | exact HB.out)) hb); clear HO_3; clear HB; have HO_3 := n0_; have HB := n1_; clear n0_ n1_; (try clear hb); (try clear hb2); (try clear hk); (try clear hi); have p10 : 0 ≤ (x4_1 : Int) := of_decide_eq_true (by first | (with_reducible assumption) | assumption); have q10 : (x4_1 : Int) < ((x3_1.length : Int) : Int) := of_decide_eq_true (by first | (with_reducible assumption) | assumption); obtain ⟨go10, co10, eo10, gb10, gl10, cl10, HG10⟩ := Kd.R_form HO_3.out (by omega); (first | cases eo10 | (injection eo10 with ea_ en_ ec_; (first | subst ea_ | (injection ea_ with ea_; subst ea_)); subst ec_; clear en_)); have GB10 := Aside0.mk gb10; have GG10 := Aside0.mk HG10; clear gb10 gl10 HG10; obtain ⟨ce10, hcl10, hM10, hcc10, hfr10⟩ := Kd.R_elem HO_3.out z26 (x4_1 : Int) p10 q10; obtain rfl := k26_openM hM10; have hx10_0 : w11.cell? ⟨go10, (x4_1 : Int).toNat * 6, none⟩ = some (.int .i64 ((rd_T26 x3_1 x4_1).f0)) := hcc10 0 _ rfl; have hx10_1 : w11.cell? ⟨go10, (x4_1 : Int).toNat * 6 + 1, none⟩ = some (.int .i64 ((rd_T26 x3_1 x4_1).f1)) := hcc10 1 _ rfl; have hx10_2 : w11.cell? ⟨go10, (x4_1 : Int).toNat * 6 + 2, none⟩ = some (.int .i64 ((rd_T26 x3_1 x4_1).f2)) := hcc10 2 _ rfl; have hx10_3 : w11.cell? ⟨go10, (x4_1 : Int).toNat * 6 + 3, none⟩ = some (.int .i64 ((rd_T26 x3_1 x4_1).f3)) := hcc10 3 _ rfl; have hx10_4 : w11.cell? ⟨go10, (x4_1 : Int).toNat * 6 + 4, none⟩ = some (.int .i64 ((rd_T26 x3_1 x4_1).f4)) := hcc10 4 _ rfl; have hx10_5 : w11.cell? ⟨go10, (x4_1 : Int).toNat * 6 + 5, none⟩ = some (.int .i64 ((rd_T26 x3_1 x4_1).f5)) := hcc10 5 _ rfl; have hf10_0 : w11.frozen? ⟨go10, (x4_1 : Int).toNat * 6, none⟩ = false := hfr10 0; have hf10_1 : w11.frozen? ⟨go10, (x4_1 : Int).toNat * 6 + 1, none⟩ = false := hfr10 1; have hf10_2 : w11.frozen? ⟨go10, (x4_1 : Int).toNat * 6 + 2, none⟩ = false := hfr10 2; have hf10_3 : w11.frozen? ⟨go10, (x4_1 : Int).toNat * 6 + 3, none⟩ = false := hfr10 3; have hf10_4 : w11.frozen? ⟨go10, (x4_1 : Int).toNat * 6 + 4, none⟩ = false := hfr10 4; have hf10_5 : w11.frozen? ⟨go10, (x4_1 : Int).toNat * 6 + 5, none⟩ = false := hfr10 5; clear hcl10 hcc10 hfr10 hM10; replace p10 := eq_true p10; replace q10 := eq_true q10; have HX12 := Aside0.mk (show Kd.R k26 26 w11 w.heap.size (fun _ => True) (.slice (some ⟨go10, 0, none⟩) x3_1.length co10) x3_1 from (by (with_reducible repeat (first | apply Kd.R_alloc | apply Kd.R_drewN | apply Kd.R_drew)); exact HO_3.out)); obtain ⟨ce12, hcl12, hM12, hcc12, hfr12⟩ := Kd.R_elem HX12.out z26 (x4_1 : Int) (of_decide_eq_true (by first | (with_reducible assumption) | assumption)) (by have h_ : (x4_1 : Int) < ((x3_1.length : Int) : Int) := of_decide_eq_true (by first | (with_reducible assumption) | assumption); first | exact h_ | (have e_ := (Kd.R_reads' HO_3.out).1; omega) | simpa using h_); obtain rfl := k26_openM hM12; have HP12 := Kd.R_seg HX12.out (x4_1 : Int) (of_decide_eq_true (by first | (with_reducible assumption) | assumption)) (by have h_ : (x4_1 : Int) < ((x3_1.length : Int) : Int) := of_decide_eq_true (by first | (with_reducible assumption) | assumption); first | exact h_ | (have e_ := (Kd.R_reads' HO_3.out).1; omega) | simpa using h_) (seg := [.int .i64 t116, .int .i64 t117, .int .i64 t118, .int .i64 t119, .int .i64 t120, .int .i64 t121]) (j := 0) hcl12 hcc12 (show 6 ≤ 6 from by decide) (x' := (⟨t116, t117, t118, t119, t120, t121⟩ : S26)) (k26_mkM _ _ _ (⟨t116, t117, t118, t119, t120, t121⟩ : S26) ) (fun _ hk => hk); have hx12_0 := hcc12 0 _ rfl; (try simp only [show (k26).sz = 6 from rfl, Nat.mul_one, Nat.add_zero] at hx12_0); have hf12_0 := hfr12 0; (try simp only [show (k26).sz = 6 from rfl, Nat.mul_one, Nat.add_zero] at hf12_0); have hx12_1 := hcc12 1 _ rfl; (try simp only [show (k26).sz = 6 from rfl, Nat.mul_one, Nat.add_zero] at hx12_1); have hf12_1 := hfr12 1; (try simp only [show (k26).sz = 6 from rfl, Nat.mul_one, Nat.add_zero] at hf12_1); have hx12_2 := hcc12 2 _ rfl; (try simp only [show (k26).sz = 6 from rfl, Nat.mul_one, Nat.add_zero] at hx12_2); have hf12_2 := hfr12 2; (try simp only [show (k26).sz = 6 from rfl, Nat.mul_one, Nat.add_zero] at hf12_2); have hx12_3 := hcc12 3 _ rfl; (try simp only [show (k26).sz = 6 from rfl, Nat.mul_one, Nat.add_zero] at hx12_3); have hf12_3 := hfr12 3; (try simp only [show (k26).sz = 6 from rfl, Nat.mul_one, Nat.add_zero] at hf12_3); have hx12_4 := hcc12 4 _ rfl; (try simp only [show (k26).sz = 6 from rfl, Nat.mul_one, Nat.add_zero] at hx12_4); have hf12_4 := hfr12 4; (try simp only [show (k26).sz = 6 from rfl, Nat.mul_one, Nat.add_zero] at hf12_4); have hx12_5 := hcc12 5 _ rfl; (try simp only [show (k26).sz = 6 from rfl, Nat.mul_one, Nat.add_zero] at hx12_5); have hf12_5 := hfr12 5; (try simp only [show (k26).sz = 6 from rfl, Nat.mul_one, Nat.add_zero] at hf12_5); clear hcl12 hcc12 hfr12 hM12) | ((with_reducible refine gate_store (t := 26) (p := 21) rfl ?_); refine store_event (t := 26) (p := 21) (v := ?vo_w13) (w1 := ((((((w11.setCell ⟨go10, (x4_1 : Int).toNat * 6, none⟩ (.int .i64 t116)).setCell ⟨go10, (x4_1 : Int).toNat * 6 + 1, none⟩ (.int .i64 t117)).setCell ⟨go10, (x4_1 : Int).toNat * 6 + 2, none⟩ (.int .i64 t118)).setCell ⟨go10, (x4_1 : Int).toNat * 6 + 3, none⟩ (.int .i64 t119)).setCell ⟨go10, (x4_1 : Int).toNat * 6 + 4, none⟩ (.int .i64 t120)).setCell ⟨go10, (x4_1 : Int).toNat * 6 + 5, none⟩ (.int .i64 t121))) ?hg ?ho ?hn ?hr ?_; (case ho => rfl); (case hg => rfl); (case hn => rfl); (case hr => first | (go_simp; done) | (go_simp; rfl)); intro w13 hw; have hg : w11.grownBy w13 (some go10) := (by rw [hw]; exact HP12.2); have hp_ : Kd.R k26 26 w13 w.heap.size (fun _ => True) (.slice (some ⟨go10, 0, none⟩) x3_1.length co10) y122 := (by rw [hw, Ny122.out]; exact HP12.1); clear HP12; have n0_ := Aside0.mk (hp_); have n1_ := Aside0.mk ((by rw [hw]; exact below_set (below_set (below_set (below_set (below_set (below_set (HB.out) GB10.out) GB10.out) GB10.out) GB10.out) GB10.out) GB10.out : Below w.heap.size w w13)); clear HO_3; clear HB; have HO_3 := n0_; have HB := n1_; clear n0_ n1_; clear hg hw hp_))
                go_roundg k1
                case measure => have := HK1.out; omega
                case rel => exact ⟨(y122), (wrap64 (x4_1 + 1)), (by first | rfl | (simp; done) | (simp [*]; done)), H', ⟨by have := HK1.out; omega⟩, ⟨by (with_reducible repeat (first | apply Kd.R_alloc | apply Kd.R_drewN | apply Kd.R_drew)); exact HO_3.out⟩, ⟨by repeat (first | (with_reducible first | exact HB.out | apply below_alloc | apply pw_below_drewN | apply below_drew1) | exact HB.out)⟩⟩
              · rw [if_neg c9] at H
                exact absurd H (by simp)
            · rw [if_neg c7] at H
              exact absurd H (by simp)
          · rw [if_neg c6] at H
            have c6b0 : decide (x4_1 < (l0.length : Int)) = false := decide_eq_false c6
            clear c6
            obtain rfl := Option.some.inj H
            go_wp2
            go_ret
            exact ⟨_, by first | rfl | (simp [errW_none, errW_some] <;> rfl) | (simp [*, errW_none, errW_some] <;> rfl), by (with_reducible repeat (first | apply Kd.R_alloc | apply Kd.R_drewN | apply Kd.R_drew)); exact HO_3.out, by repeat (first | (with_reducible first | exact HB.out | apply below_alloc | apply pw_below_drewN | apply below_drew1) | exact HB.out)⟩
    · rw [if_neg c3] at H
      exact absurd H (by simp)
  · rw [if_neg c2] at H
    exact absurd H (by simp)

/-! ### impl_copyFacts: function 37 -/
def impl_copyFacts.f (l0 : List (S26)) : Option ((List (S26))) := (some (([] : List (S26)) : List (S26))).bind fun y123 => (if y123.length + l0.length < 2932031007402 then (some (y123 ++ l0)) else (none))
set_option maxHeartbeats 8000000 in
set_option maxRecDepth 100000 in
theorem impl_copyFacts.calls (A0 : Option Addr) (c0 : Nat) (l0 : List (S26)) (r : List (S26)) (w : World) (hr0 : Kd.C k26 w A0 l0.length l0) (hc0 : l0.length ≤ c0) (h : impl_copyFacts.f l0 = some r) :
    Calls Try.prog 37 #[.slice A0 l0.length c0] w fun e w' => ∃ v0_ : Value, e = .returned (v0_) ∧ Kd.R k26 26 w' w.heap.size (fun _ => True) v0_ r ∧ Below w.heap.size w w' := by
  have HR0 := Aside0.mk hr0
  have HC0 := Aside0.mk hc0
  clear hr0 hc0
  have HB := Aside0.mk (Below.refl w.heap.size w)
  have H : ((some (([] : List (S26)) : List (S26))).bind fun y123 => (if y123.length + l0.length < 2932031007402 then (some (y123 ++ l0)) else (none))) = some r := h
  clear h
  obtain ⟨y123, hy123⟩ : ∃ y_ : List (S26), y_ = (([] : List (S26))) := ⟨_, rfl⟩
  replace H : (if y123.length + l0.length < 2932031007402 then (some (y123 ++ l0)) else (none)) = some r := by first | (rw [hy123]; with_reducible exact H) | (have H2_ := (Option.bind_some _ _).symm.trans H; rw [hy123]; with_reducible exact H2_) | (have H2_ := (Option.bind_some _ _).symm.trans H; with_reducible exact H2_) | with_reducible exact H | (rw [hy123]; exact H) | exact H
  have Ny123 := Aside0.mk hy123
  clear hy123
  by_cases c2 : y123.length + l0.length < 2932031007402
  · rw [if_pos c2] at H
    have LMc2 := Aside0.mk c2
    clear c2
    obtain ⟨y126, hy126⟩ : ∃ y_ : List (S26), y_ = (y123 ++ l0) := ⟨_, rfl⟩
    replace H : (some y126) = some r := by first | (rw [hy126]; with_reducible exact H) | (have H2_ := (Option.bind_some _ _).symm.trans H; rw [hy126]; with_reducible exact H2_) | (have H2_ := (Option.bind_some _ _).symm.trans H; with_reducible exact H2_) | with_reducible exact H | (rw [hy126]; exact H) | exact H
    have Ny126 := Aside0.mk hy126
    clear hy126
    obtain rfl := Option.some.inj H
    go_enter Try.func37, Try.ntmps37
    go_wp2_with (first | ((with_reducible refine gate_dst (N := 3) rfl ?_); refine Kd.R_lit k26 _ 26 ?hg (N := 3) ?hd (xs := ([] : List (S26))) (inner := []) (ok := fun _ => True) (okp := fun _ => True) ?hr ?hp (fun _ hk => hk) trivial (Below.refl _ _) (Nat.le_refl _) (by simp) ?_; (case hd => rfl); (case hg => rfl); (case hr => first | (go_simp; done) | (go_simp; rfl)); (case hp => exact (Reps.none _ _)); intro v124 w3 ho4 hb hg_ hnew_; clear hg_ hnew_; (first | rw [← Ny123.out] at ho4 | (simp only [Int.reduceToNat] at ho4; rw [← Ny123.out] at ho4)); have n0_ := Aside0.mk (Kd.R_lower ho4 (below_size (by repeat (first | (with_reducible first | exact HB.out | apply below_alloc | apply pw_below_drewN | apply below_drew1) | exact HB.out)))); have n1_ := Aside0.mk (below_step (by repeat (first | (with_reducible first | exact HB.out | apply below_alloc | apply pw_below_drewN | apply below_drew1) | exact HB.out)) hb); clear HB; have HO125 := n0_; have HB := n1_; clear n0_ n1_; clear hb ho4) | ((with_reducible refine gate_builtin (b := .append) (xs := #[.tmp 3, .tmp 4]) rfl ?_); at_builtin; refine Kd.R_append_rows k26 (w0 := w) w.heap.size rfl (.tmp 3) (.tmp 4) 24 26 (.agg #[(.int .i64 0), (.int .i64 0), (.int .i64 0), (.int .i64 0), (.int .i64 0), (.int .i64 0)]) 48 rfl Try.underlying24 info26 rfl (by decide) (by omega) v124 y123 l0 _ _ _ (fun _ => True) (fun _ => False) rfl rfl ?aO ?aR (fun _ _ h => h) (fun _ h => h.elim) ?aF ?aB ?aS ?aL ?_; (case aR => repeat (first | exact (Kd.C_below HR0.out HB.out) | (with_reducible refine Kd.C_alloc ?_ _) | (with_reducible refine Kd.C_drewN ?_ _) | (with_reducible refine Kd.C_drew ?_))); (case aB => exact (by repeat (first | (with_reducible first | exact HB.out | apply below_alloc | apply pw_below_drewN | apply below_drew1) | exact HB.out))); (case aF => exact (fun _ _ => trivial)); (case aO => exact (by (with_reducible repeat (first | apply Kd.R_alloc | apply Kd.R_drewN | apply Kd.R_drew)); exact HO125.out)); (case aS => exact (below_size (by repeat (first | (with_reducible first | exact HB.out | apply below_alloc | apply pw_below_drewN | apply below_drew1) | exact HB.out)))); (case aL => have := LMc2.out; omega); intro v127 w5 ho hb hg hat; rw [← Ny126.out] at ho; have n0_ := Aside0.mk (hb); have n1_ := Aside0.mk (ho); clear HB; clear HO125; have HB := n0_; have HO128 := n1_; clear n0_ n1_; clear ho hb hg hat))
    go_ret
    exact ⟨_, by first | rfl | (simp [errW_none, errW_some] <;> rfl) | (simp [*, errW_none, errW_some] <;> rfl), by (with_reducible repeat (first | apply Kd.R_alloc | apply Kd.R_drewN | apply Kd.R_drew)); exact HO128.out, by repeat (first | (with_reducible first | exact HB.out | apply below_alloc | apply pw_below_drewN | apply below_drew1) | exact HB.out)⟩
  · rw [if_neg c2] at H
    exact absurd H (by simp)

/-! ### impl_Fact_49: function 49, by hand -/
def impl_Fact_49.l0 (pf : S26 → Option Bool) : Nat → List S26 → Int → Option Int
  | 0, _, _ => none
  | k + 1, x0, x8 => if x8 < (x0.length : Int) then (if 0 ≤ x8 then ((pf (rd_T26 x0 x8)).bind fun t => (if t = true then some x8 else impl_Fact_49.l0 pf k x0 (wrap64 (x8 + 1)))) else none) else some (-1)
theorem impl_Fact_49.mono (pf : S26 → Option Bool) : ∀ k, ∀ y0 y1, LeO (impl_Fact_49.l0 pf k y0 y1) (impl_Fact_49.l0 pf (k + 1) y0 y1)
  | 0 => fun _ _ r h => by simp [impl_Fact_49.l0] at h
  | k + 1 => by
    intro y0 y1
    unfold impl_Fact_49.l0
    exact LeO.ite (LeO.ite (LeO.bind (LeO.refl _) (fun _ => LeO.ite (LeO.refl _) (impl_Fact_49.mono pf k _ _))) (LeO.refl _)) (LeO.refl _)
set_option maxHeartbeats 8000000 in
set_option maxRecDepth 100000 in
theorem impl_Fact_49.found (pf : S26 → Option Bool) (g : Nat) (lb : Array Value) (eg : ∀ args w, (callFunc g args).run Try.prog w = .ok (.enter g args) w) (k : Nat) (A0 : Option Addr) (c0 : Nat) (l0 : List S26) (r : Int) (w : World) (hr0 : Kd.C k26 w A0 l0.length l0) (hl0 : l0.length ≤ 140737488355328)
    (hp : ∀ (W : World) (x : S26) (b : Bool), Below w.heap.size w W → pf x = some b → Calls Try.prog g (#[.agg #[.int .i64 (x).f0, .int .i64 (x).f1, .int .i64 (x).f2, .int .i64 (x).f3, .int .i64 (x).f4, .int .i64 (x).f5]] ++ lb) W fun e w' => e = .returned (.bool b) ∧ Below W.heap.size W w') (h : impl_Fact_49.l0 pf k l0 0 = some r) :
    Calls Try.prog 49 #[.slice A0 l0.length c0, .func (.func g) #[] lb] w fun e w' => e = .returned (.int .i64 r) ∧ Below w.heap.size w w' := by
  have hu26 := Try.underlying26
  have HR0 := Aside0.mk hr0
  have HL0 := Aside0.mk hl0
  have HP := Aside0.mk hp
  clear hr0 hp hl0
  have HB := Aside0.mk (Below.refl w.heap.size w)
  have H' := Aside0.mk h
  clear h
  go_enter Try.func49, Try.ntmps49
  go_wp2
  go_loopg [5, 8] k (fun kq _ v8 w' => ∃ (x8_1 : Int), v8 = .int .i64 x8_1 ∧ Aside0 (impl_Fact_49.l0 pf kq l0 x8_1 = some r) ∧ Aside0 (Below w.heap.size w w'))
  case atStart => exact ⟨0, (by first | rfl | (simp; done)), H', ⟨by repeat (first | (with_reducible first | exact HB.out | apply below_alloc | apply pw_below_drewN | apply below_drew1) | exact HB.out)⟩⟩
  case round =>
    clear H' HB
    obtain ⟨x8_1, rfl, HA, HB⟩ := hrel
    cases gk with
    | zero => exact absurd HA.out (by simp [impl_Fact_49.l0])
    | succ k1 =>
      have H := HA.out
      clear HA
      simp only [impl_Fact_49.l0] at H
      by_cases c2 : x8_1 < (l0.length : Int)
      · rw [if_pos c2] at H
        by_cases c3 : 0 ≤ x8_1
        · rw [if_pos c3] at H
          have c2b0 : decide (x8_1 < (l0.length : Int)) = true := decide_eq_true c2
          obtain ⟨ad, e_, h0, h1, h2, h3, h4, h5⟩ := at_T26 HR0.out x8_1 c3 c2
          cases e_
          replace h0 := (HB.out.cell (World.block_lt_of_cell? w _ h0)).trans h0
          replace h1 := (HB.out.cell (World.block_lt_of_cell? w _ h1)).trans h1
          replace h2 := (HB.out.cell (World.block_lt_of_cell? w _ h2)).trans h2
          replace h3 := (HB.out.cell (World.block_lt_of_cell? w _ h3)).trans h3
          replace h4 := (HB.out.cell (World.block_lt_of_cell? w _ h4)).trans h4
          replace h5 := (HB.out.cell (World.block_lt_of_cell? w _ h5)).trans h5
          replace H := Option.bind_eq_some_iff.mp H
          obtain ⟨t, A50, H⟩ := H
          obtain ⟨x, hx⟩ : ∃ x, x = rd_T26 l0 x8_1 := ⟨_, rfl⟩
          rw [← hx] at h0 h1 h2 h3 h4 h5 A50
          clear hx
          have hcall := Aside0.mk (HP.out wr x t HB.out A50)
          clear A50
          have HE := Aside0.mk (show x8_1 + 1 ≤ 140737488355328 by have := HL0.out; omega)
          have p3 := eq_true c3
          have p2 := eq_true c2
          clear c2 c3
          go_wp2_with (first | fail)
          with_reducible refine hcall.out.mono ?_
          rintro e w' ⟨rfl, hb'⟩
          clear hcall HP eg
          cases t with
          | true =>
            have H1 : some x8_1 = some r := by rw [if_pos rfl] at H; exact H
            clear H
            obtain rfl := Option.some.inj H1
            clear H1
            go_wp2
            go_ret
            exact ⟨rfl, below_step HB.out hb'⟩
          | false =>
            have H1 : impl_Fact_49.l0 pf k1 l0 (wrap64 (x8_1 + 1)) = some r := by rw [if_neg (by simp)] at H; exact H
            clear H
            have H' := Aside0.mk H1
            clear H1
            go_wp2
            go_roundg k1
            case measure => omega
            case rel => exact ⟨wrap64 (x8_1 + 1), (by first | rfl | (simp; done) | (simp [*]; done)), H', ⟨below_step HB.out hb'⟩⟩
        · rw [if_neg c3] at H
          exact absurd H (by simp)
      · rw [if_neg c2] at H
        have c2b0 : decide (x8_1 < (l0.length : Int)) = false := decide_eq_false c2
        clear c2
        obtain rfl := Option.some.inj H
        go_wp2
        go_ret
        exact ⟨by first | rfl | (simp; done), by repeat (first | (with_reducible first | exact HB.out | apply below_alloc | apply pw_below_drewN | apply below_drew1) | exact HB.out)⟩

/-! ### impl_Fact_44: function 44, by hand -/
/-! #### own rows of a flat kind as plain cells; copies and cuts of many cells (laid for slices.Insert and slices.DeleteFunc over facts) -/
theorem rows_inner {α : Type} {R : α → List Value → Prop} {enc : α → List Value} {sz : Nat} (hR : ∀ x c, R x c → c = enc x) : ∀ (xs : List α) (cs : List Value), Reps R sz xs cs → cs = xs.flatMap enc
  | [], cs, h => by
    have := h.1
    simpa using this
  | x :: r, cs, h => by
    have h0 := hR _ _ (h.2 0 x rfl)
    rw [Nat.zero_mul, List.drop_zero] at h0
    have ht : Reps R sz r (cs.drop sz) := ⟨by rw [List.length_drop, h.1, List.length_cons, Nat.succ_mul, Nat.add_sub_cancel], fun j p hj => by
      have := h.2 (j + 1) p (by simpa using hj)
      rw [List.drop_drop, Nat.add_comm sz, ← Nat.succ_mul]
      exact this⟩
    have h1 := rows_inner hR r _ ht
    rw [List.flatMap_cons, ← h0, ← h1, List.take_append_drop]
theorem rows_reps {α : Type} {R : α → List Value → Prop} {enc : α → List Value} {sz : Nat} (hR : ∀ x, R x (enc x)) (hl : ∀ x, (enc x).length = sz) : ∀ (xs : List α), Reps R sz xs (xs.flatMap enc)
  | [] => Reps.none _ _
  | x :: r => Reps.front (hR x) (hl x) (rows_reps hR hl r) rfl
theorem rows_len {α : Type} {enc : α → List Value} {sz : Nat} (hl : ∀ x, (enc x).length = sz) : ∀ (xs : List α), (xs.flatMap enc).length = xs.length * sz
  | [] => by simp
  | x :: r => by rw [List.flatMap_cons, List.length_append, hl, rows_len hl r, List.length_cons, Nat.succ_mul, Nat.add_comm]
theorem rows_take {α : Type} {enc : α → List Value} {sz : Nat} (hl : ∀ x, (enc x).length = sz) : ∀ (xs : List α) (i : Nat), (xs.flatMap enc).take (i * sz) = (xs.take i).flatMap enc
  | [], i => by simp
  | x :: r, 0 => by simp
  | x :: r, i + 1 => by
    rw [List.flatMap_cons, List.take_succ_cons, List.flatMap_cons, ← rows_take hl r i, Nat.succ_mul, Nat.add_comm (i * sz), ← hl x, List.take_append, List.take_of_length_le (by omega), Nat.add_sub_cancel_left]
theorem rows_drop {α : Type} {enc : α → List Value} {sz : Nat} (hl : ∀ x, (enc x).length = sz) : ∀ (xs : List α) (i : Nat), (xs.flatMap enc).drop (i * sz) = (xs.drop i).flatMap enc
  | [], i => by simp
  | x :: r, 0 => by simp
  | x :: r, i + 1 => by
    rw [List.flatMap_cons, List.drop_succ_cons, ← rows_drop hl r i, Nat.succ_mul, Nat.add_comm (i * sz), ← hl x, List.drop_append, List.drop_of_length_le (by omega), Nat.add_sub_cancel_left, List.nil_append]
theorem flat_own {α : Type} {d : Kd α} {enc : α → List Value} (hf : ∀ {w : World} {base : Nat} {ok : Nat → Prop} {x : α} {cs : List Value}, d.M w base ok x cs → cs = enc x) {e base : Nat} {ok : Nat → Prop} {w : World} {v : Value} {xs : List α} (h : d.R e w base ok v xs) : w.ownsRow base e d.sz v xs.length (xs.flatMap enc) := by
  obtain ⟨h0, inner, ho, hr⟩ := h
  rwa [rows_inner (fun _ _ h => hf h) xs inner hr] at ho
theorem own_flat {α : Type} {d : Kd α} {enc : α → List Value} (hm : ∀ (w : World) (base : Nat) (ok : Nat → Prop) (x : α), d.M w base ok x (enc x)) (hl : ∀ x, (enc x).length = d.sz) {e base : Nat} {ok : Nat → Prop} {w : World} {v : Value} {xs : List α} (ho : w.ownsRow base e d.sz v xs.length (xs.flatMap enc)) (h0 : ∀ k, v.ownBlock = some k → ok k) : d.R e w base ok v xs :=
  ⟨h0, _, ho, rows_reps (fun x => hm _ _ _ x) hl xs⟩
theorem own_opened {w : World} {base sz g n c : Nat} {e : TypeId} {cs : List Value} (h : w.ownsRow base e sz (.slice (some ⟨g, 0, none⟩) n c) n cs) : ∃ cur, w.heap[g]? = some (.cells cur e (0, 0)) ∧ base ≤ g ∧ n ≤ c ∧ c ≤ maxLen ∧ cur.size = c * sz ∧ cur.toList.take (n * sz) = cs := by
  rcases h.2 with ⟨h2, _⟩ | ⟨g', cap, cur, he, hb, hh, hn, hm, hs, ht⟩
  · cases h2
  · injection he with h1 h2 h3
    injection h1 with h1
    injection h1 with h1
    subst h1 h3
    exact ⟨cur, hh, hb, hn, hm, hs, ht⟩
/-- Cells behind the elements have been written: the row is as it was. -/
theorem own_beyond {w : World} {base sz g n c o : Nat} {e : TypeId} {cs vs : List Value} (h : w.ownsRow base e sz (.slice (some ⟨g, 0, none⟩) n c) n cs) (ho : n * sz ≤ o) (hc : o + vs.length ≤ c * sz) : (w.setCells g o vs).ownsRow base e sz (.slice (some ⟨g, 0, none⟩) n c) n cs := by
  obtain ⟨cur, hh, hb, hn, hm, hs, ht⟩ := own_opened h
  obtain ⟨cur', h3, h4, h5⟩ := setCells_row vs o w cur hh (by omega)
  refine ⟨h.1, .inr ⟨g, c, cur', rfl, hb, h3, hn, hm, by rw [h4, hs], ?_⟩⟩
  rw [h5, List.append_assoc, List.take_append_of_le_length (by rw [List.length_take, Array.length_toList]; omega), List.take_take, Nat.min_eq_left ho, ht]
/-- One element put in at i: what stood from i on has been moved up by one, then the element written. -/
theorem own_put_in {α : Type} {enc : α → List Value} {w : World} {base sz g n c i : Nat} {e : TypeId} {xs : List α} {f : α} (hl : ∀ x, (enc x).length = sz) (hn : xs.length = n) (h : w.ownsRow base e sz (.slice (some ⟨g, 0, none⟩) n c) n (xs.flatMap enc)) (hi : i ≤ n) (hr : n + 1 ≤ c) :
    ((w.setCells g ((i + 1) * sz) ((xs.drop i).flatMap enc)).setCells g (i * sz) (enc f)).ownsRow base e sz (.slice (some ⟨g, 0, none⟩) (n + 1) c) (n + 1) ((xs.take i ++ f :: xs.drop i).flatMap enc) := by
  obtain ⟨cur, hh, hb, _, hm, hs, ht⟩ := own_opened h
  have e1 : ((xs.drop i).flatMap enc).length = (n - i) * sz := by rw [rows_len hl, List.length_drop, hn]
  have e2 : (i + 1) * sz + (n - i) * sz = (n + 1) * sz := by rw [← Nat.add_mul]; congr 1; omega
  have e3 : (n + 1) * sz ≤ c * sz := Nat.mul_le_mul_right _ hr
  have e4 : i * sz + sz = (i + 1) * sz := by rw [Nat.succ_mul]
  have e5 : i * sz ≤ n * sz := Nat.mul_le_mul_right _ hi
  obtain ⟨cur1, h3, h4, h5⟩ := setCells_row ((xs.drop i).flatMap enc) ((i + 1) * sz) w cur hh (by omega)
  obtain ⟨cur2, h6, h7, h8⟩ := setCells_row (enc f) (i * sz) (w.setCells g ((i + 1) * sz) ((xs.drop i).flatMap enc)) cur1 h3 (by rw [hl]; omega)
  refine ⟨by rw [rows_len hl]; congr 1; simp [hn]; omega, .inr ⟨g, c, cur2, rfl, hb, h6, hr, hm, by rw [h7, h4, hs], ?_⟩⟩
  have k1 : cur1.toList.take (i * sz) = (xs.take i).flatMap enc := by
    rw [h5, List.append_assoc, List.take_append_of_le_length (by rw [List.length_take, Array.length_toList]; omega), List.take_take, Nat.min_eq_left (by omega), ← rows_take hl, ← ht, List.take_take, Nat.min_eq_left e5]
  have k2 : cur1.toList.drop (i * sz + (enc f).length) = (xs.drop i).flatMap enc ++ cur.toList.drop ((i + 1) * sz + ((xs.drop i).flatMap enc).length) := by
    rw [h5, hl, e4, List.append_assoc, List.drop_append_of_le_length (by rw [List.length_take, Array.length_toList]; omega), List.drop_of_length_le (by rw [List.length_take]; omega), List.nil_append]
  rw [h8, k1, k2, List.flatMap_append, List.flatMap_cons, ← List.append_assoc, ← List.append_assoc]
  refine List.take_left' ?_
  rw [List.length_append, List.length_append, rows_len hl, hl, e1, List.length_take, hn, Nat.min_eq_left hi]
  omega
/-- A new block, what stood ahead of i laid in it: the element written at i, what stood from i on behind it. -/
theorem own_put_new {α : Type} {enc : α → List Value} {w : World} {base sz g n c i : Nat} {e : TypeId} {cur : Array Value} {xs : List α} {f : α} (hl : ∀ x, (enc x).length = sz) (hn : xs.length = n) (hh : w.heap[g]? = some (.cells cur e (0, 0))) (hb : base ≤ g) (hm : c ≤ maxLen) (hs : cur.size = c * sz) (ht : cur.toList.take (i * sz) = (xs.take i).flatMap enc) (hi : i ≤ n) (hr : n + 1 ≤ c) :
    ((w.setCells g (i * sz) (enc f)).setCells g ((i + 1) * sz) ((xs.drop i).flatMap enc)).ownsRow base e sz (.slice (some ⟨g, 0, none⟩) (n + 1) c) (n + 1) ((xs.take i ++ f :: xs.drop i).flatMap enc) := by
  have e1 : ((xs.drop i).flatMap enc).length = (n - i) * sz := by rw [rows_len hl, List.length_drop, hn]
  have e2 : (i + 1) * sz + (n - i) * sz = (n + 1) * sz := by rw [← Nat.add_mul]; congr 1; omega
  have e3 : (n + 1) * sz ≤ c * sz := Nat.mul_le_mul_right _ hr
  have e4 : i * sz + sz = (i + 1) * sz := by rw [Nat.succ_mul]
  have e5 : (i + 1) * sz ≤ (n + 1) * sz := Nat.mul_le_mul_right _ (by omega)
  obtain ⟨cur1, h3, h4, h5⟩ := setCells_row (enc f) (i * sz) w cur hh (by rw [hl]; omega)
  obtain ⟨cur2, h6, h7, h8⟩ := setCells_row ((xs.drop i).flatMap enc) ((i + 1) * sz) (w.setCells g (i * sz) (enc f)) cur1 h3 (by omega)
  refine ⟨by rw [rows_len hl]; congr 1; simp [hn]; omega, .inr ⟨g, c, cur2, rfl, hb, h6, hr, hm, by rw [h7, h4, hs], ?_⟩⟩
  have k1 : cur1.toList.take ((i + 1) * sz) = (xs.take i).flatMap enc ++ enc f := by
    rw [h5, ht, List.take_left']
    rw [List.length_append, rows_len hl, hl, List.length_take, hn, Nat.min_eq_left hi, e4]
  rw [h8, k1, List.flatMap_append, List.flatMap_cons, ← List.append_assoc]
  refine List.take_left' ?_
  rw [List.length_append, List.length_append, rows_len hl, hl, e1, List.length_take, hn, Nat.min_eq_left hi]
  omega
theorem run_copy_many {P : Program} (w : World) (dT sT ty elem : TypeId) (sz b o dLen dCap : Nat) (a : Addr) (sLen sCap m : Nat) (cs : List Value)
    (hu : P.underlying dT = some (.slice elem)) (hs : (P.info? elem).map (·.size) = some sz) (hm : m = Nat.min sLen dLen) (hl : cs.length = m * sz)
    (hsrc : ∀ j v, cs[j]? = some v → w.cell? (a.add j) = some v) (hc : ∀ j, j < cs.length → (w.cell? ⟨b, o + j, none⟩).isSome = true) (hf : ∀ j, j < cs.length → w.frozen? ⟨b, o + j, none⟩ = false) (h1 : ∀ v ∈ cs, v.oneCell' = true) :
    (Builtin.copy_ #[dT, sT] ty #[.slice (some ⟨b, o, none⟩) dLen dCap, .slice (some a) sLen sCap]).run P w = .ok (goInt m) (w.setCells b o cs) := by
  have hl' := run_loadCells_list (P := P) w a cs hsrc
  have hst := run_storeCells_cells (P := P) b o cs 0 w (by simpa using hc) (by simpa using hf) h1
  cases hq : P.info? elem with
  | none => simp [hq] at hs
  | some i =>
    have hi : i.size = sz := by simpa [hq] using hs
    simp [Builtin.copy_, run_underlying hu, Builtin.lenOf, Builtin.firstCells, sizeOf, typeInfo, hq, hi, ← hm, ← hl, hl', hst]
theorem run_clear_many {P : Program} (w : World) (t e ty : TypeId) (z : Value) (ht : P.underlying t = some (.slice e)) (hv : ∀ w, (zeroValue e).run P w = .ok z w) (b o n c : Nat) (hn : 0 < n) (zs : List Value) (hz : (Builtin.zeroCells z.cells n).toList = zs)
    (hc : ∀ j, j < zs.length → (w.cell? ⟨b, o + j, none⟩).isSome = true) (hf : ∀ j, j < zs.length → w.frozen? ⟨b, o + j, none⟩ = false) (h1 : ∀ v ∈ zs, v.oneCell' = true) :
    (Builtin.clear_ #[t] ty #[.slice (some ⟨b, o, none⟩) n c]).run P w = .ok (.tuple #[]) (w.setCells b o zs) := by
  have hst := run_storeCells_cells (P := P) b o zs 0 w (by simpa using hc) (by simpa using hf) h1
  simp only [Nat.add_zero] at hst
  obtain ⟨m, rfl⟩ : ∃ m, n = m + 1 := ⟨n - 1, by omega⟩
  simp [Builtin.clear_, run_underlying ht, hv, hz, hst]
theorem grown_setCells (w : World) (g o : Nat) (vs : List Value) : w.grownBy (w.setCells g o vs) (some g) := by
  obtain ⟨s1, s2, s3, s4⟩ := setCells_same g vs o w
  exact ⟨s1, s2, s3, by rw [s4]; exact Nat.le_refl _, fun k _ hk => setCells_far vs _ k (fun he => hk (by rw [he]))⟩
/-- The zero cells of n structs of six whole numbers. -/
theorem zeros6 (n : Nat) : (Builtin.zeroCells (Value.agg #[.int .i64 0, .int .i64 0, .int .i64 0, .int .i64 0, .int .i64 0, .int .i64 0]).cells n).toList = List.replicate (n * 6) (.int .i64 0) := by
  rw [List.eq_replicate_iff]
  refine ⟨by simp [Builtin.zeroCells, Value.cells], fun b hb => ?_⟩
  simp only [Builtin.zeroCells, Value.cells, Array.toList_map, List.mem_map] at hb
  obtain ⟨i, _, rfl⟩ := hb
  show (#[Value.int .i64 0, .int .i64 0, .int .i64 0, .int .i64 0, .int .i64 0, .int .i64 0] : Array Value)[i % 6]! = _
  obtain h | h | h | h | h | h : i % 6 = 0 ∨ i % 6 = 1 ∨ i % 6 = 2 ∨ i % 6 = 3 ∨ i % 6 = 4 ∨ i % 6 = 5 := by omega
  all_goals (rw [h]; rfl)

theorem impl_Fact_44.enc_len (x : S26) : (([.int .i64 x.f0, .int .i64 x.f1, .int .i64 x.f2, .int .i64 x.f3, .int .i64 x.f4, .int .i64 x.f5] : List Value)).length = 6 := rfl
theorem impl_Fact_44.first (pd : S26 → Bool) (xs : List S26) (hx : xs.length ≤ 140737488355328) : ∀ (d k i : Nat), i + d = xs.length → d < k → (∀ x ∈ xs.take i, pd x = false) → ∃ r, impl_Fact_49.l0 (fun x => some (pd x)) k xs (i : Int) = some r ∧ ((r = -1 ∧ ∀ x ∈ xs, pd x = false) ∨ ∃ m : Nat, r = (m : Int) ∧ m < xs.length ∧ (∀ x ∈ xs.take m, pd x = false) ∧ pd (rd_T26 xs (m : Int)) = true) := by
  intro d
  induction d with
  | zero =>
    intro k i hd hk ha
    obtain ⟨k, rfl⟩ : ∃ m, k = m + 1 := ⟨k - 1, by omega⟩
    refine ⟨-1, by simp only [impl_Fact_49.l0]; rw [if_neg (by omega)], .inl ⟨rfl, ?_⟩⟩
    rw [List.take_of_length_le (by omega)] at ha
    exact ha
  | succ d ih =>
    intro k i hd hk ha
    obtain ⟨k, rfl⟩ : ∃ m, k = m + 1 := ⟨k - 1, by omega⟩
    simp only [impl_Fact_49.l0]
    rw [if_pos (by omega), if_pos (by omega), Option.bind_some]
    cases hp : pd (rd_T26 xs (i : Int)) with
    | true => exact ⟨(i : Int), by rw [if_pos rfl], .inr ⟨i, rfl, by omega, ha, hp⟩⟩
    | false =>
      rw [if_neg (by simp), show wrap64 ((i : Int) + 1) = ((i + 1 : Nat) : Int) by unfold wrap64; omega]
      refine ih k (i + 1) (by omega) (by omega) ?_
      intro x hx
      rw [List.take_succ_eq_append_getElem (by omega), List.mem_append, List.mem_singleton] at hx
      rcases hx with hx | rfl
      · exact ha x hx
      · have e : rd_T26 xs (i : Int) = xs[i] := by
          unfold rd_T26
          rw [List.getD_eq_getElem?_getD, Int.toNat_natCast, List.getElem?_eq_getElem (by omega)]
          rfl
        rw [← e]
        exact hp
/-- The row while DeleteFunc goes: its first i elements are those kept of the first j; from j on it is as it was. -/
structure impl_Fact_44.Inv (q : S26 → Bool) (xs ys : List S26) (i j : Int) (kq : Nat) : Prop where
  h0 : 0 ≤ i
  lt : i < j
  le : j ≤ (xs.length : Int)
  ms : (xs.length : Int) - j ≤ (kq : Int)
  sz : ys.length = xs.length
  lo : ys.take i.toNat = (xs.take j.toNat).filter q
  hi : ys.drop j.toNat = xs.drop j.toNat
theorem impl_Fact_44.Inv.read {q : S26 → Bool} {xs ys : List S26} {i j : Int} {kq : Nat} (h : impl_Fact_44.Inv q xs ys i j kq) : rd_T26 ys j = rd_T26 xs j := by
  have := congrArg (fun l => l.getD 0 z26) h.hi
  simpa [List.getD_eq_getElem?_getD, List.getElem?_drop, rd_T26] using this
theorem impl_Fact_44.Inv.keep {q : S26 → Bool} {xs ys : List S26} {i j : Int} {kq : Nat} (h : impl_Fact_44.Inv q xs ys i j (kq + 1)) (hj : j < (xs.length : Int)) (hq : q (rd_T26 ys j) = true) : impl_Fact_44.Inv q xs (ys.set i.toNat (rd_T26 ys j)) (i + 1) (j + 1) kq := by
  have h0 := h.h0; have hlt := h.lt; have hsz := h.sz; have hms := h.ms
  refine ⟨by omega, by omega, by omega, by omega, by rw [List.length_set]; exact hsz, ?_, ?_⟩
  · have e1 : (i + 1).toNat = i.toNat + 1 := by omega
    have e2 : (j + 1).toNat = j.toNat + 1 := by omega
    have e3 : rd_T26 xs j = xs[j.toNat]'(by omega) := by
      unfold rd_T26
      rw [List.getD_eq_getElem?_getD, List.getElem?_eq_getElem (by omega)]
      rfl
    rw [e1, e2, List.take_succ_eq_append_getElem (by rw [List.length_set]; omega), List.getElem_set_self, List.take_succ_eq_append_getElem (i := j.toNat) (by omega), List.filter_append, ← h.lo, ← e3, ← h.read]
    rw [List.filter_cons_of_pos hq, List.filter_nil]
    congr 1
    apply List.ext_getElem?
    intro m
    rw [List.getElem?_take, List.getElem?_take]
    split
    · rw [List.getElem?_set_ne (by omega)]
    · rfl
  · have e2 : (j + 1).toNat = j.toNat + 1 := by omega
    rw [List.drop_set_of_lt (by omega), e2, ← List.drop_drop, ← List.drop_drop, h.hi]
theorem impl_Fact_44.Inv.skip {q : S26 → Bool} {xs ys : List S26} {i j : Int} {kq : Nat} (h : impl_Fact_44.Inv q xs ys i j (kq + 1)) (hj : j < (xs.length : Int)) (hq : q (rd_T26 ys j) = false) : impl_Fact_44.Inv q xs ys i (j + 1) kq := by
  have h0 := h.h0; have hlt := h.lt; have hsz := h.sz; have hms := h.ms
  refine ⟨by omega, by omega, by omega, by omega, hsz, ?_, ?_⟩
  · have e2 : (j + 1).toNat = j.toNat + 1 := by omega
    have e3 : rd_T26 xs j = xs[j.toNat]'(by omega) := by
      unfold rd_T26
      rw [List.getD_eq_getElem?_getD, List.getElem?_eq_getElem (by omega)]
      rfl
    rw [e2, List.take_succ_eq_append_getElem (i := j.toNat) (by omega), List.filter_append, ← h.lo, ← e3, ← h.read, List.filter_cons_of_neg (by rw [hq]; simp), List.filter_nil, List.append_nil]
  · have e2 : (j + 1).toNat = j.toNat + 1 := by omega
    rw [e2, ← List.drop_drop, ← List.drop_drop, h.hi]
theorem impl_Fact_44.cut_lo {P : Program} {t e : TypeId} {sz : Nat} (ht : P.underlying t = some (.slice e)) (hs : (P.info? e).map (·.size) = some sz) (g n c : Nat) (i : Int) (h0 : 0 ≤ i) (h1 : i ≤ (n : Int)) (hc : ¬ c = i.toNat) :
    ∀ W : World, (Instr.slice t (.slice (some ⟨g, 0, none⟩) n c) (some (.int .i64 i)) none none).run P W = .ok (.slice (some ⟨g, i.toNat * sz, none⟩) (n - i.toNat) (c - i.toNat)) W := by
  intro W
  obtain ⟨q, hq, rfl⟩ := Option.map_eq_some_iff.1 hs
  have hel : P.elem t = e := by simp [Program.elem, ht]
  have hu : P.underlying t = some (.slice (P.elem t)) := by rw [hel]; exact ht
  rw [run_slice_l W t (some ⟨g, 0, none⟩) n c hu .i64 i h0 h1, hel]
  simp [sizeOf, typeInfo, hq, sliced, Result.andThen, hc, Addr.add]
  first | done | exact fun h => h.symm
theorem impl_Fact_44.cut_hi {P : Program} {t e : TypeId} {sz : Nat} (ht : P.underlying t = some (.slice e)) (hs : (P.info? e).map (·.size) = some sz) (g n c : Nat) (i : Int) (h0 : 0 ≤ i) (h1 : i ≤ (n : Int)) (hc : n ≤ c) :
    ∀ W : World, (Instr.slice t (.slice (some ⟨g, 0, none⟩) n c) none (some (.int .i64 i)) none).run P W = .ok (.slice (some ⟨g, 0, none⟩) i.toNat c) W := by
  intro W
  obtain ⟨q, hq, rfl⟩ := Option.map_eq_some_iff.1 hs
  have hel : P.elem t = e := by simp [Program.elem, ht]
  have hu : P.underlying t = some (.slice (P.elem t)) := by rw [hel]; exact ht
  rw [run_slice_h W t (some ⟨g, 0, none⟩) n c hu .i64 i h0 (by omega), hel]
  simp [sizeOf, typeInfo, hq, sliced, Result.andThen, Addr.add]
set_option maxHeartbeats 8000000 in
set_option maxRecDepth 100000 in
theorem impl_Fact_44.cut (pd : S26 → Bool) (g : Nat) (lb : Array Value) (eg : ∀ args w, (callFunc g args).run Try.prog w = .ok (.enter g args) w) (v : Value) (xs : List S26) (w : World) (base : Nat) (hb0 : base ≤ w.heap.size) (ho : Kd.R k26 26 w base (fun _ => True) v xs) (hl0 : xs.length ≤ 140737488355328)
    (hp : ∀ (W : World) (x : S26), Below base w W → Calls Try.prog g (#[.agg #[.int .i64 (x).f0, .int .i64 (x).f1, .int .i64 (x).f2, .int .i64 (x).f3, .int .i64 (x).f4, .int .i64 (x).f5]] ++ lb) W fun e w' => e = .returned (.bool (pd x)) ∧ Below W.heap.size W w') :
    Calls Try.prog 44 #[v, .func (.func g) #[] lb] w fun e w' => ∃ v0, e = .returned v0 ∧ Kd.R k26 26 w' base (fun _ => True) v0 (xs.filter fun x => !pd x) ∧ Below base w w' := by
  have hu26 := Try.underlying26
  obtain ⟨A, c, rfl, hlc, hC⟩ := Kd.R_reads ho
  have low : ∀ {W : World}, Below w.heap.size w W → Below base w W := fun k => ⟨k.os, k.tape, k.output, k.size, fun i hi => k.block i (Nat.lt_of_lt_of_le hi hb0)⟩
  obtain ⟨r, hr, hfound⟩ := impl_Fact_44.first pd xs hl0 xs.length (xs.length + 1) 0 (by omega) (by omega) (by simp)
  have hIF := Aside0.mk (impl_Fact_49.found (fun x => some (pd x)) g lb eg (xs.length + 1) A c xs r w hC hl0 (fun W x b hb hx => by
    obtain rfl := Option.some.inj hx
    exact hp W x (low hb)) hr)
  clear hr hC
  have HP := Aside0.mk hp
  have HO0 := Aside0.mk ho
  clear hp ho
  have HL := Aside0.mk hl0
  clear hl0
  have HB0 := Aside0.mk hb0
  clear hb0
  have LOW := Aside0.mk @low
  clear low
  rcases hfound with ⟨rfl, hall⟩ | ⟨m, rfl, hm, hall, hpm⟩
  · -- nothing is struck
    have he : (xs.filter fun x => !pd x) = xs := List.filter_eq_self.2 (fun x hx => by rw [hall x hx]; rfl)
    rw [he]
    clear hall he
    go_enter Try.func44, Try.ntmps44
    go_wp2_with (first | fail)
    with_reducible refine hIF.out.mono ?_
    rintro e w' ⟨rfl, hb⟩
    have HB := Aside0.mk (LOW.out hb)
    have HO := Aside0.mk (Kd.R_below HO0.out hb)
    clear hb hIF HP HO0 eg
    go_wp2
    go_ret
    exact ⟨_, rfl, by (with_reducible repeat (first | apply Kd.R_alloc | apply Kd.R_drewN | apply Kd.R_drew)); exact HO.out, by repeat (first | (with_reducible first | exact HB.out | apply below_alloc | apply pw_below_drewN | apply below_drew1) | exact HB.out)⟩
  · obtain ⟨g0, c0, hv, hg0, hg1, cells, hcells⟩ := Kd.R_form HO0.out (by omega)
    injection hv with hA _ hc0
    subst hA hc0
    clear cells hcells
    have HI := Aside0.mk (show impl_Fact_44.Inv (fun x => !pd x) xs xs (m : Int) ((m : Int) + 1) xs.length from ⟨by omega, by omega, by omega, by omega, rfl, by
      have e1 : ((m : Int) + 1).toNat = m + 1 := by omega
      have e3 : rd_T26 xs (m : Int) = xs[m] := by
        unfold rd_T26
        rw [List.getD_eq_getElem?_getD, Int.toNat_natCast, List.getElem?_eq_getElem hm]
        rfl
      rw [e1, Int.toNat_natCast, List.take_succ_eq_append_getElem hm, List.filter_append, ← e3, List.filter_cons_of_neg (by rw [hpm]; simp), List.filter_nil, List.append_nil]
      exact (List.filter_eq_self.2 (fun x hx => by rw [hall x hx]; rfl)).symm, rfl⟩)
    clear hall hpm
    have HG := Aside0.mk (And.intro hg0 hg1)
    clear hg0 hg1 
    have hm1 : ((m : Int) == -1) = false := beq_eq_false_iff_ne.2 (by omega)
    have hm2 : wrap64 ((m : Int) + 1) = (m : Int) + 1 := by have := HL.out; unfold wrap64; omega
    have HM := Aside0.mk hm
    clear hm
    go_enter Try.func44, Try.ntmps44
    go_wp2_with (first | fail)
    with_reducible refine hIF.out.mono ?_
    rintro e w1 ⟨rfl, hb⟩
    have HB := Aside0.mk (LOW.out hb)
    have HO := Aside0.mk (Kd.R_below HO0.out hb)
    clear hb hIF HO0
    go_wp2
    go_loopg [5, 6, 7] xs.length (fun kq v5 v6 v7 w' => ∃ (x5 x6 : Int) (ys : List S26), v5 = .int .i64 x5 ∧ v6 = .int .i64 x6 ∧ Aside0 (impl_Fact_44.Inv (fun x => !pd x) xs ys x5 x6 kq) ∧ Aside0 (Kd.R k26 26 w' base (fun _ => True) (.slice (some ⟨g0, 0, none⟩) xs.length c) ys) ∧ Aside0 (Below base w w'))
    case atStart => exact ⟨(m : Int), (m : Int) + 1, xs, rfl, (by first | rfl | (simp [*]; done)), HI, ⟨by (with_reducible repeat (first | apply Kd.R_alloc | apply Kd.R_drewN | apply Kd.R_drew)); exact HO.out⟩, ⟨by repeat (first | (with_reducible first | exact HB.out | apply below_alloc | apply pw_below_drewN | apply below_drew1) | exact HB.out)⟩⟩
    case round =>
      clear HI HO HB hm1 hm2 HM
      obtain ⟨x5, x6, ys, rfl, rfl, HI, HO, HB⟩ := hrel
      by_cases cj : x6 < (xs.length : Int)
      · cases gk with
        | zero => exact absurd HI.out.ms (by omega)
        | succ k1 =>
          have b2 : decide (x6 < (xs.length : Int)) = true := decide_eq_true cj
          have q0 : 0 ≤ x6 := by have := HI.out.h0; have := HI.out.lt; omega
          obtain ⟨ce, hcl, hM, hcc, hfr⟩ := Kd.R_elem HO.out z26 x6 q0 cj
          obtain rfl := k26_openM hM
          have hx0 : wr.cell? ⟨g0, (x6 : Int).toNat * 6, none⟩ = some (.int .i64 ((rd_T26 ys x6).f0)) := hcc 0 _ rfl
          have hx1 : wr.cell? ⟨g0, (x6 : Int).toNat * 6 + 1, none⟩ = some (.int .i64 ((rd_T26 ys x6).f1)) := hcc 1 _ rfl
          have hx2 : wr.cell? ⟨g0, (x6 : Int).toNat * 6 + 2, none⟩ = some (.int .i64 ((rd_T26 ys x6).f2)) := hcc 2 _ rfl
          have hx3 : wr.cell? ⟨g0, (x6 : Int).toNat * 6 + 3, none⟩ = some (.int .i64 ((rd_T26 ys x6).f3)) := hcc 3 _ rfl
          have hx4 : wr.cell? ⟨g0, (x6 : Int).toNat * 6 + 4, none⟩ = some (.int .i64 ((rd_T26 ys x6).f4)) := hcc 4 _ rfl
          have hx5 : wr.cell? ⟨g0, (x6 : Int).toNat * 6 + 5, none⟩ = some (.int .i64 ((rd_T26 ys x6).f5)) := hcc 5 _ rfl
          clear hcl hM hcc hfr
          have E6 := Aside0.mk (show x6 + 1 ≤ 140737488355328 by have := HL.out; omega)
          obtain ⟨x, hx⟩ : ∃ x, x = rd_T26 ys x6 := ⟨_, rfl⟩
          rw [← hx] at hx0 hx1 hx2 hx3 hx4 hx5
          have HX := Aside0.mk hx
          clear hx
          have CJ := Aside0.mk cj
          have p0 := eq_true q0
          have p1 := eq_true cj
          clear cj q0
          go_wp2_with (first | fail)
          with_reducible refine (HP.out _ x (HB.out.alloc (Nat.le_trans HB0.out HB.out.size) _)).mono ?_
          rintro e w3 ⟨rfl, hb3⟩
          have HBn := Aside0.mk (below_then (HB.out.alloc (Nat.le_trans HB0.out HB.out.size) _) (by simp; exact Nat.le_succ_of_le (Nat.le_trans HB0.out HB.out.size)) hb3)
          have HOn := Aside0.mk (Kd.R_below (Kd.R_alloc HO.out _) hb3)
          obtain ⟨B, hB⟩ : ∃ B, B = wr.heap.size := ⟨_, rfl⟩
          have hv0 : w3.cell? ⟨wr.heap.size, 0, none⟩ = some (.int .i64 x.f0) := (hb3.cell (by simp)).trans (by go_simp; done)
          have hv1 : w3.cell? ⟨wr.heap.size, 1, none⟩ = some (.int .i64 x.f1) := (hb3.cell (by simp)).trans (by go_simp; done)
          have hv2 : w3.cell? ⟨wr.heap.size, 2, none⟩ = some (.int .i64 x.f2) := (hb3.cell (by simp)).trans (by go_simp; done)
          have hv3 : w3.cell? ⟨wr.heap.size, 3, none⟩ = some (.int .i64 x.f3) := (hb3.cell (by simp)).trans (by go_simp; done)
          have hv4 : w3.cell? ⟨wr.heap.size, 4, none⟩ = some (.int .i64 x.f4) := (hb3.cell (by simp)).trans (by go_simp; done)
          have hv5 : w3.cell? ⟨wr.heap.size, 5, none⟩ = some (.int .i64 x.f5) := (hb3.cell (by simp)).trans (by go_simp; done)
          rw [← hB] at hv0 hv1 hv2 hv3 hv4 hv5
          rw [← hB]
          clear hB hb3 HB HO hx0 hx1 hx2 hx3 hx4 hx5
          have z6 : wrap64 (x6 + 1) = x6 + 1 := by have := E6.out; have := HI.out.h0; have := HI.out.lt; unfold wrap64; omega
          have Z6 := Aside0.mk z6
          clear z6
          cases hq : pd x with
          | true =>
            go_wp2
            go_roundg k1
            case measure => omega
            case rel => exact ⟨x5, wrap64 (x6 + 1), ys, rfl, (by first | rfl | (simp [*]; done)), ⟨by rw [Z6.out]; exact HI.out.skip CJ.out (by rw [← HX.out, hq]; rfl)⟩, HOn, HBn⟩
          | false =>
            have q5 : 0 ≤ x5 := HI.out.h0
            have r5 : x5 < (xs.length : Int) := by have := HI.out.lt; have := CJ.out; omega
            obtain ⟨ce', hcl', hM', hcc', hfr'⟩ := Kd.R_elem HOn.out z26 x5 q5 r5
            have HP5 := Aside0.mk (Kd.R_seg HOn.out x5 q5 r5 (seg := [.int .i64 x.f0, .int .i64 x.f1, .int .i64 x.f2, .int .i64 x.f3, .int .i64 x.f4, .int .i64 x.f5]) (j := 0) hcl' hcc' (show 6 ≤ 6 from by decide) (x' := x) (by obtain rfl := k26_openM hM'; exact k26_mkM _ _ _ x) (fun _ hk => hk))
            obtain rfl := k26_openM hM'
            have hx0 := hcc' 0 _ rfl; have hf0 := hfr' 0
            simp only [show (k26).sz = 6 from rfl, Nat.mul_one, Nat.add_zero] at hx0 hf0
            have hx1 := hcc' 1 _ rfl; have hf1 := hfr' 1
            simp only [show (k26).sz = 6 from rfl, Nat.mul_one, Nat.add_zero] at hx1 hf1
            have hx2 := hcc' 2 _ rfl; have hf2 := hfr' 2
            simp only [show (k26).sz = 6 from rfl, Nat.mul_one, Nat.add_zero] at hx2 hf2
            have hx3 := hcc' 3 _ rfl; have hf3 := hfr' 3
            simp only [show (k26).sz = 6 from rfl, Nat.mul_one, Nat.add_zero] at hx3 hf3
            have hx4 := hcc' 4 _ rfl; have hf4 := hfr' 4
            simp only [show (k26).sz = 6 from rfl, Nat.mul_one, Nat.add_zero] at hx4 hf4
            have hx5 := hcc' 5 _ rfl; have hf5 := hfr' 5
            simp only [show (k26).sz = 6 from rfl, Nat.mul_one, Nat.add_zero] at hx5 hf5
            clear hcc' hfr' hcl' hM'
            have z5 : wrap64 (x5 + 1) = x5 + 1 := by have := E6.out; have := HI.out.h0; have := HI.out.lt; unfold wrap64; omega
            have Z5 := Aside0.mk z5
            clear z5
            replace q5 := eq_true q5
            replace r5 := eq_true r5
            go_wp2
            go_roundg k1
            case measure => omega
            case rel =>
              refine ⟨wrap64 (x5 + 1), wrap64 (x6 + 1), ys.set x5.toNat x, (by first | rfl | (simp [*]; done)), (by first | rfl | (simp [*]; done)), ⟨?_⟩, ⟨?_⟩, ⟨?_⟩⟩
              · rw [Z6.out, Z5.out, HX.out]
                exact HI.out.keep CJ.out (by rw [← HX.out, hq]; rfl)
              · exact HP5.out.1
              · exact HBn.out.grown HP5.out.2 (Nat.le_trans HB0.out HBn.out.size) (fun k hk => by injection hk with hk; rw [← hk]; exact HG.out.1)
      · have hs6 : (Try.prog.info? 26).map (·.size) = some 6 := by kernel_rfl
        have hzv : ∀ w, (zeroValue 26).run Try.prog w = .ok (.agg #[(.int .i64 0), (.int .i64 0), (.int .i64 0), (.int .i64 0), (.int .i64 0), (.int .i64 0)]) w := by
          obtain ⟨i0, hi, hz⟩ := Option.map_eq_some_iff.1 info26
          simp only [Prod.mk.injEq] at hz
          intro w
          simp [zeroValue, typeInfo, hi, hz.1]
        have b2 : decide (x6 < (xs.length : Int)) = false := decide_eq_false cj
        have h0 := HI.out.h0; have hlt := HI.out.lt; have hle := HI.out.le
        have hsz := HI.out.sz
        have i0 : x5.toNat < xs.length := by omega
        have e6 : x6.toNat = xs.length := by omega
        have HR0 := Kd.R_take HO.out (m := x5.toNat) (by omega)
        have hl : (ys.take x5.toNat).length = x5.toNat := by rw [List.length_take]; omega
        have HW := flat_own (d := k26) (enc := fun x => [.int .i64 x.f0, .int .i64 x.f1, .int .i64 x.f2, .int .i64 x.f3, .int .i64 x.f4, .int .i64 x.f5]) (fun h => k26_openM h) HO.out
        obtain ⟨cur, hh, hbg, hn, hcm, hcs, htk⟩ := own_opened (n := xs.length) (by rw [← hsz]; rw [← hsz] at HW; exact HW)
        have HT := flat_own (d := k26) (enc := fun x => [.int .i64 x.f0, .int .i64 x.f1, .int .i64 x.f2, .int .i64 x.f3, .int .i64 x.f4, .int .i64 x.f5]) (fun h => k26_openM h) HR0
        rw [hl] at HT
        have hcs6 : cur.size = c * 6 := hcs
        have hcl : ∀ ty, (Builtin.clear_ #[24] ty #[.slice (some ⟨g0, x5.toNat * 6, none⟩) (xs.length - x5.toNat) (c - x5.toNat)]).run Try.prog wr = .ok (.tuple #[]) (wr.setCells g0 (x5.toNat * 6) (List.replicate ((xs.length - x5.toNat) * 6) (.int .i64 0))) := fun ty =>
          run_clear_many wr 24 26 ty _ Try.underlying24 hzv g0 (x5.toNat * 6) _ _ (by omega) _ (zeros6 _)
            (fun j hj => by rw [List.length_replicate] at hj; rw [cell_of_row wr g0 _ cur 26 (0, 0) hh, Array.getElem?_eq_getElem (by omega)]; rfl) (fun j _ => blk_frozen hh _) (fun v hv => by rw [List.eq_of_mem_replicate hv]; rfl)
        have HE := Aside0.mk (own_flat (d := k26) (enc := fun x => [.int .i64 x.f0, .int .i64 x.f1, .int .i64 x.f2, .int .i64 x.f3, .int .i64 x.f4, .int .i64 x.f5]) (fun _ _ _ x => k26_mkM _ _ _ x) (fun _ => rfl) (ok := fun _ => True) (v := .slice (some ⟨g0, 0, none⟩) x5.toNat c) (xs := ys.take x5.toNat)
          (by rw [hl]; exact own_beyond (o := x5.toNat * 6) (vs := List.replicate ((xs.length - x5.toNat) * 6) (.int .i64 0)) HT (Nat.le_refl _) (by rw [List.length_replicate]; show _ ≤ c * 6; omega)) (fun _ _ => trivial))
        have HBe := Aside0.mk (HB.out.grown (grown_setCells wr g0 (x5.toNat * 6) (List.replicate ((xs.length - x5.toNat) * 6) (.int .i64 0))) (Nat.le_trans HB0.out HB.out.size) (fun k hk => by injection hk with hk; rw [← hk]; exact HG.out.1))
        have hlo := impl_Fact_44.cut_lo (P := Try.prog) Try.underlying24 hs6 g0 xs.length c x5 h0 (by omega) (by omega)
        have hhi := impl_Fact_44.cut_hi (P := Try.prog) Try.underlying24 hs6 g0 xs.length c x5 h0 (by omega) (by omega)
        have EQ := Aside0.mk (show ys.take x5.toNat = xs.filter (fun x => !pd x) by have := HI.out.lo; rwa [e6, List.take_of_length_le (Nat.le_refl _)] at this)
        clear hs6 hzv h0 hlt hle hsz i0 e6 HR0 hl HW hh hbg hn hcm hcs htk HT hcs6 cj HI HO HB HP eg
        go_wp2
        go_ret
        exact ⟨_, rfl, by rw [← EQ.out]; exact HE.out, HBe.out⟩

end Go.Proofs.Ythanecnkknimpaa.PFnExactDropPast
