/- What this law reaches, as plain Lean functions, and the proofs that the machine's calls answer what they answer; laid by a program of this session over the kit's print, some functions by hand. Conditions: none beyond each theorem's own. -/
import Derived.Test.YtobpbnbjdpdflabPFnTimesx0
import Derived.Test.YtobpbnbjdpdflabPFnTimesx1
namespace Go.Proofs.Ytobpbnbjdpdflab.PFnTimes
open Go.RowKit Go.Proofs.YtobpbnbjdpdflabW.PrintWords Go.Proofs.YtobpbnbjdpdflabW.PrintLast Go.Proofs.YtobpbnbjdpdflabW.PrintMore
attribute [local go_sem] max2_int min2_int max_two min_two max_three min_three max_four min_four   -- for this text's walks alone
set_option linter.unusedVariables false
set_option linter.unusedSimpArgs false

/-! ### impl_IsWithin: function 53 -/
def impl_IsWithin.f (a0 : Int) (a1 : Int) (a2 : Int) : Option (Bool) := (impl_IsTime.f a0).bind fun t167 => (if t167 = true then ((impl_IsTime.f a1).bind fun t168 => (if t168 = true then ((impl_IsTime.f a2).bind fun t169 => (if t169 = true then ((impl_InRange.f a2 a0 a1).bind fun t170 => (some t170)) else (some false))) else (some false))) else (some false))
set_option maxHeartbeats 8000000 in
set_option maxRecDepth 100000 in
theorem impl_IsWithin.calls (a0 : Int) (a1 : Int) (a2 : Int) (r : Bool) (w : World) (h : impl_IsWithin.f a0 a1 a2 = some r) :
    Calls Try.prog 53 #[.int .i64 a0, .int .i64 a1, .int .i64 a2] w fun e w' => e = .returned (.bool r) ∧ Drawn0 w w' := by
  have H : ((impl_IsTime.f a0).bind fun t167 => (if t167 = true then ((impl_IsTime.f a1).bind fun t168 => (if t168 = true then ((impl_IsTime.f a2).bind fun t169 => (if t169 = true then ((impl_InRange.f a2 a0 a1).bind fun t170 => (some t170)) else (some false))) else (some false))) else (some false))) = some r := h
  clear h
  replace H := Option.bind_eq_some_iff.mp H
  obtain ⟨t167, A40, H⟩ := H
  replace H : (if t167 = true then ((impl_IsTime.f a1).bind fun t168 => (if t168 = true then ((impl_IsTime.f a2).bind fun t169 => (if t169 = true then ((impl_InRange.f a2 a0 a1).bind fun t170 => (some t170)) else (some false))) else (some false))) else (some false)) = some r := H
  have A4 := Aside0.mk A40
  clear A40
  by_cases c5 : t167 = true
  · subst c5
    have H1 : ((impl_IsTime.f a1).bind fun t168 => (if t168 = true then ((impl_IsTime.f a2).bind fun t169 => (if t169 = true then ((impl_InRange.f a2 a0 a1).bind fun t170 => (some t170)) else (some false))) else (some false))) = some r := by rw [if_pos rfl] at H; exact H
    clear H
    have H := H1
    clear H1
    replace H := Option.bind_eq_some_iff.mp H
    obtain ⟨t168, A60, H⟩ := H
    replace H : (if t168 = true then ((impl_IsTime.f a2).bind fun t169 => (if t169 = true then ((impl_InRange.f a2 a0 a1).bind fun t170 => (some t170)) else (some false))) else (some false)) = some r := H
    have A6 := Aside0.mk A60
    clear A60
    by_cases c7 : t168 = true
    · subst c7
      have H1 : ((impl_IsTime.f a2).bind fun t169 => (if t169 = true then ((impl_InRange.f a2 a0 a1).bind fun t170 => (some t170)) else (some false))) = some r := by rw [if_pos rfl] at H; exact H
      clear H
      have H := H1
      clear H1
      replace H := Option.bind_eq_some_iff.mp H
      obtain ⟨t169, A80, H⟩ := H
      replace H : (if t169 = true then ((impl_InRange.f a2 a0 a1).bind fun t170 => (some t170)) else (some false)) = some r := H
      have A8 := Aside0.mk A80
      clear A80
      by_cases c9 : t169 = true
      · subst c9
        have H1 : ((impl_InRange.f a2 a0 a1).bind fun t170 => (some t170)) = some r := by rw [if_pos rfl] at H; exact H
        clear H
        have H := H1
        clear H1
        replace H := Option.bind_eq_some_iff.mp H
        obtain ⟨t170, A100, H⟩ := H
        replace H : (some t170) = some r := H
        have A10 := Aside0.mk A100
        clear A100
        obtain rfl := Option.some.inj H
        go_enter Try.func53, Try.ntmps53
        go_wp2_with (first | ((with_reducible refine gate_callee (f := 52) rfl ?_); refine goesL_ (some 8) rfl rfl Try.func52 (by kernel_rfl) rfl #[.int .i64 a0] rfl (by (try simp only [List.map_toArray, List.map_cons, List.map_nil]); first | done | rfl | (simp only [List.length_drop, List.length_take]; rfl)) ?_; (with_reducible refine (impl_IsTime.calls a0 true _ A4.out).mono ?_); rintro e w' ⟨rfl, ⟨nd, rfl⟩⟩; refine ⟨_, rfl, ?_⟩) | (go_at_call 52; (with_reducible refine (impl_IsTime.calls a1 true _ A6.out).mono ?_); rintro e w' ⟨rfl, ⟨nd, rfl⟩⟩) | (go_at_call 52; (with_reducible refine (impl_IsTime.calls a2 true _ A8.out).mono ?_); rintro e w' ⟨rfl, ⟨nd, rfl⟩⟩) | (go_at_call 66; (with_reducible refine (impl_InRange.calls a2 a0 a1 t170 _ A10.out).mono ?_); rintro e w' ⟨rfl, ⟨nd, rfl⟩⟩))
        go_ret
        exact ⟨by first | rfl | (simp; done) | (simp [*]; done), by repeat (first | exact Drawn0.refl _ | apply Drawn0.step)⟩
      · replace c9 := Bool.eq_false_iff.mpr c9
        subst c9
        have H1 : (some false) = some r := by rw [if_neg (show ¬ (false = true) by decide)] at H; exact H
        clear H
        have H := H1
        clear H1
        obtain rfl := Option.some.inj H
        go_enter Try.func53, Try.ntmps53
        go_wp2_with (first | ((with_reducible refine gate_callee (f := 52) rfl ?_); refine goesL_ (some 8) rfl rfl Try.func52 (by kernel_rfl) rfl #[.int .i64 a0] rfl (by (try simp only [List.map_toArray, List.map_cons, List.map_nil]); first | done | rfl | (simp only [List.length_drop, List.length_take]; rfl)) ?_; (with_reducible refine (impl_IsTime.calls a0 true _ A4.out).mono ?_); rintro e w' ⟨rfl, ⟨nd, rfl⟩⟩; refine ⟨_, rfl, ?_⟩) | (go_at_call 52; (with_reducible refine (impl_IsTime.calls a1 true _ A6.out).mono ?_); rintro e w' ⟨rfl, ⟨nd, rfl⟩⟩) | (go_at_call 52; (with_reducible refine (impl_IsTime.calls a2 false _ A8.out).mono ?_); rintro e w' ⟨rfl, ⟨nd, rfl⟩⟩))
        go_ret
        exact ⟨by first | rfl | (simp; done) | (simp [*]; done), by repeat (first | exact Drawn0.refl _ | apply Drawn0.step)⟩
    · replace c7 := Bool.eq_false_iff.mpr c7
      subst c7
      have H1 : (some false) = some r := by rw [if_neg (show ¬ (false = true) by decide)] at H; exact H
      clear H
      have H := H1
      clear H1
      obtain rfl := Option.some.inj H
      go_enter Try.func53, Try.ntmps53
      go_wp2_with (first | ((with_reducible refine gate_callee (f := 52) rfl ?_); refine goesL_ (some 8) rfl rfl Try.func52 (by kernel_rfl) rfl #[.int .i64 a0] rfl (by (try simp only [List.map_toArray, List.map_cons, List.map_nil]); first | done | rfl | (simp only [List.length_drop, List.length_take]; rfl)) ?_; (with_reducible refine (impl_IsTime.calls a0 true _ A4.out).mono ?_); rintro e w' ⟨rfl, ⟨nd, rfl⟩⟩; refine ⟨_, rfl, ?_⟩) | (go_at_call 52; (with_reducible refine (impl_IsTime.calls a1 false _ A6.out).mono ?_); rintro e w' ⟨rfl, ⟨nd, rfl⟩⟩))
      go_ret
      exact ⟨by first | rfl | (simp; done) | (simp [*]; done), by repeat (first | exact Drawn0.refl _ | apply Drawn0.step)⟩
  · replace c5 := Bool.eq_false_iff.mpr c5
    subst c5
    have H1 : (some false) = some r := by rw [if_neg (show ¬ (false = true) by decide)] at H; exact H
    clear H
    have H := H1
    clear H1
    obtain rfl := Option.some.inj H
    go_enter Try.func53, Try.ntmps53
    go_wp2_with (first | ((with_reducible refine gate_callee (f := 52) rfl ?_); refine goesL_ (some 8) rfl rfl Try.func52 (by kernel_rfl) rfl #[.int .i64 a0] rfl (by (try simp only [List.map_toArray, List.map_cons, List.map_nil]); first | done | rfl | (simp only [List.length_drop, List.length_take]; rfl)) ?_; (with_reducible refine (impl_IsTime.calls a0 false _ A4.out).mono ?_); rintro e w' ⟨rfl, ⟨nd, rfl⟩⟩; refine ⟨_, rfl, ?_⟩))
    go_ret
    exact ⟨by first | rfl | (simp; done) | (simp [*]; done), by repeat (first | exact Drawn0.refl _ | apply Drawn0.step)⟩

/-! ### impl_LeftOf: function 54 -/
def impl_LeftOf.f (a0 : Int) (a1 : Int) : Option (Int) := (impl_IsTime.f a0).bind fun t171 => (if t171 = true then ((impl_IsTime.f a1).bind fun t172 => (if t172 = true then (some (mx (wrap64 (a0 - a1)) 0)) else (some 0))) else (some 0))
set_option maxHeartbeats 8000000 in
set_option maxRecDepth 100000 in
theorem impl_LeftOf.calls (a0 : Int) (a1 : Int) (r : Int) (w : World) (h : impl_LeftOf.f a0 a1 = some r) :
    Calls Try.prog 54 #[.int .i64 a0, .int .i64 a1] w fun e w' => e = .returned (.int .i64 r) ∧ Below w.heap.size w w' := by
  have HB := Aside0.mk (Below.refl w.heap.size w)
  have H : ((impl_IsTime.f a0).bind fun t171 => (if t171 = true then ((impl_IsTime.f a1).bind fun t172 => (if t172 = true then (some (mx (wrap64 (a0 - a1)) 0)) else (some 0))) else (some 0))) = some r := h
  clear h
  replace H := Option.bind_eq_some_iff.mp H
  obtain ⟨t171, A30, H⟩ := H
  replace H : (if t171 = true then ((impl_IsTime.f a1).bind fun t172 => (if t172 = true then (some (mx (wrap64 (a0 - a1)) 0)) else (some 0))) else (some 0)) = some r := H
  have A3 := Aside0.mk A30
  clear A30
  by_cases c4 : t171 = true
  · subst c4
    have H1 : ((impl_IsTime.f a1).bind fun t172 => (if t172 = true then (some (mx (wrap64 (a0 - a1)) 0)) else (some 0))) = some r := by rw [if_pos rfl] at H; exact H
    clear H
    have H := H1
    clear H1
    replace H := Option.bind_eq_some_iff.mp H
    obtain ⟨t172, A50, H⟩ := H
    replace H : (if t172 = true then (some (mx (wrap64 (a0 - a1)) 0)) else (some 0)) = some r := H
    have A5 := Aside0.mk A50
    clear A50
    by_cases c6 : t172 = true
    · subst c6
      have H1 : (some (mx (wrap64 (a0 - a1)) 0)) = some r := by rw [if_pos rfl] at H; exact H
      clear H
      have H := H1
      clear H1
      obtain ⟨ji7, hji7⟩ : ∃ j_ : Int, (mx (wrap64 (a0 - a1)) 0) = j_ := ⟨_, rfl⟩
      replace H : (some ji7) = some r := by first | (rw [hji7] at H; exact H) | (simp only [hji7] at H ⊢; exact H)
      (try rw [hji7] at A3)
      (try rw [hji7] at A5)
      (try (have hji7l : 0 ≤ ji7 := by (rw [← hji7]; unfold mx; (repeat' split) <;> omega)))
      (try (have hji7m : 0 ≤ ji7 := by omega))
      have hji7_ : (if (wrap64 (a0 - a1)) < 0 then 0 else (wrap64 (a0 - a1))) = ji7 := hji7
      obtain rfl := Option.some.inj H
      go_enter Try.func54, Try.ntmps54
      go_wp2_with (first | ((with_reducible refine gate_callee (f := 52) rfl ?_); refine goesL_ (some 6) rfl rfl Try.func52 (by kernel_rfl) rfl #[.int .i64 a0] rfl (by (try simp only [List.map_toArray, List.map_cons, List.map_nil]); first | done | rfl | (simp only [List.length_drop, List.length_take]; rfl)) ?_; (with_reducible refine (impl_IsTime.calls a0 true _ A3.out).mono ?_); rintro e w' ⟨rfl, ⟨nd, rfl⟩⟩; refine ⟨_, rfl, ?_⟩) | (go_at_call 52; (with_reducible refine (impl_IsTime.calls a1 true _ A5.out).mono ?_); rintro e w' ⟨rfl, ⟨nd, rfl⟩⟩))
      go_ret
      exact ⟨by first | rfl | (simp [errW_none, errW_some] <;> rfl) | (simp only [← hji7]; first | rfl | (simp [errW_none, errW_some] <;> rfl)) | (simp [*, errW_none, errW_some] <;> rfl), by repeat (first | (with_reducible first | exact HB.out | apply below_alloc | apply pw_below_drewN | apply below_drew1) | exact HB.out)⟩
    · replace c6 := Bool.eq_false_iff.mpr c6
      subst c6
      have H1 : (some 0) = some r := by rw [if_neg (show ¬ (false = true) by decide)] at H; exact H
      clear H
      have H := H1
      clear H1
      obtain rfl := Option.some.inj H
      go_enter Try.func54, Try.ntmps54
      go_wp2_with (first | ((with_reducible refine gate_callee (f := 52) rfl ?_); refine goesL_ (some 6) rfl rfl Try.func52 (by kernel_rfl) rfl #[.int .i64 a0] rfl (by (try simp only [List.map_toArray, List.map_cons, List.map_nil]); first | done | rfl | (simp only [List.length_drop, List.length_take]; rfl)) ?_; (with_reducible refine (impl_IsTime.calls a0 true _ A3.out).mono ?_); rintro e w' ⟨rfl, ⟨nd, rfl⟩⟩; refine ⟨_, rfl, ?_⟩) | (go_at_call 52; (with_reducible refine (impl_IsTime.calls a1 false _ A5.out).mono ?_); rintro e w' ⟨rfl, ⟨nd, rfl⟩⟩))
      go_ret
      exact ⟨by first | rfl | (simp [errW_none, errW_some] <;> rfl) | (simp [*, errW_none, errW_some] <;> rfl), by repeat (first | (with_reducible first | exact HB.out | apply below_alloc | apply pw_below_drewN | apply below_drew1) | exact HB.out)⟩
  · replace c4 := Bool.eq_false_iff.mpr c4
    subst c4
    have H1 : (some 0) = some r := by rw [if_neg (show ¬ (false = true) by decide)] at H; exact H
    clear H
    have H := H1
    clear H1
    obtain rfl := Option.some.inj H
    go_enter Try.func54, Try.ntmps54
    go_wp2_with (first | ((with_reducible refine gate_callee (f := 52) rfl ?_); refine goesL_ (some 6) rfl rfl Try.func52 (by kernel_rfl) rfl #[.int .i64 a0] rfl (by (try simp only [List.map_toArray, List.map_cons, List.map_nil]); first | done | rfl | (simp only [List.length_drop, List.length_take]; rfl)) ?_; (with_reducible refine (impl_IsTime.calls a0 false _ A3.out).mono ?_); rintro e w' ⟨rfl, ⟨nd, rfl⟩⟩; refine ⟨_, rfl, ?_⟩))
    go_ret
    exact ⟨by first | rfl | (simp [errW_none, errW_some] <;> rfl) | (simp [*, errW_none, errW_some] <;> rfl), by repeat (first | (with_reducible first | exact HB.out | apply below_alloc | apply pw_below_drewN | apply below_drew1) | exact HB.out)⟩

/-! ### laws_FnTimes: function 12 -/
mutual
def laws_FnTimes.j0 : Nat → Int → Int → Int → Int → Int → Int → Bool → Option (Bool)
  | 0, _, _, _, _, _, _, _ => none
  | k + 1, x5, x6, x7, x8, x9, x11, x71 => if x71 = true then (some false) else ((impl_IsTime.f x5).bind fun t188 => (if t188 = true then ((impl_IsTime.f x6).bind fun t189 => (if t189 = true then (if x11 < x5 then (laws_FnTimes.j1 k x7 x8 x9 true) else (if x11 > (wrap64 (x5 + x6)) then (laws_FnTimes.j1 k x7 x8 x9 true) else ((impl_IsTime.f x11).bind fun t190 => (if t190 = true then ((impl_IsWithin.f x5 x11 x5).bind fun t191 => (laws_FnTimes.j1 k x7 x8 x9 (!t191))) else (laws_FnTimes.j1 k x7 x8 x9 true))))) else (laws_FnTimes.j1 k x7 x8 x9 false))) else (laws_FnTimes.j1 k x7 x8 x9 false)))
def laws_FnTimes.j1 : Nat → Int → Int → Int → Bool → Option (Bool)
  | 0, _, _, _, _ => none
  | k + 1, x7, x8, x9, x101 => if x101 = true then (some false) else ((impl_IsWithin.f x7 x8 x9).bind fun t192 => (if t192 = true then ((impl_AgeOf.f x7 x9).bind fun t193 => (if t193 < 0 then (some false) else ((impl_LeftOf.f x8 x9).bind fun t194 => (if (wrap64 (t194 + x9)) = x8 then ((impl_LeftOf.f x8 x9).bind fun t195 => (some (decide (t195 ≥ 0)))) else (some false))))) else ((impl_LeftOf.f x8 x9).bind fun t196 => (some (decide (t196 ≥ 0))))))
end
def laws_FnTimes.f (k : Nat) (l0 : List Int) : Option (Bool) := (laws_big.f l0).bind fun t173 => (if t173 = true then (some true) else ((spec_DrawAgeOf.f k l0).bind fun bt174 => ((spec_DrawEndOf.f k l0).bind fun bt176 => ((spec_DrawIsWithin.f k l0).bind fun bt178 => ((impl_AgeOf.f bt174.1 bt174.2).bind fun t181 => ((impl_EndOf.f bt176.1 bt176.2).bind fun t182 => (if t181 ≥ 0 then (if (wrap64 (bt174.1 + t181)) = bt174.2 then ((impl_IsFresh.f bt174.1 bt174.2 t181).bind fun t183 => (if t183 = true then (if t181 > 0 then ((impl_IsFresh.f bt174.1 bt174.2 (wrap64 (t181 - 1))).bind fun t184 => (if t184 = true then (laws_FnTimes.j0 k bt176.1 bt176.2 bt178.1 bt178.2.1 bt178.2.2 t182 true) else (if t181 < 0 then ((impl_IsFresh.f bt174.1 bt174.2 10000).bind fun t185 => (laws_FnTimes.j0 k bt176.1 bt176.2 bt178.1 bt178.2.1 bt178.2.2 t182 t185)) else (laws_FnTimes.j0 k bt176.1 bt176.2 bt178.1 bt178.2.1 bt178.2.2 t182 false)))) else (if t181 < 0 then ((impl_IsFresh.f bt174.1 bt174.2 10000).bind fun t186 => (laws_FnTimes.j0 k bt176.1 bt176.2 bt178.1 bt178.2.1 bt178.2.2 t182 t186)) else (laws_FnTimes.j0 k bt176.1 bt176.2 bt178.1 bt178.2.1 bt178.2.2 t182 false))) else (laws_FnTimes.j0 k bt176.1 bt176.2 bt178.1 bt178.2.1 bt178.2.2 t182 true))) else (laws_FnTimes.j0 k bt176.1 bt176.2 bt178.1 bt178.2.1 bt178.2.2 t182 true)) else (if t181 < 0 then ((impl_IsFresh.f bt174.1 bt174.2 10000).bind fun t187 => (laws_FnTimes.j0 k bt176.1 bt176.2 bt178.1 bt178.2.1 bt178.2.2 t182 t187)) else (laws_FnTimes.j0 k bt176.1 bt176.2 bt178.1 bt178.2.1 bt178.2.2 t182 false)))))))))
theorem laws_FnTimes.mono_l : ∀ k, (∀ y0 y1 y2 y3 y4 y5 y6, LeO (laws_FnTimes.j0 k y0 y1 y2 y3 y4 y5 y6) (laws_FnTimes.j0 (k + 1) y0 y1 y2 y3 y4 y5 y6)) ∧ (∀ y0 y1 y2 y3, LeO (laws_FnTimes.j1 k y0 y1 y2 y3) (laws_FnTimes.j1 (k + 1) y0 y1 y2 y3))
  | 0 => ⟨fun _ _ _ _ _ _ _ r h => by simp [laws_FnTimes.j0] at h, fun _ _ _ _ r h => by simp [laws_FnTimes.j1] at h⟩
  | k + 1 => by
    obtain ⟨ih0, ih1⟩ := laws_FnTimes.mono_l k
    refine ⟨?_, ?_⟩
    · intro y0 y1 y2 y3 y4 y5 y6
      unfold laws_FnTimes.j0
      repeat' first
      | (with_reducible exact ih0 _ _ _ _ _ _ _)
      | (with_reducible exact ih1 _ _ _ _)
      | (with_reducible exact spec_DrawAgeOf.mono _ _)
      | (with_reducible exact spec_DrawEndOf.mono _ _)
      | (with_reducible exact spec_DrawIsWithin.mono _ _)
      | (with_reducible exact LeO.refl _)
      | (with_reducible exact LeO.none _)
      | (with_reducible refine LeO.ite ?_ ?_)
      | (with_reducible refine LeO.bind ?_ (fun _ => ?_))
      | exact ih0 _ _ _ _ _ _ _
      | exact ih1 _ _ _ _
      | exact spec_DrawAgeOf.mono _ _
      | exact spec_DrawEndOf.mono _ _
      | exact spec_DrawIsWithin.mono _ _
      | exact LeO.none _
      | refine LeO.ite ?_ ?_
      | refine LeO.bind ?_ (fun _ => ?_)
    · intro y0 y1 y2 y3
      unfold laws_FnTimes.j1
      repeat' first
      | (with_reducible exact ih0 _ _ _ _ _ _ _)
      | (with_reducible exact ih1 _ _ _ _)
      | (with_reducible exact spec_DrawAgeOf.mono _ _)
      | (with_reducible exact spec_DrawEndOf.mono _ _)
      | (with_reducible exact spec_DrawIsWithin.mono _ _)
      | (with_reducible exact LeO.refl _)
      | (with_reducible exact LeO.none _)
      | (with_reducible refine LeO.ite ?_ ?_)
      | (with_reducible refine LeO.bind ?_ (fun _ => ?_))
      | exact ih0 _ _ _ _ _ _ _
      | exact ih1 _ _ _ _
      | exact spec_DrawAgeOf.mono _ _
      | exact spec_DrawEndOf.mono _ _
      | exact spec_DrawIsWithin.mono _ _
      | exact LeO.none _
      | refine LeO.ite ?_ ?_
      | refine LeO.bind ?_ (fun _ => ?_)
theorem laws_FnTimes.mono : ∀ a0 k, LeO (laws_FnTimes.f k a0) (laws_FnTimes.f (k + 1) a0) := by
  intro a0 k
  obtain ⟨ih0, ih1⟩ := laws_FnTimes.mono_l k
  unfold laws_FnTimes.f
  repeat' first
      | (with_reducible exact ih0 _ _ _ _ _ _ _)
      | (with_reducible exact ih1 _ _ _ _)
      | (with_reducible exact spec_DrawAgeOf.mono _ _)
      | (with_reducible exact spec_DrawEndOf.mono _ _)
      | (with_reducible exact spec_DrawIsWithin.mono _ _)
      | (with_reducible exact LeO.refl _)
      | (with_reducible exact LeO.none _)
      | (with_reducible refine LeO.ite ?_ ?_)
      | (with_reducible refine LeO.bind ?_ (fun _ => ?_))
      | exact ih0 _ _ _ _ _ _ _
      | exact ih1 _ _ _ _
      | exact spec_DrawAgeOf.mono _ _
      | exact spec_DrawEndOf.mono _ _
      | exact spec_DrawIsWithin.mono _ _
      | exact LeO.none _
      | refine LeO.ite ?_ ?_
      | refine LeO.bind ?_ (fun _ => ?_)
set_option maxHeartbeats 8000000 in
set_option maxRecDepth 100000 in
theorem laws_FnTimes.calls (k : Nat) (A0 : Option Addr) (c0 : Nat) (l0 : List Int) (r : Bool) (w : World) (hr0 : Kd.C (Kd.int .u8) w A0 l0.length l0) (hc0 : l0.length ≤ c0) (h : laws_FnTimes.f k l0 = some r) :
    Calls Try.prog 12 #[.slice A0 l0.length c0] w fun e w' => e = .returned (.bool r) ∧ Below w.heap.size w w' := by
  have HR0 := Aside0.mk hr0
  have HC0 := Aside0.mk hc0
  clear hr0 hc0
  have HB := Aside0.mk (Below.refl w.heap.size w)
  have H : ((laws_big.f l0).bind fun t173 => (if t173 = true then (some true) else ((spec_DrawAgeOf.f k l0).bind fun bt174 => ((spec_DrawEndOf.f k l0).bind fun bt176 => ((spec_DrawIsWithin.f k l0).bind fun bt178 => ((impl_AgeOf.f bt174.1 bt174.2).bind fun t181 => ((impl_EndOf.f bt176.1 bt176.2).bind fun t182 => (if t181 ≥ 0 then (if (wrap64 (bt174.1 + t181)) = bt174.2 then ((impl_IsFresh.f bt174.1 bt174.2 t181).bind fun t183 => (if t183 = true then (if t181 > 0 then ((impl_IsFresh.f bt174.1 bt174.2 (wrap64 (t181 - 1))).bind fun t184 => (if t184 = true then (laws_FnTimes.j0 k bt176.1 bt176.2 bt178.1 bt178.2.1 bt178.2.2 t182 true) else (if t181 < 0 then ((impl_IsFresh.f bt174.1 bt174.2 10000).bind fun t185 => (laws_FnTimes.j0 k bt176.1 bt176.2 bt178.1 bt178.2.1 bt178.2.2 t182 t185)) else (laws_FnTimes.j0 k bt176.1 bt176.2 bt178.1 bt178.2.1 bt178.2.2 t182 false)))) else (if t181 < 0 then ((impl_IsFresh.f bt174.1 bt174.2 10000).bind fun t186 => (laws_FnTimes.j0 k bt176.1 bt176.2 bt178.1 bt178.2.1 bt178.2.2 t182 t186)) else (laws_FnTimes.j0 k bt176.1 bt176.2 bt178.1 bt178.2.1 bt178.2.2 t182 false))) else (laws_FnTimes.j0 k bt176.1 bt176.2 bt178.1 bt178.2.1 bt178.2.2 t182 true))) else (laws_FnTimes.j0 k bt176.1 bt176.2 bt178.1 bt178.2.1 bt178.2.2 t182 true)) else (if t181 < 0 then ((impl_IsFresh.f bt174.1 bt174.2 10000).bind fun t187 => (laws_FnTimes.j0 k bt176.1 bt176.2 bt178.1 bt178.2.1 bt178.2.2 t182 t187)) else (laws_FnTimes.j0 k bt176.1 bt176.2 bt178.1 bt178.2.1 bt178.2.2 t182 false)))))))))) = some r := h
  clear h
  replace H := Option.bind_eq_some_iff.mp H
  obtain ⟨t173, A20, H⟩ := H
  replace H : (if t173 = true then (some true) else ((spec_DrawAgeOf.f k l0).bind fun bt174 => ((spec_DrawEndOf.f k l0).bind fun bt176 => ((spec_DrawIsWithin.f k l0).bind fun bt178 => ((impl_AgeOf.f bt174.1 bt174.2).bind fun t181 => ((impl_EndOf.f bt176.1 bt176.2).bind fun t182 => (if t181 ≥ 0 then (if (wrap64 (bt174.1 + t181)) = bt174.2 then ((impl_IsFresh.f bt174.1 bt174.2 t181).bind fun t183 => (if t183 = true then (if t181 > 0 then ((impl_IsFresh.f bt174.1 bt174.2 (wrap64 (t181 - 1))).bind fun t184 => (if t184 = true then (laws_FnTimes.j0 k bt176.1 bt176.2 bt178.1 bt178.2.1 bt178.2.2 t182 true) else (if t181 < 0 then ((impl_IsFresh.f bt174.1 bt174.2 10000).bind fun t185 => (laws_FnTimes.j0 k bt176.1 bt176.2 bt178.1 bt178.2.1 bt178.2.2 t182 t185)) else (laws_FnTimes.j0 k bt176.1 bt176.2 bt178.1 bt178.2.1 bt178.2.2 t182 false)))) else (if t181 < 0 then ((impl_IsFresh.f bt174.1 bt174.2 10000).bind fun t186 => (laws_FnTimes.j0 k bt176.1 bt176.2 bt178.1 bt178.2.1 bt178.2.2 t182 t186)) else (laws_FnTimes.j0 k bt176.1 bt176.2 bt178.1 bt178.2.1 bt178.2.2 t182 false))) else (laws_FnTimes.j0 k bt176.1 bt176.2 bt178.1 bt178.2.1 bt178.2.2 t182 true))) else (laws_FnTimes.j0 k bt176.1 bt176.2 bt178.1 bt178.2.1 bt178.2.2 t182 true)) else (if t181 < 0 then ((impl_IsFresh.f bt174.1 bt174.2 10000).bind fun t187 => (laws_FnTimes.j0 k bt176.1 bt176.2 bt178.1 bt178.2.1 bt178.2.2 t182 t187)) else (laws_FnTimes.j0 k bt176.1 bt176.2 bt178.1 bt178.2.1 bt178.2.2 t182 false))))))))) = some r := H
  have A2 := Aside0.mk A20
  clear A20
  by_cases c3 : t173 = true
  · subst c3
    have H1 : (some true) = some r := by rw [if_pos rfl] at H; exact H
    clear H
    have H := H1
    clear H1
    obtain rfl := Option.some.inj H
    go_enter Try.func12, Try.ntmps12
    go_wp2_with (first | ((with_reducible refine gate_callee (f := 45) rfl ?_); refine goesL_ (some 13) rfl rfl Try.func45 (by kernel_rfl) rfl #[.slice A0 l0.length c0] rfl (by (try simp only [List.map_toArray, List.map_cons, List.map_nil]); first | done | rfl | (simp only [List.length_drop, List.length_take]; rfl)) ?_; (with_reducible refine (laws_big.calls _ _ l0 true _ ?side1 ?side2 A2.out).mono ?_); (case side1 => repeat (first | exact HR0.out | (with_reducible refine Kd.C_alloc ?_ _) | (with_reducible refine Kd.C_drewN ?_ _) | (with_reducible refine Kd.C_drew ?_))); (case side2 => exact HC0.out); rintro e w' ⟨rfl, ⟨nd, rfl⟩⟩; refine ⟨_, rfl, ?_⟩))
    go_ret
    exact ⟨by first | rfl | (simp [errW_none, errW_some] <;> rfl) | (simp [*, errW_none, errW_some] <;> rfl), by repeat (first | (with_reducible first | exact HB.out | apply below_alloc | apply pw_below_drewN | apply below_drew1) | exact HB.out)⟩
  · replace c3 := Bool.eq_false_iff.mpr c3
    subst c3
    have H1 : ((spec_DrawAgeOf.f k l0).bind fun bt174 => ((spec_DrawEndOf.f k l0).bind fun bt176 => ((spec_DrawIsWithin.f k l0).bind fun bt178 => ((impl_AgeOf.f bt174.1 bt174.2).bind fun t181 => ((impl_EndOf.f bt176.1 bt176.2).bind fun t182 => (if t181 ≥ 0 then (if (wrap64 (bt174.1 + t181)) = bt174.2 then ((impl_IsFresh.f bt174.1 bt174.2 t181).bind fun t183 => (if t183 = true then (if t181 > 0 then ((impl_IsFresh.f bt174.1 bt174.2 (wrap64 (t181 - 1))).bind fun t184 => (if t184 = true then (laws_FnTimes.j0 k bt176.1 bt176.2 bt178.1 bt178.2.1 bt178.2.2 t182 true) else (if t181 < 0 then ((impl_IsFresh.f bt174.1 bt174.2 10000).bind fun t185 => (laws_FnTimes.j0 k bt176.1 bt176.2 bt178.1 bt178.2.1 bt178.2.2 t182 t185)) else (laws_FnTimes.j0 k bt176.1 bt176.2 bt178.1 bt178.2.1 bt178.2.2 t182 false)))) else (if t181 < 0 then ((impl_IsFresh.f bt174.1 bt174.2 10000).bind fun t186 => (laws_FnTimes.j0 k bt176.1 bt176.2 bt178.1 bt178.2.1 bt178.2.2 t182 t186)) else (laws_FnTimes.j0 k bt176.1 bt176.2 bt178.1 bt178.2.1 bt178.2.2 t182 false))) else (laws_FnTimes.j0 k bt176.1 bt176.2 bt178.1 bt178.2.1 bt178.2.2 t182 true))) else (laws_FnTimes.j0 k bt176.1 bt176.2 bt178.1 bt178.2.1 bt178.2.2 t182 true)) else (if t181 < 0 then ((impl_IsFresh.f bt174.1 bt174.2 10000).bind fun t187 => (laws_FnTimes.j0 k bt176.1 bt176.2 bt178.1 bt178.2.1 bt178.2.2 t182 t187)) else (laws_FnTimes.j0 k bt176.1 bt176.2 bt178.1 bt178.2.1 bt178.2.2 t182 false)))))))) = some r := by rw [if_neg (show ¬ (false = true) by decide)] at H; exact H
    clear H
    have H := H1
    clear H1
    replace H := Option.bind_eq_some_iff.mp H
    obtain ⟨⟨t174, t175⟩, A40, H⟩ := H
    replace H : ((spec_DrawEndOf.f k l0).bind fun bt176 => ((spec_DrawIsWithin.f k l0).bind fun bt178 => ((impl_AgeOf.f t174 t175).bind fun t181 => ((impl_EndOf.f bt176.1 bt176.2).bind fun t182 => (if t181 ≥ 0 then (if (wrap64 (t174 + t181)) = t175 then ((impl_IsFresh.f t174 t175 t181).bind fun t183 => (if t183 = true then (if t181 > 0 then ((impl_IsFresh.f t174 t175 (wrap64 (t181 - 1))).bind fun t184 => (if t184 = true then (laws_FnTimes.j0 k bt176.1 bt176.2 bt178.1 bt178.2.1 bt178.2.2 t182 true) else (if t181 < 0 then ((impl_IsFresh.f t174 t175 10000).bind fun t185 => (laws_FnTimes.j0 k bt176.1 bt176.2 bt178.1 bt178.2.1 bt178.2.2 t182 t185)) else (laws_FnTimes.j0 k bt176.1 bt176.2 bt178.1 bt178.2.1 bt178.2.2 t182 false)))) else (if t181 < 0 then ((impl_IsFresh.f t174 t175 10000).bind fun t186 => (laws_FnTimes.j0 k bt176.1 bt176.2 bt178.1 bt178.2.1 bt178.2.2 t182 t186)) else (laws_FnTimes.j0 k bt176.1 bt176.2 bt178.1 bt178.2.1 bt178.2.2 t182 false))) else (laws_FnTimes.j0 k bt176.1 bt176.2 bt178.1 bt178.2.1 bt178.2.2 t182 true))) else (laws_FnTimes.j0 k bt176.1 bt176.2 bt178.1 bt178.2.1 bt178.2.2 t182 true)) else (if t181 < 0 then ((impl_IsFresh.f t174 t175 10000).bind fun t187 => (laws_FnTimes.j0 k bt176.1 bt176.2 bt178.1 bt178.2.1 bt178.2.2 t182 t187)) else (laws_FnTimes.j0 k bt176.1 bt176.2 bt178.1 bt178.2.1 bt178.2.2 t182 false))))))) = some r := H
    have A4 := Aside0.mk A40
    clear A40
    replace H := Option.bind_eq_some_iff.mp H
    obtain ⟨⟨t176, t177⟩, A50, H⟩ := H
    replace H : ((spec_DrawIsWithin.f k l0).bind fun bt178 => ((impl_AgeOf.f t174 t175).bind fun t181 => ((impl_EndOf.f t176 t177).bind fun t182 => (if t181 ≥ 0 then (if (wrap64 (t174 + t181)) = t175 then ((impl_IsFresh.f t174 t175 t181).bind fun t183 => (if t183 = true then (if t181 > 0 then ((impl_IsFresh.f t174 t175 (wrap64 (t181 - 1))).bind fun t184 => (if t184 = true then (laws_FnTimes.j0 k t176 t177 bt178.1 bt178.2.1 bt178.2.2 t182 true) else (if t181 < 0 then ((impl_IsFresh.f t174 t175 10000).bind fun t185 => (laws_FnTimes.j0 k t176 t177 bt178.1 bt178.2.1 bt178.2.2 t182 t185)) else (laws_FnTimes.j0 k t176 t177 bt178.1 bt178.2.1 bt178.2.2 t182 false)))) else (if t181 < 0 then ((impl_IsFresh.f t174 t175 10000).bind fun t186 => (laws_FnTimes.j0 k t176 t177 bt178.1 bt178.2.1 bt178.2.2 t182 t186)) else (laws_FnTimes.j0 k t176 t177 bt178.1 bt178.2.1 bt178.2.2 t182 false))) else (laws_FnTimes.j0 k t176 t177 bt178.1 bt178.2.1 bt178.2.2 t182 true))) else (laws_FnTimes.j0 k t176 t177 bt178.1 bt178.2.1 bt178.2.2 t182 true)) else (if t181 < 0 then ((impl_IsFresh.f t174 t175 10000).bind fun t187 => (laws_FnTimes.j0 k t176 t177 bt178.1 bt178.2.1 bt178.2.2 t182 t187)) else (laws_FnTimes.j0 k t176 t177 bt178.1 bt178.2.1 bt178.2.2 t182 false)))))) = some r := H
    have A5 := Aside0.mk A50
    clear A50
    replace H := Option.bind_eq_some_iff.mp H
    obtain ⟨⟨t178, t179, t180⟩, A60, H⟩ := H
    replace H : ((impl_AgeOf.f t174 t175).bind fun t181 => ((impl_EndOf.f t176 t177).bind fun t182 => (if t181 ≥ 0 then (if (wrap64 (t174 + t181)) = t175 then ((impl_IsFresh.f t174 t175 t181).bind fun t183 => (if t183 = true then (if t181 > 0 then ((impl_IsFresh.f t174 t175 (wrap64 (t181 - 1))).bind fun t184 => (if t184 = true then (laws_FnTimes.j0 k t176 t177 t178 t179 t180 t182 true) else (if t181 < 0 then ((impl_IsFresh.f t174 t175 10000).bind fun t185 => (laws_FnTimes.j0 k t176 t177 t178 t179 t180 t182 t185)) else (laws_FnTimes.j0 k t176 t177 t178 t179 t180 t182 false)))) else (if t181 < 0 then ((impl_IsFresh.f t174 t175 10000).bind fun t186 => (laws_FnTimes.j0 k t176 t177 t178 t179 t180 t182 t186)) else (laws_FnTimes.j0 k t176 t177 t178 t179 t180 t182 false))) else (laws_FnTimes.j0 k t176 t177 t178 t179 t180 t182 true))) else (laws_FnTimes.j0 k t176 t177 t178 t179 t180 t182 true)) else (if t181 < 0 then ((impl_IsFresh.f t174 t175 10000).bind fun t187 => (laws_FnTimes.j0 k t176 t177 t178 t179 t180 t182 t187)) else (laws_FnTimes.j0 k t176 t177 t178 t179 t180 t182 false))))) = some r := H
    have A6 := Aside0.mk A60
    clear A60
    replace H := Option.bind_eq_some_iff.mp H
    obtain ⟨t181, A70, H⟩ := H
    replace H : ((impl_EndOf.f t176 t177).bind fun t182 => (if t181 ≥ 0 then (if (wrap64 (t174 + t181)) = t175 then ((impl_IsFresh.f t174 t175 t181).bind fun t183 => (if t183 = true then (if t181 > 0 then ((impl_IsFresh.f t174 t175 (wrap64 (t181 - 1))).bind fun t184 => (if t184 = true then (laws_FnTimes.j0 k t176 t177 t178 t179 t180 t182 true) else (if t181 < 0 then ((impl_IsFresh.f t174 t175 10000).bind fun t185 => (laws_FnTimes.j0 k t176 t177 t178 t179 t180 t182 t185)) else (laws_FnTimes.j0 k t176 t177 t178 t179 t180 t182 false)))) else (if t181 < 0 then ((impl_IsFresh.f t174 t175 10000).bind fun t186 => (laws_FnTimes.j0 k t176 t177 t178 t179 t180 t182 t186)) else (laws_FnTimes.j0 k t176 t177 t178 t179 t180 t182 false))) else (laws_FnTimes.j0 k t176 t177 t178 t179 t180 t182 true))) else (laws_FnTimes.j0 k t176 t177 t178 t179 t180 t182 true)) else (if t181 < 0 then ((impl_IsFresh.f t174 t175 10000).bind fun t187 => (laws_FnTimes.j0 k t176 t177 t178 t179 t180 t182 t187)) else (laws_FnTimes.j0 k t176 t177 t178 t179 t180 t182 false)))) = some r := H
    have A7 := Aside0.mk A70
    clear A70
    replace H := Option.bind_eq_some_iff.mp H
    obtain ⟨t182, A80, H⟩ := H
    replace H : (if t181 ≥ 0 then (if (wrap64 (t174 + t181)) = t175 then ((impl_IsFresh.f t174 t175 t181).bind fun t183 => (if t183 = true then (if t181 > 0 then ((impl_IsFresh.f t174 t175 (wrap64 (t181 - 1))).bind fun t184 => (if t184 = true then (laws_FnTimes.j0 k t176 t177 t178 t179 t180 t182 true) else (if t181 < 0 then ((impl_IsFresh.f t174 t175 10000).bind fun t185 => (laws_FnTimes.j0 k t176 t177 t178 t179 t180 t182 t185)) else (laws_FnTimes.j0 k t176 t177 t178 t179 t180 t182 false)))) else (if t181 < 0 then ((impl_IsFresh.f t174 t175 10000).bind fun t186 => (laws_FnTimes.j0 k t176 t177 t178 t179 t180 t182 t186)) else (laws_FnTimes.j0 k t176 t177 t178 t179 t180 t182 false))) else (laws_FnTimes.j0 k t176 t177 t178 t179 t180 t182 true))) else (laws_FnTimes.j0 k t176 t177 t178 t179 t180 t182 true)) else (if t181 < 0 then ((impl_IsFresh.f t174 t175 10000).bind fun t187 => (laws_FnTimes.j0 k t176 t177 t178 t179 t180 t182 t187)) else (laws_FnTimes.j0 k t176 t177 t178 t179 t180 t182 false))) = some r := H
    have A8 := Aside0.mk A80
    clear A80
    have HC9 := Aside0.mk H
    clear H
    go_enter Try.func12, Try.ntmps12
    go_upto_region 8 with (first | ((with_reducible refine gate_callee (f := 45) rfl ?_); refine goesL_ (some 13) rfl rfl Try.func45 (by kernel_rfl) rfl #[.slice A0 l0.length c0] rfl (by (try simp only [List.map_toArray, List.map_cons, List.map_nil]); first | done | rfl | (simp only [List.length_drop, List.length_take]; rfl)) ?_; (with_reducible refine (laws_big.calls _ _ l0 false _ ?side1 ?side2 A2.out).mono ?_); (case side1 => repeat (first | exact HR0.out | (with_reducible refine Kd.C_alloc ?_ _) | (with_reducible refine Kd.C_drewN ?_ _) | (with_reducible refine Kd.C_drew ?_))); (case side2 => exact HC0.out); rintro e w' ⟨rfl, ⟨nd, rfl⟩⟩; refine ⟨_, rfl, ?_⟩) | ((with_reducible refine gate_callee (f := 46) rfl ?_); refine goesL_ (some 16) rfl rfl Try.func46 (by kernel_rfl) rfl #[.slice A0 l0.length c0] rfl (by (try simp only [List.map_toArray, List.map_cons, List.map_nil]); first | done | rfl | (simp only [List.length_drop, List.length_take]; rfl)) ?_; (with_reducible refine (spec_DrawAgeOf.calls k _ _ l0 t174 t175 _ ?side1 ?side2 A4.out).mono ?_); (case side1 => repeat (first | exact HR0.out | (with_reducible refine Kd.C_alloc ?_ _) | (with_reducible refine Kd.C_drewN ?_ _) | (with_reducible refine Kd.C_drew ?_))); (case side2 => exact HC0.out); rintro e w10 ⟨rfl, hb⟩; refine ⟨_, rfl, ?_⟩; have n0_ := Aside0.mk (below_step (by repeat (first | (with_reducible first | exact HB.out | apply below_alloc | apply pw_below_drewN | apply below_drew1) | exact HB.out)) hb); clear HB; have HB := n0_; clear n0_; (try clear hb); (try clear hb2); (try clear hk); (try clear hi)) | ((with_reducible refine gate_callee (f := 47) rfl ?_); refine goesL_ (some 21) rfl rfl Try.func47 (by kernel_rfl) rfl #[.slice A0 l0.length c0] rfl (by (try simp only [List.map_toArray, List.map_cons, List.map_nil]); first | done | rfl | (simp only [List.length_drop, List.length_take]; rfl)) ?_; (with_reducible refine (spec_DrawEndOf.calls k _ _ l0 t176 t177 _ ?side1 ?side2 A5.out).mono ?_); (case side1 => repeat (first | exact (Kd.C_below HR0.out HB.out) | (with_reducible refine Kd.C_alloc ?_ _) | (with_reducible refine Kd.C_drewN ?_ _) | (with_reducible refine Kd.C_drew ?_))); (case side2 => exact HC0.out); rintro e w11 ⟨rfl, hb⟩; refine ⟨_, rfl, ?_⟩; have n0_ := Aside0.mk (below_step (by repeat (first | (with_reducible first | exact HB.out | apply below_alloc | apply pw_below_drewN | apply below_drew1) | exact HB.out)) hb); clear HB; have HB := n0_; clear n0_; (try clear hb); (try clear hb2); (try clear hk); (try clear hi)) | ((with_reducible refine gate_callee (f := 48) rfl ?_); refine goesL_ (some 26) rfl rfl Try.func48 (by kernel_rfl) rfl #[.slice A0 l0.length c0] rfl (by (try simp only [List.map_toArray, List.map_cons, List.map_nil]); first | done | rfl | (simp only [List.length_drop, List.length_take]; rfl)) ?_; (with_reducible refine (spec_DrawIsWithin.calls k _ _ l0 t178 t179 t180 _ ?side1 ?side2 A6.out).mono ?_); (case side1 => repeat (first | exact (Kd.C_below HR0.out HB.out) | (with_reducible refine Kd.C_alloc ?_ _) | (with_reducible refine Kd.C_drewN ?_ _) | (with_reducible refine Kd.C_drew ?_))); (case side2 => exact HC0.out); rintro e w12 ⟨rfl, hb⟩; refine ⟨_, rfl, ?_⟩; have n0_ := Aside0.mk (below_step (by repeat (first | (with_reducible first | exact HB.out | apply below_alloc | apply pw_below_drewN | apply below_drew1) | exact HB.out)) hb); clear HB; have HB := n0_; clear n0_; (try clear hb); (try clear hb2); (try clear hk); (try clear hi)) | ((with_reducible refine gate_callee (f := 49) rfl ?_); refine goesL_ (some 32) rfl rfl Try.func49 (by kernel_rfl) rfl #[.int .i64 t174, .int .i64 t175] rfl (by (try simp only [List.map_toArray, List.map_cons, List.map_nil]); first | done | rfl | (simp only [List.length_drop, List.length_take]; rfl)) ?_; (with_reducible refine (impl_AgeOf.calls t174 t175 t181 _ A7.out).mono ?_); rintro e w' ⟨rfl, ⟨nd, rfl⟩⟩; refine ⟨_, rfl, ?_⟩) | ((with_reducible refine gate_callee (f := 50) rfl ?_); refine goesL_ (some 35) rfl rfl Try.func50 (by kernel_rfl) rfl #[.int .i64 t176, .int .i64 t177] rfl (by (try simp only [List.map_toArray, List.map_cons, List.map_nil]); first | done | rfl | (simp only [List.length_drop, List.length_take]; rfl)) ?_; (with_reducible refine (impl_EndOf.calls t176 t177 t182 _ A8.out).mono ?_); rintro e w13 ⟨rfl, hb⟩; refine ⟨_, rfl, ?_⟩; have n0_ := Aside0.mk (below_step (by repeat (first | (with_reducible first | exact HB.out | apply below_alloc | apply pw_below_drewN | apply below_drew1) | exact HB.out)) hb); clear HB; have HB := n0_; clear n0_; (try clear hb); (try clear hb2); (try clear hk); (try clear hi)))
    (try simp only [Act.put, List.setIfInBounds_toArray, List.set_cons_zero, List.set_cons_succ])
    go_cut [71] (fun v71 wc => ∃ (kq : Nat) (x71_8 : Bool), v71 = .bool x71_8 ∧ Aside0 (laws_FnTimes.j0 kq t176 t177 t178 t179 t180 t182 x71_8 = some r) ∧ Aside0 (kq ≤ k) ∧ Aside0 (Below w.heap.size w wc))
    case first =>
      have H := HC9.out
      clear HC9
      by_cases c14 : t181 ≥ 0
      · rw [if_pos c14] at H
        have c14b0 : decide (0 ≤ t181) = true := decide_eq_true c14
        clear c14
        (first | rw [c14b0] | (simp only [i64_w, i32_w]; rw [c14b0]) | skip)
        by_cases c15 : (wrap64 (t174 + t181)) = t175
        · rw [if_pos c15] at H
          have c15b0 : ((wrap64 (t174 + t181)) == t175) = true := beq_iff_eq.mpr c15
          have c15b1 : ((wrap64 (t174 + t181)) != t175) = false := bne_eq_false_iff_eq.mpr c15
          clear c15
          replace H := Option.bind_eq_some_iff.mp H
          obtain ⟨t183, A160, H⟩ := H
          replace H : (if t183 = true then (if t181 > 0 then ((impl_IsFresh.f t174 t175 (wrap64 (t181 - 1))).bind fun t184 => (if t184 = true then (laws_FnTimes.j0 k t176 t177 t178 t179 t180 t182 true) else (if t181 < 0 then ((impl_IsFresh.f t174 t175 10000).bind fun t185 => (laws_FnTimes.j0 k t176 t177 t178 t179 t180 t182 t185)) else (laws_FnTimes.j0 k t176 t177 t178 t179 t180 t182 false)))) else (if t181 < 0 then ((impl_IsFresh.f t174 t175 10000).bind fun t186 => (laws_FnTimes.j0 k t176 t177 t178 t179 t180 t182 t186)) else (laws_FnTimes.j0 k t176 t177 t178 t179 t180 t182 false))) else (laws_FnTimes.j0 k t176 t177 t178 t179 t180 t182 true)) = some r := H
          have A16 := Aside0.mk A160
          clear A160
          by_cases c17 : t183 = true
          · subst c17
            have H1 : (if t181 > 0 then ((impl_IsFresh.f t174 t175 (wrap64 (t181 - 1))).bind fun t184 => (if t184 = true then (laws_FnTimes.j0 k t176 t177 t178 t179 t180 t182 true) else (if t181 < 0 then ((impl_IsFresh.f t174 t175 10000).bind fun t185 => (laws_FnTimes.j0 k t176 t177 t178 t179 t180 t182 t185)) else (laws_FnTimes.j0 k t176 t177 t178 t179 t180 t182 false)))) else (if t181 < 0 then ((impl_IsFresh.f t174 t175 10000).bind fun t186 => (laws_FnTimes.j0 k t176 t177 t178 t179 t180 t182 t186)) else (laws_FnTimes.j0 k t176 t177 t178 t179 t180 t182 false))) = some r := by rw [if_pos rfl] at H; exact H
            clear H
            have H := H1
            clear H1
            by_cases c18 : t181 > 0
            · rw [if_pos c18] at H
              have c18b0 : decide (0 < t181) = true := decide_eq_true c18
              clear c18
              replace H := Option.bind_eq_some_iff.mp H
              obtain ⟨t184, A190, H⟩ := H
              replace H : (if t184 = true then (laws_FnTimes.j0 k t176 t177 t178 t179 t180 t182 true) else (if t181 < 0 then ((impl_IsFresh.f t174 t175 10000).bind fun t185 => (laws_FnTimes.j0 k t176 t177 t178 t179 t180 t182 t185)) else (laws_FnTimes.j0 k t176 t177 t178 t179 t180 t182 false))) = some r := H
              have A19 := Aside0.mk A190
              clear A190
              by_cases c20 : t184 = true
              · subst c20
                have H1 : (laws_FnTimes.j0 k t176 t177 t178 t179 t180 t182 true) = some r := by rw [if_pos rfl] at H; exact H
                clear H
                have H := H1
                clear H1
                have H' := Aside0.mk H
                clear H
                go_wp2_with (first | (go_at_call 51; (with_reducible refine (impl_IsFresh.calls t174 t175 t181 true _ A16.out).mono ?_); rintro e w' ⟨rfl, ⟨nd, rfl⟩⟩) | (go_at_call 51; (with_reducible refine (impl_IsFresh.calls t174 t175 (wrap64 (t181 - 1)) true _ A19.out).mono ?_); rintro e w' ⟨rfl, ⟨nd, rfl⟩⟩))
                go_meet
                case rel => exact ⟨_, (true), (by first | rfl | (simp; done) | (simp [*]; done)), H', ⟨by first | omega | exact Nat.le_refl _⟩, ⟨by repeat (first | (with_reducible first | exact HB.out | apply below_alloc | apply pw_below_drewN | apply below_drew1) | exact HB.out)⟩⟩
              · replace c20 := Bool.eq_false_iff.mpr c20
                subst c20
                have H1 : (if t181 < 0 then ((impl_IsFresh.f t174 t175 10000).bind fun t185 => (laws_FnTimes.j0 k t176 t177 t178 t179 t180 t182 t185)) else (laws_FnTimes.j0 k t176 t177 t178 t179 t180 t182 false)) = some r := by rw [if_neg (show ¬ (false = true) by decide)] at H; exact H
                clear H
                have H := H1
                clear H1
                by_cases c21 : t181 < 0
                · rw [if_pos c21] at H
                  have c21b0 : decide (t181 < 0) = true := decide_eq_true c21
                  clear c21
                  replace H := Option.bind_eq_some_iff.mp H
                  obtain ⟨t185, A220, H⟩ := H
                  replace H : (laws_FnTimes.j0 k t176 t177 t178 t179 t180 t182 t185) = some r := H
                  have A22 := Aside0.mk A220
                  clear A220
                  have H' := Aside0.mk H
                  clear H
                  go_wp2_with (first | (go_at_call 51; (with_reducible refine (impl_IsFresh.calls t174 t175 t181 true _ A16.out).mono ?_); rintro e w' ⟨rfl, ⟨nd, rfl⟩⟩) | (go_at_call 51; (with_reducible refine (impl_IsFresh.calls t174 t175 (wrap64 (t181 - 1)) false _ A19.out).mono ?_); rintro e w' ⟨rfl, ⟨nd, rfl⟩⟩) | (go_at_call 51; (with_reducible refine (impl_IsFresh.calls t174 t175 10000 t185 _ A22.out).mono ?_); rintro e w' ⟨rfl, ⟨nd, rfl⟩⟩))
                  go_meet
                  case rel => exact ⟨_, (t185), (by first | rfl | (simp; done) | (simp [*]; done)), H', ⟨by first | omega | exact Nat.le_refl _⟩, ⟨by repeat (first | (with_reducible first | exact HB.out | apply below_alloc | apply pw_below_drewN | apply below_drew1) | exact HB.out)⟩⟩
                · rw [if_neg c21] at H
                  have c21b0 : decide (t181 < 0) = false := decide_eq_false c21
                  clear c21
                  have H' := Aside0.mk H
                  clear H
                  go_wp2_with (first | (go_at_call 51; (with_reducible refine (impl_IsFresh.calls t174 t175 t181 true _ A16.out).mono ?_); rintro e w' ⟨rfl, ⟨nd, rfl⟩⟩) | (go_at_call 51; (with_reducible refine (impl_IsFresh.calls t174 t175 (wrap64 (t181 - 1)) false _ A19.out).mono ?_); rintro e w' ⟨rfl, ⟨nd, rfl⟩⟩))
                  go_meet
                  case rel => exact ⟨_, (false), (by first | rfl | (simp; done) | (simp [*]; done)), H', ⟨by first | omega | exact Nat.le_refl _⟩, ⟨by repeat (first | (with_reducible first | exact HB.out | apply below_alloc | apply pw_below_drewN | apply below_drew1) | exact HB.out)⟩⟩
            · rw [if_neg c18] at H
              have c18b0 : decide (0 < t181) = false := decide_eq_false c18
              clear c18
              by_cases c23 : t181 < 0
              · rw [if_pos c23] at H
                have c23b0 : decide (t181 < 0) = true := decide_eq_true c23
                clear c23
                replace H := Option.bind_eq_some_iff.mp H
                obtain ⟨t186, A240, H⟩ := H
                replace H : (laws_FnTimes.j0 k t176 t177 t178 t179 t180 t182 t186) = some r := H
                have A24 := Aside0.mk A240
                clear A240
                have H' := Aside0.mk H
                clear H
                go_wp2_with (first | (go_at_call 51; (with_reducible refine (impl_IsFresh.calls t174 t175 t181 true _ A16.out).mono ?_); rintro e w' ⟨rfl, ⟨nd, rfl⟩⟩) | (go_at_call 51; (with_reducible refine (impl_IsFresh.calls t174 t175 10000 t186 _ A24.out).mono ?_); rintro e w' ⟨rfl, ⟨nd, rfl⟩⟩))
                go_meet
                case rel => exact ⟨_, (t186), (by first | rfl | (simp; done) | (simp [*]; done)), H', ⟨by first | omega | exact Nat.le_refl _⟩, ⟨by repeat (first | (with_reducible first | exact HB.out | apply below_alloc | apply pw_below_drewN | apply below_drew1) | exact HB.out)⟩⟩
              · rw [if_neg c23] at H
                have c23b0 : decide (t181 < 0) = false := decide_eq_false c23
                clear c23
                have H' := Aside0.mk H
                clear H
                go_wp2_with (first | (go_at_call 51; (with_reducible refine (impl_IsFresh.calls t174 t175 t181 true _ A16.out).mono ?_); rintro e w' ⟨rfl, ⟨nd, rfl⟩⟩))
                go_meet
                case rel => exact ⟨_, (false), (by first | rfl | (simp; done) | (simp [*]; done)), H', ⟨by first | omega | exact Nat.le_refl _⟩, ⟨by repeat (first | (with_reducible first | exact HB.out | apply below_alloc | apply pw_below_drewN | apply below_drew1) | exact HB.out)⟩⟩
          · replace c17 := Bool.eq_false_iff.mpr c17
            subst c17
            have H1 : (laws_FnTimes.j0 k t176 t177 t178 t179 t180 t182 true) = some r := by rw [if_neg (show ¬ (false = true) by decide)] at H; exact H
            clear H
            have H := H1
            clear H1
            have H' := Aside0.mk H
            clear H
            go_wp2_with (first | (go_at_call 51; (with_reducible refine (impl_IsFresh.calls t174 t175 t181 false _ A16.out).mono ?_); rintro e w' ⟨rfl, ⟨nd, rfl⟩⟩))
            go_meet
            case rel => exact ⟨_, (true), (by first | rfl | (simp; done) | (simp [*]; done)), H', ⟨by first | omega | exact Nat.le_refl _⟩, ⟨by repeat (first | (with_reducible first | exact HB.out | apply below_alloc | apply pw_below_drewN | apply below_drew1) | exact HB.out)⟩⟩
        · rw [if_neg c15] at H
          have c15b0 : ((wrap64 (t174 + t181)) == t175) = false := beq_eq_false_iff_ne.mpr c15
          have c15b1 : ((wrap64 (t174 + t181)) != t175) = true := bne_iff_ne.mpr c15
          have H' := Aside0.mk H
          clear H
          go_wp2
          go_meet
          case rel => exact ⟨_, (true), (by first | rfl | (simp; done) | (simp [*]; done)), H', ⟨by first | omega | exact Nat.le_refl _⟩, ⟨by repeat (first | (with_reducible first | exact HB.out | apply below_alloc | apply pw_below_drewN | apply below_drew1) | exact HB.out)⟩⟩
      · rw [if_neg c14] at H
        have c14b0 : decide (0 ≤ t181) = false := decide_eq_false c14
        clear c14
        (first | rw [c14b0] | (simp only [i64_w, i32_w]; rw [c14b0]) | skip)
        by_cases c25 : t181 < 0
        · rw [if_pos c25] at H
          have c25b0 : decide (t181 < 0) = true := decide_eq_true c25
          clear c25
          replace H := Option.bind_eq_some_iff.mp H
          obtain ⟨t187, A260, H⟩ := H
          replace H : (laws_FnTimes.j0 k t176 t177 t178 t179 t180 t182 t187) = some r := H
          have A26 := Aside0.mk A260
          clear A260
          have H' := Aside0.mk H
          clear H
          go_wp2_with (first | (go_at_call 51; (with_reducible refine (impl_IsFresh.calls t174 t175 10000 t187 _ A26.out).mono ?_); rintro e w' ⟨rfl, ⟨nd, rfl⟩⟩))
          go_meet
          case rel => exact ⟨_, (t187), (by first | rfl | (simp; done) | (simp [*]; done)), H', ⟨by first | omega | exact Nat.le_refl _⟩, ⟨by repeat (first | (with_reducible first | exact HB.out | apply below_alloc | apply pw_below_drewN | apply below_drew1) | exact HB.out)⟩⟩
        · rw [if_neg c25] at H
          have c25b0 : decide (t181 < 0) = false := decide_eq_false c25
          clear c25
          have H' := Aside0.mk H
          clear H
          go_wp2
          go_meet
          case rel => exact ⟨_, (false), (by first | rfl | (simp; done) | (simp [*]; done)), H', ⟨by first | omega | exact Nat.le_refl _⟩, ⟨by repeat (first | (with_reducible first | exact HB.out | apply below_alloc | apply pw_below_drewN | apply below_drew1) | exact HB.out)⟩⟩
    case rest =>
      clear HC9
      try clear c1
      try clear c2
      try clear p2
      try clear c3
      try clear c4
      try clear c5
      try clear p6
      try clear c12
      try clear c14
      try clear c14b0
      try clear c15
      try clear c15b0
      try clear c15b1
      try clear c17
      try clear c18
      try clear c18b0
      try clear c20
      try clear c21
      try clear c21b0
      try clear c23
      try clear c23b0
      try clear c25
      try clear c25b0
      obtain ⟨kq, x71_8, rfl, HA, HJ8, HB⟩ := hcut
      cases kq with
      | zero => exact absurd HA.out (by simp [laws_FnTimes.j0])
      | succ kj8 =>
        have H := HA.out
        clear HA
        simp only [laws_FnTimes.j0] at H
        by_cases c27 : x71_8 = true
        · subst c27
          have H1 : (some false) = some r := by rw [if_pos rfl] at H; exact H
          clear H
          have H := H1
          clear H1
          obtain rfl := Option.some.inj H
          go_wp2
          go_ret
          exact ⟨by first | rfl | (simp [errW_none, errW_some] <;> rfl) | (simp [*, errW_none, errW_some] <;> rfl), by repeat (first | (with_reducible first | exact HB.out | apply below_alloc | apply pw_below_drewN | apply below_drew1) | exact HB.out)⟩
        · replace c27 := Bool.eq_false_iff.mpr c27
          subst c27
          have H1 : ((impl_IsTime.f t176).bind fun t188 => (if t188 = true then ((impl_IsTime.f t177).bind fun t189 => (if t189 = true then (if t182 < t176 then (laws_FnTimes.j1 kj8 t178 t179 t180 true) else (if t182 > (wrap64 (t176 + t177)) then (laws_FnTimes.j1 kj8 t178 t179 t180 true) else ((impl_IsTime.f t182).bind fun t190 => (if t190 = true then ((impl_IsWithin.f t176 t182 t176).bind fun t191 => (laws_FnTimes.j1 kj8 t178 t179 t180 (!t191))) else (laws_FnTimes.j1 kj8 t178 t179 t180 true))))) else (laws_FnTimes.j1 kj8 t178 t179 t180 false))) else (laws_FnTimes.j1 kj8 t178 t179 t180 false))) = some r := by rw [if_neg (show ¬ (false = true) by decide)] at H; exact H
          clear H
          have H := H1
          clear H1
          have HC28 := Aside0.mk H
          clear H
          go_upto_region 10 with (fail)
          go_cut [101] (fun v101 wc => ∃ (kq : Nat) (x101_27 : Bool), v101 = .bool x101_27 ∧ Aside0 (laws_FnTimes.j1 kq t178 t179 t180 x101_27 = some r) ∧ Aside0 (kq ≤ kj8) ∧ Aside0 (Below w.heap.size w wc))
          case first =>
            have H := HC28.out
            clear HC28
            replace H := Option.bind_eq_some_iff.mp H
            obtain ⟨t188, A290, H⟩ := H
            replace H : (if t188 = true then ((impl_IsTime.f t177).bind fun t189 => (if t189 = true then (if t182 < t176 then (laws_FnTimes.j1 kj8 t178 t179 t180 true) else (if t182 > (wrap64 (t176 + t177)) then (laws_FnTimes.j1 kj8 t178 t179 t180 true) else ((impl_IsTime.f t182).bind fun t190 => (if t190 = true then ((impl_IsWithin.f t176 t182 t176).bind fun t191 => (laws_FnTimes.j1 kj8 t178 t179 t180 (!t191))) else (laws_FnTimes.j1 kj8 t178 t179 t180 true))))) else (laws_FnTimes.j1 kj8 t178 t179 t180 false))) else (laws_FnTimes.j1 kj8 t178 t179 t180 false)) = some r := H
            have A29 := Aside0.mk A290
            clear A290
            by_cases c30 : t188 = true
            · subst c30
              have H1 : ((impl_IsTime.f t177).bind fun t189 => (if t189 = true then (if t182 < t176 then (laws_FnTimes.j1 kj8 t178 t179 t180 true) else (if t182 > (wrap64 (t176 + t177)) then (laws_FnTimes.j1 kj8 t178 t179 t180 true) else ((impl_IsTime.f t182).bind fun t190 => (if t190 = true then ((impl_IsWithin.f t176 t182 t176).bind fun t191 => (laws_FnTimes.j1 kj8 t178 t179 t180 (!t191))) else (laws_FnTimes.j1 kj8 t178 t179 t180 true))))) else (laws_FnTimes.j1 kj8 t178 t179 t180 false))) = some r := by rw [if_pos rfl] at H; exact H
              clear H
              have H := H1
              clear H1
              replace H := Option.bind_eq_some_iff.mp H
              obtain ⟨t189, A310, H⟩ := H
              replace H : (if t189 = true then (if t182 < t176 then (laws_FnTimes.j1 kj8 t178 t179 t180 true) else (if t182 > (wrap64 (t176 + t177)) then (laws_FnTimes.j1 kj8 t178 t179 t180 true) else ((impl_IsTime.f t182).bind fun t190 => (if t190 = true then ((impl_IsWithin.f t176 t182 t176).bind fun t191 => (laws_FnTimes.j1 kj8 t178 t179 t180 (!t191))) else (laws_FnTimes.j1 kj8 t178 t179 t180 true))))) else (laws_FnTimes.j1 kj8 t178 t179 t180 false)) = some r := H
              have A31 := Aside0.mk A310
              clear A310
              by_cases c32 : t189 = true
              · subst c32
                have H1 : (if t182 < t176 then (laws_FnTimes.j1 kj8 t178 t179 t180 true) else (if t182 > (wrap64 (t176 + t177)) then (laws_FnTimes.j1 kj8 t178 t179 t180 true) else ((impl_IsTime.f t182).bind fun t190 => (if t190 = true then ((impl_IsWithin.f t176 t182 t176).bind fun t191 => (laws_FnTimes.j1 kj8 t178 t179 t180 (!t191))) else (laws_FnTimes.j1 kj8 t178 t179 t180 true))))) = some r := by rw [if_pos rfl] at H; exact H
                clear H
                have H := H1
                clear H1
                by_cases c33 : t182 < t176
                · rw [if_pos c33] at H
                  have c33b0 : decide (t182 < t176) = true := decide_eq_true c33
                  clear c33
                  (first | rw [c33b0] | (simp only [i64_w, i32_w]; rw [c33b0]) | skip)
                  have H' := Aside0.mk H
                  clear H
                  go_wp2_with (first | ((with_reducible refine gate_callee (f := 52) rfl ?_); refine goesL_ (some 73) rfl rfl Try.func52 (by kernel_rfl) rfl #[.int .i64 t176] rfl (by (try simp only [List.map_toArray, List.map_cons, List.map_nil]); first | done | rfl | (simp only [List.length_drop, List.length_take]; rfl)) ?_; (with_reducible refine (impl_IsTime.calls t176 true _ A29.out).mono ?_); rintro e w' ⟨rfl, ⟨nd, rfl⟩⟩; refine ⟨_, rfl, ?_⟩) | (go_at_call 52; (with_reducible refine (impl_IsTime.calls t177 true _ A31.out).mono ?_); rintro e w' ⟨rfl, ⟨nd, rfl⟩⟩))
                  go_meet
                  case rel => exact ⟨_, (true), (by first | rfl | (simp; done) | (simp [*]; done)), H', ⟨by have := HJ8.out; first | omega | exact Nat.le_refl _⟩, ⟨by repeat (first | (with_reducible first | exact HB.out | apply below_alloc | apply pw_below_drewN | apply below_drew1) | exact HB.out)⟩⟩
                · rw [if_neg c33] at H
                  have c33b0 : decide (t182 < t176) = false := decide_eq_false c33
                  clear c33
                  (first | rw [c33b0] | (simp only [i64_w, i32_w]; rw [c33b0]) | skip)
                  by_cases c34 : t182 > (wrap64 (t176 + t177))
                  · rw [if_pos c34] at H
                    have c34b0 : decide ((wrap64 (t176 + t177)) < t182) = true := decide_eq_true c34
                    clear c34
                    have H' := Aside0.mk H
                    clear H
                    go_wp2_with (first | ((with_reducible refine gate_callee (f := 52) rfl ?_); refine goesL_ (some 73) rfl rfl Try.func52 (by kernel_rfl) rfl #[.int .i64 t176] rfl (by (try simp only [List.map_toArray, List.map_cons, List.map_nil]); first | done | rfl | (simp only [List.length_drop, List.length_take]; rfl)) ?_; (with_reducible refine (impl_IsTime.calls t176 true _ A29.out).mono ?_); rintro e w' ⟨rfl, ⟨nd, rfl⟩⟩; refine ⟨_, rfl, ?_⟩) | (go_at_call 52; (with_reducible refine (impl_IsTime.calls t177 true _ A31.out).mono ?_); rintro e w' ⟨rfl, ⟨nd, rfl⟩⟩))
                    go_meet
                    case rel => exact ⟨_, (true), (by first | rfl | (simp; done) | (simp [*]; done)), H', ⟨by have := HJ8.out; first | omega | exact Nat.le_refl _⟩, ⟨by repeat (first | (with_reducible first | exact HB.out | apply below_alloc | apply pw_below_drewN | apply below_drew1) | exact HB.out)⟩⟩
                  · rw [if_neg c34] at H
                    have c34b0 : decide ((wrap64 (t176 + t177)) < t182) = false := decide_eq_false c34
                    clear c34
                    replace H := Option.bind_eq_some_iff.mp H
                    obtain ⟨t190, A350, H⟩ := H
                    replace H : (if t190 = true then ((impl_IsWithin.f t176 t182 t176).bind fun t191 => (laws_FnTimes.j1 kj8 t178 t179 t180 (!t191))) else (laws_FnTimes.j1 kj8 t178 t179 t180 true)) = some r := H
                    have A35 := Aside0.mk A350
                    clear A350
                    by_cases c36 : t190 = true
                    · subst c36
                      have H1 : ((impl_IsWithin.f t176 t182 t176).bind fun t191 => (laws_FnTimes.j1 kj8 t178 t179 t180 (!t191))) = some r := by rw [if_pos rfl] at H; exact H
                      clear H
                      have H := H1
                      clear H1
                      replace H := Option.bind_eq_some_iff.mp H
                      obtain ⟨t191, A370, H⟩ := H
                      replace H : (laws_FnTimes.j1 kj8 t178 t179 t180 (!t191)) = some r := H
                      have A37 := Aside0.mk A370
                      clear A370
                      have H' := Aside0.mk H
                      clear H
                      go_wp2_with (first | ((with_reducible refine gate_callee (f := 52) rfl ?_); refine goesL_ (some 73) rfl rfl Try.func52 (by kernel_rfl) rfl #[.int .i64 t176] rfl (by (try simp only [List.map_toArray, List.map_cons, List.map_nil]); first | done | rfl | (simp only [List.length_drop, List.length_take]; rfl)) ?_; (with_reducible refine (impl_IsTime.calls t176 true _ A29.out).mono ?_); rintro e w' ⟨rfl, ⟨nd, rfl⟩⟩; refine ⟨_, rfl, ?_⟩) | (go_at_call 52; (with_reducible refine (impl_IsTime.calls t177 true _ A31.out).mono ?_); rintro e w' ⟨rfl, ⟨nd, rfl⟩⟩) | (go_at_call 52; (with_reducible refine (impl_IsTime.calls t182 true _ A35.out).mono ?_); rintro e w' ⟨rfl, ⟨nd, rfl⟩⟩) | (go_at_call 53; (with_reducible refine (impl_IsWithin.calls t176 t182 t176 t191 _ A37.out).mono ?_); rintro e w' ⟨rfl, ⟨nd, rfl⟩⟩))
                      go_meet
                      case rel => exact ⟨_, (!t191), (by first | rfl | (simp; done) | (simp [*]; done)), H', ⟨by have := HJ8.out; first | omega | exact Nat.le_refl _⟩, ⟨by repeat (first | (with_reducible first | exact HB.out | apply below_alloc | apply pw_below_drewN | apply below_drew1) | exact HB.out)⟩⟩
                    · replace c36 := Bool.eq_false_iff.mpr c36
                      subst c36
                      have H1 : (laws_FnTimes.j1 kj8 t178 t179 t180 true) = some r := by rw [if_neg (show ¬ (false = true) by decide)] at H; exact H
                      clear H
                      have H := H1
                      clear H1
                      have H' := Aside0.mk H
                      clear H
                      go_wp2_with (first | ((with_reducible refine gate_callee (f := 52) rfl ?_); refine goesL_ (some 73) rfl rfl Try.func52 (by kernel_rfl) rfl #[.int .i64 t176] rfl (by (try simp only [List.map_toArray, List.map_cons, List.map_nil]); first | done | rfl | (simp only [List.length_drop, List.length_take]; rfl)) ?_; (with_reducible refine (impl_IsTime.calls t176 true _ A29.out).mono ?_); rintro e w' ⟨rfl, ⟨nd, rfl⟩⟩; refine ⟨_, rfl, ?_⟩) | (go_at_call 52; (with_reducible refine (impl_IsTime.calls t177 true _ A31.out).mono ?_); rintro e w' ⟨rfl, ⟨nd, rfl⟩⟩) | (go_at_call 52; (with_reducible refine (impl_IsTime.calls t182 false _ A35.out).mono ?_); rintro e w' ⟨rfl, ⟨nd, rfl⟩⟩))
                      go_meet
                      case rel => exact ⟨_, (true), (by first | rfl | (simp; done) | (simp [*]; done)), H', ⟨by have := HJ8.out; first | omega | exact Nat.le_refl _⟩, ⟨by repeat (first | (with_reducible first | exact HB.out | apply below_alloc | apply pw_below_drewN | apply below_drew1) | exact HB.out)⟩⟩
              · replace c32 := Bool.eq_false_iff.mpr c32
                subst c32
                have H1 : (laws_FnTimes.j1 kj8 t178 t179 t180 false) = some r := by rw [if_neg (show ¬ (false = true) by decide)] at H; exact H
                clear H
                have H := H1
                clear H1
                have H' := Aside0.mk H
                clear H
                go_wp2_with (first | ((with_reducible refine gate_callee (f := 52) rfl ?_); refine goesL_ (some 73) rfl rfl Try.func52 (by kernel_rfl) rfl #[.int .i64 t176] rfl (by (try simp only [List.map_toArray, List.map_cons, List.map_nil]); first | done | rfl | (simp only [List.length_drop, List.length_take]; rfl)) ?_; (with_reducible refine (impl_IsTime.calls t176 true _ A29.out).mono ?_); rintro e w' ⟨rfl, ⟨nd, rfl⟩⟩; refine ⟨_, rfl, ?_⟩) | (go_at_call 52; (with_reducible refine (impl_IsTime.calls t177 false _ A31.out).mono ?_); rintro e w' ⟨rfl, ⟨nd, rfl⟩⟩))
                go_meet
                case rel => exact ⟨_, (false), (by first | rfl | (simp; done) | (simp [*]; done)), H', ⟨by have := HJ8.out; first | omega | exact Nat.le_refl _⟩, ⟨by repeat (first | (with_reducible first | exact HB.out | apply below_alloc | apply pw_below_drewN | apply below_drew1) | exact HB.out)⟩⟩
            · replace c30 := Bool.eq_false_iff.mpr c30
              subst c30
              have H1 : (laws_FnTimes.j1 kj8 t178 t179 t180 false) = some r := by rw [if_neg (show ¬ (false = true) by decide)] at H; exact H
              clear H
              have H := H1
              clear H1
              have H' := Aside0.mk H
              clear H
              go_wp2_with (first | ((with_reducible refine gate_callee (f := 52) rfl ?_); refine goesL_ (some 73) rfl rfl Try.func52 (by kernel_rfl) rfl #[.int .i64 t176] rfl (by (try simp only [List.map_toArray, List.map_cons, List.map_nil]); first | done | rfl | (simp only [List.length_drop, List.length_take]; rfl)) ?_; (with_reducible refine (impl_IsTime.calls t176 false _ A29.out).mono ?_); rintro e w' ⟨rfl, ⟨nd, rfl⟩⟩; refine ⟨_, rfl, ?_⟩))
              go_meet
              case rel => exact ⟨_, (false), (by first | rfl | (simp; done) | (simp [*]; done)), H', ⟨by have := HJ8.out; first | omega | exact Nat.le_refl _⟩, ⟨by repeat (first | (with_reducible first | exact HB.out | apply below_alloc | apply pw_below_drewN | apply below_drew1) | exact HB.out)⟩⟩
          case rest =>
            clear HC28
            try clear c1
            try clear c2
            try clear p2
            try clear c3
            try clear c4
            try clear c5
            try clear p6
            try clear c12
            try clear c14
            try clear c14b0
            try clear c15
            try clear c15b0
            try clear c15b1
            try clear c17
            try clear c18
            try clear c18b0
            try clear c20
            try clear c21
            try clear c21b0
            try clear c23
            try clear c23b0
            try clear c25
            try clear c25b0
            try clear c27
            try clear c30
            try clear c32
            try clear c33
            try clear c33b0
            try clear c34
            try clear c34b0
            try clear c36
            try clear p2
            try clear p6
            obtain ⟨kq, x101_27, rfl, HA, HJ27, HB⟩ := hcut
            cases kq with
            | zero => exact absurd HA.out (by simp [laws_FnTimes.j1])
            | succ kj27 =>
              have H := HA.out
              clear HA
              simp only [laws_FnTimes.j1] at H
              by_cases c38 : x101_27 = true
              · subst c38
                have H1 : (some false) = some r := by rw [if_pos rfl] at H; exact H
                clear H
                have H := H1
                clear H1
                obtain rfl := Option.some.inj H
                go_wp2
                go_ret
                exact ⟨by first | rfl | (simp [errW_none, errW_some] <;> rfl) | (simp [*, errW_none, errW_some] <;> rfl), by repeat (first | (with_reducible first | exact HB.out | apply below_alloc | apply pw_below_drewN | apply below_drew1) | exact HB.out)⟩
              · replace c38 := Bool.eq_false_iff.mpr c38
                subst c38
                have H1 : ((impl_IsWithin.f t178 t179 t180).bind fun t192 => (if t192 = true then ((impl_AgeOf.f t178 t180).bind fun t193 => (if t193 < 0 then (some false) else ((impl_LeftOf.f t179 t180).bind fun t194 => (if (wrap64 (t194 + t180)) = t179 then ((impl_LeftOf.f t179 t180).bind fun t195 => (some (decide (t195 ≥ 0)))) else (some false))))) else ((impl_LeftOf.f t179 t180).bind fun t196 => (some (decide (t196 ≥ 0)))))) = some r := by rw [if_neg (show ¬ (false = true) by decide)] at H; exact H
                clear H
                have H := H1
                clear H1
                replace H := Option.bind_eq_some_iff.mp H
                obtain ⟨t192, A390, H⟩ := H
                replace H : (if t192 = true then ((impl_AgeOf.f t178 t180).bind fun t193 => (if t193 < 0 then (some false) else ((impl_LeftOf.f t179 t180).bind fun t194 => (if (wrap64 (t194 + t180)) = t179 then ((impl_LeftOf.f t179 t180).bind fun t195 => (some (decide (t195 ≥ 0)))) else (some false))))) else ((impl_LeftOf.f t179 t180).bind fun t196 => (some (decide (t196 ≥ 0))))) = some r := H
                have A39 := Aside0.mk A390
                clear A390
                by_cases c40 : t192 = true
                · subst c40
                  have H1 : ((impl_AgeOf.f t178 t180).bind fun t193 => (if t193 < 0 then (some false) else ((impl_LeftOf.f t179 t180).bind fun t194 => (if (wrap64 (t194 + t180)) = t179 then ((impl_LeftOf.f t179 t180).bind fun t195 => (some (decide (t195 ≥ 0)))) else (some false))))) = some r := by rw [if_pos rfl] at H; exact H
                  clear H
                  have H := H1
                  clear H1
                  replace H := Option.bind_eq_some_iff.mp H
                  obtain ⟨t193, A410, H⟩ := H
                  replace H : (if t193 < 0 then (some false) else ((impl_LeftOf.f t179 t180).bind fun t194 => (if (wrap64 (t194 + t180)) = t179 then ((impl_LeftOf.f t179 t180).bind fun t195 => (some (decide (t195 ≥ 0)))) else (some false)))) = some r := H
                  have A41 := Aside0.mk A410
                  clear A410
                  by_cases c42 : t193 < 0
                  · rw [if_pos c42] at H
                    have c42b0 : decide (t193 < 0) = true := decide_eq_true c42
                    clear c42
                    obtain rfl := Option.some.inj H
                    go_wp2_with (first | ((with_reducible refine gate_callee (f := 53) rfl ?_); refine goesL_ (some 105) rfl rfl Try.func53 (by kernel_rfl) rfl #[.int .i64 t178, .int .i64 t179, .int .i64 t180] rfl (by (try simp only [List.map_toArray, List.map_cons, List.map_nil]); first | done | rfl | (simp only [List.length_drop, List.length_take]; rfl)) ?_; (with_reducible refine (impl_IsWithin.calls t178 t179 t180 true _ A39.out).mono ?_); rintro e w' ⟨rfl, ⟨nd, rfl⟩⟩; refine ⟨_, rfl, ?_⟩) | (go_at_call 49; (with_reducible refine (impl_AgeOf.calls t178 t180 t193 _ A41.out).mono ?_); rintro e w' ⟨rfl, ⟨nd, rfl⟩⟩))
                    go_ret
                    exact ⟨by first | rfl | (simp [errW_none, errW_some] <;> rfl) | (simp [*, errW_none, errW_some] <;> rfl), by repeat (first | (with_reducible first | exact HB.out | apply below_alloc | apply pw_below_drewN | apply below_drew1) | exact HB.out)⟩
                  · rw [if_neg c42] at H
                    have c42b0 : decide (t193 < 0) = false := decide_eq_false c42
                    clear c42
                    replace H := Option.bind_eq_some_iff.mp H
                    obtain ⟨t194, A430, H⟩ := H
                    replace H : (if (wrap64 (t194 + t180)) = t179 then ((impl_LeftOf.f t179 t180).bind fun t195 => (some (decide (t195 ≥ 0)))) else (some false)) = some r := H
                    have A43 := Aside0.mk A430
                    clear A430
                    by_cases c44 : (wrap64 (t194 + t180)) = t179
                    · rw [if_pos c44] at H
                      have c44b0 : ((wrap64 (t194 + t180)) == t179) = true := beq_iff_eq.mpr c44
                      have c44b1 : ((wrap64 (t194 + t180)) != t179) = false := bne_eq_false_iff_eq.mpr c44
                      clear c44
                      replace H := Option.bind_eq_some_iff.mp H
                      obtain ⟨t195, A450, H⟩ := H
                      replace H : (some (decide (t195 ≥ 0))) = some r := H
                      have A45 := Aside0.mk A450
                      clear A450
                      obtain rfl := Option.some.inj H
                      go_wp2_with (first | ((with_reducible refine gate_callee (f := 53) rfl ?_); refine goesL_ (some 105) rfl rfl Try.func53 (by kernel_rfl) rfl #[.int .i64 t178, .int .i64 t179, .int .i64 t180] rfl (by (try simp only [List.map_toArray, List.map_cons, List.map_nil]); first | done | rfl | (simp only [List.length_drop, List.length_take]; rfl)) ?_; (with_reducible refine (impl_IsWithin.calls t178 t179 t180 true _ A39.out).mono ?_); rintro e w' ⟨rfl, ⟨nd, rfl⟩⟩; refine ⟨_, rfl, ?_⟩) | (go_at_call 49; (with_reducible refine (impl_AgeOf.calls t178 t180 t193 _ A41.out).mono ?_); rintro e w' ⟨rfl, ⟨nd, rfl⟩⟩) | (go_at_call 54; (with_reducible refine (impl_LeftOf.calls t179 t180 t194 _ A43.out).mono ?_); rintro e w46 ⟨rfl, hb⟩; have n0_ := Aside0.mk (below_step (by repeat (first | (with_reducible first | exact HB.out | apply below_alloc | apply pw_below_drewN | apply below_drew1) | exact HB.out)) hb); clear HB; have HB := n0_; clear n0_; (try clear hb); (try clear hb2); (try clear hk); (try clear hi)) | ((with_reducible refine gate_callee (f := 54) rfl ?_); refine goesL_ (some 123) rfl rfl Try.func54 (by kernel_rfl) rfl #[.int .i64 t179, .int .i64 t180] rfl (by (try simp only [List.map_toArray, List.map_cons, List.map_nil]); first | done | rfl | (simp only [List.length_drop, List.length_take]; rfl)) ?_; (with_reducible refine (impl_LeftOf.calls t179 t180 t195 _ A45.out).mono ?_); rintro e w47 ⟨rfl, hb⟩; refine ⟨_, rfl, ?_⟩; have n0_ := Aside0.mk (below_step (by repeat (first | (with_reducible first | exact HB.out | apply below_alloc | apply pw_below_drewN | apply below_drew1) | exact HB.out)) hb); clear HB; have HB := n0_; clear n0_; (try clear hb); (try clear hb2); (try clear hk); (try clear hi)))
                      go_ret
                      exact ⟨by first | rfl | (simp [errW_none, errW_some] <;> rfl) | (simp [*, errW_none, errW_some] <;> rfl), by repeat (first | (with_reducible first | exact HB.out | apply below_alloc | apply pw_below_drewN | apply below_drew1) | exact HB.out)⟩
                    · rw [if_neg c44] at H
                      have c44b0 : ((wrap64 (t194 + t180)) == t179) = false := beq_eq_false_iff_ne.mpr c44
                      have c44b1 : ((wrap64 (t194 + t180)) != t179) = true := bne_iff_ne.mpr c44
                      obtain rfl := Option.some.inj H
                      go_wp2_with (first | ((with_reducible refine gate_callee (f := 53) rfl ?_); refine goesL_ (some 105) rfl rfl Try.func53 (by kernel_rfl) rfl #[.int .i64 t178, .int .i64 t179, .int .i64 t180] rfl (by (try simp only [List.map_toArray, List.map_cons, List.map_nil]); first | done | rfl | (simp only [List.length_drop, List.length_take]; rfl)) ?_; (with_reducible refine (impl_IsWithin.calls t178 t179 t180 true _ A39.out).mono ?_); rintro e w' ⟨rfl, ⟨nd, rfl⟩⟩; refine ⟨_, rfl, ?_⟩) | (go_at_call 49; (with_reducible refine (impl_AgeOf.calls t178 t180 t193 _ A41.out).mono ?_); rintro e w' ⟨rfl, ⟨nd, rfl⟩⟩) | (go_at_call 54; (with_reducible refine (impl_LeftOf.calls t179 t180 t194 _ A43.out).mono ?_); rintro e w48 ⟨rfl, hb⟩; have n0_ := Aside0.mk (below_step (by repeat (first | (with_reducible first | exact HB.out | apply below_alloc | apply pw_below_drewN | apply below_drew1) | exact HB.out)) hb); clear HB; have HB := n0_; clear n0_; (try clear hb); (try clear hb2); (try clear hk); (try clear hi)))
                      go_ret
                      exact ⟨by first | rfl | (simp [errW_none, errW_some] <;> rfl) | (simp [*, errW_none, errW_some] <;> rfl), by repeat (first | (with_reducible first | exact HB.out | apply below_alloc | apply pw_below_drewN | apply below_drew1) | exact HB.out)⟩
                · replace c40 := Bool.eq_false_iff.mpr c40
                  subst c40
                  have H1 : ((impl_LeftOf.f t179 t180).bind fun t196 => (some (decide (t196 ≥ 0)))) = some r := by rw [if_neg (show ¬ (false = true) by decide)] at H; exact H
                  clear H
                  have H := H1
                  clear H1
                  replace H := Option.bind_eq_some_iff.mp H
                  obtain ⟨t196, A490, H⟩ := H
                  replace H : (some (decide (t196 ≥ 0))) = some r := H
                  have A49 := Aside0.mk A490
                  clear A490
                  obtain rfl := Option.some.inj H
                  go_wp2_with (first | ((with_reducible refine gate_callee (f := 53) rfl ?_); refine goesL_ (some 105) rfl rfl Try.func53 (by kernel_rfl) rfl #[.int .i64 t178, .int .i64 t179, .int .i64 t180] rfl (by (try simp only [List.map_toArray, List.map_cons, List.map_nil]); first | done | rfl | (simp only [List.length_drop, List.length_take]; rfl)) ?_; (with_reducible refine (impl_IsWithin.calls t178 t179 t180 false _ A39.out).mono ?_); rintro e w' ⟨rfl, ⟨nd, rfl⟩⟩; refine ⟨_, rfl, ?_⟩) | ((with_reducible refine gate_callee (f := 54) rfl ?_); refine goesL_ (some 123) rfl rfl Try.func54 (by kernel_rfl) rfl #[.int .i64 t179, .int .i64 t180] rfl (by (try simp only [List.map_toArray, List.map_cons, List.map_nil]); first | done | rfl | (simp only [List.length_drop, List.length_take]; rfl)) ?_; (with_reducible refine (impl_LeftOf.calls t179 t180 t196 _ A49.out).mono ?_); rintro e w50 ⟨rfl, hb⟩; refine ⟨_, rfl, ?_⟩; have n0_ := Aside0.mk (below_step (by repeat (first | (with_reducible first | exact HB.out | apply below_alloc | apply pw_below_drewN | apply below_drew1) | exact HB.out)) hb); clear HB; have HB := n0_; clear n0_; (try clear hb); (try clear hb2); (try clear hk); (try clear hi)))
                  go_ret
                  exact ⟨by first | rfl | (simp [errW_none, errW_some] <;> rfl) | (simp [*, errW_none, errW_some] <;> rfl), by repeat (first | (with_reducible first | exact HB.out | apply below_alloc | apply pw_below_drewN | apply below_drew1) | exact HB.out)⟩

/-- THE ONE PURE STATEMENT of laws_FnTimes: yours. -/
def laws_FnTimes.Pure : Prop := ∀ (l0 : List Int), l0.length ≤ maxLen → l0.length * 1 ≤ 140737488351232 → (∀ x ∈ l0, (Lit.int .u8 x).wf = true) → ∃ k, laws_FnTimes.f k l0 = some true
theorem laws_FnTimes.walk (P : laws_FnTimes.Pure) (a0 : Option Addr) (len0 cap0 : Nat) (z0 : List Int) (w : World) (w0 : (a0 = none ∧ len0 = 0 ∧ cap0 = 0 ∧ z0 = []) ∨ ∃ x, a0 = some x ∧ len0 ≤ cap0 ∧ cap0 ≤ maxLen ∧ z0.length = cap0 ∧ (∀ i, i < z0.length → w.cell? (x.add i) = some (.int .u8 (z0.getD i 0))) ∧ ∀ n ∈ z0, (Lit.int .u8 n).wf = true) (y0 : len0 * 1 ≤ 140737488351232) :
    Calls Try.prog 12 #[.slice a0 len0 cap0] w fun e w' => e = .returned (.bool true) ∧ Below w.heap.size w w' := by
  obtain ⟨l0, rfl, hr0, hm0, hw0, hc0⟩ := ReadsInt.ofRowC w0
  obtain ⟨k, h⟩ := P l0 hm0 y0 hw0
  refine (laws_FnTimes.calls k _ _ l0 true w (Kd.C_of_reads (d := (0 : Int)) (h1 := fun _ => rfl) hr0) hc0 h).mono ?_
  rintro e w' ⟨rfl, hd⟩
  exact ⟨rfl, hd⟩

end Go.Proofs.Ytobpbnbjdpdflab.PFnTimes
