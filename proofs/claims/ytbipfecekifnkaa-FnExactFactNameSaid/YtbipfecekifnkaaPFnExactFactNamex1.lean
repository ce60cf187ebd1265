/- What this law reaches, as plain Lean functions, and the proofs that the machine's calls answer what they answer; laid by a program of this session over the kit's print, some functions by hand. Conditions: none beyond each theorem's own. -/
import Derived.Test.YtbipfecekifnkaaPFnExactFactNamex0
namespace Go.Proofs.Ytbipfecekifnkaa.PFnExactFactName
open Go.RowKit Go.Proofs.YtbipfecekifnkaaW.PrintWords Go.Proofs.YtbipfecekifnkaaW.PrintLast Go.Proofs.YtbipfecekifnkaaW.PrintMore
attribute [local go_sem] max2_int min2_int max_two min_two max_three min_three max_four min_four   -- for this text's walks alone
set_option linter.unusedVariables false
set_option linter.unusedSimpArgs false

/-! ### spec_l1In: function 44 -/
def spec_l1In.f (a0 : Int) (a1 : Int) (a2 : Int) : Option (Bool) := if a0 ≥ a1 then (some (decide (a0 ≤ a2))) else (some false)
set_option maxHeartbeats 8000000 in
set_option maxRecDepth 100000 in
theorem spec_l1In.calls (a0 : Int) (a1 : Int) (a2 : Int) (r : Bool) (w : World) (h : spec_l1In.f a0 a1 a2 = some r) :
    Calls Try.prog 44 #[.int .i64 a0, .int .i64 a1, .int .i64 a2] w fun e w' => e = .returned (.bool r) ∧ Drawn0 w w' := by
  have H : (if a0 ≥ a1 then (some (decide (a0 ≤ a2))) else (some false)) = some r := h
  clear h
  by_cases c4 : a0 ≥ a1
  · rw [if_pos c4] at H
    have c4b0 : decide (a1 ≤ a0) = true := decide_eq_true c4
    clear c4
    obtain rfl := Option.some.inj H
    go_enter Try.func44, Try.ntmps44
    go_wp2
    go_ret
    exact ⟨by first | rfl | (simp; done) | (simp [*]; done), by repeat (first | exact Drawn0.refl _ | apply Drawn0.step)⟩
  · rw [if_neg c4] at H
    have c4b0 : decide (a1 ≤ a0) = false := decide_eq_false c4
    clear c4
    obtain rfl := Option.some.inj H
    go_enter Try.func44, Try.ntmps44
    go_wp2
    go_ret
    exact ⟨by first | rfl | (simp; done) | (simp [*]; done), by repeat (first | exact Drawn0.refl _ | apply Drawn0.step)⟩

/-! ### spec_FactName: function 42 -/
def spec_FactName.f (a0 : Int) : Option (ByteArray) := (spec_l1In.f a0 1 4).bind fun t101 => (if t101 = true then ((some (([(⟨#[]⟩ : ByteArray), (⟨#[114, 111, 108, 101]⟩ : ByteArray), (⟨#[111, 119, 110, 115]⟩ : ByteArray), (⟨#[104, 101, 97, 108, 116, 104]⟩ : ByteArray), (⟨#[98, 117, 105, 108, 100]⟩ : ByteArray)] : List ByteArray) : List ByteArray)).bind fun y102 => (if 0 ≤ a0 then (if a0 < (y102.length : Int) then (some (rdOf ByteArray.empty y102 a0)) else (none)) else (none))) else (some (⟨#[]⟩ : ByteArray)))
set_option maxHeartbeats 8000000 in
set_option maxRecDepth 100000 in
theorem spec_FactName.calls (a0 : Int) (r : ByteArray) (w : World) (h : spec_FactName.f a0 = some r) :
    Calls Try.prog 42 #[.int .i64 a0] w fun e w' => e = .returned (.string r) ∧ Below w.heap.size w w' := by
  have HB := Aside0.mk (Below.refl w.heap.size w)
  have H : ((spec_l1In.f a0 1 4).bind fun t101 => (if t101 = true then ((some (([(⟨#[]⟩ : ByteArray), (⟨#[114, 111, 108, 101]⟩ : ByteArray), (⟨#[111, 119, 110, 115]⟩ : ByteArray), (⟨#[104, 101, 97, 108, 116, 104]⟩ : ByteArray), (⟨#[98, 117, 105, 108, 100]⟩ : ByteArray)] : List ByteArray) : List ByteArray)).bind fun y102 => (if 0 ≤ a0 then (if a0 < (y102.length : Int) then (some (rdOf ByteArray.empty y102 a0)) else (none)) else (none))) else (some (⟨#[]⟩ : ByteArray)))) = some r := h
  clear h
  replace H := Option.bind_eq_some_iff.mp H
  obtain ⟨t101, A20, H⟩ := H
  replace H : (if t101 = true then ((some (([(⟨#[]⟩ : ByteArray), (⟨#[114, 111, 108, 101]⟩ : ByteArray), (⟨#[111, 119, 110, 115]⟩ : ByteArray), (⟨#[104, 101, 97, 108, 116, 104]⟩ : ByteArray), (⟨#[98, 117, 105, 108, 100]⟩ : ByteArray)] : List ByteArray) : List ByteArray)).bind fun y102 => (if 0 ≤ a0 then (if a0 < (y102.length : Int) then (some (rdOf ByteArray.empty y102 a0)) else (none)) else (none))) else (some (⟨#[]⟩ : ByteArray))) = some r := H
  have A2 := Aside0.mk A20
  clear A20
  by_cases c3 : t101 = true
  · subst c3
    have H1 : ((some (([(⟨#[]⟩ : ByteArray), (⟨#[114, 111, 108, 101]⟩ : ByteArray), (⟨#[111, 119, 110, 115]⟩ : ByteArray), (⟨#[104, 101, 97, 108, 116, 104]⟩ : ByteArray), (⟨#[98, 117, 105, 108, 100]⟩ : ByteArray)] : List ByteArray) : List ByteArray)).bind fun y102 => (if 0 ≤ a0 then (if a0 < (y102.length : Int) then (some (rdOf ByteArray.empty y102 a0)) else (none)) else (none))) = some r := by rw [if_pos rfl] at H; exact H
    clear H
    have H := H1
    clear H1
    obtain ⟨y102, hy102⟩ : ∃ y_ : List ByteArray, y_ = (([(⟨#[]⟩ : ByteArray), (⟨#[114, 111, 108, 101]⟩ : ByteArray), (⟨#[111, 119, 110, 115]⟩ : ByteArray), (⟨#[104, 101, 97, 108, 116, 104]⟩ : ByteArray), (⟨#[98, 117, 105, 108, 100]⟩ : ByteArray)] : List ByteArray)) := ⟨_, rfl⟩
    replace H : (if 0 ≤ a0 then (if a0 < (y102.length : Int) then (some (rdOf ByteArray.empty y102 a0)) else (none)) else (none)) = some r := by first | (rw [hy102]; with_reducible exact H) | (have H2_ := (Option.bind_some _ _).symm.trans H; rw [hy102]; with_reducible exact H2_) | (have H2_ := (Option.bind_some _ _).symm.trans H; with_reducible exact H2_) | with_reducible exact H | (rw [hy102]; exact H) | exact H
    have Ny102 := Aside0.mk hy102
    clear hy102
    by_cases c4 : 0 ≤ a0
    · rw [if_pos c4] at H
      have c4b0 : decide (0 ≤ a0) = true := decide_eq_true c4
      clear c4
      by_cases c5 : a0 < (y102.length : Int)
      · rw [if_pos c5] at H
        have c5b0 : decide (a0 < (y102.length : Int)) = true := decide_eq_true c5
        clear c5
        obtain rfl := Option.some.inj H
        go_enter Try.func42, Try.ntmps42
        go_wp2_with (first | ((with_reducible refine gate_callee (f := 44) rfl ?_); refine goesL_ (some 4) rfl rfl Try.func44 (by kernel_rfl) rfl #[.int .i64 a0, .int .i64 1, .int .i64 4] rfl (by (try simp only [List.map_toArray, List.map_cons, List.map_nil]); first | done | rfl | (simp only [List.length_drop, List.length_take]; rfl)) ?_; (with_reducible refine (spec_l1In.calls a0 1 4 true _ A2.out).mono ?_); rintro e w' ⟨rfl, ⟨nd, rfl⟩⟩; refine ⟨_, rfl, ?_⟩) | ((with_reducible refine gate_dst (N := 6) rfl ?_); refine Kd.R_lit Kd.string _ 9 ?hg (N := 6) ?hd (xs := ([(⟨#[]⟩ : ByteArray), (⟨#[114, 111, 108, 101]⟩ : ByteArray), (⟨#[111, 119, 110, 115]⟩ : ByteArray), (⟨#[104, 101, 97, 108, 116, 104]⟩ : ByteArray), (⟨#[98, 117, 105, 108, 100]⟩ : ByteArray)] : List ByteArray)) (inner := [.string (⟨#[]⟩ : ByteArray), .string (⟨#[114, 111, 108, 101]⟩ : ByteArray), .string (⟨#[111, 119, 110, 115]⟩ : ByteArray), .string (⟨#[104, 101, 97, 108, 116, 104]⟩ : ByteArray), .string (⟨#[98, 117, 105, 108, 100]⟩ : ByteArray)]) (ok := fun _ => True) (okp := fun _ => True) ?hr ?hp (fun _ hk => hk) trivial (Below.refl _ _) (Nat.le_refl _) (by simp) ?_; (case hd => rfl); (case hg => rfl); (case hr => first | (go_simp; done) | (go_simp; rfl)); (case hp => exact (Reps.one (show Kd.M Kd.string _ _ _ (⟨#[]⟩ : ByteArray) [.string (⟨#[]⟩ : ByteArray)] from rfl) (Reps.one (show Kd.M Kd.string _ _ _ (⟨#[114, 111, 108, 101]⟩ : ByteArray) [.string (⟨#[114, 111, 108, 101]⟩ : ByteArray)] from rfl) (Reps.one (show Kd.M Kd.string _ _ _ (⟨#[111, 119, 110, 115]⟩ : ByteArray) [.string (⟨#[111, 119, 110, 115]⟩ : ByteArray)] from rfl) (Reps.one (show Kd.M Kd.string _ _ _ (⟨#[104, 101, 97, 108, 116, 104]⟩ : ByteArray) [.string (⟨#[104, 101, 97, 108, 116, 104]⟩ : ByteArray)] from rfl) (Reps.one (show Kd.M Kd.string _ _ _ (⟨#[98, 117, 105, 108, 100]⟩ : ByteArray) [.string (⟨#[98, 117, 105, 108, 100]⟩ : ByteArray)] from rfl) (Reps.none _ _))))))); intro v103 w6 ho7 hb hg_ hnew_; clear hg_ hnew_; (first | rw [← Ny102.out] at ho7 | (simp only [Int.reduceToNat] at ho7; rw [← Ny102.out] at ho7)); have n0_ := Aside0.mk (Kd.R_lower ho7 (below_size (by repeat (first | (with_reducible first | exact HB.out | apply below_alloc | apply pw_below_drewN | apply below_drew1) | exact HB.out)))); have n1_ := Aside0.mk (below_step (by repeat (first | (with_reducible first | exact HB.out | apply below_alloc | apply pw_below_drewN | apply below_drew1) | exact HB.out)) hb); clear HB; have HO104 := n0_; have HB := n1_; clear n0_ n1_; clear hb ho7; obtain ⟨Ao8, co8, eo8⟩ := Kd.R_slice HO104.out; subst eo8; have p105 : 0 ≤ (a0 : Int) := of_decide_eq_true (by first | (with_reducible assumption) | assumption); have q105 : a0 < (y102.length : Int) := of_decide_eq_true (by first | (with_reducible assumption) | assumption); obtain ⟨ad105, e105, hx105_0⟩ := Kd.at_string (Kd.R_reads' HO104.out).2.2 a0 p105 q105; cases e105; replace p105 := eq_true p105; replace q105 := eq_true q105))
        go_ret
        exact ⟨by first | rfl | (simp [errW_none, errW_some] <;> rfl) | (simp [*, errW_none, errW_some] <;> rfl), by repeat (first | (with_reducible first | exact HB.out | apply below_alloc | apply pw_below_drewN | apply below_drew1) | exact HB.out)⟩
      · rw [if_neg c5] at H
        exact absurd H (by simp)
    · rw [if_neg c4] at H
      exact absurd H (by simp)
  · replace c3 := Bool.eq_false_iff.mpr c3
    subst c3
    have H1 : (some (⟨#[]⟩ : ByteArray)) = some r := by rw [if_neg (show ¬ (false = true) by decide)] at H; exact H
    clear H
    have H := H1
    clear H1
    obtain rfl := Option.some.inj H
    go_enter Try.func42, Try.ntmps42
    go_wp2_with (first | ((with_reducible refine gate_callee (f := 44) rfl ?_); refine goesL_ (some 4) rfl rfl Try.func44 (by kernel_rfl) rfl #[.int .i64 a0, .int .i64 1, .int .i64 4] rfl (by (try simp only [List.map_toArray, List.map_cons, List.map_nil]); first | done | rfl | (simp only [List.length_drop, List.length_take]; rfl)) ?_; (with_reducible refine (spec_l1In.calls a0 1 4 false _ A2.out).mono ?_); rintro e w' ⟨rfl, ⟨nd, rfl⟩⟩; refine ⟨_, rfl, ?_⟩))
    go_ret
    exact ⟨by first | rfl | (simp [errW_none, errW_some] <;> rfl) | (simp [*, errW_none, errW_some] <;> rfl), by repeat (first | (with_reducible first | exact HB.out | apply below_alloc | apply pw_below_drewN | apply below_drew1) | exact HB.out)⟩

/-! ### impl_InRange: function 16 -/
def impl_InRange.f (a0 : Int) (a1 : Int) (a2 : Int) : Option (Bool) := if a1 ≤ a0 then (some (decide (a0 ≤ a2))) else (some false)
set_option maxHeartbeats 8000000 in
set_option maxRecDepth 100000 in
theorem impl_InRange.calls (a0 : Int) (a1 : Int) (a2 : Int) (r : Bool) (w : World) (h : impl_InRange.f a0 a1 a2 = some r) :
    Calls Try.prog 16 #[.int .i64 a0, .int .i64 a1, .int .i64 a2] w fun e w' => e = .returned (.bool r) ∧ Drawn0 w w' := by
  have H : (if a1 ≤ a0 then (some (decide (a0 ≤ a2))) else (some false)) = some r := h
  clear h
  by_cases c4 : a1 ≤ a0
  · rw [if_pos c4] at H
    have c4b0 : decide (a1 ≤ a0) = true := decide_eq_true c4
    clear c4
    obtain rfl := Option.some.inj H
    go_enter Try.func16, Try.ntmps16
    go_wp2
    go_ret
    exact ⟨by first | rfl | (simp; done) | (simp [*]; done), by repeat (first | exact Drawn0.refl _ | apply Drawn0.step)⟩
  · rw [if_neg c4] at H
    have c4b0 : decide (a1 ≤ a0) = false := decide_eq_false c4
    clear c4
    obtain rfl := Option.some.inj H
    go_enter Try.func16, Try.ntmps16
    go_wp2
    go_ret
    exact ⟨by first | rfl | (simp; done) | (simp [*]; done), by repeat (first | exact Drawn0.refl _ | apply Drawn0.step)⟩

/-! ### impl_FactName: function 43, by hand -/
def impl_FactName.f (a0 : Int) : Option (ByteArray) := some (if a0 = 1 then (⟨#[114, 111, 108, 101]⟩ : ByteArray) else if a0 = 2 then (⟨#[111, 119, 110, 115]⟩ : ByteArray) else if a0 = 3 then (⟨#[104, 101, 97, 108, 116, 104]⟩ : ByteArray) else if a0 = 4 then (⟨#[98, 117, 105, 108, 100]⟩ : ByteArray) else (⟨#[]⟩ : ByteArray))
set_option maxHeartbeats 8000000 in
set_option maxRecDepth 100000 in
theorem impl_FactName.calls (a0 : Int) (r : ByteArray) (w : World) (h : impl_FactName.f a0 = some r) :
    Calls Try.prog 43 #[.int .i64 a0] w fun e w' => e = .returned (.string r) ∧ Drawn0 w w' := by
  have H := Option.some.inj h
  clear h
  by_cases c1 : a0 = 1
  · subst c1
    rw [if_pos rfl] at H
    subst H
    have hix : ∀ W : World, (Instr.index 55 (.agg #[.string ⟨#[]⟩, .string ⟨#[114, 111, 108, 101]⟩, .string ⟨#[111, 119, 110, 115]⟩, .string ⟨#[104, 101, 97, 108, 116, 104]⟩, .string ⟨#[98, 117, 105, 108, 100]⟩]) (.int .i64 1)).run Try.prog W = .ok (.string ⟨#[114, 111, 108, 101]⟩) W := fun W => by kernel_rfl
    go_enter Try.func43, Try.ntmps43
    go_wp2
    go_ret
    exact ⟨rfl, Drawn0.refl _⟩
  · by_cases c2 : a0 = 2
    · subst c2
      rw [if_neg (by decide), if_pos rfl] at H
      subst H
      have hix : ∀ W : World, (Instr.index 55 (.agg #[.string ⟨#[]⟩, .string ⟨#[114, 111, 108, 101]⟩, .string ⟨#[111, 119, 110, 115]⟩, .string ⟨#[104, 101, 97, 108, 116, 104]⟩, .string ⟨#[98, 117, 105, 108, 100]⟩]) (.int .i64 2)).run Try.prog W = .ok (.string ⟨#[111, 119, 110, 115]⟩) W := fun W => by kernel_rfl
      go_enter Try.func43, Try.ntmps43
      go_wp2
      go_ret
      exact ⟨rfl, Drawn0.refl _⟩
    · by_cases c3 : a0 = 3
      · subst c3
        rw [if_neg (by decide), if_neg (by decide), if_pos rfl] at H
        subst H
        have hix : ∀ W : World, (Instr.index 55 (.agg #[.string ⟨#[]⟩, .string ⟨#[114, 111, 108, 101]⟩, .string ⟨#[111, 119, 110, 115]⟩, .string ⟨#[104, 101, 97, 108, 116, 104]⟩, .string ⟨#[98, 117, 105, 108, 100]⟩]) (.int .i64 3)).run Try.prog W = .ok (.string ⟨#[104, 101, 97, 108, 116, 104]⟩) W := fun W => by kernel_rfl
        go_enter Try.func43, Try.ntmps43
        go_wp2
        go_ret
        exact ⟨rfl, Drawn0.refl _⟩
      · by_cases c4 : a0 = 4
        · subst c4
          rw [if_neg (by decide), if_neg (by decide), if_neg (by decide), if_pos rfl] at H
          subst H
          have hix : ∀ W : World, (Instr.index 55 (.agg #[.string ⟨#[]⟩, .string ⟨#[114, 111, 108, 101]⟩, .string ⟨#[111, 119, 110, 115]⟩, .string ⟨#[104, 101, 97, 108, 116, 104]⟩, .string ⟨#[98, 117, 105, 108, 100]⟩]) (.int .i64 4)).run Try.prog W = .ok (.string ⟨#[98, 117, 105, 108, 100]⟩) W := fun W => by kernel_rfl
          go_enter Try.func43, Try.ntmps43
          go_wp2
          go_ret
          exact ⟨rfl, Drawn0.refl _⟩
        · rw [if_neg c1, if_neg c2, if_neg c3, if_neg c4] at H
          subst H
          by_cases lo : 1 ≤ a0
          · have hi : ¬ a0 ≤ 4 := by omega
            have d1 : decide (1 ≤ a0) = true := decide_eq_true lo
            have d2 : decide (a0 ≤ 4) = false := decide_eq_false hi
            clear c1 c2 c3 c4 lo hi
            go_enter Try.func43, Try.ntmps43
            go_wp2
            go_ret
            exact ⟨rfl, Drawn0.refl _⟩
          · have d1 : decide (1 ≤ a0) = false := decide_eq_false lo
            clear c1 c2 c3 c4 lo
            go_enter Try.func43, Try.ntmps43
            go_wp2
            go_ret
            exact ⟨rfl, Drawn0.refl _⟩

/-! ### laws_FnExactFactName: function 14 -/
def laws_FnExactFactName.f (a0 : Int) : Option (Bool) := (spec_FactName.f a0).bind fun t106 => ((impl_FactName.f a0).bind fun t107 => (if t107.toList = t106.toList then (some true) else (some false)))
set_option maxHeartbeats 8000000 in
set_option maxRecDepth 100000 in
theorem laws_FnExactFactName.calls (a0 : Int) (r : Bool) (w : World) (h : laws_FnExactFactName.f a0 = some r) :
    Calls Try.prog 14 #[.int .i64 a0] w fun e w' => e = .returned (.bool r) ∧ Below w.heap.size w w' := by
  have HB := Aside0.mk (Below.refl w.heap.size w)
  have H : ((spec_FactName.f a0).bind fun t106 => ((impl_FactName.f a0).bind fun t107 => (if t107.toList = t106.toList then (some true) else (some false)))) = some r := h
  clear h
  replace H := Option.bind_eq_some_iff.mp H
  obtain ⟨t106, A20, H⟩ := H
  replace H : ((impl_FactName.f a0).bind fun t107 => (if t107.toList = t106.toList then (some true) else (some false))) = some r := H
  have A2 := Aside0.mk A20
  clear A20
  replace H := Option.bind_eq_some_iff.mp H
  obtain ⟨t107, A30, H⟩ := H
  replace H : (if t107.toList = t106.toList then (some true) else (some false)) = some r := H
  have A3 := Aside0.mk A30
  clear A30
  by_cases c4 : t107.toList = t106.toList
  · rw [if_pos c4] at H
    have c4b0 : (t107.toList == t106.toList) = true := beq_iff_eq.mpr c4
    have c4b1 : (t107.toList != t106.toList) = false := bne_eq_false_iff_eq.mpr c4
    clear c4
    obtain rfl := Option.some.inj H
    go_enter Try.func14, Try.ntmps14
    go_wp2_with (first | ((with_reducible refine gate_callee (f := 42) rfl ?_); refine goesL_ (some 6) rfl rfl Try.func42 (by kernel_rfl) rfl #[.int .i64 a0] rfl (by (try simp only [List.map_toArray, List.map_cons, List.map_nil]); first | done | rfl | (simp only [List.length_drop, List.length_take]; rfl)) ?_; (with_reducible refine (spec_FactName.calls a0 t106 _ A2.out).mono ?_); rintro e w5 ⟨rfl, hb⟩; refine ⟨_, rfl, ?_⟩; have n0_ := Aside0.mk (below_step (by repeat (first | (with_reducible first | exact HB.out | apply below_alloc | apply pw_below_drewN | apply below_drew1) | exact HB.out)) hb); clear HB; have HB := n0_; clear n0_; (try clear hb); (try clear hb2); (try clear hk); (try clear hi)) | ((with_reducible refine gate_callee (f := 43) rfl ?_); refine goesL_ (some 8) rfl rfl Try.func43 (by kernel_rfl) rfl #[.int .i64 a0] rfl (by (try simp only [List.map_toArray, List.map_cons, List.map_nil]); first | done | rfl | (simp only [List.length_drop, List.length_take]; rfl)) ?_; (with_reducible refine (impl_FactName.calls a0 t107 _ A3.out).mono ?_); rintro e w' ⟨rfl, ⟨nd, rfl⟩⟩; refine ⟨_, rfl, ?_⟩))
    go_ret
    exact ⟨by first | rfl | (simp [errW_none, errW_some] <;> rfl) | (simp [*, errW_none, errW_some] <;> rfl), by repeat (first | (with_reducible first | exact HB.out | apply below_alloc | apply pw_below_drewN | apply below_drew1) | exact HB.out)⟩
  · rw [if_neg c4] at H
    have c4b0 : (t107.toList == t106.toList) = false := beq_eq_false_iff_ne.mpr c4
    have c4b1 : (t107.toList != t106.toList) = true := bne_iff_ne.mpr c4
    obtain rfl := Option.some.inj H
    go_enter Try.func14, Try.ntmps14
    go_wp2_with (first | ((with_reducible refine gate_callee (f := 42) rfl ?_); refine goesL_ (some 6) rfl rfl Try.func42 (by kernel_rfl) rfl #[.int .i64 a0] rfl (by (try simp only [List.map_toArray, List.map_cons, List.map_nil]); first | done | rfl | (simp only [List.length_drop, List.length_take]; rfl)) ?_; (with_reducible refine (spec_FactName.calls a0 t106 _ A2.out).mono ?_); rintro e w6 ⟨rfl, hb⟩; refine ⟨_, rfl, ?_⟩; have n0_ := Aside0.mk (below_step (by repeat (first | (with_reducible first | exact HB.out | apply below_alloc | apply pw_below_drewN | apply below_drew1) | exact HB.out)) hb); clear HB; have HB := n0_; clear n0_; (try clear hb); (try clear hb2); (try clear hk); (try clear hi)) | ((with_reducible refine gate_callee (f := 43) rfl ?_); refine goesL_ (some 8) rfl rfl Try.func43 (by kernel_rfl) rfl #[.int .i64 a0] rfl (by (try simp only [List.map_toArray, List.map_cons, List.map_nil]); first | done | rfl | (simp only [List.length_drop, List.length_take]; rfl)) ?_; (with_reducible refine (impl_FactName.calls a0 t107 _ A3.out).mono ?_); rintro e w' ⟨rfl, ⟨nd, rfl⟩⟩; refine ⟨_, rfl, ?_⟩))
    go_ret
    exact ⟨by first | rfl | (simp [errW_none, errW_some] <;> rfl) | (simp [*, errW_none, errW_some] <;> rfl), by repeat (first | (with_reducible first | exact HB.out | apply below_alloc | apply pw_below_drewN | apply below_drew1) | exact HB.out)⟩

/-- THE ONE PURE STATEMENT of laws_FnExactFactName: yours. -/
def laws_FnExactFactName.Pure : Prop := ∀ (a0 : Int), (Lit.int .i64 a0).wf = true → laws_FnExactFactName.f a0 = some true
theorem laws_FnExactFactName.walk (P : laws_FnExactFactName.Pure) (a0 : Int) (w : World) (w0 : (Lit.int .i64 a0).wf = true) :
    Calls Try.prog 14 #[.int .i64 a0] w fun e w' => e = .returned (.bool true) ∧ Below w.heap.size w w' := by
  have h := P a0 w0
  refine (laws_FnExactFactName.calls a0 true w h).mono ?_
  rintro e w' ⟨rfl, hd⟩
  exact ⟨rfl, hd⟩

end Go.Proofs.Ytbipfecekifnkaa.PFnExactFactName
