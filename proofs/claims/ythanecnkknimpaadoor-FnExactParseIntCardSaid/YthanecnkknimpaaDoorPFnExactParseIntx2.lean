/- What this law reaches, as plain Lean functions, and the proofs that the machine's calls answer what they answer; laid by a program of this session over the kit's print, some functions by hand. Conditions: none beyond each theorem's own. -/
import Derived.Test.YthanecnkknimpaaDoorPFnExactParseIntx0
import Derived.Test.YthanecnkknimpaaDoorPFnExactParseIntx1
namespace Go.Proofs.YthanecnkknimpaaDoor.PFnExactParseInt
open Go.RowKit Go.Proofs.YthanecnkknimpaaDoorW.PrintWords Go.Proofs.YthanecnkknimpaaDoorW.PrintLast Go.Proofs.YthanecnkknimpaaDoorW.PrintMore
attribute [local go_sem] max2_int min2_int max_two min_two max_three min_three max_four min_four   -- for this text's walks alone
set_option linter.unusedVariables false
set_option linter.unusedSimpArgs false

/-! ### impl_ParseInt: function 7, by hand -/
def impl_ParseInt.val (a0 : ByteArray) : Int × Bool := match Lib.atoiAll a0.data.toList with
  | .ok v => if 0 ≤ v ∧ v ≤ 1000000000000 ∧ (⟨(Lib.itoa v).toArray⟩ : ByteArray).toList = a0.toList then (v, true) else (0, false)
  | _ => (0, false)
def impl_ParseInt.f (a0 : ByteArray) : Option (Int × Bool) := if a0.size ≤ 140737488351232 then some (impl_ParseInt.val a0) else none
set_option maxHeartbeats 8000000 in
set_option maxRecDepth 100000 in
theorem impl_ParseInt.calls (a0 : ByteArray) (r1 : Int) (r2 : Bool) (w : World) (htab : Lib.TabIs Tryd.prog w "internal/strconv.uint64pow10" .u64 Lib.pow10Tab) (herr : strconv_Atoi.Errs w) (h : impl_ParseInt.f a0 = some (r1, r2)) :
    Calls Tryd.prog 7 #[.string a0] w fun e w' => e = .returned (.tuple #[.int .i64 r1, .bool r2]) ∧ Below w.heap.size w w' := by
  have TAB_ := Aside0.mk (show ∀ w', Below w.heap.size w w' → Lib.TabIs Tryd.prog w' "internal/strconv.uint64pow10" .u64 Lib.pow10Tab from Lib.tabBelow_of_tabIs htab)
  clear htab
  have ERR_ := Aside0.mk herr
  clear herr
  unfold impl_ParseInt.f at h
  by_cases hs : a0.size ≤ 140737488351232
  · rw [if_pos hs] at h
    have HS := Aside0.mk hs
    have hv := Option.some.inj h
    clear h hs
    by_cases hok : ∃ v, Lib.atoiAll a0.data.toList = .ok v
    · obtain ⟨v, hok⟩ := hok
      have hval : impl_ParseInt.val a0 = if 0 ≤ v ∧ v ≤ 1000000000000 ∧ (⟨(Lib.itoa v).toArray⟩ : ByteArray).toList = a0.toList then (v, true) else (0, false) := by
        unfold impl_ParseInt.val
        rw [hok]
      rw [hval] at hv
      have OK := Aside0.mk hok
      have BD := Aside0.mk (Lib.atoiAll_bounds hok)
      clear hok hval
      by_cases c0 : 0 ≤ v ∧ v ≤ 1000000000000
      · have hin : impl_InRange.f v 0 1000000000000 = some true := by
          unfold impl_InRange.f
          rw [if_pos c0.1, decide_eq_true c0.2]
        have hfm : impl_FormatInt.f v = some ⟨(Lib.itoa v).toArray⟩ := by
          have e : impl_FormatInt.f v = (if -9223372036854775808 ≤ v then (if v ≤ 9223372036854775807 then some (⟨(Lib.itoa v).toArray⟩ : ByteArray) else none) else none).bind fun t => some t := rfl
          rw [e, if_pos BD.out.1, if_pos BD.out.2, Option.bind_some]
        have HIN := Aside0.mk hin
        have HFM := Aside0.mk hfm
        clear hin hfm
        obtain ⟨T, hT⟩ : ∃ T : ByteArray, T = ⟨(Lib.itoa v).toArray⟩ := ⟨_, rfl⟩
        rw [← hT] at hv HFM
        clear hT
        have HV := Aside0.mk hv
        clear hv
        have C0 := Aside0.mk c0
        clear c0
        by_cases cs : T.toList = a0.toList
        · have hr : r1 = v ∧ r2 = true := by
            have := HV.out
            rw [if_pos ⟨C0.out.1, C0.out.2, cs⟩] at this
            injection this with e1 e2
            exact ⟨e1.symm, e2.symm⟩
          obtain ⟨rfl, rfl⟩ := hr
          clear HV
          have b1 : (T.toList == a0.toList) = true := beq_iff_eq.mpr cs
          have b2 : (T.toList != a0.toList) = false := by rw [bne, b1]; rfl
          go_enter Tryd.func7, Tryd.ntmps7
          go_wp2_with (first | fail)
          with_reducible refine (strconv_Atoi.good a0 HS.out _ OK.out _).mono ?_
          rintro e w1 ⟨rfl, hb1⟩
          have HB1 := Aside0.mk hb1
          clear hb1
          go_wp2_with (first | fail)
          with_reducible refine (impl_InRange.calls _ 0 1000000000000 true _ HIN.out).mono ?_
          rintro e w2 ⟨rfl, hd2⟩
          have HB2 := Aside0.mk (below_step HB1.out hd2.below)
          clear hd2 HB1
          go_wp2_with (first | fail)
          with_reducible refine (impl_FormatInt.calls (htab := TAB_.out _ HB2.out) _ T _ HFM.out).mono ?_
          rintro e w3 ⟨rfl, hb3⟩
          have HB3 := Aside0.mk (below_step HB2.out hb3)
          clear hb3 HB2
          go_wp2
          go_ret2
          exact ⟨by first | rfl | (simp; done), HB3.out⟩
        · have hr : r1 = 0 ∧ r2 = false := by
            have := HV.out
            rw [if_neg (fun hh => cs hh.2.2)] at this
            injection this with e1 e2
            exact ⟨e1.symm, e2.symm⟩
          obtain ⟨rfl, rfl⟩ := hr
          clear HV
          have b1 : (T.toList == a0.toList) = false := beq_eq_false_iff_ne.mpr cs
          have b2 : (T.toList != a0.toList) = true := by rw [bne, b1]; rfl
          go_enter Tryd.func7, Tryd.ntmps7
          go_wp2_with (first | fail)
          with_reducible refine (strconv_Atoi.good a0 HS.out _ OK.out _).mono ?_
          rintro e w1 ⟨rfl, hb1⟩
          have HB1 := Aside0.mk hb1
          clear hb1
          go_wp2_with (first | fail)
          with_reducible refine (impl_InRange.calls _ 0 1000000000000 true _ HIN.out).mono ?_
          rintro e w2 ⟨rfl, hd2⟩
          have HB2 := Aside0.mk (below_step HB1.out hd2.below)
          clear hd2 HB1
          go_wp2_with (first | fail)
          with_reducible refine (impl_FormatInt.calls (htab := TAB_.out _ HB2.out) _ T _ HFM.out).mono ?_
          rintro e w3 ⟨rfl, hb3⟩
          have HB3 := Aside0.mk (below_step HB2.out hb3)
          clear hb3 HB2
          go_wp2
          go_ret2
          exact ⟨by first | rfl | (simp; done), HB3.out⟩
      · have hr : r1 = 0 ∧ r2 = false := by
          rw [if_neg (fun hh => c0 ⟨hh.1, hh.2.1⟩)] at hv
          injection hv with e1 e2
          exact ⟨e1.symm, e2.symm⟩
        obtain ⟨rfl, rfl⟩ := hr
        clear hv
        have hin : impl_InRange.f v 0 1000000000000 = some false := by
          unfold impl_InRange.f
          by_cases c1 : 0 ≤ v
          · rw [if_pos c1, decide_eq_false (fun hh => c0 ⟨c1, hh⟩)]
          · rw [if_neg c1]
        have HIN := Aside0.mk hin
        clear hin c0
        go_enter Tryd.func7, Tryd.ntmps7
        go_wp2_with (first | fail)
        with_reducible refine (strconv_Atoi.good a0 HS.out _ OK.out _).mono ?_
        rintro e w1 ⟨rfl, hb1⟩
        have HB1 := Aside0.mk hb1
        clear hb1
        go_wp2_with (first | fail)
        with_reducible refine (impl_InRange.calls _ 0 1000000000000 false _ HIN.out).mono ?_
        rintro e w2 ⟨rfl, hd2⟩
        have HB2 := Aside0.mk (below_step HB1.out hd2.below)
        clear hd2 HB1
        go_wp2
        go_ret2
        exact ⟨by first | rfl | (simp; done), HB2.out⟩
    · have hr : r1 = 0 ∧ r2 = false := by
        have hval : impl_ParseInt.val a0 = (0, false) := by
          unfold impl_ParseInt.val
          split
          · exact absurd ⟨_, by assumption⟩ hok
          · rfl
        rw [hval] at hv
        injection hv with e1 e2
        exact ⟨e1.symm, e2.symm⟩
      obtain ⟨rfl, rfl⟩ := hr
      have NO := Aside0.mk (show ∀ v, Lib.atoiAll a0.data.toList ≠ .ok v from fun v hh => hok ⟨v, hh⟩)
      clear hok hv
      go_enter Tryd.func7, Tryd.ntmps7
      go_wp2_with (first | fail)
      with_reducible refine (strconv_Atoi.bad a0 HS.out NO.out _ ERR_.out).mono ?_
      rintro e w1 ⟨x, t, N, rfl, hb1⟩
      have HB1 := Aside0.mk hb1
      clear hb1
      go_wp2
      go_ret2
      exact ⟨by first | rfl | (simp; done), HB1.out⟩
  · rw [if_neg hs] at h
    exact absurd h (by simp)

/-! ### laws_FnExactParseInt: function 3 -/
def laws_FnExactParseInt.f (k : Nat) (a0 : ByteArray) : Option (Bool) := if (a0.size : Int) > 1048576 then (some true) else ((spec_ParseInt.f k a0).bind fun bt111 => ((impl_ParseInt.f a0).bind fun bt113 => (if bt113.1 = bt111.1 then (if (bt113.2 != bt111.2) = true then (some false) else (some true)) else (some false))))
theorem laws_FnExactParseInt.mono : ∀ a0 k, LeO (laws_FnExactParseInt.f k a0) (laws_FnExactParseInt.f (k + 1) a0) := by
  intro a0 k
  unfold laws_FnExactParseInt.f
  repeat' first
      | (with_reducible exact spec_ParseInt.mono _ _)
      | (with_reducible exact LeO.refl _)
      | (with_reducible exact LeO.none _)
      | (with_reducible refine LeO.ite ?_ ?_)
      | (with_reducible refine LeO.bind ?_ (fun _ => ?_))
      | exact spec_ParseInt.mono _ _
      | exact LeO.none _
      | refine LeO.ite ?_ ?_
      | refine LeO.bind ?_ (fun _ => ?_)
set_option maxHeartbeats 8000000 in
set_option maxRecDepth 100000 in
theorem laws_FnExactParseInt.calls (k : Nat) (a0 : ByteArray) (r : Bool) (w : World) (herr : strconv_Atoi.Errs w) (htab : Lib.TabIs Tryd.prog w "internal/strconv.uint64pow10" .u64 Lib.pow10Tab) (h : laws_FnExactParseInt.f k a0 = some r) :
    Calls Tryd.prog 3 #[.string a0] w fun e w' => e = .returned (.bool r) ∧ Below w.heap.size w w' := by
  have ERR_ := Aside0.mk (show ∀ w', Below w.heap.size w w' → strconv_Atoi.Errs w' from strconv_Atoi.errs_below herr)
  clear herr
  have TAB_ := Aside0.mk (show ∀ w', Below w.heap.size w w' → Lib.TabIs Tryd.prog w' "internal/strconv.uint64pow10" .u64 Lib.pow10Tab from Lib.tabBelow_of_tabIs htab)
  clear htab
  have HB := Aside0.mk (Below.refl w.heap.size w)
  have H : (if (a0.size : Int) > 1048576 then (some true) else ((spec_ParseInt.f k a0).bind fun bt111 => ((impl_ParseInt.f a0).bind fun bt113 => (if bt113.1 = bt111.1 then (if (bt113.2 != bt111.2) = true then (some false) else (some true)) else (some false))))) = some r := h
  clear h
  by_cases c2 : (a0.size : Int) > 1048576
  · rw [if_pos c2] at H
    have c2b0 : decide (1048576 < (a0.size : Int)) = true := decide_eq_true c2
    have c2b1 : decide (1048576 < a0.size) = true := decide_eq_true (by omega)
    clear c2
    obtain rfl := Option.some.inj H
    go_enter Tryd.func3, Tryd.ntmps3
    go_wp2
    go_ret
    exact ⟨by first | rfl | (simp [errW_none, errW_some] <;> rfl) | (simp [*, errW_none, errW_some] <;> rfl), by repeat (first | (with_reducible first | exact HB.out | apply below_alloc | apply pw_below_drewN | apply below_drew1) | exact HB.out)⟩
  · rw [if_neg c2] at H
    have c2b0 : decide (1048576 < (a0.size : Int)) = false := decide_eq_false c2
    have c2b1 : decide (1048576 < a0.size) = false := decide_eq_false (by omega)
    clear c2
    replace H := Option.bind_eq_some_iff.mp H
    obtain ⟨⟨t111, t112⟩, A30, H⟩ := H
    replace H : ((impl_ParseInt.f a0).bind fun bt113 => (if bt113.1 = t111 then (if (bt113.2 != t112) = true then (some false) else (some true)) else (some false))) = some r := H
    have A3 := Aside0.mk A30
    clear A30
    replace H := Option.bind_eq_some_iff.mp H
    obtain ⟨⟨t113, t114⟩, A40, H⟩ := H
    replace H : (if t113 = t111 then (if (t114 != t112) = true then (some false) else (some true)) else (some false)) = some r := H
    have A4 := Aside0.mk A40
    clear A40
    by_cases c5 : t113 = t111
    · rw [if_pos c5] at H
      have c5b0 : (t113 == t111) = true := beq_iff_eq.mpr c5
      have c5b1 : (t113 != t111) = false := bne_eq_false_iff_eq.mpr c5
      clear c5
      by_cases c6 : (t114 != t112) = true
      · rw [if_pos c6] at H
        have c6b0 : (t114 != t112) = true := c6
        (try (have c6b1 : decide (t114 = t112) = false := by simpa using c6))
        (try (have c6b2 : (t114 == t112) = false := by simpa using c6))
        (try (have c6b3 : ¬ (t114 = t112) := by simpa using c6))
        clear c6
        obtain rfl := Option.some.inj H
        go_enter Tryd.func3, Tryd.ntmps3
        go_wp2_with (first | ((with_reducible refine gate_callee (f := 6) rfl ?_); refine goesL_ (some 12) rfl rfl Tryd.func6 (by kernel_rfl) rfl #[.string a0] rfl (by (try simp only [List.map_toArray, List.map_cons, List.map_nil]); first | done | rfl | (simp only [List.length_drop, List.length_take]; rfl)) ?_; (with_reducible refine (spec_ParseInt.calls k a0 t111 t112 _ A3.out).mono ?_); rintro e w7 ⟨rfl, hb⟩; refine ⟨_, rfl, ?_⟩; have n0_ := Aside0.mk (below_step (by repeat (first | (with_reducible first | exact HB.out | apply below_alloc | apply pw_below_drewN | apply below_drew1) | exact HB.out)) hb); clear HB; have HB := n0_; clear n0_; (try clear hb); (try clear hb2); (try clear hk); (try clear hi)) | ((with_reducible refine gate_callee (f := 7) rfl ?_); refine goesL_ (some 17) rfl rfl Tryd.func7 (by kernel_rfl) rfl #[.string a0] rfl (by (try simp only [List.map_toArray, List.map_cons, List.map_nil]); first | done | rfl | (simp only [List.length_drop, List.length_take]; rfl)) ?_; (with_reducible refine (impl_ParseInt.calls (herr := ERR_.out _ (by repeat (first | (with_reducible first | exact HB.out | apply below_alloc | apply pw_below_drewN | apply below_drew1) | exact HB.out))) (htab := TAB_.out _ (by repeat (first | (with_reducible first | exact HB.out | apply below_alloc | apply pw_below_drewN | apply below_drew1) | exact HB.out))) a0 t113 t114 _ A4.out).mono ?_); rintro e w8 ⟨rfl, hb⟩; refine ⟨_, rfl, ?_⟩; have n0_ := Aside0.mk (below_step (by repeat (first | (with_reducible first | exact HB.out | apply below_alloc | apply pw_below_drewN | apply below_drew1) | exact HB.out)) hb); clear HB; have HB := n0_; clear n0_; (try clear hb); (try clear hb2); (try clear hk); (try clear hi)))
        go_ret
        exact ⟨by first | rfl | (simp [errW_none, errW_some] <;> rfl) | (simp [*, errW_none, errW_some] <;> rfl), by repeat (first | (with_reducible first | exact HB.out | apply below_alloc | apply pw_below_drewN | apply below_drew1) | exact HB.out)⟩
      · rw [if_neg c6] at H
        have c6b0 : (t114 != t112) = false := by simpa using c6
        (try (have c6b1 : decide (t114 = t112) = true := by simpa using c6))
        (try (have c6b2 : (t114 == t112) = true := by simpa using c6))
        clear c6
        obtain rfl := Option.some.inj H
        go_enter Tryd.func3, Tryd.ntmps3
        go_wp2_with (first | ((with_reducible refine gate_callee (f := 6) rfl ?_); refine goesL_ (some 12) rfl rfl Tryd.func6 (by kernel_rfl) rfl #[.string a0] rfl (by (try simp only [List.map_toArray, List.map_cons, List.map_nil]); first | done | rfl | (simp only [List.length_drop, List.length_take]; rfl)) ?_; (with_reducible refine (spec_ParseInt.calls k a0 t111 t112 _ A3.out).mono ?_); rintro e w9 ⟨rfl, hb⟩; refine ⟨_, rfl, ?_⟩; have n0_ := Aside0.mk (below_step (by repeat (first | (with_reducible first | exact HB.out | apply below_alloc | apply pw_below_drewN | apply below_drew1) | exact HB.out)) hb); clear HB; have HB := n0_; clear n0_; (try clear hb); (try clear hb2); (try clear hk); (try clear hi)) | ((with_reducible refine gate_callee (f := 7) rfl ?_); refine goesL_ (some 17) rfl rfl Tryd.func7 (by kernel_rfl) rfl #[.string a0] rfl (by (try simp only [List.map_toArray, List.map_cons, List.map_nil]); first | done | rfl | (simp only [List.length_drop, List.length_take]; rfl)) ?_; (with_reducible refine (impl_ParseInt.calls (herr := ERR_.out _ (by repeat (first | (with_reducible first | exact HB.out | apply below_alloc | apply pw_below_drewN | apply below_drew1) | exact HB.out))) (htab := TAB_.out _ (by repeat (first | (with_reducible first | exact HB.out | apply below_alloc | apply pw_below_drewN | apply below_drew1) | exact HB.out))) a0 t113 t114 _ A4.out).mono ?_); rintro e w10 ⟨rfl, hb⟩; refine ⟨_, rfl, ?_⟩; have n0_ := Aside0.mk (below_step (by repeat (first | (with_reducible first | exact HB.out | apply below_alloc | apply pw_below_drewN | apply below_drew1) | exact HB.out)) hb); clear HB; have HB := n0_; clear n0_; (try clear hb); (try clear hb2); (try clear hk); (try clear hi)))
        go_ret
        exact ⟨by first | rfl | (simp [errW_none, errW_some] <;> rfl) | (simp [*, errW_none, errW_some] <;> rfl), by repeat (first | (with_reducible first | exact HB.out | apply below_alloc | apply pw_below_drewN | apply below_drew1) | exact HB.out)⟩
    · rw [if_neg c5] at H
      have c5b0 : (t113 == t111) = false := beq_eq_false_iff_ne.mpr c5
      have c5b1 : (t113 != t111) = true := bne_iff_ne.mpr c5
      obtain rfl := Option.some.inj H
      go_enter Tryd.func3, Tryd.ntmps3
      go_wp2_with (first | ((with_reducible refine gate_callee (f := 6) rfl ?_); refine goesL_ (some 12) rfl rfl Tryd.func6 (by kernel_rfl) rfl #[.string a0] rfl (by (try simp only [List.map_toArray, List.map_cons, List.map_nil]); first | done | rfl | (simp only [List.length_drop, List.length_take]; rfl)) ?_; (with_reducible refine (spec_ParseInt.calls k a0 t111 t112 _ A3.out).mono ?_); rintro e w11 ⟨rfl, hb⟩; refine ⟨_, rfl, ?_⟩; have n0_ := Aside0.mk (below_step (by repeat (first | (with_reducible first | exact HB.out | apply below_alloc | apply pw_below_drewN | apply below_drew1) | exact HB.out)) hb); clear HB; have HB := n0_; clear n0_; (try clear hb); (try clear hb2); (try clear hk); (try clear hi)) | ((with_reducible refine gate_callee (f := 7) rfl ?_); refine goesL_ (some 17) rfl rfl Tryd.func7 (by kernel_rfl) rfl #[.string a0] rfl (by (try simp only [List.map_toArray, List.map_cons, List.map_nil]); first | done | rfl | (simp only [List.length_drop, List.length_take]; rfl)) ?_; (with_reducible refine (impl_ParseInt.calls (herr := ERR_.out _ (by repeat (first | (with_reducible first | exact HB.out | apply below_alloc | apply pw_below_drewN | apply below_drew1) | exact HB.out))) (htab := TAB_.out _ (by repeat (first | (with_reducible first | exact HB.out | apply below_alloc | apply pw_below_drewN | apply below_drew1) | exact HB.out))) a0 t113 t114 _ A4.out).mono ?_); rintro e w12 ⟨rfl, hb⟩; refine ⟨_, rfl, ?_⟩; have n0_ := Aside0.mk (below_step (by repeat (first | (with_reducible first | exact HB.out | apply below_alloc | apply pw_below_drewN | apply below_drew1) | exact HB.out)) hb); clear HB; have HB := n0_; clear n0_; (try clear hb); (try clear hb2); (try clear hk); (try clear hi)))
      go_ret
      exact ⟨by first | rfl | (simp [errW_none, errW_some] <;> rfl) | (simp [*, errW_none, errW_some] <;> rfl), by repeat (first | (with_reducible first | exact HB.out | apply below_alloc | apply pw_below_drewN | apply below_drew1) | exact HB.out)⟩

/-- THE ONE PURE STATEMENT of laws_FnExactParseInt: yours. -/
def laws_FnExactParseInt.Pure : Prop := ∀ (a0 : ByteArray), a0.size ≤ 140737488351232 → ∃ k, laws_FnExactParseInt.f k a0 = some true
theorem laws_FnExactParseInt.walk (P : laws_FnExactParseInt.Pure) (a0 : ByteArray) (w : World) (herr : strconv_Atoi.Errs w) (htab : Lib.TabIs Tryd.prog w "internal/strconv.uint64pow10" .u64 Lib.pow10Tab) (w0 : a0.size ≤ 140737488351232) :
    Calls Tryd.prog 3 #[.string a0] w fun e w' => e = .returned (.bool true) ∧ Below w.heap.size w w' := by
  obtain ⟨k, h⟩ := P a0 w0
  refine (laws_FnExactParseInt.calls (herr := herr) (htab := htab) k a0 true w h).mono ?_
  rintro e w' ⟨rfl, hd⟩
  exact ⟨rfl, hd⟩

end Go.Proofs.YthanecnkknimpaaDoor.PFnExactParseInt
