/- FnTimes holds: whatever is drawn, ages, spans and what is left agree with one another. No conditions. -/
import Derived.Test.YtobpbnbjdpdflabPFnTimesx2
import Derived.OpenShut
import Derived.Test.YtobpbnbjdpdflabWSized
namespace Go.Proofs.Ytobpbnbjdpdflab.Pure
open Go.RowKit Go.Proofs.Ytobpbnbjdpdflab.PFnTimes Go.Proofs.YtobpbnbjdpdflabW.PrintWords Go.Proofs.YtobpbnbjdpdflabW.PrintLast
set_option linter.unusedVariables false
set_option linter.unusedSimpArgs false

theorem w64 {n : Int} (h : -9223372036854775808 ≤ n) (h' : n ≤ 9223372036854775807) : wrap64 n = n := by unfold wrap64; omega
theorem w64_lo (n : Int) : -9223372036854775808 ≤ wrap64 n := by unfold wrap64; omega
theorem w64_hi (n : Int) : wrap64 n ≤ 9223372036854775807 := by unfold wrap64; omega
theorem of_wf {n : Int} (h : (Lit.int .i64 n).wf = true) : -9223372036854775808 ≤ n ∧ n ≤ 9223372036854775807 := bounds_i64 h
theorem of_wf8 {n : Int} (h : (Lit.int .u8 n).wf = true) : 0 ≤ n ∧ n ≤ 255 := bounds_u8 h
theorem and_le (x : Int) (m : Nat) (hm : m < 9223372036854775808) : 0 ≤ bits .and .i64 x (m : Int) ∧ bits .and .i64 x (m : Int) ≤ m := by
  unfold bits
  rw [Go.IntKind.wrap_i64]
  simp only [BitVec.toNat_and]
  have h1 : (BitVec.ofInt IntKind.i64.bits (m : Int)).toNat = m := by
    rw [BitVec.ofInt_natCast, BitVec.toNat_ofNat]
    exact Nat.mod_eq_of_lt (by show m < 2 ^ 64; omega)
  rw [h1]
  have h2 : (BitVec.ofInt IntKind.i64.bits x).toNat &&& m ≤ m := Nat.and_le_right
  omega
theorem and255 (x : Int) : 0 ≤ bits .and .i64 x 255 ∧ bits .and .i64 x 255 ≤ 255 := and_le x 255 (by decide)
theorem tmod_lt {x n : Int} (h0 : 0 ≤ x) (hn : 0 < n) : 0 ≤ Int.tmod x n ∧ Int.tmod x n < n := by
  rw [Int.tmod_eq_emod_of_nonneg h0]
  exact ⟨Int.emod_nonneg _ (by omega), Int.emod_lt_of_pos _ hn⟩

/-- A cursor that stands inside its bytes. -/
def Cur (b : List Int) (i : Int) : Prop := 0 ≤ i ∧ i ≤ (b.length : Int) ∧ b.length ≤ 140737488351232
theorem l1New_l0 (l : List Int) (hl : l.length ≤ 140737488351232) : ∀ (d k : Nat) (h i : Int), 0 ≤ i → (l.length : Int) - i ≤ d → d < k → ∃ h', spec_l1New.l0 k l h i = some (l, 0, h') := by
  intro d
  induction d with
  | zero =>
    intro k h i h0 h1 hk
    obtain ⟨k, rfl⟩ : ∃ m, k = m + 1 := ⟨k - 1, by omega⟩
    exact ⟨h, by simp only [spec_l1New.l0]; rw [if_neg (by omega)]⟩
  | succ d ih =>
    intro k h i h0 h1 hk
    obtain ⟨k, rfl⟩ : ∃ m, k = m + 1 := ⟨k - 1, by omega⟩
    by_cases c1 : i < (l.length : Int)
    · by_cases c2 : i < 4000
      · obtain ⟨h', e⟩ := ih k _ (i + 1) (by omega) (by omega) (by omega)
        exact ⟨h', by simp only [spec_l1New.l0]; rw [if_pos c1, if_pos c2, if_pos h0, w64 (n := i + 1) (by omega) (by omega)]; exact e⟩
      · exact ⟨h, by simp only [spec_l1New.l0]; rw [if_pos c1, if_neg c2]⟩
    · exact ⟨h, by simp only [spec_l1New.l0]; rw [if_neg c1]⟩
theorem l1New_l0' (l : List Int) (hl : l.length ≤ 140737488351232) : ∀ (d k : Nat) (h i : Int), 0 ≤ i → i ≤ 4000 → 4000 - i ≤ d → d < k → ∃ h', spec_l1New.l0 k l h i = some (l, 0, h') := by
  intro d
  induction d with
  | zero =>
    intro k h i h0 h9 h1 hk
    obtain ⟨k, rfl⟩ : ∃ m, k = m + 1 := ⟨k - 1, by omega⟩
    by_cases c1 : i < (l.length : Int)
    · exact ⟨h, by simp only [spec_l1New.l0]; rw [if_pos c1, if_neg (by omega)]⟩
    · exact ⟨h, by simp only [spec_l1New.l0]; rw [if_neg c1]⟩
  | succ d ih =>
    intro k h i h0 h9 h1 hk
    obtain ⟨k, rfl⟩ : ∃ m, k = m + 1 := ⟨k - 1, by omega⟩
    by_cases c1 : i < (l.length : Int)
    · by_cases c2 : i < 4000
      · obtain ⟨h', e⟩ := ih k _ (i + 1) (by omega) (by omega) (by omega) (by omega)
        exact ⟨h', by simp only [spec_l1New.l0]; rw [if_pos c1, if_pos c2, if_pos h0, w64 (n := i + 1) (by omega) (by omega)]; exact e⟩
      · exact ⟨h, by simp only [spec_l1New.l0]; rw [if_pos c1, if_neg c2]⟩
    · exact ⟨h, by simp only [spec_l1New.l0]; rw [if_neg c1]⟩
/-- A new cursor stands at the begin; 4001 rounds are enough. -/
theorem l1New_some (l : List Int) (hl : l.length ≤ 140737488351232) (k : Nat) (hk : 4001 ≤ k) : ∃ h, spec_l1New.f k l = some (l, 0, h) ∧ Cur l 0 := by
  obtain ⟨h, e⟩ := l1New_l0' l hl 4000 k (wrap64 (193017 + (l.length : Int))) 0 (by omega) (by omega) (by omega) (by omega)
  exact ⟨h, e, ⟨by omega, by omega, hl⟩⟩
theorem l1Byte_some {b : List Int} {i : Int} (hc : Cur b i) (h : Int) : ∃ x i' h', spec_l1Byte.f b i h = some (x, i', h') ∧ 0 ≤ x ∧ x ≤ 255 ∧ Cur b i' := by
  obtain ⟨h0, h1, hb⟩ := hc
  unfold spec_l1Byte.f
  by_cases c : i < (b.length : Int)
  · rw [if_pos c, if_pos h0, w64 (n := i + 1) (by omega) (by omega)]
    exact ⟨_, _, _, rfl, (and255 _).1, (and255 _).2, by omega, by omega, hb⟩
  · rw [if_neg c]
    exact ⟨_, _, _, rfl, (and255 _).1, (and255 _).2, h0, h1, hb⟩
theorem l1Below_some {b : List Int} {i : Int} (hc : Cur b i) (h n : Int) (hn : 0 < n) : ∃ x i' h', spec_l1Below.f b i h n = some (x, i', h') ∧ 0 ≤ x ∧ x < n ∧ Cur b i' := by
  unfold spec_l1Below.f
  rw [if_neg (by omega)]
  by_cases c : n ≤ 256
  · rw [if_pos c]
    obtain ⟨x, i1, h1, e1, x0, x1, hc1⟩ := l1Byte_some hc h
    rw [e1]; simp only [Option.bind_some]
    rw [if_neg (by omega)]
    exact ⟨_, _, _, rfl, (tmod_lt x0 hn).1, (tmod_lt x0 hn).2, hc1⟩
  · rw [if_neg c]
    obtain ⟨x, i1, h1, e1, x0, x1, hc1⟩ := l1Byte_some hc h
    rw [e1]; simp only [Option.bind_some]
    obtain ⟨y, i2, h2, e2, y0, y1, hc2⟩ := l1Byte_some hc1 h1
    rw [e2]; simp only [Option.bind_some]
    obtain ⟨z, i3, h3, e3, z0, z1, hc3⟩ := l1Byte_some hc2 h2
    rw [e3]; simp only [Option.bind_some]
    rw [if_neg (by omega), w64 (n := x * 65536) (by omega) (by omega), w64 (n := y * 256) (by omega) (by omega), w64 (n := x * 65536 + y * 256) (by omega) (by omega), w64 (n := x * 65536 + y * 256 + z) (by omega) (by omega)]
    exact ⟨_, _, _, rfl, (tmod_lt (by omega) hn).1, (tmod_lt (by omega) hn).2, hc3⟩
theorem l1Below_some0 {b : List Int} {i : Int} (hc : Cur b i) (h n : Int) : ∃ x i' h', spec_l1Below.f b i h n = some (x, i', h') ∧ 0 ≤ x ∧ x ≤ mx 0 n ∧ Cur b i' := by
  by_cases hn : 0 < n
  · obtain ⟨x, i', h', e, x0, x1, hc'⟩ := l1Below_some hc h n hn
    exact ⟨x, i', h', e, x0, by unfold mx; split <;> omega, hc'⟩
  · refine ⟨0, i, h, ?_, by omega, by unfold mx; split <;> omega, hc⟩
    unfold spec_l1Below.f
    rw [if_pos (by omega)]

theorem l1Once_some {b : List Int} {i : Int} (hc : Cur b i) (h n : Int) (hn : 0 < n) : ∃ x i' h', spec_l1Once.f b i h n = some (x, i', h') ∧ Cur b i' := by
  unfold spec_l1Once.f
  obtain ⟨x, i1, h1, e1, x0, x1, hc1⟩ := l1Below_some hc h n hn
  rw [e1]; simp only [Option.bind_some]
  exact ⟨_, _, _, rfl, hc1⟩

theorem l1Int_some {b : List Int} {i : Int} (hc : Cur b i) (h : Int) (l : List Int) (hl : 0 < l.length) (P : Int → Prop) (hP : ∀ x ∈ l, P x) : ∃ x i' h', spec_l1Int.f b i h l = some (x, i', h') ∧ P x ∧ Cur b i' := by
  unfold spec_l1Int.f
  obtain ⟨x, i1, h1, e1, x0, x1, hc1⟩ := l1Below_some hc h (l.length : Int) (by omega)
  rw [e1]; simp only [Option.bind_some]
  rw [if_pos x0, if_pos x1]
  refine ⟨_, _, _, rfl, hP _ ?_, hc1⟩
  unfold rd
  rw [List.getD_eq_getElem?_getD, List.getElem?_eq_getElem (show x.toNat < l.length by omega)]
  exact List.getElem_mem _

theorem l4Time_some {b : List Int} {i : Int} (hc : Cur b i) (h : Int) : ∃ x i' h', spec_l4Time.f b i h = some (x, i', h') ∧ (-9223372036854775808 ≤ x ∧ x ≤ 9223372036854775807) ∧ Cur b i' := by
  unfold spec_l4Time.f
  obtain ⟨x, i1, h1, e1, hc1⟩ := l1Once_some hc h 8 (by omega)
  rw [e1]; simp only [Option.bind_some]
  cases x
  · rw [if_neg (by decide)]
    obtain ⟨y, i2, h2, e2, y0, y1, hc2⟩ := l1Below_some hc1 h1 40 (by omega)
    rw [e2]
    exact ⟨_, _, _, rfl, by constructor <;> omega, hc2⟩
  · rw [if_pos rfl]
    obtain ⟨y, i2, h2, e2, hy, hc2⟩ := l1Int_some hc1 h1 [(-1), 0, 10000, 10001, 9223372036854775807, (-9223372036854775808)] (by decide) (fun x => -9223372036854775808 ≤ x ∧ x ≤ 9223372036854775807) (by decide)
    rw [e2]
    exact ⟨_, _, _, rfl, hy, hc2⟩

theorem drawAge (l : List Int) (hl : l.length ≤ 140737488351232) (k : Nat) (hk : 4001 ≤ k) : ∃ a b, spec_DrawAgeOf.f k l = some (a, b) := by
  unfold spec_DrawAgeOf.f
  obtain ⟨h, e, hc⟩ := l1New_some l hl k hk
  rw [e]; simp only [Option.bind_some]
  obtain ⟨x, i1, h1, e1, _, hc1⟩ := l4Time_some hc h
  rw [e1]; simp only [Option.bind_some]
  obtain ⟨y, i2, h2, e2, _, hc2⟩ := l4Time_some hc1 h1
  rw [e2]
  exact ⟨_, _, rfl⟩
theorem drawEnd (l : List Int) (hl : l.length ≤ 140737488351232) (k : Nat) (hk : 4001 ≤ k) : ∃ a b, spec_DrawEndOf.f k l = some (a, b) := by
  unfold spec_DrawEndOf.f
  obtain ⟨a, b, e⟩ := drawAge l hl k hk
  rw [e]
  exact ⟨_, _, rfl⟩
theorem drawFresh (l : List Int) (hl : l.length ≤ 140737488351232) (k : Nat) (hk : 4001 ≤ k) : ∃ a b c, spec_DrawIsFresh.f k l = some (a, b, c) := by
  unfold spec_DrawIsFresh.f
  obtain ⟨h, e, hc⟩ := l1New_some l hl k hk
  rw [e]; simp only [Option.bind_some]
  obtain ⟨x, i1, h1, e1, _, hc1⟩ := l4Time_some hc h
  rw [e1]; simp only [Option.bind_some]
  obtain ⟨y, i2, h2, e2, _, hc2⟩ := l4Time_some hc1 h1
  rw [e2]; simp only [Option.bind_some]
  obtain ⟨z, i3, h3, e3, _, hc3⟩ := l4Time_some hc2 h2
  rw [e3]
  exact ⟨_, _, _, rfl⟩
theorem drawWithin (l : List Int) (hl : l.length ≤ 140737488351232) (k : Nat) (hk : 4001 ≤ k) : ∃ a b c, spec_DrawIsWithin.f k l = some (a, b, c) := by
  unfold spec_DrawIsWithin.f
  obtain ⟨a, b, c, e⟩ := drawFresh l hl k hk
  rw [e]
  exact ⟨_, _, _, rfl⟩

def inR (x lo hi : Int) : Bool := decide (lo ≤ x) && decide (x ≤ hi)
theorem inR_true {x lo hi : Int} : inR x lo hi = true ↔ lo ≤ x ∧ x ≤ hi := by simp [inR]
theorem inR_false {x lo hi : Int} : inR x lo hi = false ↔ ¬ (lo ≤ x ∧ x ≤ hi) := by simp [inR]

def ageOf (a n : Int) : Int := if inR a 0 10000 = true then (if inR n 0 10000 = true then (if a > n then -1 else n - a) else -1) else -1

theorem iIn (x lo hi : Int) : impl_InRange.f x lo hi = some (inR x lo hi) := by
  unfold impl_InRange.f inR
  by_cases h : lo ≤ x <;> simp [h]

theorem iTime (x : Int) : impl_IsTime.f x = some (inR x 0 10000) := by unfold impl_IsTime.f; rw [iIn]; rfl

theorem iAge (a n : Int) : impl_AgeOf.f a n = some (ageOf a n) := by
  unfold impl_AgeOf.f ageOf
  simp only [iTime, Option.bind_some]
  cases h1 : inR a 0 10000 <;> cases h2 : inR n 0 10000 <;> simp
  rw [inR_true] at h1 h2
  by_cases h : n < a <;> simp [h]
  exact w64 (by omega) (by omega)

def freshB (a n m : Int) : Bool := decide (0 ≤ ageOf a n) && decide (ageOf a n ≤ m)
theorem ageOf_lo (a n : Int) : -1 ≤ ageOf a n := by
  unfold ageOf
  repeat' split
  all_goals omega

theorem iFresh (a n m : Int) : impl_IsFresh.f a n m = some (freshB a n m) := by
  unfold impl_IsFresh.f freshB
  rw [iAge]
  simp only [Option.bind_some]
  have := ageOf_lo a n
  by_cases h : ageOf a n = -1
  · simp [h]
  · have h0 : 0 ≤ ageOf a n := by omega
    simp [h, h0]

def endOf (f s : Int) : Int := if inR f 0 10000 = true then (if inR s 0 10000 = true then (if f + s > 10000 then 10000 else f + s) else 0) else 0
def withinB (f u n : Int) : Bool := inR f 0 10000 && (inR u 0 10000 && (inR n 0 10000 && (decide (f ≤ n) && decide (n ≤ u))))
def leftOf (u n : Int) : Int := if inR u 0 10000 = true then (if inR n 0 10000 = true then (if u ≤ n then 0 else u - n) else 0) else 0

theorem iWithin (f u n : Int) : impl_IsWithin.f f u n = some (withinB f u n) := by
  unfold impl_IsWithin.f withinB
  simp only [iTime, iIn, Option.bind_some]
  cases inR f 0 10000 <;> cases inR u 0 10000 <;> cases inR n 0 10000 <;> simp [inR]

theorem iEnd (f s : Int) : impl_EndOf.f f s = some (endOf f s) := by
  unfold impl_EndOf.f endOf
  simp only [iTime, iIn, Option.bind_some]
  cases h1 : inR f 0 10000 <;> cases h2 : inR s 0 10000 <;> simp
  rw [inR_true] at h1 h2
  rw [w64 (n := f + s) (by omega) (by omega)]
  unfold mn
  by_cases h : 10000 < f + s
  · simp [h]
  · simp [h]

theorem iLeft (u n : Int) : impl_LeftOf.f u n = some (leftOf u n) := by
  unfold impl_LeftOf.f leftOf
  simp only [iTime, Option.bind_some]
  cases h1 : inR u 0 10000 <;> cases h2 : inR n 0 10000 <;> simp
  rw [inR_true] at h1 h2
  rw [w64 (n := u - n) (by omega) (by omega)]
  unfold mx
  by_cases h : u ≤ n
  · simp [h]; omega
  · simp [h]; omega

theorem age_facts (a n : Int) : (0 ≤ ageOf a n → wrap64 (a + ageOf a n) = n ∧ freshB a n (ageOf a n) = true ∧ (0 < ageOf a n → freshB a n (wrap64 (ageOf a n - 1)) = false)) ∧ (ageOf a n < 0 → freshB a n 10000 = false) := by
  by_cases h : 0 ≤ ageOf a n
  · have e : ageOf a n = n - a ∧ (0 ≤ a ∧ a ≤ 10000) ∧ (0 ≤ n ∧ n ≤ 10000) := by
      unfold ageOf at h ⊢
      by_cases h1 : inR a 0 10000 = true
      · rw [if_pos h1] at h ⊢
        by_cases h2 : inR n 0 10000 = true
        · rw [if_pos h2] at h ⊢
          by_cases h3 : a > n
          · rw [if_pos h3] at h; omega
          · rw [if_neg h3]; rw [inR_true] at h1 h2; exact ⟨rfl, h1, h2⟩
        · rw [if_neg h2] at h; omega
      · rw [if_neg h1] at h; omega
    obtain ⟨e, h1, h2⟩ := e
    refine ⟨fun _ => ⟨?_, ?_, fun h0 => ?_⟩, fun hn => by omega⟩
    · rw [w64 (by omega) (by omega)]; omega
    · simp [freshB, h]
    · rw [w64 (by omega) (by omega)]; simp [freshB]; omega
  · refine ⟨fun hn => by omega, fun _ => by simp [freshB]; omega⟩
theorem end_facts (f s : Int) (h1 : inR f 0 10000 = true) (h2 : inR s 0 10000 = true) : ¬ endOf f s < f ∧ ¬ endOf f s > wrap64 (f + s) ∧ inR (endOf f s) 0 10000 = true ∧ withinB f (endOf f s) f = true := by
  have e : endOf f s = if f + s > 10000 then 10000 else f + s := by unfold endOf; rw [if_pos h1, if_pos h2]
  rw [inR_true] at h1 h2
  rw [w64 (n := f + s) (by omega) (by omega)]
  have b : f ≤ endOf f s ∧ endOf f s ≤ f + s ∧ 0 ≤ endOf f s ∧ endOf f s ≤ 10000 := by
    rw [e]
    split <;> omega
  refine ⟨by omega, by omega, inR_true.mpr (by omega), ?_⟩
  simp only [withinB, Bool.and_eq_true, decide_eq_true_eq, inR_true]
  omega
theorem within_facts (f u n : Int) (h : withinB f u n = true) : ¬ ageOf f n < 0 ∧ wrap64 (leftOf u n + n) = u := by
  have h' := h
  simp only [withinB, Bool.and_eq_true, decide_eq_true_eq] at h
  obtain ⟨h1, h2, h3, h4, h5⟩ := h
  constructor
  · unfold ageOf
    rw [if_pos h1, if_pos h3, if_neg (by omega)]
    omega
  · unfold leftOf
    rw [if_pos h2, if_pos h3]
    rw [inR_true] at h1 h2 h3
    split
    · rw [w64 (by omega) (by omega)]; omega
    · rw [w64 (by omega) (by omega)]; omega
theorem leftOf_nn (u n : Int) : 0 ≤ leftOf u n := by
  unfold leftOf
  repeat' split
  all_goals omega
theorem times_j1 (k : Nat) (f u t : Int) : laws_FnTimes.j1 (k + 1) f u t false = some true := by
  simp only [laws_FnTimes.j1]
  rw [if_neg (by decide), iWithin, iAge, iLeft]
  simp only [Option.bind_some]
  have hl := leftOf_nn u t
  cases hw : withinB f u t
  · simp [hl]
  · obtain ⟨w1, w2⟩ := within_facts f u t hw
    rw [if_pos rfl, if_neg w1, if_pos w2]
    simp [hl]
theorem times_j0 (k : Nat) (f s a u t : Int) : laws_FnTimes.j0 (k + 2) f s a u t (endOf f s) false = some true := by
  simp only [laws_FnTimes.j0]
  rw [if_neg (by decide)]
  simp only [iTime, iWithin, Option.bind_some]
  cases h1 : inR f 0 10000
  · rw [if_neg (by decide)]; exact times_j1 k a u t
  · rw [if_pos rfl]
    cases h2 : inR s 0 10000
    · rw [if_neg (by decide)]; exact times_j1 k a u t
    · obtain ⟨e1, e2, e3, e4⟩ := end_facts f s h1 h2
      rw [if_pos rfl, if_neg e1, if_neg e2, e3, if_pos rfl, e4]
      exact times_j1 k a u t
theorem FnTimes : laws_FnTimes.Pure := by
  intro l _ hl _
  refine ⟨4001, ?_⟩
  unfold laws_FnTimes.f laws_big.f
  simp only [Option.bind_some]
  by_cases hb : (l.length : Int) > 1048576
  · simp [hb]
  · obtain ⟨a, n, e1⟩ := drawAge l (by omega) 4001 (by omega)
    obtain ⟨f, s, e2⟩ := drawEnd l (by omega) 4001 (by omega)
    obtain ⟨x, u, t, e3⟩ := drawWithin l (by omega) 4001 (by omega)
    rw [e1, e2, e3]
    simp only [Option.bind_some, iAge, iEnd, iFresh, decide_eq_true_eq]
    rw [if_neg hb]
    obtain ⟨f1, f2⟩ := age_facts a n
    by_cases h : 0 ≤ ageOf a n
    · obtain ⟨g1, g2, g3⟩ := f1 h
      rw [if_pos (show ageOf a n ≥ 0 from h), if_pos g1, g2, if_pos rfl]
      by_cases h0 : ageOf a n > 0
      · rw [if_pos h0, g3 h0, if_neg (by decide), if_neg (by omega)]
        exact times_j0 3999 f s x u t
      · rw [if_neg h0, if_neg (by omega)]
        exact times_j0 3999 f s x u t
    · rw [if_neg (show ¬ ageOf a n ≥ 0 by omega), if_pos (by omega), f2 (by omega)]
      exact times_j0 3999 f s x u t

end Go.Proofs.Ytobpbnbjdpdflab.Pure
namespace Go.Proofs.Ytobpbnbjdpdflab
/-- The seat's own word, under the name by which the row asks for it. -/
theorem PrintWords.sized_ints {H : Type} {enc : TypeId × Value → H} {P : Program} {W : World} {base : Nat} {spare : Nat → Bool} {held : Bool} {t e : TypeId} {k : IntKind} {a : Option Addr} {len cap : Nat} {d : DataW H} {ps : List MemPlace} {ts : List TypeId} {ds : List (DataW H)} {j : Nat}
    (hsz : (DataW.weightsEach P ts ds).all (· ≤ reachBytes) = true) (ht : ts[j]? = some t) (hd : ds[j]? = some d) (hu : P.underlying t = some (.slice e)) (he : P.underlying e = some (.int k)) (hc : P.cellsOf e = 1) {B : Nat} (hB : P.bytesOf e = B)
    (h : DataW.Trod enc P W base spare held t (.slice a len cap) d ps) : len * B ≤ 140737488351232 := Go.Proofs.YtobpbnbjdpdflabW.PrintWords.sized_ints hsz ht hd hu he hc hB h
end Go.Proofs.Ytobpbnbjdpdflab
