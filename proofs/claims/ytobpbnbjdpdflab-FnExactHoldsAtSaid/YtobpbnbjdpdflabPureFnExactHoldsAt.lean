/- FnExactHoldsAt holds: for every fact, time and age the program's HoldsAt and the reference's agree. No conditions. -/
import Derived.Test.YtobpbnbjdpdflabPFnExactHoldsAtx2
import Derived.OpenShut
namespace Go.Proofs.Ytobpbnbjdpdflab.Pure
open Go.RowKit Go.Proofs.Ytobpbnbjdpdflab.PFnExactHoldsAt Go.Proofs.YtobpbnbjdpdflabW.PrintWords Go.Proofs.YtobpbnbjdpdflabW.PrintLast
set_option linter.unusedVariables false
set_option linter.unusedSimpArgs false

theorem w64 {n : Int} (h : -9223372036854775808 ≤ n) (h' : n ≤ 9223372036854775807) : wrap64 n = n := by unfold wrap64; omega
theorem w64_lo (n : Int) : -9223372036854775808 ≤ wrap64 n := by unfold wrap64; omega
theorem w64_hi (n : Int) : wrap64 n ≤ 9223372036854775807 := by unfold wrap64; omega
theorem of_wf {n : Int} (h : (Lit.int .i64 n).wf = true) : -9223372036854775808 ≤ n ∧ n ≤ 9223372036854775807 := bounds_i64 h
theorem of_wf8 {n : Int} (h : (Lit.int .u8 n).wf = true) : 0 ≤ n ∧ n ≤ 255 := bounds_u8 h
theorem and_le (x : Int) (m : Nat) (hm : m < 9223372036854775808) : 0 ≤ bits .and .i64 x (m : Int) ∧ bits .and .i64 x (m : Int) ≤ m := by
  unfold bits
  rw [Go.IntKind.wrap_i64]
  simp only [BitVec.toNat_and]
  have h1 : (BitVec.ofInt IntKind.i64.bits (m : Int)).toNat = m := by
    rw [BitVec.ofInt_natCast, BitVec.toNat_ofNat]
    exact Nat.mod_eq_of_lt (by show m < 2 ^ 64; omega)
  rw [h1]
  have h2 : (BitVec.ofInt IntKind.i64.bits x).toNat &&& m ≤ m := Nat.and_le_right
  omega
theorem and255 (x : Int) : 0 ≤ bits .and .i64 x 255 ∧ bits .and .i64 x 255 ≤ 255 := and_le x 255 (by decide)
theorem tmod_lt {x n : Int} (h0 : 0 ≤ x) (hn : 0 < n) : 0 ≤ Int.tmod x n ∧ Int.tmod x n < n := by
  rw [Int.tmod_eq_emod_of_nonneg h0]
  exact ⟨Int.emod_nonneg _ (by omega), Int.emod_lt_of_pos _ hn⟩

def inR (x lo hi : Int) : Bool := decide (lo ≤ x) && decide (x ≤ hi)
theorem inR_true {x lo hi : Int} : inR x lo hi = true ↔ lo ≤ x ∧ x ≤ hi := by simp [inR]
theorem inR_false {x lo hi : Int} : inR x lo hi = false ↔ ¬ (lo ≤ x ∧ x ≤ hi) := by simp [inR]

def hasKind (x k : Int) : Bool := inR x 10 49 && decide (x / 10 = k)
theorem tdiv10 {x : Int} (h : inR x 10 49 = true) : wrap64 (Int.tdiv x 10) = x / 10 := by
  rw [inR_true] at h
  rw [Int.tdiv_eq_ediv_of_nonneg (by omega)]
  exact w64 (by omega) (by omega)
theorem tmod10 {x : Int} (h : inR x 10 49 = true) : Int.tmod x 10 = x % 10 := by
  rw [inR_true] at h
  exact Int.tmod_eq_emod_of_nonneg (by omega)

/-- What makes a fact. -/
def claimB (a0 a1 a2 : Int) : Bool :=
  if a0 = 1 then hasKind a1 1 && inR a2 0 5 else if a0 = 2 then hasKind a1 1 && hasKind a2 2 else if a0 = 3 then hasKind a1 2 && inR a2 0 3 else if a0 = 4 then hasKind a1 3 && inR a2 0 3 else false
def factB (a0 a1 a2 a3 a4 a5 : Int) : Bool := claimB a0 a1 a2 && (inR a3 0 9 && (inR a4 0 10000 && (inR a5 0 10000 && decide (a4 ≤ a5))))

def endOf (f s : Int) : Int := if inR f 0 10000 = true then (if inR s 0 10000 = true then (if f + s > 10000 then 10000 else f + s) else 0) else 0
def withinB (f u n : Int) : Bool := inR f 0 10000 && (inR u 0 10000 && (inR n 0 10000 && (decide (f ≤ n) && decide (n ≤ u))))
def leftOf (u n : Int) : Int := if inR u 0 10000 = true then (if inR n 0 10000 = true then (if u ≤ n then 0 else u - n) else 0) else 0

def ageOf (a n : Int) : Int := if inR a 0 10000 = true then (if inR n 0 10000 = true then (if a > n then -1 else n - a) else -1) else -1

def holdsB (a0 a1 a2 a3 a4 a5 now age : Int) : Bool := factB a0 a1 a2 a3 a4 a5 && (withinB a4 a5 now && decide (ageOf a4 now ≤ age))
theorem age_of_within {f u n : Int} (h : withinB f u n = true) : 0 ≤ ageOf f n := by
  simp only [withinB, Bool.and_eq_true, decide_eq_true_eq] at h
  unfold ageOf
  rw [if_pos h.1, if_pos h.2.2.1, if_neg (by omega)]
  omega

theorem sIn (x lo hi : Int) : spec_l1In.f x lo hi = some (inR x lo hi) := by
  unfold spec_l1In.f inR
  by_cases h : lo ≤ x <;> simp [h]

theorem sName (x : Int) : spec_IsName.f x = some (inR x 10 49) := by unfold spec_IsName.f; rw [sIn]; rfl

theorem sHasKind (x k : Int) : spec_HasKind.f x k = some (hasKind x k) := by
  unfold spec_HasKind.f hasKind
  rw [sName]
  cases h : inR x 10 49
  · simp
  · simp only [Option.bind_some, if_true, Bool.true_and]
    rw [tdiv10 h]
    rfl

theorem sTime (x : Int) : spec_IsTime.f x = some (inR x 0 10000) := by unfold spec_IsTime.f; rw [sIn]; rfl

theorem sFact (a0 a1 a2 a3 a4 a5 : Int) : spec_IsFact.f a0 a1 a2 a3 a4 a5 = some (factB a0 a1 a2 a3 a4 a5) := by
  unfold spec_IsFact.f factB claimB
  simp only [sHasKind, sIn, sTime, Option.bind_some]
  by_cases h1 : a0 = 1
  · simp only [h1, if_true]
    cases hasKind a1 1 <;> cases inR a2 0 5 <;> cases inR a3 0 9 <;> cases inR a4 0 10000 <;> cases inR a5 0 10000 <;> simp
  · by_cases h2 : a0 = 2
    · simp only [h2, if_true, if_false, show ¬ ((2 : Int) = 1) by decide]
      cases hasKind a1 1 <;> cases hasKind a2 2 <;> cases inR a3 0 9 <;> cases inR a4 0 10000 <;> cases inR a5 0 10000 <;> simp
    · by_cases h3 : a0 = 3
      · simp only [h3, if_true, if_false, show ¬ ((3 : Int) = 1) by decide, show ¬ ((3 : Int) = 2) by decide]
        cases hasKind a1 2 <;> cases inR a2 0 3 <;> cases inR a3 0 9 <;> cases inR a4 0 10000 <;> cases inR a5 0 10000 <;> simp
      · by_cases h4 : a0 = 4
        · simp only [h4, if_true, if_false, show ¬ ((4 : Int) = 1) by decide, show ¬ ((4 : Int) = 2) by decide, show ¬ ((4 : Int) = 3) by decide]
          cases hasKind a1 3 <;> cases inR a2 0 3 <;> cases inR a3 0 9 <;> cases inR a4 0 10000 <;> cases inR a5 0 10000 <;> simp
        · simp only [h1, h2, h3, h4, if_false]
          simp

theorem sWithin (f u n : Int) : spec_IsWithin.f f u n = some (withinB f u n) := by
  unfold spec_IsWithin.f withinB
  simp only [sTime, Option.bind_some]
  cases inR f 0 10000 <;> cases inR u 0 10000 <;> cases inR n 0 10000 <;> simp
  by_cases h : f ≤ n <;> simp [h]

def freshB (a n m : Int) : Bool := decide (0 ≤ ageOf a n) && decide (ageOf a n ≤ m)
theorem ageOf_lo (a n : Int) : -1 ≤ ageOf a n := by
  unfold ageOf
  repeat' split
  all_goals omega

theorem sAge (a n : Int) : spec_AgeOf.f a n = some (ageOf a n) := by
  unfold spec_AgeOf.f ageOf
  simp only [sTime, Option.bind_some]
  cases h1 : inR a 0 10000 <;> cases h2 : inR n 0 10000 <;> simp
  rw [inR_true] at h1 h2
  by_cases h : n < a <;> simp [h]
  exact w64 (by omega) (by omega)

theorem sFresh (a n m : Int) : spec_IsFresh.f a n m = some (freshB a n m) := by
  unfold spec_IsFresh.f freshB
  rw [sAge]
  simp only [Option.bind_some]
  by_cases h : 0 ≤ ageOf a n <;> simp [h]

theorem sHolds (a0 a1 a2 a3 a4 a5 now age : Int) : spec_HoldsAt.f a0 a1 a2 a3 a4 a5 now age = some (holdsB a0 a1 a2 a3 a4 a5 now age) := by
  unfold spec_HoldsAt.f holdsB
  simp only [sFact, sWithin, sFresh, Option.bind_some]
  cases factB a0 a1 a2 a3 a4 a5 <;> cases h : withinB a4 a5 now <;> simp
  have := age_of_within h
  simp [freshB, this]

theorem iIn (x lo hi : Int) : impl_InRange.f x lo hi = some (inR x lo hi) := by
  unfold impl_InRange.f inR
  by_cases h : lo ≤ x <;> simp [h]

theorem iName (x : Int) : impl_IsName.f x = some (inR x 10 49) := by unfold impl_IsName.f; rw [iIn]; rfl

theorem iKindOf (x : Int) : impl_KindOf.f x = some (if inR x 10 49 = true then x / 10 else 0) := by
  unfold impl_KindOf.f
  rw [iName]
  cases h : inR x 10 49
  · simp
  · simp only [Option.bind_some, if_true]
    rw [tdiv10 h]

theorem iHasKind (x k : Int) : impl_HasKind.f x k = some (hasKind x k) := by
  unfold impl_HasKind.f hasKind
  rw [iName, iKindOf]
  cases h : inR x 10 49
  · simp
  · simp only [Option.bind_some, if_true, Bool.true_and]
    rfl

theorem iTime (x : Int) : impl_IsTime.f x = some (inR x 0 10000) := by unfold impl_IsTime.f; rw [iIn]; rfl

theorem iClaim (a0 a1 a2 a3 a4 a5 : Int) : impl_isClaim.f a0 a1 a2 a3 a4 a5 = some (claimB a0 a1 a2) := by
  unfold impl_isClaim.f claimB
  simp only [iHasKind, iIn, Option.bind_some]
  by_cases h1 : a0 = 1
  · simp only [h1, if_true]
    cases hasKind a1 1 <;> simp
  · by_cases h2 : a0 = 2
    · simp only [h2, if_true, if_false, show ¬ ((2 : Int) = 1) by decide]
      cases hasKind a1 1 <;> simp
    · by_cases h3 : a0 = 3
      · simp only [h3, if_true, if_false, show ¬ ((3 : Int) = 1) by decide, show ¬ ((3 : Int) = 2) by decide]
        cases hasKind a1 2 <;> simp
      · by_cases h4 : a0 = 4
        · simp only [h4, if_true, if_false, show ¬ ((4 : Int) = 1) by decide, show ¬ ((4 : Int) = 2) by decide, show ¬ ((4 : Int) = 3) by decide]
          cases hasKind a1 3 <;> simp
        · simp only [h1, h2, h3, h4, if_false]
theorem iFact (a0 a1 a2 a3 a4 a5 : Int) : impl_IsFact.f a0 a1 a2 a3 a4 a5 = some (factB a0 a1 a2 a3 a4 a5) := by
  unfold impl_IsFact.f factB
  simp only [iClaim, iIn, iTime, Option.bind_some]
  cases claimB a0 a1 a2 <;> cases inR a3 0 9 <;> cases inR a4 0 10000 <;> cases inR a5 0 10000 <;> simp

theorem iWithin (f u n : Int) : impl_IsWithin.f f u n = some (withinB f u n) := by
  unfold impl_IsWithin.f withinB
  simp only [iTime, iIn, Option.bind_some]
  cases inR f 0 10000 <;> cases inR u 0 10000 <;> cases inR n 0 10000 <;> simp [inR]

theorem iAge (a n : Int) : impl_AgeOf.f a n = some (ageOf a n) := by
  unfold impl_AgeOf.f ageOf
  simp only [iTime, Option.bind_some]
  cases h1 : inR a 0 10000 <;> cases h2 : inR n 0 10000 <;> simp
  rw [inR_true] at h1 h2
  by_cases h : n < a <;> simp [h]
  exact w64 (by omega) (by omega)

theorem iHolds (a0 a1 a2 a3 a4 a5 now age : Int) : impl_HoldsAt.f a0 a1 a2 a3 a4 a5 now age = some (holdsB a0 a1 a2 a3 a4 a5 now age) := by
  unfold impl_HoldsAt.f holdsB
  simp only [iFact, iWithin, iAge, Option.bind_some]
  cases factB a0 a1 a2 a3 a4 a5 <;> cases h : withinB a4 a5 now <;> simp

theorem FnExactHoldsAt : laws_FnExactHoldsAt.Pure := by
  intro a0 a1 a2 a3 a4 a5 n g _ _ _ _ _ _ _ _
  unfold laws_FnExactHoldsAt.f laws_toFact.f
  simp only [Option.bind_some, sHolds, iHolds]
  simp

end Go.Proofs.Ytobpbnbjdpdflab.Pure
