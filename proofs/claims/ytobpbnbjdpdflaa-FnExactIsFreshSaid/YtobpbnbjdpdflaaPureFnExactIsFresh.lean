/- FnExactIsFresh holds: for all three integers the program's IsFresh and the reference's agree. No conditions. -/
import Derived.Test.YtobpbnbjdpdflaaPFnExactIsFreshx1
import Derived.OpenShut
namespace Go.Proofs.Ytobpbnbjdpdflaa.Pure
open Go.RowKit Go.Proofs.Ytobpbnbjdpdflaa.PFnExactIsFresh Go.Proofs.YtobpbnbjdpdflaaW.PrintWords Go.Proofs.YtobpbnbjdpdflaaW.PrintLast
set_option linter.unusedVariables false
set_option linter.unusedSimpArgs false

theorem w64 {n : Int} (h : -9223372036854775808 ≤ n) (h' : n ≤ 9223372036854775807) : wrap64 n = n := by unfold wrap64; omega
theorem w64_lo (n : Int) : -9223372036854775808 ≤ wrap64 n := by unfold wrap64; omega
theorem w64_hi (n : Int) : wrap64 n ≤ 9223372036854775807 := by unfold wrap64; omega
theorem of_wf {n : Int} (h : (Lit.int .i64 n).wf = true) : -9223372036854775808 ≤ n ∧ n ≤ 9223372036854775807 := bounds_i64 h
theorem of_wf8 {n : Int} (h : (Lit.int .u8 n).wf = true) : 0 ≤ n ∧ n ≤ 255 := bounds_u8 h
theorem and_le (x : Int) (m : Nat) (hm : m < 9223372036854775808) : 0 ≤ bits .and .i64 x (m : Int) ∧ bits .and .i64 x (m : Int) ≤ m := by
  unfold bits
  rw [Go.IntKind.wrap_i64]
  simp only [BitVec.toNat_and]
  have h1 : (BitVec.ofInt IntKind.i64.bits (m : Int)).toNat = m := by
    rw [BitVec.ofInt_natCast, BitVec.toNat_ofNat]
    exact Nat.mod_eq_of_lt (by show m < 2 ^ 64; omega)
  rw [h1]
  have h2 : (BitVec.ofInt IntKind.i64.bits x).toNat &&& m ≤ m := Nat.and_le_right
  omega
theorem and255 (x : Int) : 0 ≤ bits .and .i64 x 255 ∧ bits .and .i64 x 255 ≤ 255 := and_le x 255 (by decide)
theorem tmod_lt {x n : Int} (h0 : 0 ≤ x) (hn : 0 < n) : 0 ≤ Int.tmod x n ∧ Int.tmod x n < n := by
  rw [Int.tmod_eq_emod_of_nonneg h0]
  exact ⟨Int.emod_nonneg _ (by omega), Int.emod_lt_of_pos _ hn⟩

def inR (x lo hi : Int) : Bool := decide (lo ≤ x) && decide (x ≤ hi)
theorem inR_true {x lo hi : Int} : inR x lo hi = true ↔ lo ≤ x ∧ x ≤ hi := by simp [inR]
theorem inR_false {x lo hi : Int} : inR x lo hi = false ↔ ¬ (lo ≤ x ∧ x ≤ hi) := by simp [inR]

def ageOf (a n : Int) : Int := if inR a 0 10000 = true then (if inR n 0 10000 = true then (if a > n then -1 else n - a) else -1) else -1

def freshB (a n m : Int) : Bool := decide (0 ≤ ageOf a n) && decide (ageOf a n ≤ m)
theorem ageOf_lo (a n : Int) : -1 ≤ ageOf a n := by
  unfold ageOf
  repeat' split
  all_goals omega

theorem sIn (x lo hi : Int) : spec_l1In.f x lo hi = some (inR x lo hi) := by
  unfold spec_l1In.f inR
  by_cases h : lo ≤ x <;> simp [h]

theorem sTime (x : Int) : spec_IsTime.f x = some (inR x 0 10000) := by unfold spec_IsTime.f; rw [sIn]; rfl

theorem sAge (a n : Int) : spec_AgeOf.f a n = some (ageOf a n) := by
  unfold spec_AgeOf.f ageOf
  simp only [sTime, Option.bind_some]
  cases h1 : inR a 0 10000 <;> cases h2 : inR n 0 10000 <;> simp
  rw [inR_true] at h1 h2
  by_cases h : n < a <;> simp [h]
  exact w64 (by omega) (by omega)

theorem sFresh (a n m : Int) : spec_IsFresh.f a n m = some (freshB a n m) := by
  unfold spec_IsFresh.f freshB
  rw [sAge]
  simp only [Option.bind_some]
  by_cases h : 0 ≤ ageOf a n <;> simp [h]

theorem iIn (x lo hi : Int) : impl_InRange.f x lo hi = some (inR x lo hi) := by
  unfold impl_InRange.f inR
  by_cases h : lo ≤ x <;> simp [h]

theorem iTime (x : Int) : impl_IsTime.f x = some (inR x 0 10000) := by unfold impl_IsTime.f; rw [iIn]; rfl

theorem iAge (a n : Int) : impl_AgeOf.f a n = some (ageOf a n) := by
  unfold impl_AgeOf.f ageOf
  simp only [iTime, Option.bind_some]
  cases h1 : inR a 0 10000 <;> cases h2 : inR n 0 10000 <;> simp
  rw [inR_true] at h1 h2
  by_cases h : n < a <;> simp [h]
  exact w64 (by omega) (by omega)

theorem iFresh (a n m : Int) : impl_IsFresh.f a n m = some (freshB a n m) := by
  unfold impl_IsFresh.f freshB
  rw [iAge]
  simp only [Option.bind_some]
  have := ageOf_lo a n
  by_cases h : ageOf a n = -1
  · simp [h]
  · have h0 : 0 ≤ ageOf a n := by omega
    simp [h, h0]

theorem FnExactIsFresh : laws_FnExactIsFresh.Pure := by
  intro a0 a1 a2 _ _ _
  unfold laws_FnExactIsFresh.f
  rw [sFresh, iFresh]
  simp

end Go.Proofs.Ytobpbnbjdpdflaa.Pure
