/- FnExactFactBefore holds: for all two facts the program's FactBefore and the reference's agree. No conditions. -/
import Derived.Test.YtobpbnbjdpdflaaPFnExactFactBeforex2
import Derived.OpenShut
namespace Go.Proofs.Ytobpbnbjdpdflaa.Pure
open Go.RowKit Go.Proofs.Ytobpbnbjdpdflaa.PFnExactFactBefore Go.Proofs.YtobpbnbjdpdflaaW.PrintWords Go.Proofs.YtobpbnbjdpdflaaW.PrintLast
set_option linter.unusedVariables false
set_option linter.unusedSimpArgs false

theorem w64 {n : Int} (h : -9223372036854775808 ≤ n) (h' : n ≤ 9223372036854775807) : wrap64 n = n := by unfold wrap64; omega
theorem w64_lo (n : Int) : -9223372036854775808 ≤ wrap64 n := by unfold wrap64; omega
theorem w64_hi (n : Int) : wrap64 n ≤ 9223372036854775807 := by unfold wrap64; omega
theorem of_wf {n : Int} (h : (Lit.int .i64 n).wf = true) : -9223372036854775808 ≤ n ∧ n ≤ 9223372036854775807 := bounds_i64 h
theorem of_wf8 {n : Int} (h : (Lit.int .u8 n).wf = true) : 0 ≤ n ∧ n ≤ 255 := bounds_u8 h
theorem and_le (x : Int) (m : Nat) (hm : m < 9223372036854775808) : 0 ≤ bits .and .i64 x (m : Int) ∧ bits .and .i64 x (m : Int) ≤ m := by
  unfold bits
  rw [Go.IntKind.wrap_i64]
  simp only [BitVec.toNat_and]
  have h1 : (BitVec.ofInt IntKind.i64.bits (m : Int)).toNat = m := by
    rw [BitVec.ofInt_natCast, BitVec.toNat_ofNat]
    exact Nat.mod_eq_of_lt (by show m < 2 ^ 64; omega)
  rw [h1]
  have h2 : (BitVec.ofInt IntKind.i64.bits x).toNat &&& m ≤ m := Nat.and_le_right
  omega
theorem and255 (x : Int) : 0 ≤ bits .and .i64 x 255 ∧ bits .and .i64 x 255 ≤ 255 := and_le x 255 (by decide)
theorem tmod_lt {x n : Int} (h0 : 0 ≤ x) (hn : 0 < n) : 0 ≤ Int.tmod x n ∧ Int.tmod x n < n := by
  rw [Int.tmod_eq_emod_of_nonneg h0]
  exact ⟨Int.emod_nonneg _ (by omega), Int.emod_lt_of_pos _ hn⟩

def sameB (a0 a1 a2 a3 b0 b1 b2 b3 : Int) : Bool := decide (a0 = b0 ∧ a1 = b1 ∧ a2 = b2 ∧ a3 = b3)
def beforeB (a0 a1 a2 a3 b0 b1 b2 b3 : Int) : Bool := decide (a0 < b0 ∨ (a0 = b0 ∧ (a1 < b1 ∨ (a1 = b1 ∧ (a2 < b2 ∨ (a2 = b2 ∧ a3 < b3))))))

theorem sBefore (a0 a1 a2 a3 a4 a5 b0 b1 b2 b3 b4 b5 : Int) : spec_FactBefore.f a0 a1 a2 a3 a4 a5 b0 b1 b2 b3 b4 b5 = some (beforeB a0 a1 a2 a3 b0 b1 b2 b3) := by
  unfold spec_FactBefore.f beforeB
  by_cases h0 : a0 = b0
  · by_cases h1 : a1 = b1
    · by_cases h2 : a2 = b2
      · rw [if_pos h0, if_pos h1, if_pos h2]
        congr 1
        rw [decide_eq_decide]
        omega
      · rw [if_pos h0, if_pos h1, if_neg h2]
        congr 1
        rw [decide_eq_decide]
        omega
    · rw [if_pos h0, if_neg h1]
      congr 1
      rw [decide_eq_decide]
      omega
  · rw [if_neg h0]
    congr 1
    rw [decide_eq_decide]
    omega

theorem iCmp (a0 a1 a2 a3 a4 a5 b0 b1 b2 b3 b4 b5 : Int) : ∃ c, impl_compareClaims.f a0 a1 a2 a3 a4 a5 b0 b1 b2 b3 b4 b5 = some c ∧ (c = 0 ↔ sameB a0 a1 a2 a3 b0 b1 b2 b3 = true) ∧ (c < 0 ↔ beforeB a0 a1 a2 a3 b0 b1 b2 b3 = true) := by
  refine ⟨_, rfl, ?_, ?_⟩
  · unfold sameB
    rw [decide_eq_true_iff]
    repeat' split
    all_goals omega
  · unfold beforeB
    rw [decide_eq_true_iff]
    repeat' split
    all_goals omega

theorem iBefore (a0 a1 a2 a3 a4 a5 b0 b1 b2 b3 b4 b5 : Int) : impl_FactBefore.f a0 a1 a2 a3 a4 a5 b0 b1 b2 b3 b4 b5 = some (beforeB a0 a1 a2 a3 b0 b1 b2 b3) := by
  obtain ⟨c, e, _, h⟩ := iCmp a0 a1 a2 a3 a4 a5 b0 b1 b2 b3 b4 b5
  unfold impl_FactBefore.f
  rw [e, Option.bind_some]
  congr 1
  rw [Bool.eq_iff_iff, ← h]
  simp

theorem FnExactFactBefore : laws_FnExactFactBefore.Pure := by
  intro a0 a1 a2 a3 a4 a5 b0 b1 b2 b3 b4 b5 _ _ _ _ _ _ _ _ _ _ _ _
  unfold laws_FnExactFactBefore.f laws_toFact.f
  simp only [Option.bind_some, sBefore, iBefore]
  simp

end Go.Proofs.Ytobpbnbjdpdflaa.Pure
