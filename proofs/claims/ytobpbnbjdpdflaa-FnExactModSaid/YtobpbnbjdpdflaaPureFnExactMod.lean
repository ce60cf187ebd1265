/- FnExactMod holds: for all two integers the program's Mod and the reference's agree. No conditions. -/
import Derived.Test.YtobpbnbjdpdflaaPFnExactModx1
import Derived.OpenShut
namespace Go.Proofs.Ytobpbnbjdpdflaa.Pure
open Go.RowKit Go.Proofs.Ytobpbnbjdpdflaa.PFnExactMod Go.Proofs.YtobpbnbjdpdflaaW.PrintWords Go.Proofs.YtobpbnbjdpdflaaW.PrintLast
set_option linter.unusedVariables false
set_option linter.unusedSimpArgs false

theorem w64 {n : Int} (h : -9223372036854775808 ≤ n) (h' : n ≤ 9223372036854775807) : wrap64 n = n := by unfold wrap64; omega
theorem w64_lo (n : Int) : -9223372036854775808 ≤ wrap64 n := by unfold wrap64; omega
theorem w64_hi (n : Int) : wrap64 n ≤ 9223372036854775807 := by unfold wrap64; omega
theorem of_wf {n : Int} (h : (Lit.int .i64 n).wf = true) : -9223372036854775808 ≤ n ∧ n ≤ 9223372036854775807 := bounds_i64 h
theorem of_wf8 {n : Int} (h : (Lit.int .u8 n).wf = true) : 0 ≤ n ∧ n ≤ 255 := bounds_u8 h
theorem and_le (x : Int) (m : Nat) (hm : m < 9223372036854775808) : 0 ≤ bits .and .i64 x (m : Int) ∧ bits .and .i64 x (m : Int) ≤ m := by
  unfold bits
  rw [Go.IntKind.wrap_i64]
  simp only [BitVec.toNat_and]
  have h1 : (BitVec.ofInt IntKind.i64.bits (m : Int)).toNat = m := by
    rw [BitVec.ofInt_natCast, BitVec.toNat_ofNat]
    exact Nat.mod_eq_of_lt (by show m < 2 ^ 64; omega)
  rw [h1]
  have h2 : (BitVec.ofInt IntKind.i64.bits x).toNat &&& m ≤ m := Nat.and_le_right
  omega
theorem and255 (x : Int) : 0 ≤ bits .and .i64 x 255 ∧ bits .and .i64 x 255 ≤ 255 := and_le x 255 (by decide)
theorem tmod_lt {x n : Int} (h0 : 0 ≤ x) (hn : 0 < n) : 0 ≤ Int.tmod x n ∧ Int.tmod x n < n := by
  rw [Int.tmod_eq_emod_of_nonneg h0]
  exact ⟨Int.emod_nonneg _ (by omega), Int.emod_lt_of_pos _ hn⟩

def inR (x lo hi : Int) : Bool := decide (lo ≤ x) && decide (x ≤ hi)
theorem inR_true {x lo hi : Int} : inR x lo hi = true ↔ lo ≤ x ∧ x ≤ hi := by simp [inR]
theorem inR_false {x lo hi : Int} : inR x lo hi = false ↔ ¬ (lo ≤ x ∧ x ≤ hi) := by simp [inR]

theorem tmod_tmod {p q : Int} (hq : 0 < q) : Int.tmod (Int.tmod p q + q) q = p % q ∧ -q < Int.tmod p q ∧ Int.tmod p q < q := by
  have h1 : -q < Int.tmod p q := by
    rcases Int.le_total 0 p with h | h
    · have := Int.tmod_nonneg q h
      omega
    · have h2 := Int.tmod_lt_of_pos (-p) hq
      rw [Int.neg_tmod] at h2
      omega
  have h2 : Int.tmod p q < q := Int.tmod_lt_of_pos p hq
  refine ⟨?_, h1, h2⟩
  rw [Int.tmod_eq_emod_of_nonneg (by omega), Int.tmod_def, show p - q * p.tdiv q + q = p + q * (1 - p.tdiv q) by rw [Int.mul_sub, Int.mul_one]; omega, Int.add_mul_emod_self_left]
def modI (p q : Int) : Int := if inR q 1 1000000000000 = true then p % q else 0

theorem sIn (x lo hi : Int) : spec_l1In.f x lo hi = some (inR x lo hi) := by
  unfold spec_l1In.f inR
  by_cases h : lo ≤ x <;> simp [h]

theorem sMod (p q : Int) : spec_Mod.f p q = some (modI p q) := by
  unfold spec_Mod.f modI
  rw [sIn]
  cases h : inR q 1 1000000000000
  · simp
  · rw [inR_true] at h
    obtain ⟨e, l, u⟩ := tmod_tmod (p := p) (q := q) (by omega)
    simp only [Option.bind_some, if_true]
    rw [if_neg (by omega), w64 (n := Int.tmod p q + q) (by omega) (by omega), e]

theorem iIn (x lo hi : Int) : impl_InRange.f x lo hi = some (inR x lo hi) := by
  unfold impl_InRange.f inR
  by_cases h : lo ≤ x <;> simp [h]

theorem iMod (p q : Int) : impl_Mod.f p q = some (modI p q) := by
  unfold impl_Mod.f modI
  rw [iIn]
  cases h : inR q 1 1000000000000
  · simp
  · rw [inR_true] at h
    obtain ⟨e, l, u⟩ := tmod_tmod (p := p) (q := q) (by omega)
    simp only [Option.bind_some, if_true]
    rw [if_neg (by omega), w64 (n := Int.tmod p q + q) (by omega) (by omega), e]

theorem FnExactMod : laws_FnExactMod.Pure := by
  intro a0 a1 _ _
  unfold laws_FnExactMod.f
  rw [sMod, iMod]
  simp

end Go.Proofs.Ytobpbnbjdpdflaa.Pure
