/- FnExactParseName holds: for every text the program's ParseName and the reference's agree. No conditions. -/
import Derived.Test.YtobpbnbjdpdfladDoorPFnExactParseNamex2
import Derived.OpenShut
import Derived.KernelRfl
namespace Go.Proofs.YtobpbnbjdpdfladDoor.Pure
open Go.RowKit Go.Proofs.YtobpbnbjdpdfladDoor.PFnExactParseName Go.Proofs.YtobpbnbjdpdfladDoorW.PrintWords Go.Proofs.YtobpbnbjdpdfladDoorW.PrintLast
set_option linter.unusedVariables false
set_option linter.unusedSimpArgs false

theorem w64 {n : Int} (h : -9223372036854775808 ≤ n) (h' : n ≤ 9223372036854775807) : wrap64 n = n := by unfold wrap64; omega
theorem w64_lo (n : Int) : -9223372036854775808 ≤ wrap64 n := by unfold wrap64; omega
theorem w64_hi (n : Int) : wrap64 n ≤ 9223372036854775807 := by unfold wrap64; omega
theorem of_wf {n : Int} (h : (Lit.int .i64 n).wf = true) : -9223372036854775808 ≤ n ∧ n ≤ 9223372036854775807 := bounds_i64 h
theorem of_wf8 {n : Int} (h : (Lit.int .u8 n).wf = true) : 0 ≤ n ∧ n ≤ 255 := bounds_u8 h
theorem and_le (x : Int) (m : Nat) (hm : m < 9223372036854775808) : 0 ≤ bits .and .i64 x (m : Int) ∧ bits .and .i64 x (m : Int) ≤ m := by
  unfold bits
  rw [Go.IntKind.wrap_i64]
  simp only [BitVec.toNat_and]
  have h1 : (BitVec.ofInt IntKind.i64.bits (m : Int)).toNat = m := by
    rw [BitVec.ofInt_natCast, BitVec.toNat_ofNat]
    exact Nat.mod_eq_of_lt (by show m < 2 ^ 64; omega)
  rw [h1]
  have h2 : (BitVec.ofInt IntKind.i64.bits x).toNat &&& m ≤ m := Nat.and_le_right
  omega
theorem and255 (x : Int) : 0 ≤ bits .and .i64 x 255 ∧ bits .and .i64 x 255 ≤ 255 := and_le x 255 (by decide)
theorem tmod_lt {x n : Int} (h0 : 0 ≤ x) (hn : 0 < n) : 0 ≤ Int.tmod x n ∧ Int.tmod x n < n := by
  rw [Int.tmod_eq_emod_of_nonneg h0]
  exact ⟨Int.emod_nonneg _ (by omega), Int.emod_lt_of_pos _ hn⟩

def inR (x lo hi : Int) : Bool := decide (lo ≤ x) && decide (x ≤ hi)
theorem inR_true {x lo hi : Int} : inR x lo hi = true ↔ lo ≤ x ∧ x ≤ hi := by simp [inR]
theorem inR_false {x lo hi : Int} : inR x lo hi = false ↔ ¬ (lo ≤ x ∧ x ≤ hi) := by simp [inR]

/-- A name's text. -/
def nameStr (n : Int) : ByteArray := ⟨#[if n < 20 then 112 else if n < 30 then 100 else if n < 40 then 103 else 111, UInt8.ofNat (48 + (n % 10).toNat)]⟩
theorem cases40 {P : Int → Prop} (h : ∀ n : Nat, n < 40 → P (10 + (n : Int))) (x : Int) (h0 : 10 ≤ x) (h1 : x ≤ 49) : P x := by
  have := h (x - 10).toNat (by omega)
  rwa [show 10 + (((x - 10).toNat : Nat) : Int) = x by omega] at this

/-- The first of the last d names whose text this is. -/
def pn (s : ByteArray) : Nat → Int × Bool
  | 0 => (-1, false)
  | d + 1 => if (nameStr (50 - ((d + 1 : Nat) : Int))).toList = s.toList then (50 - ((d + 1 : Nat) : Int), true) else pn s d

theorem sIn (x lo hi : Int) : spec_l1In.f x lo hi = some (inR x lo hi) := by
  unfold spec_l1In.f inR
  by_cases h : lo ≤ x <;> simp [h]

theorem sName (x : Int) : spec_IsName.f x = some (inR x 10 49) := by unfold spec_IsName.f; rw [sIn]; rfl

theorem sNS0 : spec_FormatName.f 5 10 = some (nameStr 10) := by kernel_rfl
theorem sNS1 : spec_FormatName.f 5 11 = some (nameStr 11) := by kernel_rfl
theorem sNS2 : spec_FormatName.f 5 12 = some (nameStr 12) := by kernel_rfl
theorem sNS3 : spec_FormatName.f 5 13 = some (nameStr 13) := by kernel_rfl
theorem sNS4 : spec_FormatName.f 5 14 = some (nameStr 14) := by kernel_rfl
theorem sNS5 : spec_FormatName.f 5 15 = some (nameStr 15) := by kernel_rfl
theorem sNS6 : spec_FormatName.f 5 16 = some (nameStr 16) := by kernel_rfl
theorem sNS7 : spec_FormatName.f 5 17 = some (nameStr 17) := by kernel_rfl
theorem sNS8 : spec_FormatName.f 5 18 = some (nameStr 18) := by kernel_rfl
theorem sNS9 : spec_FormatName.f 5 19 = some (nameStr 19) := by kernel_rfl
theorem sNS10 : spec_FormatName.f 5 20 = some (nameStr 20) := by kernel_rfl
theorem sNS11 : spec_FormatName.f 5 21 = some (nameStr 21) := by kernel_rfl
theorem sNS12 : spec_FormatName.f 5 22 = some (nameStr 22) := by kernel_rfl
theorem sNS13 : spec_FormatName.f 5 23 = some (nameStr 23) := by kernel_rfl
theorem sNS14 : spec_FormatName.f 5 24 = some (nameStr 24) := by kernel_rfl
theorem sNS15 : spec_FormatName.f 5 25 = some (nameStr 25) := by kernel_rfl
theorem sNS16 : spec_FormatName.f 5 26 = some (nameStr 26) := by kernel_rfl
theorem sNS17 : spec_FormatName.f 5 27 = some (nameStr 27) := by kernel_rfl
theorem sNS18 : spec_FormatName.f 5 28 = some (nameStr 28) := by kernel_rfl
theorem sNS19 : spec_FormatName.f 5 29 = some (nameStr 29) := by kernel_rfl
theorem sNS20 : spec_FormatName.f 5 30 = some (nameStr 30) := by kernel_rfl
theorem sNS21 : spec_FormatName.f 5 31 = some (nameStr 31) := by kernel_rfl
theorem sNS22 : spec_FormatName.f 5 32 = some (nameStr 32) := by kernel_rfl
theorem sNS23 : spec_FormatName.f 5 33 = some (nameStr 33) := by kernel_rfl
theorem sNS24 : spec_FormatName.f 5 34 = some (nameStr 34) := by kernel_rfl
theorem sNS25 : spec_FormatName.f 5 35 = some (nameStr 35) := by kernel_rfl
theorem sNS26 : spec_FormatName.f 5 36 = some (nameStr 36) := by kernel_rfl
theorem sNS27 : spec_FormatName.f 5 37 = some (nameStr 37) := by kernel_rfl
theorem sNS28 : spec_FormatName.f 5 38 = some (nameStr 38) := by kernel_rfl
theorem sNS29 : spec_FormatName.f 5 39 = some (nameStr 39) := by kernel_rfl
theorem sNS30 : spec_FormatName.f 5 40 = some (nameStr 40) := by kernel_rfl
theorem sNS31 : spec_FormatName.f 5 41 = some (nameStr 41) := by kernel_rfl
theorem sNS32 : spec_FormatName.f 5 42 = some (nameStr 42) := by kernel_rfl
theorem sNS33 : spec_FormatName.f 5 43 = some (nameStr 43) := by kernel_rfl
theorem sNS34 : spec_FormatName.f 5 44 = some (nameStr 44) := by kernel_rfl
theorem sNS35 : spec_FormatName.f 5 45 = some (nameStr 45) := by kernel_rfl
theorem sNS36 : spec_FormatName.f 5 46 = some (nameStr 46) := by kernel_rfl
theorem sNS37 : spec_FormatName.f 5 47 = some (nameStr 47) := by kernel_rfl
theorem sNS38 : spec_FormatName.f 5 48 = some (nameStr 48) := by kernel_rfl
theorem sNS39 : spec_FormatName.f 5 49 = some (nameStr 49) := by kernel_rfl
theorem sNameStr (x : Int) (h0 : 10 ≤ x) (h1 : x ≤ 49) : spec_FormatName.f 5 x = some (nameStr x) := by
  have h : x = 10 ∨ x = 11 ∨ x = 12 ∨ x = 13 ∨ x = 14 ∨ x = 15 ∨ x = 16 ∨ x = 17 ∨ x = 18 ∨ x = 19 ∨ x = 20 ∨ x = 21 ∨ x = 22 ∨ x = 23 ∨ x = 24 ∨ x = 25 ∨ x = 26 ∨ x = 27 ∨ x = 28 ∨ x = 29 ∨ x = 30 ∨ x = 31 ∨ x = 32 ∨ x = 33 ∨ x = 34 ∨ x = 35 ∨ x = 36 ∨ x = 37 ∨ x = 38 ∨ x = 39 ∨ x = 40 ∨ x = 41 ∨ x = 42 ∨ x = 43 ∨ x = 44 ∨ x = 45 ∨ x = 46 ∨ x = 47 ∨ x = 48 ∨ x = 49 := by omega
  rcases h with rfl | rfl | rfl | rfl | rfl | rfl | rfl | rfl | rfl | rfl | rfl | rfl | rfl | rfl | rfl | rfl | rfl | rfl | rfl | rfl | rfl | rfl | rfl | rfl | rfl | rfl | rfl | rfl | rfl | rfl | rfl | rfl | rfl | rfl | rfl | rfl | rfl | rfl | rfl | rfl
  · exact sNS0
  · exact sNS1
  · exact sNS2
  · exact sNS3
  · exact sNS4
  · exact sNS5
  · exact sNS6
  · exact sNS7
  · exact sNS8
  · exact sNS9
  · exact sNS10
  · exact sNS11
  · exact sNS12
  · exact sNS13
  · exact sNS14
  · exact sNS15
  · exact sNS16
  · exact sNS17
  · exact sNS18
  · exact sNS19
  · exact sNS20
  · exact sNS21
  · exact sNS22
  · exact sNS23
  · exact sNS24
  · exact sNS25
  · exact sNS26
  · exact sNS27
  · exact sNS28
  · exact sNS29
  · exact sNS30
  · exact sNS31
  · exact sNS32
  · exact sNS33
  · exact sNS34
  · exact sNS35
  · exact sNS36
  · exact sNS37
  · exact sNS38
  · exact sNS39

theorem sNameStrK (x : Int) (h0 : 10 ≤ x) (h1 : x ≤ 49) (d : Nat) : spec_FormatName.f (5 + d) x = some (nameStr x) := by
  induction d with
  | zero => exact sNameStr x h0 h1
  | succ d ih => exact spec_FormatName.mono x (5 + d) _ ih
theorem sParseN_l0 (s : ByteArray) : ∀ (d k : Nat), d ≤ 40 → d + 6 ≤ k → spec_ParseName.l0 k s (50 - (d : Int)) = some (pn s d) := by
  intro d
  induction d with
  | zero =>
    intro k hd hk
    obtain ⟨k, rfl⟩ : ∃ m, k = m + 1 := ⟨k - 1, by omega⟩
    simp only [spec_ParseName.l0]
    rw [if_neg (by omega)]
    rfl
  | succ d ih =>
    intro k hd hk
    obtain ⟨k, rfl⟩ : ∃ m, k = m + 1 := ⟨k - 1, by omega⟩
    obtain ⟨j, rfl⟩ : ∃ j, k = 5 + j := ⟨k - 5, by omega⟩
    simp only [spec_ParseName.l0]
    rw [if_pos (by omega), sNameStrK _ (by omega) (by omega) j, Option.bind_some, w64 (n := 50 - ((d + 1 : Nat) : Int) + 1) (by omega) (by omega), show 50 - ((d + 1 : Nat) : Int) + 1 = 50 - (d : Int) by omega, ih (5 + j) (by omega) (by omega)]
    simp only [pn]
    split <;> rfl
theorem sParseN (s : ByteArray) (k : Nat) (hk : 46 ≤ k) : spec_ParseName.f k s = some (pn s 40) := sParseN_l0 s 40 k (by omega) (by omega)

theorem iIn (x lo hi : Int) : impl_InRange.f x lo hi = some (inR x lo hi) := by
  unfold impl_InRange.f inR
  by_cases h : lo ≤ x <;> simp [h]

theorem iName (x : Int) : impl_IsName.f x = some (inR x 10 49) := by unfold impl_IsName.f; rw [iIn]; rfl

theorem iNS0 : impl_FormatName.f 10 = some (nameStr 10) := by kernel_rfl
theorem iNS1 : impl_FormatName.f 11 = some (nameStr 11) := by kernel_rfl
theorem iNS2 : impl_FormatName.f 12 = some (nameStr 12) := by kernel_rfl
theorem iNS3 : impl_FormatName.f 13 = some (nameStr 13) := by kernel_rfl
theorem iNS4 : impl_FormatName.f 14 = some (nameStr 14) := by kernel_rfl
theorem iNS5 : impl_FormatName.f 15 = some (nameStr 15) := by kernel_rfl
theorem iNS6 : impl_FormatName.f 16 = some (nameStr 16) := by kernel_rfl
theorem iNS7 : impl_FormatName.f 17 = some (nameStr 17) := by kernel_rfl
theorem iNS8 : impl_FormatName.f 18 = some (nameStr 18) := by kernel_rfl
theorem iNS9 : impl_FormatName.f 19 = some (nameStr 19) := by kernel_rfl
theorem iNS10 : impl_FormatName.f 20 = some (nameStr 20) := by kernel_rfl
theorem iNS11 : impl_FormatName.f 21 = some (nameStr 21) := by kernel_rfl
theorem iNS12 : impl_FormatName.f 22 = some (nameStr 22) := by kernel_rfl
theorem iNS13 : impl_FormatName.f 23 = some (nameStr 23) := by kernel_rfl
theorem iNS14 : impl_FormatName.f 24 = some (nameStr 24) := by kernel_rfl
theorem iNS15 : impl_FormatName.f 25 = some (nameStr 25) := by kernel_rfl
theorem iNS16 : impl_FormatName.f 26 = some (nameStr 26) := by kernel_rfl
theorem iNS17 : impl_FormatName.f 27 = some (nameStr 27) := by kernel_rfl
theorem iNS18 : impl_FormatName.f 28 = some (nameStr 28) := by kernel_rfl
theorem iNS19 : impl_FormatName.f 29 = some (nameStr 29) := by kernel_rfl
theorem iNS20 : impl_FormatName.f 30 = some (nameStr 30) := by kernel_rfl
theorem iNS21 : impl_FormatName.f 31 = some (nameStr 31) := by kernel_rfl
theorem iNS22 : impl_FormatName.f 32 = some (nameStr 32) := by kernel_rfl
theorem iNS23 : impl_FormatName.f 33 = some (nameStr 33) := by kernel_rfl
theorem iNS24 : impl_FormatName.f 34 = some (nameStr 34) := by kernel_rfl
theorem iNS25 : impl_FormatName.f 35 = some (nameStr 35) := by kernel_rfl
theorem iNS26 : impl_FormatName.f 36 = some (nameStr 36) := by kernel_rfl
theorem iNS27 : impl_FormatName.f 37 = some (nameStr 37) := by kernel_rfl
theorem iNS28 : impl_FormatName.f 38 = some (nameStr 38) := by kernel_rfl
theorem iNS29 : impl_FormatName.f 39 = some (nameStr 39) := by kernel_rfl
theorem iNS30 : impl_FormatName.f 40 = some (nameStr 40) := by kernel_rfl
theorem iNS31 : impl_FormatName.f 41 = some (nameStr 41) := by kernel_rfl
theorem iNS32 : impl_FormatName.f 42 = some (nameStr 42) := by kernel_rfl
theorem iNS33 : impl_FormatName.f 43 = some (nameStr 43) := by kernel_rfl
theorem iNS34 : impl_FormatName.f 44 = some (nameStr 44) := by kernel_rfl
theorem iNS35 : impl_FormatName.f 45 = some (nameStr 45) := by kernel_rfl
theorem iNS36 : impl_FormatName.f 46 = some (nameStr 46) := by kernel_rfl
theorem iNS37 : impl_FormatName.f 47 = some (nameStr 47) := by kernel_rfl
theorem iNS38 : impl_FormatName.f 48 = some (nameStr 48) := by kernel_rfl
theorem iNS39 : impl_FormatName.f 49 = some (nameStr 49) := by kernel_rfl
theorem iNameStr (x : Int) (h0 : 10 ≤ x) (h1 : x ≤ 49) : impl_FormatName.f x = some (nameStr x) := by
  have h : x = 10 ∨ x = 11 ∨ x = 12 ∨ x = 13 ∨ x = 14 ∨ x = 15 ∨ x = 16 ∨ x = 17 ∨ x = 18 ∨ x = 19 ∨ x = 20 ∨ x = 21 ∨ x = 22 ∨ x = 23 ∨ x = 24 ∨ x = 25 ∨ x = 26 ∨ x = 27 ∨ x = 28 ∨ x = 29 ∨ x = 30 ∨ x = 31 ∨ x = 32 ∨ x = 33 ∨ x = 34 ∨ x = 35 ∨ x = 36 ∨ x = 37 ∨ x = 38 ∨ x = 39 ∨ x = 40 ∨ x = 41 ∨ x = 42 ∨ x = 43 ∨ x = 44 ∨ x = 45 ∨ x = 46 ∨ x = 47 ∨ x = 48 ∨ x = 49 := by omega
  rcases h with rfl | rfl | rfl | rfl | rfl | rfl | rfl | rfl | rfl | rfl | rfl | rfl | rfl | rfl | rfl | rfl | rfl | rfl | rfl | rfl | rfl | rfl | rfl | rfl | rfl | rfl | rfl | rfl | rfl | rfl | rfl | rfl | rfl | rfl | rfl | rfl | rfl | rfl | rfl | rfl
  · exact iNS0
  · exact iNS1
  · exact iNS2
  · exact iNS3
  · exact iNS4
  · exact iNS5
  · exact iNS6
  · exact iNS7
  · exact iNS8
  · exact iNS9
  · exact iNS10
  · exact iNS11
  · exact iNS12
  · exact iNS13
  · exact iNS14
  · exact iNS15
  · exact iNS16
  · exact iNS17
  · exact iNS18
  · exact iNS19
  · exact iNS20
  · exact iNS21
  · exact iNS22
  · exact iNS23
  · exact iNS24
  · exact iNS25
  · exact iNS26
  · exact iNS27
  · exact iNS28
  · exact iNS29
  · exact iNS30
  · exact iNS31
  · exact iNS32
  · exact iNS33
  · exact iNS34
  · exact iNS35
  · exact iNS36
  · exact iNS37
  · exact iNS38
  · exact iNS39

theorem iParseN_l0 (s : ByteArray) : ∀ (d k : Nat), d ≤ 40 → d < k → impl_ParseName.l0 k s (50 - (d : Int)) = some (pn s d) := by
  intro d
  induction d with
  | zero =>
    intro k hd hk
    obtain ⟨k, rfl⟩ : ∃ m, k = m + 1 := ⟨k - 1, by omega⟩
    simp only [impl_ParseName.l0]
    rw [if_neg (by omega)]
    rfl
  | succ d ih =>
    intro k hd hk
    obtain ⟨k, rfl⟩ : ∃ m, k = m + 1 := ⟨k - 1, by omega⟩
    simp only [impl_ParseName.l0]
    rw [if_pos (by omega), iNameStr _ (by omega) (by omega), Option.bind_some, w64 (n := 50 - ((d + 1 : Nat) : Int) + 1) (by omega) (by omega), show 50 - ((d + 1 : Nat) : Int) + 1 = 50 - (d : Int) by omega, ih k (by omega) (by omega)]
    simp only [pn]
    split <;> rfl
theorem iParseN (s : ByteArray) (k : Nat) (hk : 41 ≤ k) : impl_ParseName.f k s = some (pn s 40) := iParseN_l0 s 40 k (by omega) (by omega)

theorem FnExactParseName : laws_FnExactParseName.Pure := by
  intro s _
  refine ⟨50, ?_⟩
  unfold laws_FnExactParseName.f
  by_cases h1 : (s.size : Int) > 1048576
  · rw [if_pos h1]
  · rw [if_neg h1, sParseN s 50 (by omega), Option.bind_some, iParseN s 50 (by omega), Option.bind_some, if_pos rfl, bne_self_eq_false, if_neg (by simp)]

end Go.Proofs.YtobpbnbjdpdfladDoor.Pure
