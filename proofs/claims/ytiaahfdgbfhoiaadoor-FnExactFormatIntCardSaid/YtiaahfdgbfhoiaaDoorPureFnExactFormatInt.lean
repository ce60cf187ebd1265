/- FnExactFormatInt holds: for every integer the program's FormatInt and the reference's agree. No conditions. -/
import Derived.Test.YtiaahfdgbfhoiaaDoorPFnExactFormatIntx1
import Derived.OpenShut
namespace Go.Proofs.YtiaahfdgbfhoiaaDoor.Pure
open Go.RowKit Go.Proofs.YtiaahfdgbfhoiaaDoor.PFnExactFormatInt Go.Proofs.YtiaahfdgbfhoiaaDoorW.PrintWords Go.Proofs.YtiaahfdgbfhoiaaDoorW.PrintLast
set_option linter.unusedVariables false
set_option linter.unusedSimpArgs false

theorem w64 {n : Int} (h : -9223372036854775808 ≤ n) (h' : n ≤ 9223372036854775807) : wrap64 n = n := by unfold wrap64; omega
theorem w64_lo (n : Int) : -9223372036854775808 ≤ wrap64 n := by unfold wrap64; omega
theorem w64_hi (n : Int) : wrap64 n ≤ 9223372036854775807 := by unfold wrap64; omega
theorem of_wf {n : Int} (h : (Lit.int .i64 n).wf = true) : -9223372036854775808 ≤ n ∧ n ≤ 9223372036854775807 := bounds_i64 h
theorem of_wf8 {n : Int} (h : (Lit.int .u8 n).wf = true) : 0 ≤ n ∧ n ≤ 255 := bounds_u8 h
theorem and_le (x : Int) (m : Nat) (hm : m < 9223372036854775808) : 0 ≤ bits .and .i64 x (m : Int) ∧ bits .and .i64 x (m : Int) ≤ m := by
  unfold bits
  rw [Go.IntKind.wrap_i64]
  simp only [BitVec.toNat_and]
  have h1 : (BitVec.ofInt IntKind.i64.bits (m : Int)).toNat = m := by
    rw [BitVec.ofInt_natCast, BitVec.toNat_ofNat]
    exact Nat.mod_eq_of_lt (by show m < 2 ^ 64; omega)
  rw [h1]
  have h2 : (BitVec.ofInt IntKind.i64.bits x).toNat &&& m ≤ m := Nat.and_le_right
  omega
theorem and255 (x : Int) : 0 ≤ bits .and .i64 x 255 ∧ bits .and .i64 x 255 ≤ 255 := and_le x 255 (by decide)
theorem tmod_lt {x n : Int} (h0 : 0 ≤ x) (hn : 0 < n) : 0 ≤ Int.tmod x n ∧ Int.tmod x n < n := by
  rw [Int.tmod_eq_emod_of_nonneg h0]
  exact ⟨Int.emod_nonneg _ (by omega), Int.emod_lt_of_pos _ hn⟩

theorem bcat (a b : List UInt8) : (⟨a.toArray⟩ : ByteArray) ++ (⟨b.toArray⟩ : ByteArray) = ⟨(a ++ b).toArray⟩ := by
  apply ByteArray.ext
  simp [ByteArray.data_append]
theorem bsize (a : List UInt8) : (⟨a.toArray⟩ : ByteArray).size = a.length := by simp [ByteArray.size]
def fin (x : Int) (l : List UInt8) : ByteArray := if x < 0 then ⟨(45 :: l).toArray⟩ else ⟨l.toArray⟩

/-- One step of the reference's loop: the last digit goes ahead. -/
theorem fstep (k : Nat) (x0 : Int) (acc : List UInt8) (s : Int) (hs : s = 1 ∨ s = -1) (n : Nat) (hn : 0 < n) (hb : n ≤ 9223372036854775808) (ha : acc.length ≤ 1000) (hr : -9223372036854775808 ≤ s * n ∧ s * n ≤ 9223372036854775807) :
    spec_FormatInt.l0 (k + 1) x0 ⟨acc.toArray⟩ (s * n) = spec_FormatInt.l0 k x0 ⟨(UInt8.ofNat (48 + n % 10) :: acc).toArray⟩ (s * (n / 10 : Nat)) := by
  have hone : ∀ v : Int, v = 48 + ((n % 10 : Nat) : Int) → (⟨([UInt8.ofNat (v % 256).toNat]).toArray⟩ : ByteArray) = ⟨([UInt8.ofNat (48 + n % 10)]).toArray⟩ := by
    intro v hv
    rw [show (v % 256).toNat = 48 + n % 10 by omega]
  have hso : ∀ v : Int, strOfNums [v] = (⟨([UInt8.ofNat v.toNat]).toArray⟩ : ByteArray) := fun v => rfl
  simp only [spec_FormatInt.l0]
  rcases hs with rfl | rfl
  · have e : (1 : Int) * (n : Int) = (n : Int) := by omega
    have e2 : (1 : Int) * ((n / 10 : Nat) : Int) = ((n / 10 : Nat) : Int) := by omega
    rw [e] at hr ⊢
    rw [e2]
    have ht : Int.tmod (n : Int) 10 = ((n % 10 : Nat) : Int) := by rw [Int.tmod_eq_emod_of_nonneg (by omega)]; omega
    have hd : Int.tdiv (n : Int) 10 = ((n / 10 : Nat) : Int) := by rw [Int.tdiv_eq_ediv_of_nonneg (by omega)]; omega
    rw [if_neg (by omega), ht, hd, if_neg (by omega), Option.bind_some, w64 (n := 48 + ((n % 10 : Nat) : Int)) (by omega) (by omega), w64 (n := ((n / 10 : Nat) : Int)) (by omega) (by omega), hso, hone _ rfl, bsize, bsize, if_pos (by simp only [List.length_cons, List.length_nil]; omega), bcat]
    rfl
  · have e : (-1 : Int) * (n : Int) = -(n : Int) := by omega
    have e2 : (-1 : Int) * ((n / 10 : Nat) : Int) = -((n / 10 : Nat) : Int) := by omega
    rw [e] at hr ⊢
    rw [e2]
    have ht : Int.tmod (-(n : Int)) 10 = -((n % 10 : Nat) : Int) := by rw [Int.neg_tmod, Int.tmod_eq_emod_of_nonneg (by omega)]; omega
    have hd : Int.tdiv (-(n : Int)) 10 = -((n / 10 : Nat) : Int) := by rw [Int.neg_tdiv, Int.tdiv_eq_ediv_of_nonneg (by omega)]; omega
    rw [if_neg (by omega), ht, hd, w64 (n := -((n / 10 : Nat) : Int)) (by omega) (by omega)]
    by_cases c : -((n % 10 : Nat) : Int) < 0
    · rw [if_pos c, Option.bind_some, show - -((n % 10 : Nat) : Int) = ((n % 10 : Nat) : Int) by omega, w64 (n := ((n % 10 : Nat) : Int)) (by omega) (by omega), w64 (n := 48 + ((n % 10 : Nat) : Int)) (by omega) (by omega), hso, hone _ rfl, bsize, bsize, if_pos (by simp only [List.length_cons, List.length_nil]; omega), bcat]
      rfl
    · rw [if_neg c, Option.bind_some, w64 (n := 48 + -((n % 10 : Nat) : Int)) (by omega) (by omega), hso, hone _ (by omega), bsize, bsize, if_pos (by simp only [List.length_cons, List.length_nil]; omega), bcat]
      rfl
theorem fend (k : Nat) (x0 : Int) (acc : List UInt8) (ha : acc.length ≤ 1000) : spec_FormatInt.l0 (k + 1) x0 ⟨acc.toArray⟩ 0 = some (fin x0 acc) := by
  simp only [spec_FormatInt.l0]
  rw [if_pos trivial, bsize]
  unfold fin
  by_cases c : x0 < 0
  · rw [if_pos c, if_pos c, if_pos (by omega)]
    congr 1
  · rw [if_neg c, if_neg c]
theorem floop (x0 : Int) (s : Int) (hs : s = 1 ∨ s = -1) : ∀ (k n : Nat) (acc : List UInt8), 0 < n → n < 10 ^ k → n ≤ 9223372036854775808 → acc.length + k ≤ 1000 → (-9223372036854775808 ≤ s * n ∧ s * n ≤ 9223372036854775807) →
    spec_FormatInt.l0 (k + 1) x0 ⟨acc.toArray⟩ (s * n) = some (fin x0 (Lib.decDigits n ++ acc)) := by
  intro k
  induction k with
  | zero => intro n acc h0 h1; simp at h1; omega
  | succ k ih =>
    intro n acc h0 h1 h2 h3 hr
    rw [fstep (k + 1) x0 acc s hs n h0 h2 (by omega) hr]
    by_cases c : n < 10
    · rw [show n / 10 = 0 by omega, show s * ((0 : Nat) : Int) = 0 by simp, fend _ _ _ (by simp only [List.length_cons]; omega), Lib.decDigits_one c, show n % 10 = n by omega]
      rfl
    · have hp : 10 ^ (k + 1) = 10 ^ k * 10 := Nat.pow_succ 10 k
      have hr2 : -9223372036854775808 ≤ s * ((n / 10 : Nat) : Int) ∧ s * ((n / 10 : Nat) : Int) ≤ 9223372036854775807 := by rcases hs with rfl | rfl <;> omega
      rw [ih (n / 10) _ (by omega) (by omega) (by omega) (by simp only [List.length_cons]; omega) hr2]
      conv => rhs; rw [Lib.decDigits, dif_neg c]
      rw [List.append_assoc]
      rfl
theorem sFmtInt (x : Int) (h0 : -9223372036854775808 ≤ x) (h1 : x ≤ 9223372036854775807) : spec_FormatInt.f 21 x = some ⟨(Lib.itoa x).toArray⟩ := by
  unfold spec_FormatInt.f Lib.itoa
  by_cases c : x = 0
  · subst c
    rw [if_pos rfl, if_neg (by omega), show (0 : Int).toNat = 0 from rfl, Lib.decDigits_one (by omega)]
    rfl
  · rw [if_neg c]
    by_cases d : x < 0
    · have h := floop x (-1) (Or.inr rfl) 20 x.natAbs [] (by omega) (by omega) (by omega) (by simp) (by omega)
      rw [show (-1 : Int) * (x.natAbs : Int) = x by omega, List.append_nil] at h
      rw [if_pos d]
      unfold fin at h
      rw [if_pos d] at h
      exact h
    · have h := floop x 1 (Or.inl rfl) 20 x.toNat [] (by omega) (by omega) (by omega) (by simp) (by omega)
      rw [show (1 : Int) * (x.toNat : Int) = x by omega, List.append_nil] at h
      rw [if_neg d]
      unfold fin at h
      rw [if_neg d] at h
      exact h

theorem iFmtInt (x : Int) (h0 : -9223372036854775808 ≤ x) (h1 : x ≤ 9223372036854775807) : impl_FormatInt.f x = some ⟨(Lib.itoa x).toArray⟩ := by
  have e : impl_FormatInt.f x = (if -9223372036854775808 ≤ x then (if x ≤ 9223372036854775807 then some (⟨(Lib.itoa x).toArray⟩ : ByteArray) else none) else none).bind fun t => some t := rfl
  rw [e, if_pos h0, if_pos h1, Option.bind_some]

theorem FnExactFormatInt : laws_FnExactFormatInt.Pure := by
  intro x hx
  have hw := of_wf hx
  refine ⟨21, ?_⟩
  unfold laws_FnExactFormatInt.f
  rw [sFmtInt x hw.1 hw.2, Option.bind_some, iFmtInt x hw.1 hw.2, Option.bind_some, if_pos rfl]

end Go.Proofs.YtiaahfdgbfhoiaaDoor.Pure
