/- FnIntegers holds: whatever is drawn, integers in range are parsed from their decimal form, and CeilDiv and Mod satisfy their defining inequalities. No conditions. -/
import Derived.Test.YthanecnkknimpaaDoorPFnIntegersx3
import Derived.OpenShut
import Derived.Test.YthanecnkknimpaaDoorWSized
import Derived.KernelRfl
namespace Go.Proofs.YthanecnkknimpaaDoor.Pure
open Go.RowKit Go.Proofs.YthanecnkknimpaaDoor.PFnIntegers Go.Proofs.YthanecnkknimpaaDoorW.PrintWords Go.Proofs.YthanecnkknimpaaDoorW.PrintLast
set_option linter.unusedVariables false
set_option linter.unusedSimpArgs false

theorem w64 {n : Int} (h : -9223372036854775808 ≤ n) (h' : n ≤ 9223372036854775807) : wrap64 n = n := by unfold wrap64; omega
theorem w64_lo (n : Int) : -9223372036854775808 ≤ wrap64 n := by unfold wrap64; omega
theorem w64_hi (n : Int) : wrap64 n ≤ 9223372036854775807 := by unfold wrap64; omega
theorem of_wf {n : Int} (h : (Lit.int .i64 n).wf = true) : -9223372036854775808 ≤ n ∧ n ≤ 9223372036854775807 := bounds_i64 h
theorem of_wf8 {n : Int} (h : (Lit.int .u8 n).wf = true) : 0 ≤ n ∧ n ≤ 255 := bounds_u8 h
theorem and_le (x : Int) (m : Nat) (hm : m < 9223372036854775808) : 0 ≤ bits .and .i64 x (m : Int) ∧ bits .and .i64 x (m : Int) ≤ m := by
  unfold bits
  rw [Go.IntKind.wrap_i64]
  simp only [BitVec.toNat_and]
  have h1 : (BitVec.ofInt IntKind.i64.bits (m : Int)).toNat = m := by
    rw [BitVec.ofInt_natCast, BitVec.toNat_ofNat]
    exact Nat.mod_eq_of_lt (by show m < 2 ^ 64; omega)
  rw [h1]
  have h2 : (BitVec.ofInt IntKind.i64.bits x).toNat &&& m ≤ m := Nat.and_le_right
  omega
theorem and255 (x : Int) : 0 ≤ bits .and .i64 x 255 ∧ bits .and .i64 x 255 ≤ 255 := and_le x 255 (by decide)
theorem tmod_lt {x n : Int} (h0 : 0 ≤ x) (hn : 0 < n) : 0 ≤ Int.tmod x n ∧ Int.tmod x n < n := by
  rw [Int.tmod_eq_emod_of_nonneg h0]
  exact ⟨Int.emod_nonneg _ (by omega), Int.emod_lt_of_pos _ hn⟩

/-- What decimal digits spell. -/
def digVal (acc : Nat) (l : List UInt8) : Nat := l.foldl (fun a c => 10 * a + (c.toNat - 48)) acc
def isDig (c : UInt8) : Bool := decide (48 ≤ c.toNat) && decide (c.toNat ≤ 57)
theorem isDig_iff (c : UInt8) : isDig c = true ↔ 48 ≤ c.toNat ∧ c.toNat ≤ 57 := by simp [isDig]
theorem digVal_ge : ∀ (l : List UInt8) (acc : Nat), acc ≤ digVal acc l
  | [], acc => Nat.le_refl _
  | c :: r, acc => by
    have := digVal_ge r (10 * acc + (c.toNat - 48))
    show acc ≤ digVal (10 * acc + (c.toNat - 48)) r
    omega
theorem dig_toNat (n : Nat) (h : n < 10) : (UInt8.ofNat (48 + n)).toNat = 48 + n := by
  rw [UInt8.toNat_ofNat']
  omega
theorem decDigits_all : ∀ (n : Nat), (Lib.decDigits n).all isDig = true := by
  intro n
  induction n using Nat.strongRecOn with
  | _ n ih =>
    by_cases c : n < 10
    · rw [Lib.decDigits_one c]
      simp only [List.all_cons, List.all_nil, Bool.and_true]
      rw [isDig_iff, dig_toNat n c]
      omega
    · rw [Lib.decDigits, dif_neg c, List.all_append, ih (n / 10) (by omega)]
      simp only [List.all_cons, List.all_nil, Bool.and_true, Bool.true_and]
      rw [isDig_iff, dig_toNat (n % 10) (by omega)]
      omega
theorem decDigits_val : ∀ (n : Nat), digVal 0 (Lib.decDigits n) = n := by
  intro n
  induction n using Nat.strongRecOn with
  | _ n ih =>
    by_cases c : n < 10
    · rw [Lib.decDigits_one c]
      show 10 * 0 + ((UInt8.ofNat (48 + n)).toNat - 48) = n
      rw [dig_toNat n c]
      omega
    · have h := ih (n / 10) (by omega)
      rw [Lib.decDigits, dif_neg c]
      unfold digVal at h ⊢
      rw [List.foldl_append, h]
      show 10 * (n / 10) + ((UInt8.ofNat (48 + n % 10)).toNat - 48) = n
      rw [dig_toNat (n % 10) (by omega)]
      omega
theorem decDigits_pos (n : Nat) : 0 < (Lib.decDigits n).length := by
  by_cases c : n < 10
  · rw [Lib.decDigits_one c]
    simp
  · rw [Lib.decDigits, dif_neg c]
    simp
theorem parseUint_dig : ∀ (l : List UInt8) (acc : Nat), l.all isDig = true → digVal acc l < 1844674407370955162 → Lib.parseUint10 acc l = .ok (digVal acc l)
  | [], acc, _, _ => rfl
  | c :: r, acc, hd, hb => by
    rw [List.all_cons, Bool.and_eq_true, isDig_iff] at hd
    have hb' : digVal (10 * acc + (c.toNat - 48)) r < 1844674407370955162 := hb
    have hg := digVal_ge r (10 * acc + (c.toNat - 48))
    unfold Lib.parseUint10
    rw [if_pos hd.1, if_neg (by omega), if_neg (by omega), show acc * 10 + (c.toNat - 48) = 10 * acc + (c.toNat - 48) by omega, parseUint_dig r _ hd.2 hb']
    rfl
theorem atoiAll_dig (n : Nat) (h : n ≤ 1000000000000) : Lib.atoiAll (Lib.decDigits n) = .ok (n : Int) := by
  have ha := decDigits_all n
  have hv := decDigits_val n
  have hp := decDigits_pos n
  generalize Lib.decDigits n = l at ha hv hp
  cases l with
  | nil => simp at hp
  | cons c r =>
    have hc := ha
    rw [List.all_cons, Bool.and_eq_true, isDig_iff] at hc
    have hm : Lib.parseMag (c :: r) = .ok n := by
      unfold Lib.parseMag
      rw [if_neg (by simp), parseUint_dig _ _ ha (by rw [hv]; omega), hv]
    unfold Lib.atoiAll
    simp only []
    rw [if_neg (by omega), hm]
    simp only []
    rw [if_neg (by omega), if_neg (by omega), if_neg (by omega)]
theorem itoa_nn (v : Int) (h : 0 ≤ v) : Lib.itoa v = Lib.decDigits v.toNat := by
  unfold Lib.itoa
  rw [if_neg (by omega)]
theorem itoa_inj (v m : Int) (hv : 0 ≤ v) (h : Lib.itoa v = Lib.itoa m) : v = m := by
  rw [itoa_nn v hv] at h
  by_cases hm : 0 ≤ m
  · rw [itoa_nn m hm] at h
    have := congrArg (digVal 0) h
    rw [decDigits_val, decDigits_val] at this
    omega
  · exfalso
    have e : Lib.itoa m = 45 :: Lib.decDigits m.natAbs := by
      unfold Lib.itoa
      rw [if_pos (by omega)]
    have ha := decDigits_all v.toNat
    rw [h, e, List.all_cons, Bool.and_eq_true, isDig_iff] at ha
    exact absurd ha.1.1 (by decide)
theorem itoa_list (v : Int) : (⟨(Lib.itoa v).toArray⟩ : ByteArray).toList = Lib.itoa v := by rw [ByteArray.toList_eq]
theorem iParse_yes (s : ByteArray) (v : Int) (h0 : 0 ≤ v) (h1 : v ≤ 1000000000000) (hl : s.toList = Lib.itoa v) : impl_ParseInt.val s = (v, true) := by
  have e : Lib.atoiAll s.data.toList = .ok v := by
    rw [← ByteArray.toList_eq, hl, itoa_nn v h0, atoiAll_dig v.toNat (by omega), Int.toNat_of_nonneg h0]
  unfold impl_ParseInt.val
  rw [e]
  simp only []
  rw [if_pos ⟨h0, h1, by rw [itoa_list, hl]⟩]
theorem iParse_no (s : ByteArray) (h : ∀ v, 0 ≤ v → v ≤ 1000000000000 → s.toList ≠ Lib.itoa v) : impl_ParseInt.val s = (0, false) := by
  unfold impl_ParseInt.val
  split
  · rename_i v _
    rw [if_neg (fun hh => h v hh.1 hh.2.1 (by rw [← itoa_list]; exact hh.2.2.symm))]
  · rfl

theorem iFmtInt (x : Int) (h0 : -9223372036854775808 ≤ x) (h1 : x ≤ 9223372036854775807) : impl_FormatInt.f x = some ⟨(Lib.itoa x).toArray⟩ := by
  have e : impl_FormatInt.f x = (if -9223372036854775808 ≤ x then (if x ≤ 9223372036854775807 then some (⟨(Lib.itoa x).toArray⟩ : ByteArray) else none) else none).bind fun t => some t := rfl
  rw [e, if_pos h0, if_pos h1, Option.bind_some]

theorem digits_len : ∀ (k n : Nat), 0 < k → n < 10 ^ k → (Lib.decDigits n).length ≤ k := by
  intro k
  induction k with
  | zero => intro n h; omega
  | succ k ih =>
    intro n _ h
    by_cases c : n < 10
    · rw [Lib.decDigits_one c]; simp
    · have hp : 10 ^ (k + 1) = 10 ^ k * 10 := Nat.pow_succ 10 k
      have hk : 0 < k := by
        rcases Nat.eq_zero_or_pos k with e | e
        · subst e; simp at h; omega
        · exact e
      have := ih (n / 10) hk (by omega)
      rw [Lib.decDigits, dif_neg c, List.length_append, List.length_singleton]
      omega
theorem itoa_len (x : Int) (h0 : -9223372036854775808 ≤ x) (h1 : x ≤ 9223372036854775807) : (⟨(Lib.itoa x).toArray⟩ : ByteArray).size ≤ 100 := by
  have e : (⟨(Lib.itoa x).toArray⟩ : ByteArray).size = (Lib.itoa x).length := by simp [ByteArray.size]
  rw [e]
  unfold Lib.itoa
  split
  · have := digits_len 20 x.natAbs (by omega) (by omega)
    rw [List.length_cons]
    omega
  · have := digits_len 20 x.toNat (by omega) (by omega)
    omega

theorem bcat (a b : List UInt8) : (⟨a.toArray⟩ : ByteArray) ++ (⟨b.toArray⟩ : ByteArray) = ⟨(a ++ b).toArray⟩ := by
  apply ByteArray.ext
  simp [ByteArray.data_append]
theorem bsize (a : List UInt8) : (⟨a.toArray⟩ : ByteArray).size = a.length := by simp [ByteArray.size]
def fin (x : Int) (l : List UInt8) : ByteArray := if x < 0 then ⟨(45 :: l).toArray⟩ else ⟨l.toArray⟩

/-- One step of the reference's loop: the last digit goes ahead. -/
theorem fstep (k : Nat) (x0 : Int) (acc : List UInt8) (s : Int) (hs : s = 1 ∨ s = -1) (n : Nat) (hn : 0 < n) (hb : n ≤ 9223372036854775808) (ha : acc.length ≤ 1000) (hr : -9223372036854775808 ≤ s * n ∧ s * n ≤ 9223372036854775807) :
    spec_FormatInt.l0 (k + 1) x0 ⟨acc.toArray⟩ (s * n) = spec_FormatInt.l0 k x0 ⟨(UInt8.ofNat (48 + n % 10) :: acc).toArray⟩ (s * (n / 10 : Nat)) := by
  have hone : ∀ v : Int, v = 48 + ((n % 10 : Nat) : Int) → (⟨([UInt8.ofNat (v % 256).toNat]).toArray⟩ : ByteArray) = ⟨([UInt8.ofNat (48 + n % 10)]).toArray⟩ := by
    intro v hv
    rw [show (v % 256).toNat = 48 + n % 10 by omega]
  have hso : ∀ v : Int, strOfNums [v] = (⟨([UInt8.ofNat v.toNat]).toArray⟩ : ByteArray) := fun v => rfl
  simp only [spec_FormatInt.l0]
  rcases hs with rfl | rfl
  · have e : (1 : Int) * (n : Int) = (n : Int) := by omega
    have e2 : (1 : Int) * ((n / 10 : Nat) : Int) = ((n / 10 : Nat) : Int) := by omega
    rw [e] at hr ⊢
    rw [e2]
    have ht : Int.tmod (n : Int) 10 = ((n % 10 : Nat) : Int) := by rw [Int.tmod_eq_emod_of_nonneg (by omega)]; omega
    have hd : Int.tdiv (n : Int) 10 = ((n / 10 : Nat) : Int) := by rw [Int.tdiv_eq_ediv_of_nonneg (by omega)]; omega
    rw [if_neg (by omega), ht, hd, if_neg (by omega), Option.bind_some, w64 (n := 48 + ((n % 10 : Nat) : Int)) (by omega) (by omega), w64 (n := ((n / 10 : Nat) : Int)) (by omega) (by omega), hso, hone _ rfl, bsize, bsize, if_pos (by simp only [List.length_cons, List.length_nil]; omega), bcat]
    rfl
  · have e : (-1 : Int) * (n : Int) = -(n : Int) := by omega
    have e2 : (-1 : Int) * ((n / 10 : Nat) : Int) = -((n / 10 : Nat) : Int) := by omega
    rw [e] at hr ⊢
    rw [e2]
    have ht : Int.tmod (-(n : Int)) 10 = -((n % 10 : Nat) : Int) := by rw [Int.neg_tmod, Int.tmod_eq_emod_of_nonneg (by omega)]; omega
    have hd : Int.tdiv (-(n : Int)) 10 = -((n / 10 : Nat) : Int) := by rw [Int.neg_tdiv, Int.tdiv_eq_ediv_of_nonneg (by omega)]; omega
    rw [if_neg (by omega), ht, hd, w64 (n := -((n / 10 : Nat) : Int)) (by omega) (by omega)]
    by_cases c : -((n % 10 : Nat) : Int) < 0
    · rw [if_pos c, Option.bind_some, show - -((n % 10 : Nat) : Int) = ((n % 10 : Nat) : Int) by omega, w64 (n := ((n % 10 : Nat) : Int)) (by omega) (by omega), w64 (n := 48 + ((n % 10 : Nat) : Int)) (by omega) (by omega), hso, hone _ rfl, bsize, bsize, if_pos (by simp only [List.length_cons, List.length_nil]; omega), bcat]
      rfl
    · rw [if_neg c, Option.bind_some, w64 (n := 48 + -((n % 10 : Nat) : Int)) (by omega) (by omega), hso, hone _ (by omega), bsize, bsize, if_pos (by simp only [List.length_cons, List.length_nil]; omega), bcat]
      rfl
theorem fend (k : Nat) (x0 : Int) (acc : List UInt8) (ha : acc.length ≤ 1000) : spec_FormatInt.l0 (k + 1) x0 ⟨acc.toArray⟩ 0 = some (fin x0 acc) := by
  simp only [spec_FormatInt.l0]
  rw [if_pos trivial, bsize]
  unfold fin
  by_cases c : x0 < 0
  · rw [if_pos c, if_pos c, if_pos (by omega)]
    congr 1
  · rw [if_neg c, if_neg c]
theorem floop (x0 : Int) (s : Int) (hs : s = 1 ∨ s = -1) : ∀ (k n : Nat) (acc : List UInt8), 0 < n → n < 10 ^ k → n ≤ 9223372036854775808 → acc.length + k ≤ 1000 → (-9223372036854775808 ≤ s * n ∧ s * n ≤ 9223372036854775807) →
    spec_FormatInt.l0 (k + 1) x0 ⟨acc.toArray⟩ (s * n) = some (fin x0 (Lib.decDigits n ++ acc)) := by
  intro k
  induction k with
  | zero => intro n acc h0 h1; simp at h1; omega
  | succ k ih =>
    intro n acc h0 h1 h2 h3 hr
    rw [fstep (k + 1) x0 acc s hs n h0 h2 (by omega) hr]
    by_cases c : n < 10
    · rw [show n / 10 = 0 by omega, show s * ((0 : Nat) : Int) = 0 by simp, fend _ _ _ (by simp only [List.length_cons]; omega), Lib.decDigits_one c, show n % 10 = n by omega]
      rfl
    · have hp : 10 ^ (k + 1) = 10 ^ k * 10 := Nat.pow_succ 10 k
      have hr2 : -9223372036854775808 ≤ s * ((n / 10 : Nat) : Int) ∧ s * ((n / 10 : Nat) : Int) ≤ 9223372036854775807 := by rcases hs with rfl | rfl <;> omega
      rw [ih (n / 10) _ (by omega) (by omega) (by omega) (by simp only [List.length_cons]; omega) hr2]
      conv => rhs; rw [Lib.decDigits, dif_neg c]
      rw [List.append_assoc]
      rfl
theorem sFmtInt (x : Int) (h0 : -9223372036854775808 ≤ x) (h1 : x ≤ 9223372036854775807) : spec_FormatInt.f 21 x = some ⟨(Lib.itoa x).toArray⟩ := by
  unfold spec_FormatInt.f Lib.itoa
  by_cases c : x = 0
  · subst c
    rw [if_pos rfl, if_neg (by omega), show (0 : Int).toNat = 0 from rfl, Lib.decDigits_one (by omega)]
    rfl
  · rw [if_neg c]
    by_cases d : x < 0
    · have h := floop x (-1) (Or.inr rfl) 20 x.natAbs [] (by omega) (by omega) (by omega) (by simp) (by omega)
      rw [show (-1 : Int) * (x.natAbs : Int) = x by omega, List.append_nil] at h
      rw [if_pos d]
      unfold fin at h
      rw [if_pos d] at h
      exact h
    · have h := floop x 1 (Or.inl rfl) 20 x.toNat [] (by omega) (by omega) (by omega) (by simp) (by omega)
      rw [show (1 : Int) * (x.toNat : Int) = x by omega, List.append_nil] at h
      rw [if_neg d]
      unfold fin at h
      rw [if_neg d] at h
      exact h

def inR (x lo hi : Int) : Bool := decide (lo ≤ x) && decide (x ≤ hi)
theorem inR_true {x lo hi : Int} : inR x lo hi = true ↔ lo ≤ x ∧ x ≤ hi := by simp [inR]
theorem inR_false {x lo hi : Int} : inR x lo hi = false ↔ ¬ (lo ≤ x ∧ x ≤ hi) := by simp [inR]

theorem tmod_tmod {p q : Int} (hq : 0 < q) : Int.tmod (Int.tmod p q + q) q = p % q ∧ -q < Int.tmod p q ∧ Int.tmod p q < q := by
  have h1 : -q < Int.tmod p q := by
    rcases Int.le_total 0 p with h | h
    · have := Int.tmod_nonneg q h
      omega
    · have h2 := Int.tmod_lt_of_pos (-p) hq
      rw [Int.neg_tmod] at h2
      omega
  have h2 : Int.tmod p q < q := Int.tmod_lt_of_pos p hq
  refine ⟨?_, h1, h2⟩
  rw [Int.tmod_eq_emod_of_nonneg (by omega), Int.tmod_def, show p - q * p.tdiv q + q = p + q * (1 - p.tdiv q) by rw [Int.mul_sub, Int.mul_one]; omega, Int.add_mul_emod_self_left]
def modI (p q : Int) : Int := if inR q 1 1000000000000 = true then p % q else 0

theorem iIn (x lo hi : Int) : impl_InRange.f x lo hi = some (inR x lo hi) := by
  unfold impl_InRange.f inR
  by_cases h : lo ≤ x <;> simp [h]

theorem iMod (p q : Int) : impl_Mod.f p q = some (modI p q) := by
  unfold impl_Mod.f modI
  rw [iIn]
  cases h : inR q 1 1000000000000
  · simp
  · rw [inR_true] at h
    obtain ⟨e, l, u⟩ := tmod_tmod (p := p) (q := q) (by omega)
    simp only [Option.bind_some, if_true]
    rw [if_neg (by omega), w64 (n := Int.tmod p q + q) (by omega) (by omega), e]

/-- A cursor that stands inside its bytes. -/
def Cur (b : List Int) (i : Int) : Prop := 0 ≤ i ∧ i ≤ (b.length : Int) ∧ b.length ≤ 140737488351232
theorem l1New_l0 (l : List Int) (hl : l.length ≤ 140737488351232) : ∀ (d k : Nat) (h i : Int), 0 ≤ i → (l.length : Int) - i ≤ d → d < k → ∃ h', spec_l1New.l0 k l h i = some (l, 0, h') := by
  intro d
  induction d with
  | zero =>
    intro k h i h0 h1 hk
    obtain ⟨k, rfl⟩ : ∃ m, k = m + 1 := ⟨k - 1, by omega⟩
    exact ⟨h, by simp only [spec_l1New.l0]; rw [if_neg (by omega)]⟩
  | succ d ih =>
    intro k h i h0 h1 hk
    obtain ⟨k, rfl⟩ : ∃ m, k = m + 1 := ⟨k - 1, by omega⟩
    by_cases c1 : i < (l.length : Int)
    · by_cases c2 : i < 4000
      · obtain ⟨h', e⟩ := ih k _ (i + 1) (by omega) (by omega) (by omega)
        exact ⟨h', by simp only [spec_l1New.l0]; rw [if_pos c1, if_pos c2, if_pos h0, w64 (n := i + 1) (by omega) (by omega)]; exact e⟩
      · exact ⟨h, by simp only [spec_l1New.l0]; rw [if_pos c1, if_neg c2]⟩
    · exact ⟨h, by simp only [spec_l1New.l0]; rw [if_neg c1]⟩
theorem l1New_l0' (l : List Int) (hl : l.length ≤ 140737488351232) : ∀ (d k : Nat) (h i : Int), 0 ≤ i → i ≤ 4000 → 4000 - i ≤ d → d < k → ∃ h', spec_l1New.l0 k l h i = some (l, 0, h') := by
  intro d
  induction d with
  | zero =>
    intro k h i h0 h9 h1 hk
    obtain ⟨k, rfl⟩ : ∃ m, k = m + 1 := ⟨k - 1, by omega⟩
    by_cases c1 : i < (l.length : Int)
    · exact ⟨h, by simp only [spec_l1New.l0]; rw [if_pos c1, if_neg (by omega)]⟩
    · exact ⟨h, by simp only [spec_l1New.l0]; rw [if_neg c1]⟩
  | succ d ih =>
    intro k h i h0 h9 h1 hk
    obtain ⟨k, rfl⟩ : ∃ m, k = m + 1 := ⟨k - 1, by omega⟩
    by_cases c1 : i < (l.length : Int)
    · by_cases c2 : i < 4000
      · obtain ⟨h', e⟩ := ih k _ (i + 1) (by omega) (by omega) (by omega) (by omega)
        exact ⟨h', by simp only [spec_l1New.l0]; rw [if_pos c1, if_pos c2, if_pos h0, w64 (n := i + 1) (by omega) (by omega)]; exact e⟩
      · exact ⟨h, by simp only [spec_l1New.l0]; rw [if_pos c1, if_neg c2]⟩
    · exact ⟨h, by simp only [spec_l1New.l0]; rw [if_neg c1]⟩
/-- A new cursor stands at the begin; 4001 rounds are enough. -/
theorem l1New_some (l : List Int) (hl : l.length ≤ 140737488351232) (k : Nat) (hk : 4001 ≤ k) : ∃ h, spec_l1New.f k l = some (l, 0, h) ∧ Cur l 0 := by
  obtain ⟨h, e⟩ := l1New_l0' l hl 4000 k (wrap64 (193017 + (l.length : Int))) 0 (by omega) (by omega) (by omega) (by omega)
  exact ⟨h, e, ⟨by omega, by omega, hl⟩⟩
theorem l1Byte_some {b : List Int} {i : Int} (hc : Cur b i) (h : Int) : ∃ x i' h', spec_l1Byte.f b i h = some (x, i', h') ∧ 0 ≤ x ∧ x ≤ 255 ∧ Cur b i' := by
  obtain ⟨h0, h1, hb⟩ := hc
  unfold spec_l1Byte.f
  by_cases c : i < (b.length : Int)
  · rw [if_pos c, if_pos h0, w64 (n := i + 1) (by omega) (by omega)]
    exact ⟨_, _, _, rfl, (and255 _).1, (and255 _).2, by omega, by omega, hb⟩
  · rw [if_neg c]
    exact ⟨_, _, _, rfl, (and255 _).1, (and255 _).2, h0, h1, hb⟩
theorem l1Below_some {b : List Int} {i : Int} (hc : Cur b i) (h n : Int) (hn : 0 < n) : ∃ x i' h', spec_l1Below.f b i h n = some (x, i', h') ∧ 0 ≤ x ∧ x < n ∧ Cur b i' := by
  unfold spec_l1Below.f
  rw [if_neg (by omega)]
  by_cases c : n ≤ 256
  · rw [if_pos c]
    obtain ⟨x, i1, h1, e1, x0, x1, hc1⟩ := l1Byte_some hc h
    rw [e1]; simp only [Option.bind_some]
    rw [if_neg (by omega)]
    exact ⟨_, _, _, rfl, (tmod_lt x0 hn).1, (tmod_lt x0 hn).2, hc1⟩
  · rw [if_neg c]
    obtain ⟨x, i1, h1, e1, x0, x1, hc1⟩ := l1Byte_some hc h
    rw [e1]; simp only [Option.bind_some]
    obtain ⟨y, i2, h2, e2, y0, y1, hc2⟩ := l1Byte_some hc1 h1
    rw [e2]; simp only [Option.bind_some]
    obtain ⟨z, i3, h3, e3, z0, z1, hc3⟩ := l1Byte_some hc2 h2
    rw [e3]; simp only [Option.bind_some]
    rw [if_neg (by omega), w64 (n := x * 65536) (by omega) (by omega), w64 (n := y * 256) (by omega) (by omega), w64 (n := x * 65536 + y * 256) (by omega) (by omega), w64 (n := x * 65536 + y * 256 + z) (by omega) (by omega)]
    exact ⟨_, _, _, rfl, (tmod_lt (by omega) hn).1, (tmod_lt (by omega) hn).2, hc3⟩
theorem l1Below_some0 {b : List Int} {i : Int} (hc : Cur b i) (h n : Int) : ∃ x i' h', spec_l1Below.f b i h n = some (x, i', h') ∧ 0 ≤ x ∧ x ≤ mx 0 n ∧ Cur b i' := by
  by_cases hn : 0 < n
  · obtain ⟨x, i', h', e, x0, x1, hc'⟩ := l1Below_some hc h n hn
    exact ⟨x, i', h', e, x0, by unfold mx; split <;> omega, hc'⟩
  · refine ⟨0, i, h, ?_, by omega, by unfold mx; split <;> omega, hc⟩
    unfold spec_l1Below.f
    rw [if_pos (by omega)]

theorem l1Once_some {b : List Int} {i : Int} (hc : Cur b i) (h n : Int) (hn : 0 < n) : ∃ x i' h', spec_l1Once.f b i h n = some (x, i', h') ∧ Cur b i' := by
  unfold spec_l1Once.f
  obtain ⟨x, i1, h1, e1, x0, x1, hc1⟩ := l1Below_some hc h n hn
  rw [e1]; simp only [Option.bind_some]
  exact ⟨_, _, _, rfl, hc1⟩

theorem l1Int_some {b : List Int} {i : Int} (hc : Cur b i) (h : Int) (l : List Int) (hl : 0 < l.length) (P : Int → Prop) (hP : ∀ x ∈ l, P x) : ∃ x i' h', spec_l1Int.f b i h l = some (x, i', h') ∧ P x ∧ Cur b i' := by
  unfold spec_l1Int.f
  obtain ⟨x, i1, h1, e1, x0, x1, hc1⟩ := l1Below_some hc h (l.length : Int) (by omega)
  rw [e1]; simp only [Option.bind_some]
  rw [if_pos x0, if_pos x1]
  refine ⟨_, _, _, rfl, hP _ ?_, hc1⟩
  unfold rd
  rw [List.getD_eq_getElem?_getD, List.getElem?_eq_getElem (show x.toNat < l.length by omega)]
  exact List.getElem_mem _

theorem l1Num_some {b : List Int} {i : Int} (hc : Cur b i) (h : Int) : ∃ x i' h', spec_l1Num.f b i h = some (x, i', h') ∧ (0 ≤ x ∧ x ≤ 1000000000000) ∧ Cur b i' := by
  unfold spec_l1Num.f
  obtain ⟨x, i1, h1, e1, x0, x1, hc1⟩ := l1Below_some hc h 4 (by omega)
  rw [e1]; simp only [Option.bind_some]
  by_cases c0 : x = 0
  · rw [if_pos c0]
    obtain ⟨y, i2, h2, e2, y0, y1, hc2⟩ := l1Below_some hc1 h1 2000 (by omega)
    rw [e2]
    exact ⟨_, _, _, rfl, by constructor <;> omega, hc2⟩
  · rw [if_neg c0]
    by_cases c1 : x = 1
    · rw [if_pos c1]
      obtain ⟨y, i2, h2, e2, hy, hc2⟩ := l1Int_some hc1 h1 [0, 1, 127, 128, 2147483646, 2147483647, 1000000000000] (by decide) (fun x => 0 ≤ x ∧ x ≤ 1000000000000) (by decide)
      rw [e2]
      exact ⟨_, _, _, rfl, hy, hc2⟩
    · rw [if_neg c1]
      by_cases c2 : x = 2
      · rw [if_pos c2]
        obtain ⟨y, i2, h2, e2, y0, y1, hc2⟩ := l1Below_some hc1 h1 1000000 (by omega)
        rw [e2, Option.bind_some]
        obtain ⟨z, i3, h3, e3, z0, z1, hc3⟩ := l1Below_some hc2 h2 1000000 (by omega)
        rw [e3]
        have hm : 0 ≤ y * z ∧ y * z ≤ 1000000 * 1000000 := ⟨Int.mul_nonneg y0 z0, Int.mul_le_mul (by omega) (by omega) z0 (by omega)⟩
        exact ⟨_, _, _, rfl, by dsimp only; rw [w64 (by omega) (by omega)]; constructor <;> omega, hc3⟩
      · rw [if_neg c2]
        obtain ⟨y, i2, h2, e2, y0, y1, hc2⟩ := l1Below_some hc1 h1 20 (by omega)
        rw [e2]
        exact ⟨_, _, _, rfl, by constructor <;> omega, hc2⟩
theorem l1Raw_some {b : List Int} {i : Int} (hc : Cur b i) (h : Int) : ∃ x i' h', spec_l1Raw.f b i h = some (x, i', h') ∧ (-9223372036854775808 ≤ x ∧ x ≤ 9223372036854775807) ∧ Cur b i' := by
  unfold spec_l1Raw.f spec_l1Odd.f
  obtain ⟨x, i1, h1, e1, hc1⟩ := l1Once_some hc h 2 (by omega)
  rw [e1]; simp only [Option.bind_some]
  cases x
  · rw [if_neg (by decide)]
    obtain ⟨y, i2, h2, e2, hy, hc2⟩ := l1Int_some hc1 h1 [(-1), 1000000000000, 1000000000001] (by decide) (fun x => -9223372036854775808 ≤ x ∧ x ≤ 9223372036854775807) (by decide)
    rw [e2]
    exact ⟨_, _, _, rfl, hy, hc2⟩
  · rw [if_pos rfl]
    obtain ⟨y, i2, h2, e2, hy, hc2⟩ := l1Int_some hc1 h1 [(-1), 0, 1, 2, 255, 256, 65535, 2147483647, 2147483648, 4294967295, 4294967296, (-2147483648), 9223372036854775807, (-9223372036854775808)] (by decide) (fun x => -9223372036854775808 ≤ x ∧ x ≤ 9223372036854775807) (by decide)
    rw [e2]
    exact ⟨_, _, _, rfl, hy, hc2⟩
theorem l1One_some {b : List Int} {i : Int} (hc : Cur b i) (h : Int) : ∃ x i' h', spec_l1One.f b i h = some (x, i', h') ∧ (-9223372036854775808 ≤ x ∧ x ≤ 9223372036854775807) ∧ Cur b i' := by
  unfold spec_l1One.f
  obtain ⟨x, i1, h1, e1, hc1⟩ := l1Once_some hc h 6 (by omega)
  rw [e1]; simp only [Option.bind_some]
  cases x
  · rw [if_neg (by decide)]
    obtain ⟨y, i2, h2, e2, hy, hc2⟩ := l1Num_some hc1 h1
    rw [e2]
    exact ⟨_, _, _, rfl, by constructor <;> omega, hc2⟩
  · rw [if_pos rfl]
    obtain ⟨y, i2, h2, e2, hy, hc2⟩ := l1Raw_some hc1 h1
    rw [e2]
    exact ⟨_, _, _, rfl, hy, hc2⟩

theorem l1Str_some {b : List Int} {i : Int} (hc : Cur b i) (h : Int) (l : List ByteArray) (hl : 0 < l.length) (P : ByteArray → Prop) (hP : ∀ x ∈ l, P x) : ∃ x i' h', spec_l1Str.f b i h l = some (x, i', h') ∧ P x ∧ Cur b i' := by
  unfold spec_l1Str.f
  obtain ⟨x, i1, h1, e1, x0, x1, hc1⟩ := l1Below_some hc h (l.length : Int) (by omega)
  rw [e1, Option.bind_some, if_pos x0, if_pos x1]
  refine ⟨_, _, _, rfl, ?_, hc1⟩
  show P (rdOf ByteArray.empty l x)
  unfold rdOf
  rw [List.getD_eq_getElem?_getD, List.getElem?_eq_getElem (by omega)]
  exact hP _ (List.getElem_mem _)

theorem sFmtInt_k (x : Int) (h0 : -9223372036854775808 ≤ x) (h1 : x ≤ 9223372036854775807) : ∀ d, spec_FormatInt.f (21 + d) x = some ⟨(Lib.itoa x).toArray⟩
  | 0 => sFmtInt x h0 h1
  | d + 1 => spec_FormatInt.mono x (21 + d) _ (sFmtInt_k x h0 h1 d)
def ceilI (a b : Int) : Int := if inR a 0 1000000000000 = true then (if inR b 1 1000000000000 = true then (a + b - 1) / b else 0) else 0
theorem iCeil (a b : Int) : impl_CeilDiv.f a b = some (ceilI a b) := by
  unfold impl_CeilDiv.f ceilI
  rw [iIn, Option.bind_some]
  by_cases h1 : inR a 0 1000000000000 = true
  · rw [if_pos h1, if_pos h1, iIn, Option.bind_some]
    by_cases h2 : inR b 1 1000000000000 = true
    · rw [if_pos h2, if_pos h2]
      rw [inR_true] at h1 h2
      rw [if_neg (by omega), w64 (n := a + b) (by omega) (by omega), w64 (n := a + b - 1) (by omega) (by omega), Int.tdiv_eq_ediv_of_nonneg (by omega)]
      have hb : 0 ≤ (a + b - 1) / b := Int.ediv_nonneg (by omega) (by omega)
      have hu : (a + b - 1) / b ≤ a + b - 1 := Int.ediv_le_self _ (by omega)
      rw [w64 (by omega) (by omega)]
    · rw [if_neg h2, if_neg h2]
  · rw [if_neg h1, if_neg h1]
theorem ceil_facts (a b : Int) (h1 : inR a 0 1000000000000 = true) (h2 : inR b 1 1000000000000 = true) : a ≤ ceilI a b * b ∧ ceilI a b * b - a < b := by
  unfold ceilI
  rw [if_pos h1, if_pos h2]
  rw [inR_true] at h1 h2
  have hd := Int.mul_ediv_add_emod (a + b - 1) b
  have hm0 := Int.emod_nonneg (a + b - 1) (show b ≠ 0 by omega)
  have hm1 := Int.emod_lt_of_pos (a + b - 1) (show 0 < b by omega)
  rw [Int.mul_comm] at hd
  generalize (a + b - 1) / b * b = P at hd ⊢
  generalize (a + b - 1) % b = R at hd hm0 hm1
  constructor <;> omega
theorem mod_facts (a b : Int) (h2 : inR b 1 1000000000000 = true) : 0 ≤ modI a b ∧ modI a b < b ∧ Int.tmod (wrap64 (Int.tmod a b - modI a b)) b = 0 := by
  unfold modI
  rw [if_pos h2]
  rw [inR_true] at h2
  obtain ⟨_, l, u⟩ := tmod_tmod (p := a) (q := b) (by omega)
  have hm0 := Int.emod_nonneg a (show b ≠ 0 by omega)
  have hm1 := Int.emod_lt_of_pos a (show 0 < b by omega)
  refine ⟨hm0, hm1, ?_⟩
  have e : Int.tmod a b - a % b = 0 ∨ Int.tmod a b - a % b = -b := by
    have h3 : b ∣ Int.tmod a b - a % b := by
      have h4 : b ∣ a - Int.tmod a b := by rw [Int.tmod_def]; exact ⟨a.tdiv b, by omega⟩
      have h5 : b ∣ a - a % b := Int.dvd_self_sub_emod
      have h6 := Int.dvd_sub h5 h4
      rwa [show a - a % b - (a - Int.tmod a b) = Int.tmod a b - a % b by omega] at h6
    obtain ⟨c, hc⟩ := h3
    have c1 : c < 1 := by
      rcases Int.lt_or_le c 1 with h | h
      · exact h
      · exfalso
        have := Int.mul_le_mul_of_nonneg_left h (show (0 : Int) ≤ b by omega)
        omega
    have c0 : -2 < c := by
      rcases Int.lt_or_le (-2) c with h | h
      · exact h
      · exfalso
        have := Int.mul_le_mul_of_nonneg_left h (show (0 : Int) ≤ b by omega)
        omega
    have hcc : c = 0 ∨ c = -1 := by omega
    rcases hcc with rfl | rfl
    · left; omega
    · right; omega
  rcases e with e | e
  · rw [e, w64 (by omega) (by omega)]
    simp
  · rw [e, w64 (by omega) (by omega), Int.neg_tmod, Int.tmod_self]
    rfl
theorem ints_j2 (k : Nat) (a b : Int) (h2 : inR b 1 1000000000000 = true) : laws_FnIntegers.j2 (k + 1) a b (ceilI a b) false = some true := by
  simp only [laws_FnIntegers.j2]
  rw [if_neg (by simp)]
  by_cases c0 : a < 0
  · rw [if_pos c0]
    unfold ceilI
    rw [if_neg (by rw [inR_true]; omega)]
    rfl
  · rw [if_neg c0]
    by_cases c1 : a > 1000000000000
    · rw [if_pos c1]
      unfold ceilI
      rw [if_neg (by rw [inR_true]; omega)]
      rfl
    · rw [if_neg c1]
      obtain ⟨h3, h4⟩ := ceil_facts a b (by rw [inR_true]; omega) h2
      rw [inR_true] at h2
      generalize ceilI a b * b = P at h3 h4 ⊢
      rw [w64 (n := P) (by omega) (by omega), if_pos h3, w64 (by omega) (by omega), decide_eq_true h4]
theorem ints_j0 (k : Nat) (a b : Int) : laws_FnIntegers.j0 (k + 3) a b (ceilI a b) (modI a b) false = some true := by
  have key : inR b 1 1000000000000 = false → laws_FnIntegers.j1 (k + 2) a b (ceilI a b) (modI a b) true = some true := fun h => by
    have e1 : ceilI a b = 0 := by
      unfold ceilI
      rw [h]
      simp
    have e2 : modI a b = 0 := by
      unfold modI
      rw [h]
      simp
    simp only [laws_FnIntegers.j1]
    rw [if_pos trivial, e1, e2, if_pos rfl]
    rfl
  simp only [laws_FnIntegers.j0]
  rw [if_neg (by simp)]
  by_cases c0 : b < 1
  · rw [if_pos c0]
    exact key (by rw [inR_false]; omega)
  · rw [if_neg c0]
    by_cases c1 : b > 1000000000000
    · rw [decide_eq_true c1]
      exact key (by rw [inR_false]; omega)
    · rw [decide_eq_false c1]
      have h2 : inR b 1 1000000000000 = true := by rw [inR_true]; omega
      obtain ⟨m0, m1, m2⟩ := mod_facts a b h2
      simp only [laws_FnIntegers.j1]
      rw [if_neg (by simp), if_neg (by omega), if_neg (by omega), if_neg (by omega), m2]
      exact ints_j2 k a b h2
theorem drawParse (l : List Int) (hl : l.length ≤ 140737488351232) (k : Nat) (hk : 4001 ≤ k) : ∃ s : ByteArray, spec_DrawParseInt.f k l = some s ∧ s.size ≤ 100 := by
  unfold spec_DrawParseInt.f
  obtain ⟨h, e, hc⟩ := l1New_some l hl k hk
  rw [e]; simp only [Option.bind_some]
  obtain ⟨x, i1, h1, e1, hc1⟩ := l1Once_some hc h 2 (by omega)
  rw [e1]; simp only [Option.bind_some]
  cases x
  · rw [if_neg (by simp)]
    obtain ⟨y, i2, h2, e2, ⟨y0, y1⟩, hc2⟩ := l1Num_some hc1 h1
    rw [e2]; simp only [Option.bind_some]
    obtain ⟨m, rfl⟩ : ∃ m, k = 21 + m := ⟨k - 21, by omega⟩
    rw [sFmtInt_k y (by omega) (by omega) m]
    exact ⟨_, rfl, itoa_len y (by omega) (by omega)⟩
  · rw [if_pos rfl]
    obtain ⟨y, i2, h2, e2, hy, hc2⟩ := l1Str_some hc1 h1 [(⟨#[]⟩ : ByteArray), (⟨#[48]⟩ : ByteArray), (⟨#[48, 48]⟩ : ByteArray), (⟨#[45, 49]⟩ : ByteArray), (⟨#[48, 49]⟩ : ByteArray), (⟨#[55]⟩ : ByteArray), (⟨#[49, 48, 48, 48, 48, 48, 48, 48, 48, 48, 48, 48, 48]⟩ : ByteArray), (⟨#[49, 48, 48, 48, 48, 48, 48, 48, 48, 48, 48, 48, 49]⟩ : ByteArray), (⟨#[57, 57, 57, 57, 57, 57, 57, 57, 57, 57, 57, 57, 57, 57]⟩ : ByteArray), (⟨#[49, 120]⟩ : ByteArray), (⟨#[32, 49]⟩ : ByteArray)] (by simp) (fun x => x.size ≤ 100) (by
      intro x hx
      simp only [List.mem_cons, List.not_mem_nil, or_false] at hx
      rcases hx with rfl | rfl | rfl | rfl | rfl | rfl | rfl | rfl | rfl | rfl | rfl <;> decide)
    rw [e2]
    exact ⟨_, rfl, hy⟩
theorem drawFmt (l : List Int) (hl : l.length ≤ 140737488351232) (k : Nat) (hk : 4001 ≤ k) : ∃ m, spec_DrawFormatInt.f k l = some m ∧ -9223372036854775808 ≤ m ∧ m ≤ 9223372036854775807 := by
  unfold spec_DrawFormatInt.f
  obtain ⟨h, e, hc⟩ := l1New_some l hl k hk
  rw [e]; simp only [Option.bind_some]
  obtain ⟨y, i2, h2, e2, hy, hc2⟩ := l1One_some hc h
  rw [e2]
  exact ⟨_, rfl, hy⟩
theorem drawCeil (l : List Int) (hl : l.length ≤ 140737488351232) (k : Nat) (hk : 4001 ≤ k) : ∃ a b, spec_DrawCeilDiv.f k l = some (a, b) := by
  unfold spec_DrawCeilDiv.f
  obtain ⟨h, e, hc⟩ := l1New_some l hl k hk
  rw [e]; simp only [Option.bind_some]
  obtain ⟨x, i1, h1, e1, _, hc1⟩ := l1One_some hc h
  rw [e1]; simp only [Option.bind_some]
  obtain ⟨y, i2, h2, e2, hy, hc2⟩ := l1One_some hc1 h1
  rw [e2]
  exact ⟨_, _, rfl⟩
theorem iParse (s : ByteArray) (h : s.size ≤ 100) : impl_ParseInt.f s = some (impl_ParseInt.val s) := by
  unfold impl_ParseInt.f
  rw [if_pos (by omega)]
theorem parse_fmt (m : Int) : impl_ParseInt.val ⟨(Lib.itoa m).toArray⟩ = if 0 ≤ m ∧ m ≤ 1000000000000 then (m, true) else (0, false) := by
  by_cases h : 0 ≤ m ∧ m ≤ 1000000000000
  · rw [if_pos h]
    exact iParse_yes _ m h.1 h.2 (itoa_list m)
  · rw [if_neg h]
    refine iParse_no _ (fun v h0 h1 hl => h ?_)
    rw [itoa_list] at hl
    have := itoa_inj v m h0 hl.symm
    omega
theorem FnIntegers : laws_FnIntegers.Pure := by
  intro l _ hl _
  obtain ⟨k, hk⟩ : ∃ k : Nat, 4001 ≤ k := ⟨4001, Nat.le_refl _⟩
  refine ⟨k + 3, ?_⟩
  unfold laws_FnIntegers.f laws_big.f
  simp only [Option.bind_some]
  by_cases hb : (l.length : Int) > 1048576
  · rw [decide_eq_true hb, if_pos rfl]
  · rw [decide_eq_false hb, if_neg (by simp)]
    obtain ⟨s, e1, hs⟩ := drawParse l (by omega) (k + 3) (by omega)
    obtain ⟨m, e2, m0, m1⟩ := drawFmt l (by omega) (k + 3) (by omega)
    obtain ⟨a, b, e3⟩ := drawCeil l (by omega) (k + 3) (by omega)
    have hj := ints_j0 k a b
    have hml := itoa_len m m0 m1
    rw [e1, Option.bind_some, iParse s hs, Option.bind_some, e2, Option.bind_some, iFmtInt m m0 m1, Option.bind_some, iParse _ hml, Option.bind_some, e3, Option.bind_some, iCeil, Option.bind_some, iMod, Option.bind_some, parse_fmt]
    have hfin : (if m ≥ 0 then (if ((if 0 ≤ m ∧ m ≤ 1000000000000 then (m, true) else ((0, false) : Int × Bool)).2 != (decide (m ≤ 1000000000000))) = true then (laws_FnIntegers.j0 (k + 3) a b (ceilI a b) (modI a b) true) else (if (if 0 ≤ m ∧ m ≤ 1000000000000 then (m, true) else ((0, false) : Int × Bool)).2 = true then (laws_FnIntegers.j0 (k + 3) a b (ceilI a b) (modI a b) ((if 0 ≤ m ∧ m ≤ 1000000000000 then (m, true) else ((0, false) : Int × Bool)).1 != m)) else (laws_FnIntegers.j0 (k + 3) a b (ceilI a b) (modI a b) false))) else (if ((if 0 ≤ m ∧ m ≤ 1000000000000 then (m, true) else ((0, false) : Int × Bool)).2 != false) = true then (laws_FnIntegers.j0 (k + 3) a b (ceilI a b) (modI a b) true) else (if (if 0 ≤ m ∧ m ≤ 1000000000000 then (m, true) else ((0, false) : Int × Bool)).2 = true then (laws_FnIntegers.j0 (k + 3) a b (ceilI a b) (modI a b) ((if 0 ≤ m ∧ m ≤ 1000000000000 then (m, true) else ((0, false) : Int × Bool)).1 != m)) else (laws_FnIntegers.j0 (k + 3) a b (ceilI a b) (modI a b) false)))) = some true := by
      by_cases c0 : m ≥ 0
      · rw [if_pos c0]
        by_cases c1 : m ≤ 1000000000000
        · rw [if_pos (show 0 ≤ m ∧ m ≤ 1000000000000 from ⟨c0, c1⟩), decide_eq_true c1, if_neg (by simp), if_pos rfl, bne_self_eq_false]
          exact hj
        · rw [if_neg (show ¬ (0 ≤ m ∧ m ≤ 1000000000000) from fun hh => c1 hh.2), decide_eq_false c1, if_neg (by simp), if_neg (by simp)]
          exact hj
      · rw [if_neg c0, if_neg (show ¬ (0 ≤ m ∧ m ≤ 1000000000000) from fun hh => c0 hh.1), if_neg (by simp), if_neg (by simp)]
        exact hj
    by_cases hex : ∃ v, 0 ≤ v ∧ v ≤ 1000000000000 ∧ s.toList = Lib.itoa v
    · obtain ⟨v, h0, h1, hv⟩ := hex
      rw [iParse_yes s v h0 h1 hv, if_pos rfl, iFmtInt v (by omega) (by omega), Option.bind_some, itoa_list, if_pos hv.symm]
      exact hfin
    · rw [iParse_no s (fun v h0 h1 hv => hex ⟨v, h0, h1, hv⟩), if_neg (by simp)]
      exact hfin

end Go.Proofs.YthanecnkknimpaaDoor.Pure
namespace Go.Proofs.YthanecnkknimpaaDoor
/-- The seat's own word, under the name by which the row asks for it. -/
theorem PrintWords.sized_ints {H : Type} {enc : TypeId × Value → H} {P : Program} {W : World} {base : Nat} {spare : Nat → Bool} {held : Bool} {t e : TypeId} {k : IntKind} {a : Option Addr} {len cap : Nat} {d : DataW H} {ps : List MemPlace} {ts : List TypeId} {ds : List (DataW H)} {j : Nat}
    (hsz : (DataW.weightsEach P ts ds).all (· ≤ reachBytes) = true) (ht : ts[j]? = some t) (hd : ds[j]? = some d) (hu : P.underlying t = some (.slice e)) (he : P.underlying e = some (.int k)) (hc : P.cellsOf e = 1) {B : Nat} (hB : P.bytesOf e = B)
    (h : DataW.Trod enc P W base spare held t (.slice a len cap) d ps) : len * B ≤ 140737488351232 := Go.Proofs.YthanecnkknimpaaDoorW.PrintWords.sized_ints hsz ht hd hu he hc hB h
end Go.Proofs.YthanecnkknimpaaDoor
