/- FnExactParseInt holds: for every string the program's ParseInt and the reference's agree. No conditions. -/
import Derived.Test.YthanecnkknimpaaDoorPFnExactParseIntx2
import Derived.OpenShut
import Derived.KernelRfl
namespace Go.Proofs.YthanecnkknimpaaDoor.Pure
open Go.RowKit Go.Proofs.YthanecnkknimpaaDoor.PFnExactParseInt Go.Proofs.YthanecnkknimpaaDoorW.PrintWords Go.Proofs.YthanecnkknimpaaDoorW.PrintLast
set_option linter.unusedVariables false
set_option linter.unusedSimpArgs false

theorem w64 {n : Int} (h : -9223372036854775808 ≤ n) (h' : n ≤ 9223372036854775807) : wrap64 n = n := by unfold wrap64; omega
theorem w64_lo (n : Int) : -9223372036854775808 ≤ wrap64 n := by unfold wrap64; omega
theorem w64_hi (n : Int) : wrap64 n ≤ 9223372036854775807 := by unfold wrap64; omega
theorem of_wf {n : Int} (h : (Lit.int .i64 n).wf = true) : -9223372036854775808 ≤ n ∧ n ≤ 9223372036854775807 := bounds_i64 h
theorem of_wf8 {n : Int} (h : (Lit.int .u8 n).wf = true) : 0 ≤ n ∧ n ≤ 255 := bounds_u8 h
theorem and_le (x : Int) (m : Nat) (hm : m < 9223372036854775808) : 0 ≤ bits .and .i64 x (m : Int) ∧ bits .and .i64 x (m : Int) ≤ m := by
  unfold bits
  rw [Go.IntKind.wrap_i64]
  simp only [BitVec.toNat_and]
  have h1 : (BitVec.ofInt IntKind.i64.bits (m : Int)).toNat = m := by
    rw [BitVec.ofInt_natCast, BitVec.toNat_ofNat]
    exact Nat.mod_eq_of_lt (by show m < 2 ^ 64; omega)
  rw [h1]
  have h2 : (BitVec.ofInt IntKind.i64.bits x).toNat &&& m ≤ m := Nat.and_le_right
  omega
theorem and255 (x : Int) : 0 ≤ bits .and .i64 x 255 ∧ bits .and .i64 x 255 ≤ 255 := and_le x 255 (by decide)
theorem tmod_lt {x n : Int} (h0 : 0 ≤ x) (hn : 0 < n) : 0 ≤ Int.tmod x n ∧ Int.tmod x n < n := by
  rw [Int.tmod_eq_emod_of_nonneg h0]
  exact ⟨Int.emod_nonneg _ (by omega), Int.emod_lt_of_pos _ hn⟩

/-- What decimal digits spell. -/
def digVal (acc : Nat) (l : List UInt8) : Nat := l.foldl (fun a c => 10 * a + (c.toNat - 48)) acc
def isDig (c : UInt8) : Bool := decide (48 ≤ c.toNat) && decide (c.toNat ≤ 57)
theorem isDig_iff (c : UInt8) : isDig c = true ↔ 48 ≤ c.toNat ∧ c.toNat ≤ 57 := by simp [isDig]
theorem digVal_ge : ∀ (l : List UInt8) (acc : Nat), acc ≤ digVal acc l
  | [], acc => Nat.le_refl _
  | c :: r, acc => by
    have := digVal_ge r (10 * acc + (c.toNat - 48))
    show acc ≤ digVal (10 * acc + (c.toNat - 48)) r
    omega
theorem dig_toNat (n : Nat) (h : n < 10) : (UInt8.ofNat (48 + n)).toNat = 48 + n := by
  rw [UInt8.toNat_ofNat']
  omega
theorem decDigits_all : ∀ (n : Nat), (Lib.decDigits n).all isDig = true := by
  intro n
  induction n using Nat.strongRecOn with
  | _ n ih =>
    by_cases c : n < 10
    · rw [Lib.decDigits_one c]
      simp only [List.all_cons, List.all_nil, Bool.and_true]
      rw [isDig_iff, dig_toNat n c]
      omega
    · rw [Lib.decDigits, dif_neg c, List.all_append, ih (n / 10) (by omega)]
      simp only [List.all_cons, List.all_nil, Bool.and_true, Bool.true_and]
      rw [isDig_iff, dig_toNat (n % 10) (by omega)]
      omega
theorem decDigits_val : ∀ (n : Nat), digVal 0 (Lib.decDigits n) = n := by
  intro n
  induction n using Nat.strongRecOn with
  | _ n ih =>
    by_cases c : n < 10
    · rw [Lib.decDigits_one c]
      show 10 * 0 + ((UInt8.ofNat (48 + n)).toNat - 48) = n
      rw [dig_toNat n c]
      omega
    · have h := ih (n / 10) (by omega)
      rw [Lib.decDigits, dif_neg c]
      unfold digVal at h ⊢
      rw [List.foldl_append, h]
      show 10 * (n / 10) + ((UInt8.ofNat (48 + n % 10)).toNat - 48) = n
      rw [dig_toNat (n % 10) (by omega)]
      omega
theorem decDigits_pos (n : Nat) : 0 < (Lib.decDigits n).length := by
  by_cases c : n < 10
  · rw [Lib.decDigits_one c]
    simp
  · rw [Lib.decDigits, dif_neg c]
    simp
theorem parseUint_dig : ∀ (l : List UInt8) (acc : Nat), l.all isDig = true → digVal acc l < 1844674407370955162 → Lib.parseUint10 acc l = .ok (digVal acc l)
  | [], acc, _, _ => rfl
  | c :: r, acc, hd, hb => by
    rw [List.all_cons, Bool.and_eq_true, isDig_iff] at hd
    have hb' : digVal (10 * acc + (c.toNat - 48)) r < 1844674407370955162 := hb
    have hg := digVal_ge r (10 * acc + (c.toNat - 48))
    unfold Lib.parseUint10
    rw [if_pos hd.1, if_neg (by omega), if_neg (by omega), show acc * 10 + (c.toNat - 48) = 10 * acc + (c.toNat - 48) by omega, parseUint_dig r _ hd.2 hb']
    rfl
theorem atoiAll_dig (n : Nat) (h : n ≤ 1000000000000) : Lib.atoiAll (Lib.decDigits n) = .ok (n : Int) := by
  have ha := decDigits_all n
  have hv := decDigits_val n
  have hp := decDigits_pos n
  generalize Lib.decDigits n = l at ha hv hp
  cases l with
  | nil => simp at hp
  | cons c r =>
    have hc := ha
    rw [List.all_cons, Bool.and_eq_true, isDig_iff] at hc
    have hm : Lib.parseMag (c :: r) = .ok n := by
      unfold Lib.parseMag
      rw [if_neg (by simp), parseUint_dig _ _ ha (by rw [hv]; omega), hv]
    unfold Lib.atoiAll
    simp only []
    rw [if_neg (by omega), hm]
    simp only []
    rw [if_neg (by omega), if_neg (by omega), if_neg (by omega)]
theorem itoa_nn (v : Int) (h : 0 ≤ v) : Lib.itoa v = Lib.decDigits v.toNat := by
  unfold Lib.itoa
  rw [if_neg (by omega)]
theorem itoa_inj (v m : Int) (hv : 0 ≤ v) (h : Lib.itoa v = Lib.itoa m) : v = m := by
  rw [itoa_nn v hv] at h
  by_cases hm : 0 ≤ m
  · rw [itoa_nn m hm] at h
    have := congrArg (digVal 0) h
    rw [decDigits_val, decDigits_val] at this
    omega
  · exfalso
    have e : Lib.itoa m = 45 :: Lib.decDigits m.natAbs := by
      unfold Lib.itoa
      rw [if_pos (by omega)]
    have ha := decDigits_all v.toNat
    rw [h, e, List.all_cons, Bool.and_eq_true, isDig_iff] at ha
    exact absurd ha.1.1 (by decide)
theorem itoa_list (v : Int) : (⟨(Lib.itoa v).toArray⟩ : ByteArray).toList = Lib.itoa v := by rw [ByteArray.toList_eq]
theorem iParse_yes (s : ByteArray) (v : Int) (h0 : 0 ≤ v) (h1 : v ≤ 1000000000000) (hl : s.toList = Lib.itoa v) : impl_ParseInt.val s = (v, true) := by
  have e : Lib.atoiAll s.data.toList = .ok v := by
    rw [← ByteArray.toList_eq, hl, itoa_nn v h0, atoiAll_dig v.toNat (by omega), Int.toNat_of_nonneg h0]
  unfold impl_ParseInt.val
  rw [e]
  simp only []
  rw [if_pos ⟨h0, h1, by rw [itoa_list, hl]⟩]
theorem iParse_no (s : ByteArray) (h : ∀ v, 0 ≤ v → v ≤ 1000000000000 → s.toList ≠ Lib.itoa v) : impl_ParseInt.val s = (0, false) := by
  unfold impl_ParseInt.val
  split
  · rename_i v _
    rw [if_neg (fun hh => h v hh.1 hh.2.1 (by rw [← itoa_list]; exact hh.2.2.symm))]
  · rfl

theorem bcat (a b : List UInt8) : (⟨a.toArray⟩ : ByteArray) ++ (⟨b.toArray⟩ : ByteArray) = ⟨(a ++ b).toArray⟩ := by
  apply ByteArray.ext
  simp [ByteArray.data_append]
theorem bsize (a : List UInt8) : (⟨a.toArray⟩ : ByteArray).size = a.length := by simp [ByteArray.size]
def fin (x : Int) (l : List UInt8) : ByteArray := if x < 0 then ⟨(45 :: l).toArray⟩ else ⟨l.toArray⟩

/-- One step of the reference's loop: the last digit goes ahead. -/
theorem fstep (k : Nat) (x0 : Int) (acc : List UInt8) (s : Int) (hs : s = 1 ∨ s = -1) (n : Nat) (hn : 0 < n) (hb : n ≤ 9223372036854775808) (ha : acc.length ≤ 1000) (hr : -9223372036854775808 ≤ s * n ∧ s * n ≤ 9223372036854775807) :
    spec_FormatInt.l0 (k + 1) x0 ⟨acc.toArray⟩ (s * n) = spec_FormatInt.l0 k x0 ⟨(UInt8.ofNat (48 + n % 10) :: acc).toArray⟩ (s * (n / 10 : Nat)) := by
  have hone : ∀ v : Int, v = 48 + ((n % 10 : Nat) : Int) → (⟨([UInt8.ofNat (v % 256).toNat]).toArray⟩ : ByteArray) = ⟨([UInt8.ofNat (48 + n % 10)]).toArray⟩ := by
    intro v hv
    rw [show (v % 256).toNat = 48 + n % 10 by omega]
  have hso : ∀ v : Int, strOfNums [v] = (⟨([UInt8.ofNat v.toNat]).toArray⟩ : ByteArray) := fun v => rfl
  simp only [spec_FormatInt.l0]
  rcases hs with rfl | rfl
  · have e : (1 : Int) * (n : Int) = (n : Int) := by omega
    have e2 : (1 : Int) * ((n / 10 : Nat) : Int) = ((n / 10 : Nat) : Int) := by omega
    rw [e] at hr ⊢
    rw [e2]
    have ht : Int.tmod (n : Int) 10 = ((n % 10 : Nat) : Int) := by rw [Int.tmod_eq_emod_of_nonneg (by omega)]; omega
    have hd : Int.tdiv (n : Int) 10 = ((n / 10 : Nat) : Int) := by rw [Int.tdiv_eq_ediv_of_nonneg (by omega)]; omega
    rw [if_neg (by omega), ht, hd, if_neg (by omega), Option.bind_some, w64 (n := 48 + ((n % 10 : Nat) : Int)) (by omega) (by omega), w64 (n := ((n / 10 : Nat) : Int)) (by omega) (by omega), hso, hone _ rfl, bsize, bsize, if_pos (by simp only [List.length_cons, List.length_nil]; omega), bcat]
    rfl
  · have e : (-1 : Int) * (n : Int) = -(n : Int) := by omega
    have e2 : (-1 : Int) * ((n / 10 : Nat) : Int) = -((n / 10 : Nat) : Int) := by omega
    rw [e] at hr ⊢
    rw [e2]
    have ht : Int.tmod (-(n : Int)) 10 = -((n % 10 : Nat) : Int) := by rw [Int.neg_tmod, Int.tmod_eq_emod_of_nonneg (by omega)]; omega
    have hd : Int.tdiv (-(n : Int)) 10 = -((n / 10 : Nat) : Int) := by rw [Int.neg_tdiv, Int.tdiv_eq_ediv_of_nonneg (by omega)]; omega
    rw [if_neg (by omega), ht, hd, w64 (n := -((n / 10 : Nat) : Int)) (by omega) (by omega)]
    by_cases c : -((n % 10 : Nat) : Int) < 0
    · rw [if_pos c, Option.bind_some, show - -((n % 10 : Nat) : Int) = ((n % 10 : Nat) : Int) by omega, w64 (n := ((n % 10 : Nat) : Int)) (by omega) (by omega), w64 (n := 48 + ((n % 10 : Nat) : Int)) (by omega) (by omega), hso, hone _ rfl, bsize, bsize, if_pos (by simp only [List.length_cons, List.length_nil]; omega), bcat]
      rfl
    · rw [if_neg c, Option.bind_some, w64 (n := 48 + -((n % 10 : Nat) : Int)) (by omega) (by omega), hso, hone _ (by omega), bsize, bsize, if_pos (by simp only [List.length_cons, List.length_nil]; omega), bcat]
      rfl
theorem fend (k : Nat) (x0 : Int) (acc : List UInt8) (ha : acc.length ≤ 1000) : spec_FormatInt.l0 (k + 1) x0 ⟨acc.toArray⟩ 0 = some (fin x0 acc) := by
  simp only [spec_FormatInt.l0]
  rw [if_pos trivial, bsize]
  unfold fin
  by_cases c : x0 < 0
  · rw [if_pos c, if_pos c, if_pos (by omega)]
    congr 1
  · rw [if_neg c, if_neg c]
theorem floop (x0 : Int) (s : Int) (hs : s = 1 ∨ s = -1) : ∀ (k n : Nat) (acc : List UInt8), 0 < n → n < 10 ^ k → n ≤ 9223372036854775808 → acc.length + k ≤ 1000 → (-9223372036854775808 ≤ s * n ∧ s * n ≤ 9223372036854775807) →
    spec_FormatInt.l0 (k + 1) x0 ⟨acc.toArray⟩ (s * n) = some (fin x0 (Lib.decDigits n ++ acc)) := by
  intro k
  induction k with
  | zero => intro n acc h0 h1; simp at h1; omega
  | succ k ih =>
    intro n acc h0 h1 h2 h3 hr
    rw [fstep (k + 1) x0 acc s hs n h0 h2 (by omega) hr]
    by_cases c : n < 10
    · rw [show n / 10 = 0 by omega, show s * ((0 : Nat) : Int) = 0 by simp, fend _ _ _ (by simp only [List.length_cons]; omega), Lib.decDigits_one c, show n % 10 = n by omega]
      rfl
    · have hp : 10 ^ (k + 1) = 10 ^ k * 10 := Nat.pow_succ 10 k
      have hr2 : -9223372036854775808 ≤ s * ((n / 10 : Nat) : Int) ∧ s * ((n / 10 : Nat) : Int) ≤ 9223372036854775807 := by rcases hs with rfl | rfl <;> omega
      rw [ih (n / 10) _ (by omega) (by omega) (by omega) (by simp only [List.length_cons]; omega) hr2]
      conv => rhs; rw [Lib.decDigits, dif_neg c]
      rw [List.append_assoc]
      rfl
theorem sFmtInt (x : Int) (h0 : -9223372036854775808 ≤ x) (h1 : x ≤ 9223372036854775807) : spec_FormatInt.f 21 x = some ⟨(Lib.itoa x).toArray⟩ := by
  unfold spec_FormatInt.f Lib.itoa
  by_cases c : x = 0
  · subst c
    rw [if_pos rfl, if_neg (by omega), show (0 : Int).toNat = 0 from rfl, Lib.decDigits_one (by omega)]
    rfl
  · rw [if_neg c]
    by_cases d : x < 0
    · have h := floop x (-1) (Or.inr rfl) 20 x.natAbs [] (by omega) (by omega) (by omega) (by simp) (by omega)
      rw [show (-1 : Int) * (x.natAbs : Int) = x by omega, List.append_nil] at h
      rw [if_pos d]
      unfold fin at h
      rw [if_pos d] at h
      exact h
    · have h := floop x 1 (Or.inl rfl) 20 x.toNat [] (by omega) (by omega) (by omega) (by simp) (by omega)
      rw [show (1 : Int) * (x.toNat : Int) = x by omega, List.append_nil] at h
      rw [if_neg d]
      unfold fin at h
      rw [if_neg d] at h
      exact h

def inR (x lo hi : Int) : Bool := decide (lo ≤ x) && decide (x ≤ hi)
theorem inR_true {x lo hi : Int} : inR x lo hi = true ↔ lo ≤ x ∧ x ≤ hi := by simp [inR]
theorem inR_false {x lo hi : Int} : inR x lo hi = false ↔ ¬ (lo ≤ x ∧ x ≤ hi) := by simp [inR]

theorem sIn (x lo hi : Int) : spec_l1In.f x lo hi = some (inR x lo hi) := by
  unfold spec_l1In.f inR
  by_cases h : lo ≤ x <;> simp [h]

theorem digits_len : ∀ (k n : Nat), 0 < k → n < 10 ^ k → (Lib.decDigits n).length ≤ k := by
  intro k
  induction k with
  | zero => intro n h; omega
  | succ k ih =>
    intro n _ h
    by_cases c : n < 10
    · rw [Lib.decDigits_one c]; simp
    · have hp : 10 ^ (k + 1) = 10 ^ k * 10 := Nat.pow_succ 10 k
      have hk : 0 < k := by
        rcases Nat.eq_zero_or_pos k with e | e
        · subst e; simp at h; omega
        · exact e
      have := ih (n / 10) hk (by omega)
      rw [Lib.decDigits, dif_neg c, List.length_append, List.length_singleton]
      omega
theorem itoa_len (x : Int) (h0 : -9223372036854775808 ≤ x) (h1 : x ≤ 9223372036854775807) : (⟨(Lib.itoa x).toArray⟩ : ByteArray).size ≤ 100 := by
  have e : (⟨(Lib.itoa x).toArray⟩ : ByteArray).size = (Lib.itoa x).length := by simp [ByteArray.size]
  rw [e]
  unfold Lib.itoa
  split
  · have := digits_len 20 x.natAbs (by omega) (by omega)
    rw [List.length_cons]
    omega
  · have := digits_len 20 x.toNat (by omega) (by omega)
    omega

theorem sFmtInt_k (x : Int) (h0 : -9223372036854775808 ≤ x) (h1 : x ≤ 9223372036854775807) : ∀ d, spec_FormatInt.f (21 + d) x = some ⟨(Lib.itoa x).toArray⟩
  | 0 => sFmtInt x h0 h1
  | d + 1 => spec_FormatInt.mono x (21 + d) _ (sFmtInt_k x h0 h1 d)
def finI (s : ByteArray) (n : Int) : Int × Bool := if n > 1000000000000 then (0, false) else if Lib.itoa n = s.toList then (n, true) else (0, false)
def tailI (s : ByteArray) (acc : Nat) (l : List UInt8) : Int × Bool := if l.all isDig = true then finI s (digVal acc l : Nat) else (0, false)
theorem tailI_dig (s : ByteArray) (acc : Nat) (c : UInt8) (r : List UInt8) (h : isDig c = true) : tailI s acc (c :: r) = tailI s (10 * acc + (c.toNat - 48)) r := by
  unfold tailI
  by_cases hr : r.all isDig = true
  · rw [if_pos (by rw [List.all_cons, h, hr]; rfl), if_pos hr]
    rfl
  · rw [if_neg (by rw [List.all_cons, Bool.and_eq_true]; exact fun hh => hr hh.2), if_neg hr]
theorem tailI_no (s : ByteArray) (acc : Nat) (c : UInt8) (r : List UInt8) (h : ¬ isDig c = true) : tailI s acc (c :: r) = (0, false) := by
  unfold tailI
  rw [if_neg (by rw [List.all_cons, Bool.and_eq_true]; exact fun hh => h hh.1)]
theorem bt_list (s : ByteArray) (i : Nat) (h : i < s.data.toList.length) : bt s (i : Int) = ((s.data.toList[i].toNat : Nat) : Int) := by
  unfold bt
  have h' : (i : Int).toNat < s.size := by
    rw [Int.toNat_natCast]
    rw [Array.length_toList] at h
    exact h
  rw [dif_pos h']
  rfl
theorem sParse_l0 (s : ByteArray) (hs : s.data.toList.length ≤ 13) : ∀ (d k i acc : Nat), i + d = s.data.toList.length → d + 30 ≤ k → acc < 10 ^ i →
    spec_ParseInt.l0 k s (acc : Int) (i : Int) = some (tailI s acc (s.data.toList.drop i)) := by
  have hsz : s.size = s.data.toList.length := by rw [Array.length_toList]; rfl
  have hp13 : ∀ i, i ≤ 13 → 10 ^ i ≤ 10000000000000 := fun i hi => Nat.pow_le_pow_right (by omega) hi
  intro d
  induction d with
  | zero =>
    intro k i acc hd hk ha
    obtain ⟨k, rfl⟩ : ∃ m, k = 21 + m + 1 := ⟨k - 22, by omega⟩
    have hb := hp13 i (by omega)
    simp only [spec_ParseInt.l0]
    rw [if_neg (by omega), List.drop_eq_nil_of_le (by omega)]
    unfold tailI
    rw [if_pos (show ([] : List UInt8).all isDig = true from rfl)]
    unfold finI
    show (if (acc : Int) > 1000000000000 then _ else _) = some (if ((acc : Nat) : Int) > 1000000000000 then _ else _)
    by_cases c : (acc : Int) > 1000000000000
    · rw [if_pos c, if_pos c]
    · rw [if_neg c, if_neg c, sFmtInt_k (acc : Int) (by omega) (by omega) k, Option.bind_some, itoa_list]
      show _ = some (if Lib.itoa ((acc : Nat) : Int) = s.toList then _ else _)
      by_cases c2 : Lib.itoa (acc : Int) = s.toList
      · rw [if_pos c2, if_pos c2]; rfl
      · rw [if_neg c2, if_neg c2]
  | succ d ih =>
    intro k i acc hd hk ha
    obtain ⟨k, rfl⟩ : ∃ m, k = m + 1 := ⟨k - 1, by omega⟩
    have hi : i < s.data.toList.length := by omega
    have hb := hp13 i (by omega)
    have hd0 : s.data.toList.drop i = s.data.toList[i] :: s.data.toList.drop (i + 1) := List.drop_eq_getElem_cons hi
    have h255 : s.data.toList[i].toNat < 256 := s.data.toList[i].toNat_lt
    simp only [spec_ParseInt.l0]
    rw [if_pos (by omega), if_pos (by omega), bt_list s i hi, w64 (by omega) (by omega), sIn, Option.bind_some, hd0]
    by_cases c : isDig s.data.toList[i] = true
    · rw [tailI_dig _ _ _ _ c]
      rw [isDig_iff] at c
      rw [if_pos (by rw [inR_true]; omega)]
      have e1 : wrap64 (wrap64 (10 * (acc : Int)) + (((s.data.toList[i].toNat : Nat) : Int) - 48) % 256) = ((10 * acc + (s.data.toList[i].toNat - 48) : Nat) : Int) := by
        rw [w64 (n := 10 * (acc : Int)) (by omega) (by omega), w64 (by omega) (by omega)]
        omega
      rw [e1, show wrap64 ((i : Int) + 1) = ((i + 1 : Nat) : Int) by rw [w64 (by omega) (by omega)]; rfl, ih k (i + 1) _ (by omega) (by omega) (by rw [Nat.pow_succ]; omega)]
    · rw [tailI_no _ _ _ _ c, if_neg (by
        rw [inR_true]
        intro hh
        exact c (by rw [isDig_iff]; omega))]
theorem sParse (s : ByteArray) (k : Nat) (hk : 50 ≤ k) : spec_ParseInt.f k s = some (impl_ParseInt.val s) := by
  have hsz : s.size = s.data.toList.length := by rw [Array.length_toList]; rfl
  have hlist : s.toList = s.data.toList := ByteArray.toList_eq s
  unfold spec_ParseInt.f
  rw [sIn, Option.bind_some]
  by_cases hex : ∃ v, 0 ≤ v ∧ v ≤ 1000000000000 ∧ s.toList = Lib.itoa v
  · obtain ⟨v, h0, h1, hl⟩ := hex
    rw [iParse_yes s v h0 h1 hl]
    have e : s.data.toList = Lib.decDigits v.toNat := by rw [← hlist, hl, itoa_nn v h0]
    have hp := decDigits_pos v.toNat
    have hle := digits_len 13 v.toNat (by omega) (by omega)
    rw [← e] at hp hle
    rw [if_pos (by rw [inR_true]; omega)]
    have := sParse_l0 s hle s.data.toList.length k 0 0 (by omega) (by omega) (by simp)
    refine this.trans ?_
    unfold tailI
    rw [List.drop_zero, e, if_pos (decDigits_all _), decDigits_val]
    unfold finI
    rw [Int.toNat_of_nonneg h0, if_neg (by omega), if_pos hl.symm]
  · have hno : ∀ v, 0 ≤ v → v ≤ 1000000000000 → s.toList ≠ Lib.itoa v := fun v h0 h1 hl => hex ⟨v, h0, h1, hl⟩
    rw [iParse_no s hno]
    by_cases hr : inR (s.size : Int) 1 13 = true
    · rw [if_pos hr]
      rw [inR_true] at hr
      have := sParse_l0 s (by omega) s.data.toList.length k 0 0 (by omega) (by omega) (by simp)
      refine this.trans ?_
      unfold tailI
      split
      · unfold finI
        split
        · rfl
        · rw [if_neg (fun hh => hno _ (by omega) (by omega) hh.symm)]
      · rfl
    · rw [if_neg hr]

theorem FnExactParseInt : laws_FnExactParseInt.Pure := by
  intro s hs
  refine ⟨50, ?_⟩
  unfold laws_FnExactParseInt.f
  by_cases h : (s.size : Int) > 1048576
  · rw [if_pos h]
  · rw [if_neg h, sParse s 50 (by omega)]
    unfold impl_ParseInt.f
    rw [if_pos hs]
    simp only [Option.bind_some, if_true, bne_self_eq_false]
    rfl

end Go.Proofs.YthanecnkknimpaaDoor.Pure
