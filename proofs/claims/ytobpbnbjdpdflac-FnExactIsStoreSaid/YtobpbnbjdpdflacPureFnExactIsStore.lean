/- FnExactIsStore holds: for every list of facts the program's IsStore and the reference's agree, and the list is not changed. No conditions. -/
import Derived.Test.YtobpbnbjdpdflacPFnExactIsStorex6
import Derived.OpenShut
namespace Go.Proofs.Ytobpbnbjdpdflac.Pure
open Go.RowKit Go.Proofs.Ytobpbnbjdpdflac.PFnExactIsStore Go.Proofs.YtobpbnbjdpdflacW.PrintWords Go.Proofs.YtobpbnbjdpdflacW.PrintLast
set_option linter.unusedVariables false
set_option linter.unusedSimpArgs false

theorem w64 {n : Int} (h : -9223372036854775808 ≤ n) (h' : n ≤ 9223372036854775807) : wrap64 n = n := by unfold wrap64; omega
theorem w64_lo (n : Int) : -9223372036854775808 ≤ wrap64 n := by unfold wrap64; omega
theorem w64_hi (n : Int) : wrap64 n ≤ 9223372036854775807 := by unfold wrap64; omega
theorem of_wf {n : Int} (h : (Lit.int .i64 n).wf = true) : -9223372036854775808 ≤ n ∧ n ≤ 9223372036854775807 := bounds_i64 h
theorem of_wf8 {n : Int} (h : (Lit.int .u8 n).wf = true) : 0 ≤ n ∧ n ≤ 255 := bounds_u8 h
theorem and_le (x : Int) (m : Nat) (hm : m < 9223372036854775808) : 0 ≤ bits .and .i64 x (m : Int) ∧ bits .and .i64 x (m : Int) ≤ m := by
  unfold bits
  rw [Go.IntKind.wrap_i64]
  simp only [BitVec.toNat_and]
  have h1 : (BitVec.ofInt IntKind.i64.bits (m : Int)).toNat = m := by
    rw [BitVec.ofInt_natCast, BitVec.toNat_ofNat]
    exact Nat.mod_eq_of_lt (by show m < 2 ^ 64; omega)
  rw [h1]
  have h2 : (BitVec.ofInt IntKind.i64.bits x).toNat &&& m ≤ m := Nat.and_le_right
  omega
theorem and255 (x : Int) : 0 ≤ bits .and .i64 x 255 ∧ bits .and .i64 x 255 ≤ 255 := and_le x 255 (by decide)
theorem tmod_lt {x n : Int} (h0 : 0 ≤ x) (hn : 0 < n) : 0 ≤ Int.tmod x n ∧ Int.tmod x n < n := by
  rw [Int.tmod_eq_emod_of_nonneg h0]
  exact ⟨Int.emod_nonneg _ (by omega), Int.emod_lt_of_pos _ hn⟩

theorem rd_nat (x : List Int) (i : Nat) (h : i < x.length) : rd x (i : Int) = x[i] := by
  unfold rd
  rw [List.getD_eq_getElem?_getD, Int.toNat_natCast, List.getElem?_eq_getElem h]
  rfl
theorem cast_succ (i : Nat) (h : i < 4611686018427387904) : wrap64 ((i : Int) + 1) = ((i + 1 : Nat) : Int) := by
  rw [w64 (by omega) (by omega)]
  rfl
theorem drop_cons {α : Type} (x : List α) (i : Nat) (h : i < x.length) : x.drop i = x[i] :: x.drop (i + 1) := List.drop_eq_getElem_cons h

instance : DecidableEq S84 := fun a b =>
  if h : a.f0 = b.f0 ∧ a.f1 = b.f1 ∧ a.f2 = b.f2 ∧ a.f3 = b.f3 ∧ a.f4 = b.f4 ∧ a.f5 = b.f5 then .isTrue (by
    obtain ⟨h0, h1, h2, h3, h4, h5⟩ := h
    cases a; cases b
    simp only at h0 h1 h2 h3 h4 h5
    subst h0 h1 h2 h3 h4 h5
    rfl) else .isFalse (fun e => h (by rw [e]; exact ⟨rfl, rfl, rfl, rfl, rfl, rfl⟩))
theorem rdF_nat (x : List S84) (i : Nat) (h : i < x.length) : rd_T84 x (i : Int) = x[i] := by
  unfold rd_T84
  rw [List.getD_eq_getElem?_getD, Int.toNat_natCast, List.getElem?_eq_getElem h]
  rfl
theorem neqF (a b : S84) : (!((a.f0) == (b.f0)) || (!((a.f1) == (b.f1)) || (!((a.f2) == (b.f2)) || (!((a.f3) == (b.f3)) || (!((a.f4) == (b.f4)) || (!((a.f5) == (b.f5)))))))) = !decide (a = b) := by
  by_cases h : a = b
  · subst h
    simp
  · rw [decide_eq_false h]
    simp only [Bool.not_false]
    cases c : (!((a.f0) == (b.f0)) || (!((a.f1) == (b.f1)) || (!((a.f2) == (b.f2)) || (!((a.f3) == (b.f3)) || (!((a.f4) == (b.f4)) || (!((a.f5) == (b.f5))))))))
    · simp only [Bool.or_eq_false_iff, Bool.not_eq_false', beq_iff_eq] at c
      exfalso
      apply h
      obtain ⟨h0, h1, h2, h3, h4, h5⟩ := c
      cases a; cases b
      simp only at h0 h1 h2 h3 h4 h5
      subst h0 h1 h2 h3 h4 h5
      rfl
    · rfl

def toI (x : S86) : S84 := ⟨x.f0, x.f1, x.f2, x.f3, x.f4, x.f5⟩
theorem rdL_nat (x : List S86) (i : Nat) (h : i < x.length) : rd_T86 x (i : Int) = x[i] := by
  unfold rd_T86
  rw [List.getD_eq_getElem?_getD, Int.toNat_natCast, List.getElem?_eq_getElem h]
  rfl
theorem szFact (l : List S86) (a : Int) (ha : 0 ≤ a) (ha' : a ≤ 1048576) (hl : l.length ≤ 140737488351232) : laws_szFactS.f l a = some (if a - l.length < 0 then -1 else a - l.length) := by
  unfold laws_szFactS.f
  rw [w64 (n := a - l.length) (by omega) (by omega)]
  split <;> rfl
theorem toFactS_l0 (x : List S86) (hx : x.length ≤ 140737488351232) : ∀ (d k : Nat) (y : List S84) (i : Nat), i + d = x.length → d < k → y.length = x.length → (∀ j : Nat, j < i → y[j]? = (x.map toI)[j]?) → laws_toFactS.l0 k x y (i : Int) = some (x.map toI) := by
  intro d
  induction d with
  | zero =>
    intro k y i hd hk hl hj
    obtain ⟨k, rfl⟩ : ∃ m, k = m + 1 := ⟨k - 1, by omega⟩
    simp only [laws_toFactS.l0]
    rw [if_neg (by omega)]
    congr 1
    apply List.ext_getElem?
    intro j
    by_cases hj' : j < i
    · exact hj j hj'
    · rw [List.getElem?_eq_none (by omega), List.getElem?_eq_none (by simp; omega)]
  | succ d ih =>
    intro k y i hd hk hl hj
    obtain ⟨k, rfl⟩ : ∃ m, k = m + 1 := ⟨k - 1, by omega⟩
    simp only [laws_toFactS.l0, laws_toFact.f, Option.bind_some]
    rw [if_pos (by omega), if_pos (by omega), if_pos (by omega), cast_succ i (by omega), rdL_nat x i (by omega)]
    refine ih k _ (i + 1) (by omega) (by omega) (by simpa using hl) ?_
    intro j hj1
    rw [Int.toNat_natCast, List.getElem?_set]
    by_cases e : i = j
    · subst e
      rw [if_pos rfl, if_pos (by omega), List.getElem?_map, List.getElem?_eq_getElem (by omega)]
      rfl
    · rw [if_neg e]
      exact hj j (by omega)
theorem toFactS_some (x : List S86) (hx : x.length ≤ 1048576) (k : Nat) (hk : x.length < k) : laws_toFactS.f k x = some (x.map toI) := by
  unfold laws_toFactS.f
  rw [if_pos (by omega), if_pos (by omega)]
  exact toFactS_l0 x (by omega) x.length k _ 0 (by omega) hk (by simp) (by omega)

theorem eqFact_some (a b : S84) : laws_eqFact.f a.f0 a.f1 a.f2 a.f3 a.f4 a.f5 b.f0 b.f1 b.f2 b.f3 b.f4 b.f5 = some (decide (a = b)) := by
  unfold laws_eqFact.f
  by_cases h : a = b
  · subst h
    simp
  · rw [decide_eq_false h]
    by_cases h0 : a.f0 = b.f0
    · by_cases h1 : a.f1 = b.f1
      · by_cases h2 : a.f2 = b.f2
        · by_cases h3 : a.f3 = b.f3
          · by_cases h4 : a.f4 = b.f4
            · by_cases h5 : a.f5 = b.f5
              · exfalso
                apply h
                cases a; cases b
                simp only at h0 h1 h2 h3 h4 h5
                subst h0 h1 h2 h3 h4 h5
                rfl
              · simp [h0, h1, h2, h3, h4, h5]
            · simp [h0, h1, h2, h3, h4]
          · simp [h0, h1, h2, h3]
        · simp [h0, h1, h2]
      · simp [h0, h1]
    · simp [h0]
theorem eqFactS_l0 (x y : List S84) (hx : x.length ≤ 140737488351232) (hl : x.length = y.length) : ∀ (d k i : Nat), i + d = x.length → d < k → laws_eqFactS.l0 k x y (i : Int) = some (decide (x.drop i = y.drop i)) := by
  intro d
  induction d with
  | zero =>
    intro k i hd hk
    obtain ⟨k, rfl⟩ : ∃ m, k = m + 1 := ⟨k - 1, by omega⟩
    simp only [laws_eqFactS.l0]
    rw [if_neg (by omega), List.drop_eq_nil_of_le (by omega), List.drop_eq_nil_of_le (by omega)]
    simp
  | succ d ih =>
    intro k i hd hk
    obtain ⟨k, rfl⟩ : ∃ m, k = m + 1 := ⟨k - 1, by omega⟩
    simp only [laws_eqFactS.l0]
    rw [if_pos (by omega), if_pos (by omega), if_pos (by omega), cast_succ i (by omega), rdF_nat x i (by omega), rdF_nat y i (by omega), eqFact_some, ih k (i + 1) (by omega) (by omega), drop_cons x i (by omega), drop_cons y i (by omega)]
    simp only [Option.bind_some, decide_eq_true_eq]
    by_cases e : x[i] = y[i]
    · rw [if_pos e]
      simp only [List.cons.injEq, e, true_and]
    · rw [if_neg e]
      simp only [List.cons.injEq, e, false_and, decide_false]
theorem eqFactS_some (x y : List S84) (hx : x.length ≤ 140737488351232) (k : Nat) (hk : x.length < k) : laws_eqFactS.f k x y = some (decide (x = y)) := by
  unfold laws_eqFactS.f
  by_cases h : x.length = y.length
  · rw [if_pos (by omega)]
    exact eqFactS_l0 x y hx h x.length k 0 (by omega) hk
  · rw [if_neg (by omega)]
    have : x ≠ y := fun e => h (by rw [e])
    simp [this]

def inR (x lo hi : Int) : Bool := decide (lo ≤ x) && decide (x ≤ hi)
theorem inR_true {x lo hi : Int} : inR x lo hi = true ↔ lo ≤ x ∧ x ≤ hi := by simp [inR]
theorem inR_false {x lo hi : Int} : inR x lo hi = false ↔ ¬ (lo ≤ x ∧ x ≤ hi) := by simp [inR]

def hasKind (x k : Int) : Bool := inR x 10 49 && decide (x / 10 = k)
theorem tdiv10 {x : Int} (h : inR x 10 49 = true) : wrap64 (Int.tdiv x 10) = x / 10 := by
  rw [inR_true] at h
  rw [Int.tdiv_eq_ediv_of_nonneg (by omega)]
  exact w64 (by omega) (by omega)
theorem tmod10 {x : Int} (h : inR x 10 49 = true) : Int.tmod x 10 = x % 10 := by
  rw [inR_true] at h
  exact Int.tmod_eq_emod_of_nonneg (by omega)

/-- What makes a fact. -/
def claimB (a0 a1 a2 : Int) : Bool :=
  if a0 = 1 then hasKind a1 1 && inR a2 0 5 else if a0 = 2 then hasKind a1 1 && hasKind a2 2 else if a0 = 3 then hasKind a1 2 && inR a2 0 3 else if a0 = 4 then hasKind a1 3 && inR a2 0 3 else false
def factB (a0 a1 a2 a3 a4 a5 : Int) : Bool := claimB a0 a1 a2 && (inR a3 0 9 && (inR a4 0 10000 && (inR a5 0 10000 && decide (a4 ≤ a5))))

def sameB (a0 a1 a2 a3 b0 b1 b2 b3 : Int) : Bool := decide (a0 = b0 ∧ a1 = b1 ∧ a2 = b2 ∧ a3 = b3)
def beforeB (a0 a1 a2 a3 b0 b1 b2 b3 : Int) : Bool := decide (a0 < b0 ∨ (a0 = b0 ∧ (a1 < b1 ∨ (a1 = b1 ∧ (a2 < b2 ∨ (a2 = b2 ∧ a3 < b3))))))

def factF (x : S84) : Bool := factB x.f0 x.f1 x.f2 x.f3 x.f4 x.f5
def befF (x y : S84) : Bool := beforeB x.f0 x.f1 x.f2 x.f3 y.f0 y.f1 y.f2 y.f3
def samF (x y : S84) : Bool := sameB x.f0 x.f1 x.f2 x.f3 y.f0 y.f1 y.f2 y.f3
def chain : Option S84 → List S84 → Bool
  | _, [] => true
  | none, x :: r => factF x && chain (some x) r
  | some p, x :: r => factF x && (befF p x && chain (some x) r)
def isStoreL (xs : List S84) : Bool := chain none xs && decide (xs.length ≤ 30)
def prevOf (xs : List S84) (i : Nat) : Option S84 := if i = 0 then none else xs[i - 1]?
theorem prevOf_succ (xs : List S84) (i : Nat) (h : i < xs.length) : prevOf xs (i + 1) = some xs[i] := by
  unfold prevOf
  rw [if_neg (by omega), Nat.add_sub_cancel, List.getElem?_eq_getElem h]
theorem rdF_prev (xs : List S84) (i : Nat) (h0 : 0 < i) (h : i < xs.length) (hx : xs.length ≤ 140737488351232) : rd_T84 xs ((i : Int) - 1) = xs[i - 1] := by
  rw [show (i : Int) - 1 = ((i - 1 : Nat) : Int) by omega, rdF_nat xs (i - 1) (by omega)]

theorem sIn (x lo hi : Int) : spec_l1In.f x lo hi = some (inR x lo hi) := by
  unfold spec_l1In.f inR
  by_cases h : lo ≤ x <;> simp [h]

theorem sName (x : Int) : spec_IsName.f x = some (inR x 10 49) := by unfold spec_IsName.f; rw [sIn]; rfl

theorem sHasKind (x k : Int) : spec_HasKind.f x k = some (hasKind x k) := by
  unfold spec_HasKind.f hasKind
  rw [sName]
  cases h : inR x 10 49
  · simp
  · simp only [Option.bind_some, if_true, Bool.true_and]
    rw [tdiv10 h]
    rfl

theorem sTime (x : Int) : spec_IsTime.f x = some (inR x 0 10000) := by unfold spec_IsTime.f; rw [sIn]; rfl

theorem sFact (a0 a1 a2 a3 a4 a5 : Int) : spec_IsFact.f a0 a1 a2 a3 a4 a5 = some (factB a0 a1 a2 a3 a4 a5) := by
  unfold spec_IsFact.f factB claimB
  simp only [sHasKind, sIn, sTime, Option.bind_some]
  by_cases h1 : a0 = 1
  · simp only [h1, if_true]
    cases hasKind a1 1 <;> cases inR a2 0 5 <;> cases inR a3 0 9 <;> cases inR a4 0 10000 <;> cases inR a5 0 10000 <;> simp
  · by_cases h2 : a0 = 2
    · simp only [h2, if_true, if_false, show ¬ ((2 : Int) = 1) by decide]
      cases hasKind a1 1 <;> cases hasKind a2 2 <;> cases inR a3 0 9 <;> cases inR a4 0 10000 <;> cases inR a5 0 10000 <;> simp
    · by_cases h3 : a0 = 3
      · simp only [h3, if_true, if_false, show ¬ ((3 : Int) = 1) by decide, show ¬ ((3 : Int) = 2) by decide]
        cases hasKind a1 2 <;> cases inR a2 0 3 <;> cases inR a3 0 9 <;> cases inR a4 0 10000 <;> cases inR a5 0 10000 <;> simp
      · by_cases h4 : a0 = 4
        · simp only [h4, if_true, if_false, show ¬ ((4 : Int) = 1) by decide, show ¬ ((4 : Int) = 2) by decide, show ¬ ((4 : Int) = 3) by decide]
          cases hasKind a1 3 <;> cases inR a2 0 3 <;> cases inR a3 0 9 <;> cases inR a4 0 10000 <;> cases inR a5 0 10000 <;> simp
        · simp only [h1, h2, h3, h4, if_false]
          simp

theorem sBefore (a0 a1 a2 a3 a4 a5 b0 b1 b2 b3 b4 b5 : Int) : spec_FactBefore.f a0 a1 a2 a3 a4 a5 b0 b1 b2 b3 b4 b5 = some (beforeB a0 a1 a2 a3 b0 b1 b2 b3) := by
  unfold spec_FactBefore.f beforeB
  by_cases h0 : a0 = b0
  · by_cases h1 : a1 = b1
    · by_cases h2 : a2 = b2
      · rw [if_pos h0, if_pos h1, if_pos h2]
        congr 1
        rw [decide_eq_decide]
        omega
      · rw [if_pos h0, if_pos h1, if_neg h2]
        congr 1
        rw [decide_eq_decide]
        omega
    · rw [if_pos h0, if_neg h1]
      congr 1
      rw [decide_eq_decide]
      omega
  · rw [if_neg h0]
    congr 1
    rw [decide_eq_decide]
    omega

theorem sStore_l0 (xs : List S84) (hx : xs.length ≤ 140737488351232) : ∀ (d k i : Nat), i + d = xs.length → d < k → spec_IsStore.l0 k xs (i : Int) = some (chain (prevOf xs i) (xs.drop i) && decide (xs.length ≤ 30)) := by
  intro d
  induction d with
  | zero =>
    intro k i hd hk
    obtain ⟨k, rfl⟩ : ∃ m, k = m + 1 := ⟨k - 1, by omega⟩
    simp only [spec_IsStore.l0]
    rw [if_neg (by omega), List.drop_eq_nil_of_le (by omega)]
    simp only [chain, Bool.true_and]
    congr 1
    rw [decide_eq_decide]
    omega
  | succ d ih =>
    intro k i hd hk
    obtain ⟨k, rfl⟩ : ∃ m, k = m + 1 := ⟨k - 1, by omega⟩
    simp only [spec_IsStore.l0]
    rw [if_pos (by omega), if_pos (by omega), rdF_nat xs i (by omega), sFact, Option.bind_some, cast_succ i (by omega), ih k (i + 1) (by omega) (by omega), prevOf_succ xs i (by omega), drop_cons xs i (by omega)]
    by_cases c : i = 0
    · subst c
      rw [if_neg (show ¬ (((0 : Nat) : Int) > 0) by omega)]
      simp only [prevOf, if_true, chain]
      show (if factF xs[0] = true then _ else _) = _
      cases factF xs[0] <;> simp
    · rw [if_pos (show (i : Int) > 0 by omega), w64 (n := (i : Int) - 1) (by omega) (by omega), if_pos (show (0 : Int) ≤ (i : Int) - 1 by omega), if_pos (show (i : Int) - 1 < (xs.length : Int) by omega), rdF_prev xs i (by omega) (by omega) hx, sBefore, Option.bind_some]
      simp only [prevOf, if_neg c, List.getElem?_eq_getElem (show i - 1 < xs.length by omega), chain]
      show (if factF xs[i] = true then (if befF xs[i - 1] xs[i] = true then _ else _) else _) = _
      cases factF xs[i] <;> cases befF xs[i - 1] xs[i] <;> simp
theorem sStore (xs : List S84) (hx : xs.length ≤ 140737488351232) (k : Nat) (hk : xs.length < k) : spec_IsStore.f k xs = some (isStoreL xs) := sStore_l0 xs hx xs.length k 0 (by omega) hk

theorem iIn (x lo hi : Int) : impl_InRange.f x lo hi = some (inR x lo hi) := by
  unfold impl_InRange.f inR
  by_cases h : lo ≤ x <;> simp [h]

theorem iName (x : Int) : impl_IsName.f x = some (inR x 10 49) := by unfold impl_IsName.f; rw [iIn]; rfl

theorem iKindOf (x : Int) : impl_KindOf.f x = some (if inR x 10 49 = true then x / 10 else 0) := by
  unfold impl_KindOf.f
  rw [iName]
  cases h : inR x 10 49
  · simp
  · simp only [Option.bind_some, if_true]
    rw [tdiv10 h]

theorem iHasKind (x k : Int) : impl_HasKind.f x k = some (hasKind x k) := by
  unfold impl_HasKind.f hasKind
  rw [iName, iKindOf]
  cases h : inR x 10 49
  · simp
  · simp only [Option.bind_some, if_true, Bool.true_and]
    rfl

theorem iTime (x : Int) : impl_IsTime.f x = some (inR x 0 10000) := by unfold impl_IsTime.f; rw [iIn]; rfl

theorem iClaim (a0 a1 a2 a3 a4 a5 : Int) : impl_isClaim.f a0 a1 a2 a3 a4 a5 = some (claimB a0 a1 a2) := by
  unfold impl_isClaim.f claimB
  simp only [iHasKind, iIn, Option.bind_some]
  by_cases h1 : a0 = 1
  · simp only [h1, if_true]
    cases hasKind a1 1 <;> simp
  · by_cases h2 : a0 = 2
    · simp only [h2, if_true, if_false, show ¬ ((2 : Int) = 1) by decide]
      cases hasKind a1 1 <;> simp
    · by_cases h3 : a0 = 3
      · simp only [h3, if_true, if_false, show ¬ ((3 : Int) = 1) by decide, show ¬ ((3 : Int) = 2) by decide]
        cases hasKind a1 2 <;> simp
      · by_cases h4 : a0 = 4
        · simp only [h4, if_true, if_false, show ¬ ((4 : Int) = 1) by decide, show ¬ ((4 : Int) = 2) by decide, show ¬ ((4 : Int) = 3) by decide]
          cases hasKind a1 3 <;> simp
        · simp only [h1, h2, h3, h4, if_false]
theorem iFact (a0 a1 a2 a3 a4 a5 : Int) : impl_IsFact.f a0 a1 a2 a3 a4 a5 = some (factB a0 a1 a2 a3 a4 a5) := by
  unfold impl_IsFact.f factB
  simp only [iClaim, iIn, iTime, Option.bind_some]
  cases claimB a0 a1 a2 <;> cases inR a3 0 9 <;> cases inR a4 0 10000 <;> cases inR a5 0 10000 <;> simp

theorem iCmp (a0 a1 a2 a3 a4 a5 b0 b1 b2 b3 b4 b5 : Int) : ∃ c, impl_compareClaims.f a0 a1 a2 a3 a4 a5 b0 b1 b2 b3 b4 b5 = some c ∧ (c = 0 ↔ sameB a0 a1 a2 a3 b0 b1 b2 b3 = true) ∧ (c < 0 ↔ beforeB a0 a1 a2 a3 b0 b1 b2 b3 = true) := by
  refine ⟨_, rfl, ?_, ?_⟩
  · unfold sameB
    rw [decide_eq_true_iff]
    repeat' split
    all_goals omega
  · unfold beforeB
    rw [decide_eq_true_iff]
    repeat' split
    all_goals omega

theorem iBefore (a0 a1 a2 a3 a4 a5 b0 b1 b2 b3 b4 b5 : Int) : impl_FactBefore.f a0 a1 a2 a3 a4 a5 b0 b1 b2 b3 b4 b5 = some (beforeB a0 a1 a2 a3 b0 b1 b2 b3) := by
  obtain ⟨c, e, _, h⟩ := iCmp a0 a1 a2 a3 a4 a5 b0 b1 b2 b3 b4 b5
  unfold impl_FactBefore.f
  rw [e, Option.bind_some]
  congr 1
  rw [Bool.eq_iff_iff, ← h]
  simp

theorem iStore_l0 (xs : List S84) (hx : xs.length ≤ 140737488351232) : ∀ (d k i : Nat), i + d = xs.length → d < k → impl_IsStore.l0 k xs xs (xs.length : Int) (i : Int) = some (chain (prevOf xs i) (xs.drop i) && decide (xs.length ≤ 30)) := by
  intro d
  induction d with
  | zero =>
    intro k i hd hk
    obtain ⟨k, rfl⟩ : ∃ m, k = m + 1 := ⟨k - 1, by omega⟩
    simp only [impl_IsStore.l0]
    rw [if_neg (by omega), List.drop_eq_nil_of_le (by omega)]
    simp only [chain, Bool.true_and]
    congr 1
    rw [decide_eq_decide]
    omega
  | succ d ih =>
    intro k i hd hk
    obtain ⟨k, rfl⟩ : ∃ m, k = m + 1 := ⟨k - 1, by omega⟩
    simp only [impl_IsStore.l0]
    rw [if_pos (by omega), if_pos (by omega), if_pos (by omega), rdF_nat xs i (by omega), iFact, Option.bind_some, cast_succ i (by omega), ih k (i + 1) (by omega) (by omega), prevOf_succ xs i (by omega), drop_cons xs i (by omega)]
    by_cases c : i = 0
    · subst c
      rw [if_neg (show ¬ (((0 : Nat) : Int) > 0) by omega)]
      simp only [prevOf, if_true, chain]
      show (if factF xs[0] = true then _ else _) = _
      cases factF xs[0] <;> simp
    · rw [if_pos (show (i : Int) > 0 by omega), w64 (n := (i : Int) - 1) (by omega) (by omega), if_pos (show (0 : Int) ≤ (i : Int) - 1 by omega), if_pos (show (i : Int) - 1 < (xs.length : Int) by omega), rdF_prev xs i (by omega) (by omega) hx, iBefore, Option.bind_some]
      simp only [prevOf, if_neg c, List.getElem?_eq_getElem (show i - 1 < xs.length by omega), chain]
      show (if factF xs[i] = true then (if befF xs[i - 1] xs[i] = true then _ else _) else _) = _
      cases factF xs[i] <;> cases befF xs[i - 1] xs[i] <;> simp
theorem iStore (xs : List S84) (hx : xs.length ≤ 140737488351232) (k : Nat) (hk : xs.length < k) : impl_IsStore.f k xs = some (isStoreL xs) := iStore_l0 xs hx xs.length k 0 (by omega) hk

theorem FnExactIsStore : laws_FnExactIsStore.Pure := by
  intro a ha _
  refine ⟨a.length + 1, ?_⟩
  unfold laws_FnExactIsStore.f
  rw [szFact a 1048576 (by omega) (by omega) (by omega)]
  simp only [Option.bind_some]
  by_cases h1 : (1048576 : Int) - a.length < 0
  · rw [if_pos h1]; rfl
  · rw [if_neg h1, if_neg h1]
    simp only [toFactS_some a (by omega) _ (show a.length < a.length + 1 by omega), Option.bind_some, sStore (a.map toI) (by simp; omega) _ (show (a.map toI).length < a.length + 1 by simp), iStore (a.map toI) (by simp; omega) _ (show (a.map toI).length < a.length + 1 by simp),
      eqFactS_some (a.map toI) (a.map toI) (by simp; omega) _ (show (a.map toI).length < a.length + 1 by simp)]
    simp

end Go.Proofs.Ytobpbnbjdpdflac.Pure
