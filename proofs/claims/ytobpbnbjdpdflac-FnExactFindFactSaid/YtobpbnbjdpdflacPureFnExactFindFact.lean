/- FnExactFindFact holds: for every list of facts, kind, subject, value, time and age the program's FindFact and the reference's agree, and the list is not changed. No conditions. -/
import Derived.Test.YtobpbnbjdpdflacPFnExactFindFactx4
import Derived.OpenShut
namespace Go.Proofs.Ytobpbnbjdpdflac.Pure
open Go.RowKit Go.Proofs.Ytobpbnbjdpdflac.PFnExactFindFact Go.Proofs.YtobpbnbjdpdflacW.PrintWords Go.Proofs.YtobpbnbjdpdflacW.PrintLast
set_option linter.unusedVariables false
set_option linter.unusedSimpArgs false

theorem w64 {n : Int} (h : -9223372036854775808 ≤ n) (h' : n ≤ 9223372036854775807) : wrap64 n = n := by unfold wrap64; omega
theorem w64_lo (n : Int) : -9223372036854775808 ≤ wrap64 n := by unfold wrap64; omega
theorem w64_hi (n : Int) : wrap64 n ≤ 9223372036854775807 := by unfold wrap64; omega
theorem of_wf {n : Int} (h : (Lit.int .i64 n).wf = true) : -9223372036854775808 ≤ n ∧ n ≤ 9223372036854775807 := bounds_i64 h
theorem of_wf8 {n : Int} (h : (Lit.int .u8 n).wf = true) : 0 ≤ n ∧ n ≤ 255 := bounds_u8 h
theorem and_le (x : Int) (m : Nat) (hm : m < 9223372036854775808) : 0 ≤ bits .and .i64 x (m : Int) ∧ bits .and .i64 x (m : Int) ≤ m := by
  unfold bits
  rw [Go.IntKind.wrap_i64]
  simp only [BitVec.toNat_and]
  have h1 : (BitVec.ofInt IntKind.i64.bits (m : Int)).toNat = m := by
    rw [BitVec.ofInt_natCast, BitVec.toNat_ofNat]
    exact Nat.mod_eq_of_lt (by show m < 2 ^ 64; omega)
  rw [h1]
  have h2 : (BitVec.ofInt IntKind.i64.bits x).toNat &&& m ≤ m := Nat.and_le_right
  omega
theorem and255 (x : Int) : 0 ≤ bits .and .i64 x 255 ∧ bits .and .i64 x 255 ≤ 255 := and_le x 255 (by decide)
theorem tmod_lt {x n : Int} (h0 : 0 ≤ x) (hn : 0 < n) : 0 ≤ Int.tmod x n ∧ Int.tmod x n < n := by
  rw [Int.tmod_eq_emod_of_nonneg h0]
  exact ⟨Int.emod_nonneg _ (by omega), Int.emod_lt_of_pos _ hn⟩

theorem rd_nat (x : List Int) (i : Nat) (h : i < x.length) : rd x (i : Int) = x[i] := by
  unfold rd
  rw [List.getD_eq_getElem?_getD, Int.toNat_natCast, List.getElem?_eq_getElem h]
  rfl
theorem cast_succ (i : Nat) (h : i < 4611686018427387904) : wrap64 ((i : Int) + 1) = ((i + 1 : Nat) : Int) := by
  rw [w64 (by omega) (by omega)]
  rfl
theorem drop_cons {α : Type} (x : List α) (i : Nat) (h : i < x.length) : x.drop i = x[i] :: x.drop (i + 1) := List.drop_eq_getElem_cons h

instance : DecidableEq S84 := fun a b =>
  if h : a.f0 = b.f0 ∧ a.f1 = b.f1 ∧ a.f2 = b.f2 ∧ a.f3 = b.f3 ∧ a.f4 = b.f4 ∧ a.f5 = b.f5 then .isTrue (by
    obtain ⟨h0, h1, h2, h3, h4, h5⟩ := h
    cases a; cases b
    simp only at h0 h1 h2 h3 h4 h5
    subst h0 h1 h2 h3 h4 h5
    rfl) else .isFalse (fun e => h (by rw [e]; exact ⟨rfl, rfl, rfl, rfl, rfl, rfl⟩))
theorem rdF_nat (x : List S84) (i : Nat) (h : i < x.length) : rd_T84 x (i : Int) = x[i] := by
  unfold rd_T84
  rw [List.getD_eq_getElem?_getD, Int.toNat_natCast, List.getElem?_eq_getElem h]
  rfl
theorem neqF (a b : S84) : (!((a.f0) == (b.f0)) || (!((a.f1) == (b.f1)) || (!((a.f2) == (b.f2)) || (!((a.f3) == (b.f3)) || (!((a.f4) == (b.f4)) || (!((a.f5) == (b.f5)))))))) = !decide (a = b) := by
  by_cases h : a = b
  · subst h
    simp
  · rw [decide_eq_false h]
    simp only [Bool.not_false]
    cases c : (!((a.f0) == (b.f0)) || (!((a.f1) == (b.f1)) || (!((a.f2) == (b.f2)) || (!((a.f3) == (b.f3)) || (!((a.f4) == (b.f4)) || (!((a.f5) == (b.f5))))))))
    · simp only [Bool.or_eq_false_iff, Bool.not_eq_false', beq_iff_eq] at c
      exfalso
      apply h
      obtain ⟨h0, h1, h2, h3, h4, h5⟩ := c
      cases a; cases b
      simp only at h0 h1 h2 h3 h4 h5
      subst h0 h1 h2 h3 h4 h5
      rfl
    · rfl

def toI (x : S86) : S84 := ⟨x.f0, x.f1, x.f2, x.f3, x.f4, x.f5⟩
theorem rdL_nat (x : List S86) (i : Nat) (h : i < x.length) : rd_T86 x (i : Int) = x[i] := by
  unfold rd_T86
  rw [List.getD_eq_getElem?_getD, Int.toNat_natCast, List.getElem?_eq_getElem h]
  rfl
theorem szFact (l : List S86) (a : Int) (ha : 0 ≤ a) (ha' : a ≤ 1048576) (hl : l.length ≤ 140737488351232) : laws_szFactS.f l a = some (if a - l.length < 0 then -1 else a - l.length) := by
  unfold laws_szFactS.f
  rw [w64 (n := a - l.length) (by omega) (by omega)]
  split <;> rfl
theorem toFactS_l0 (x : List S86) (hx : x.length ≤ 140737488351232) : ∀ (d k : Nat) (y : List S84) (i : Nat), i + d = x.length → d < k → y.length = x.length → (∀ j : Nat, j < i → y[j]? = (x.map toI)[j]?) → laws_toFactS.l0 k x y (i : Int) = some (x.map toI) := by
  intro d
  induction d with
  | zero =>
    intro k y i hd hk hl hj
    obtain ⟨k, rfl⟩ : ∃ m, k = m + 1 := ⟨k - 1, by omega⟩
    simp only [laws_toFactS.l0]
    rw [if_neg (by omega)]
    congr 1
    apply List.ext_getElem?
    intro j
    by_cases hj' : j < i
    · exact hj j hj'
    · rw [List.getElem?_eq_none (by omega), List.getElem?_eq_none (by simp; omega)]
  | succ d ih =>
    intro k y i hd hk hl hj
    obtain ⟨k, rfl⟩ : ∃ m, k = m + 1 := ⟨k - 1, by omega⟩
    simp only [laws_toFactS.l0, laws_toFact.f, Option.bind_some]
    rw [if_pos (by omega), if_pos (by omega), if_pos (by omega), cast_succ i (by omega), rdL_nat x i (by omega)]
    refine ih k _ (i + 1) (by omega) (by omega) (by simpa using hl) ?_
    intro j hj1
    rw [Int.toNat_natCast, List.getElem?_set]
    by_cases e : i = j
    · subst e
      rw [if_pos rfl, if_pos (by omega), List.getElem?_map, List.getElem?_eq_getElem (by omega)]
      rfl
    · rw [if_neg e]
      exact hj j (by omega)
theorem toFactS_some (x : List S86) (hx : x.length ≤ 1048576) (k : Nat) (hk : x.length < k) : laws_toFactS.f k x = some (x.map toI) := by
  unfold laws_toFactS.f
  rw [if_pos (by omega), if_pos (by omega)]
  exact toFactS_l0 x (by omega) x.length k _ 0 (by omega) hk (by simp) (by omega)

theorem eqFact_some (a b : S84) : laws_eqFact.f a.f0 a.f1 a.f2 a.f3 a.f4 a.f5 b.f0 b.f1 b.f2 b.f3 b.f4 b.f5 = some (decide (a = b)) := by
  unfold laws_eqFact.f
  by_cases h : a = b
  · subst h
    simp
  · rw [decide_eq_false h]
    by_cases h0 : a.f0 = b.f0
    · by_cases h1 : a.f1 = b.f1
      · by_cases h2 : a.f2 = b.f2
        · by_cases h3 : a.f3 = b.f3
          · by_cases h4 : a.f4 = b.f4
            · by_cases h5 : a.f5 = b.f5
              · exfalso
                apply h
                cases a; cases b
                simp only at h0 h1 h2 h3 h4 h5
                subst h0 h1 h2 h3 h4 h5
                rfl
              · simp [h0, h1, h2, h3, h4, h5]
            · simp [h0, h1, h2, h3, h4]
          · simp [h0, h1, h2, h3]
        · simp [h0, h1, h2]
      · simp [h0, h1]
    · simp [h0]
theorem eqFactS_l0 (x y : List S84) (hx : x.length ≤ 140737488351232) (hl : x.length = y.length) : ∀ (d k i : Nat), i + d = x.length → d < k → laws_eqFactS.l0 k x y (i : Int) = some (decide (x.drop i = y.drop i)) := by
  intro d
  induction d with
  | zero =>
    intro k i hd hk
    obtain ⟨k, rfl⟩ : ∃ m, k = m + 1 := ⟨k - 1, by omega⟩
    simp only [laws_eqFactS.l0]
    rw [if_neg (by omega), List.drop_eq_nil_of_le (by omega), List.drop_eq_nil_of_le (by omega)]
    simp
  | succ d ih =>
    intro k i hd hk
    obtain ⟨k, rfl⟩ : ∃ m, k = m + 1 := ⟨k - 1, by omega⟩
    simp only [laws_eqFactS.l0]
    rw [if_pos (by omega), if_pos (by omega), if_pos (by omega), cast_succ i (by omega), rdF_nat x i (by omega), rdF_nat y i (by omega), eqFact_some, ih k (i + 1) (by omega) (by omega), drop_cons x i (by omega), drop_cons y i (by omega)]
    simp only [Option.bind_some, decide_eq_true_eq]
    by_cases e : x[i] = y[i]
    · rw [if_pos e]
      simp only [List.cons.injEq, e, true_and]
    · rw [if_neg e]
      simp only [List.cons.injEq, e, false_and, decide_false]
theorem eqFactS_some (x y : List S84) (hx : x.length ≤ 140737488351232) (k : Nat) (hk : x.length < k) : laws_eqFactS.f k x y = some (decide (x = y)) := by
  unfold laws_eqFactS.f
  by_cases h : x.length = y.length
  · rw [if_pos (by omega)]
    exact eqFactS_l0 x y hx h x.length k 0 (by omega) hk
  · rw [if_neg (by omega)]
    have : x ≠ y := fun e => h (by rw [e])
    simp [this]

def inR (x lo hi : Int) : Bool := decide (lo ≤ x) && decide (x ≤ hi)
theorem inR_true {x lo hi : Int} : inR x lo hi = true ↔ lo ≤ x ∧ x ≤ hi := by simp [inR]
theorem inR_false {x lo hi : Int} : inR x lo hi = false ↔ ¬ (lo ≤ x ∧ x ≤ hi) := by simp [inR]

def hasKind (x k : Int) : Bool := inR x 10 49 && decide (x / 10 = k)
theorem tdiv10 {x : Int} (h : inR x 10 49 = true) : wrap64 (Int.tdiv x 10) = x / 10 := by
  rw [inR_true] at h
  rw [Int.tdiv_eq_ediv_of_nonneg (by omega)]
  exact w64 (by omega) (by omega)
theorem tmod10 {x : Int} (h : inR x 10 49 = true) : Int.tmod x 10 = x % 10 := by
  rw [inR_true] at h
  exact Int.tmod_eq_emod_of_nonneg (by omega)

/-- What makes a fact. -/
def claimB (a0 a1 a2 : Int) : Bool :=
  if a0 = 1 then hasKind a1 1 && inR a2 0 5 else if a0 = 2 then hasKind a1 1 && hasKind a2 2 else if a0 = 3 then hasKind a1 2 && inR a2 0 3 else if a0 = 4 then hasKind a1 3 && inR a2 0 3 else false
def factB (a0 a1 a2 a3 a4 a5 : Int) : Bool := claimB a0 a1 a2 && (inR a3 0 9 && (inR a4 0 10000 && (inR a5 0 10000 && decide (a4 ≤ a5))))

def endOf (f s : Int) : Int := if inR f 0 10000 = true then (if inR s 0 10000 = true then (if f + s > 10000 then 10000 else f + s) else 0) else 0
def withinB (f u n : Int) : Bool := inR f 0 10000 && (inR u 0 10000 && (inR n 0 10000 && (decide (f ≤ n) && decide (n ≤ u))))
def leftOf (u n : Int) : Int := if inR u 0 10000 = true then (if inR n 0 10000 = true then (if u ≤ n then 0 else u - n) else 0) else 0

def ageOf (a n : Int) : Int := if inR a 0 10000 = true then (if inR n 0 10000 = true then (if a > n then -1 else n - a) else -1) else -1

def holdsB (a0 a1 a2 a3 a4 a5 now age : Int) : Bool := factB a0 a1 a2 a3 a4 a5 && (withinB a4 a5 now && decide (ageOf a4 now ≤ age))
theorem age_of_within {f u n : Int} (h : withinB f u n = true) : 0 ≤ ageOf f n := by
  simp only [withinB, Bool.and_eq_true, decide_eq_true_eq] at h
  unfold ageOf
  rw [if_pos h.1, if_pos h.2.2.1, if_neg (by omega)]
  omega

def holdsF' (x : S84) (now age : Int) : Bool := holdsB x.f0 x.f1 x.f2 x.f3 x.f4 x.f5 now age
def findP (kd sb vl now age : Int) (x : S84) : Bool := if x.f0 = kd then (if x.f1 = sb then (if x.f2 = vl then holdsF' x now age else false) else false) else false
def findL (p : S84 → Bool) : Nat → List S84 → Int
  | _, [] => -1
  | i, x :: r => if p x = true then (i : Int) else findL p (i + 1) r

theorem sIn (x lo hi : Int) : spec_l1In.f x lo hi = some (inR x lo hi) := by
  unfold spec_l1In.f inR
  by_cases h : lo ≤ x <;> simp [h]

theorem sName (x : Int) : spec_IsName.f x = some (inR x 10 49) := by unfold spec_IsName.f; rw [sIn]; rfl

theorem sHasKind (x k : Int) : spec_HasKind.f x k = some (hasKind x k) := by
  unfold spec_HasKind.f hasKind
  rw [sName]
  cases h : inR x 10 49
  · simp
  · simp only [Option.bind_some, if_true, Bool.true_and]
    rw [tdiv10 h]
    rfl

theorem sTime (x : Int) : spec_IsTime.f x = some (inR x 0 10000) := by unfold spec_IsTime.f; rw [sIn]; rfl

theorem sFact (a0 a1 a2 a3 a4 a5 : Int) : spec_IsFact.f a0 a1 a2 a3 a4 a5 = some (factB a0 a1 a2 a3 a4 a5) := by
  unfold spec_IsFact.f factB claimB
  simp only [sHasKind, sIn, sTime, Option.bind_some]
  by_cases h1 : a0 = 1
  · simp only [h1, if_true]
    cases hasKind a1 1 <;> cases inR a2 0 5 <;> cases inR a3 0 9 <;> cases inR a4 0 10000 <;> cases inR a5 0 10000 <;> simp
  · by_cases h2 : a0 = 2
    · simp only [h2, if_true, if_false, show ¬ ((2 : Int) = 1) by decide]
      cases hasKind a1 1 <;> cases hasKind a2 2 <;> cases inR a3 0 9 <;> cases inR a4 0 10000 <;> cases inR a5 0 10000 <;> simp
    · by_cases h3 : a0 = 3
      · simp only [h3, if_true, if_false, show ¬ ((3 : Int) = 1) by decide, show ¬ ((3 : Int) = 2) by decide]
        cases hasKind a1 2 <;> cases inR a2 0 3 <;> cases inR a3 0 9 <;> cases inR a4 0 10000 <;> cases inR a5 0 10000 <;> simp
      · by_cases h4 : a0 = 4
        · simp only [h4, if_true, if_false, show ¬ ((4 : Int) = 1) by decide, show ¬ ((4 : Int) = 2) by decide, show ¬ ((4 : Int) = 3) by decide]
          cases hasKind a1 3 <;> cases inR a2 0 3 <;> cases inR a3 0 9 <;> cases inR a4 0 10000 <;> cases inR a5 0 10000 <;> simp
        · simp only [h1, h2, h3, h4, if_false]
          simp

theorem sWithin (f u n : Int) : spec_IsWithin.f f u n = some (withinB f u n) := by
  unfold spec_IsWithin.f withinB
  simp only [sTime, Option.bind_some]
  cases inR f 0 10000 <;> cases inR u 0 10000 <;> cases inR n 0 10000 <;> simp
  by_cases h : f ≤ n <;> simp [h]

def freshB (a n m : Int) : Bool := decide (0 ≤ ageOf a n) && decide (ageOf a n ≤ m)
theorem ageOf_lo (a n : Int) : -1 ≤ ageOf a n := by
  unfold ageOf
  repeat' split
  all_goals omega

theorem sAge (a n : Int) : spec_AgeOf.f a n = some (ageOf a n) := by
  unfold spec_AgeOf.f ageOf
  simp only [sTime, Option.bind_some]
  cases h1 : inR a 0 10000 <;> cases h2 : inR n 0 10000 <;> simp
  rw [inR_true] at h1 h2
  by_cases h : n < a <;> simp [h]
  exact w64 (by omega) (by omega)

theorem sFresh (a n m : Int) : spec_IsFresh.f a n m = some (freshB a n m) := by
  unfold spec_IsFresh.f freshB
  rw [sAge]
  simp only [Option.bind_some]
  by_cases h : 0 ≤ ageOf a n <;> simp [h]

theorem sHolds (a0 a1 a2 a3 a4 a5 now age : Int) : spec_HoldsAt.f a0 a1 a2 a3 a4 a5 now age = some (holdsB a0 a1 a2 a3 a4 a5 now age) := by
  unfold spec_HoldsAt.f holdsB
  simp only [sFact, sWithin, sFresh, Option.bind_some]
  cases factB a0 a1 a2 a3 a4 a5 <;> cases h : withinB a4 a5 now <;> simp
  have := age_of_within h
  simp [freshB, this]

theorem sFind_l0 (x : List S84) (hx : x.length ≤ 140737488351232) (kd sb vl now age : Int) : ∀ (d k i : Nat), i + d = x.length → d < k → spec_FindFact.l0 k x kd sb vl now age (i : Int) = some (findL (findP kd sb vl now age) i (x.drop i)) := by
  intro d
  induction d with
  | zero =>
    intro k i hd hk
    obtain ⟨k, rfl⟩ : ∃ m, k = m + 1 := ⟨k - 1, by omega⟩
    simp only [spec_FindFact.l0]
    rw [if_neg (by omega), List.drop_eq_nil_of_le (by omega)]
    rfl
  | succ d ih =>
    intro k i hd hk
    obtain ⟨k, rfl⟩ : ∃ m, k = m + 1 := ⟨k - 1, by omega⟩
    simp only [spec_FindFact.l0]
    rw [if_pos (by omega), if_pos (by omega), rdF_nat x i (by omega), cast_succ i (by omega), drop_cons x i (by omega), sHolds]
    simp only [Option.bind_some]
    rw [ih k (i + 1) (by omega) (by omega), findL]
    unfold findP holdsF'
    split
    · split
      · split
        · split <;> rfl
        · rfl
      · rfl
    · rfl
theorem sFind (x : List S84) (hx : x.length ≤ 140737488351232) (kd sb vl now age : Int) (k : Nat) (hk : x.length < k) : spec_FindFact.f k x kd sb vl now age = some (findL (findP kd sb vl now age) 0 x) := sFind_l0 x hx kd sb vl now age x.length k 0 (by omega) hk

theorem iIn (x lo hi : Int) : impl_InRange.f x lo hi = some (inR x lo hi) := by
  unfold impl_InRange.f inR
  by_cases h : lo ≤ x <;> simp [h]

theorem iName (x : Int) : impl_IsName.f x = some (inR x 10 49) := by unfold impl_IsName.f; rw [iIn]; rfl

theorem iKindOf (x : Int) : impl_KindOf.f x = some (if inR x 10 49 = true then x / 10 else 0) := by
  unfold impl_KindOf.f
  rw [iName]
  cases h : inR x 10 49
  · simp
  · simp only [Option.bind_some, if_true]
    rw [tdiv10 h]

theorem iHasKind (x k : Int) : impl_HasKind.f x k = some (hasKind x k) := by
  unfold impl_HasKind.f hasKind
  rw [iName, iKindOf]
  cases h : inR x 10 49
  · simp
  · simp only [Option.bind_some, if_true, Bool.true_and]
    rfl

theorem iTime (x : Int) : impl_IsTime.f x = some (inR x 0 10000) := by unfold impl_IsTime.f; rw [iIn]; rfl

theorem iClaim (a0 a1 a2 a3 a4 a5 : Int) : impl_isClaim.f a0 a1 a2 a3 a4 a5 = some (claimB a0 a1 a2) := by
  unfold impl_isClaim.f claimB
  simp only [iHasKind, iIn, Option.bind_some]
  by_cases h1 : a0 = 1
  · simp only [h1, if_true]
    cases hasKind a1 1 <;> simp
  · by_cases h2 : a0 = 2
    · simp only [h2, if_true, if_false, show ¬ ((2 : Int) = 1) by decide]
      cases hasKind a1 1 <;> simp
    · by_cases h3 : a0 = 3
      · simp only [h3, if_true, if_false, show ¬ ((3 : Int) = 1) by decide, show ¬ ((3 : Int) = 2) by decide]
        cases hasKind a1 2 <;> simp
      · by_cases h4 : a0 = 4
        · simp only [h4, if_true, if_false, show ¬ ((4 : Int) = 1) by decide, show ¬ ((4 : Int) = 2) by decide, show ¬ ((4 : Int) = 3) by decide]
          cases hasKind a1 3 <;> simp
        · simp only [h1, h2, h3, h4, if_false]
theorem iFact (a0 a1 a2 a3 a4 a5 : Int) : impl_IsFact.f a0 a1 a2 a3 a4 a5 = some (factB a0 a1 a2 a3 a4 a5) := by
  unfold impl_IsFact.f factB
  simp only [iClaim, iIn, iTime, Option.bind_some]
  cases claimB a0 a1 a2 <;> cases inR a3 0 9 <;> cases inR a4 0 10000 <;> cases inR a5 0 10000 <;> simp

theorem iWithin (f u n : Int) : impl_IsWithin.f f u n = some (withinB f u n) := by
  unfold impl_IsWithin.f withinB
  simp only [iTime, iIn, Option.bind_some]
  cases inR f 0 10000 <;> cases inR u 0 10000 <;> cases inR n 0 10000 <;> simp [inR]

theorem iAge (a n : Int) : impl_AgeOf.f a n = some (ageOf a n) := by
  unfold impl_AgeOf.f ageOf
  simp only [iTime, Option.bind_some]
  cases h1 : inR a 0 10000 <;> cases h2 : inR n 0 10000 <;> simp
  rw [inR_true] at h1 h2
  by_cases h : n < a <;> simp [h]
  exact w64 (by omega) (by omega)

theorem iHolds (a0 a1 a2 a3 a4 a5 now age : Int) : impl_HoldsAt.f a0 a1 a2 a3 a4 a5 now age = some (holdsB a0 a1 a2 a3 a4 a5 now age) := by
  unfold impl_HoldsAt.f holdsB
  simp only [iFact, iWithin, iAge, Option.bind_some]
  cases factB a0 a1 a2 a3 a4 a5 <;> cases h : withinB a4 a5 now <;> simp

theorem iFindP (kd sb vl now age : Int) (x : S84) : impl_FindFact.pf kd sb vl now age x = some (findP kd sb vl now age x) := by
  unfold impl_FindFact.pf findP holdsF'
  rw [iHolds]
  repeat' split
  all_goals rfl
theorem iIdx_l0 (pf : S84 → Option Bool) (p : S84 → Bool) (hp : ∀ y, pf y = some (p y)) (x : List S84) (hx : x.length ≤ 140737488351232) : ∀ (d k i : Nat), i + d = x.length → d < k → impl_Fact.l0 pf k x (i : Int) = some (findL p i (x.drop i)) := by
  intro d
  induction d with
  | zero =>
    intro k i hd hk
    obtain ⟨k, rfl⟩ : ∃ m, k = m + 1 := ⟨k - 1, by omega⟩
    simp only [impl_Fact.l0]
    rw [if_neg (by omega), List.drop_eq_nil_of_le (by omega)]
    rfl
  | succ d ih =>
    intro k i hd hk
    obtain ⟨k, rfl⟩ : ∃ m, k = m + 1 := ⟨k - 1, by omega⟩
    simp only [impl_Fact.l0]
    rw [if_pos (by omega), if_pos (by omega), rdF_nat x i (by omega), cast_succ i (by omega), drop_cons x i (by omega), hp, Option.bind_some, ih k (i + 1) (by omega) (by omega), findL]
    split <;> rfl
theorem iFind (x : List S84) (hx : x.length ≤ 140737488351232) (kd sb vl now age : Int) (k : Nat) (hk : x.length < k) : impl_FindFact.f k x kd sb vl now age = some (findL (findP kd sb vl now age) 0 x) := by
  unfold impl_FindFact.f
  rw [if_pos (by omega)]
  exact iIdx_l0 _ _ (iFindP kd sb vl now age) x hx x.length k 0 (by omega) hk

theorem FnExactFindFact : laws_FnExactFindFact.Pure := by
  intro a kd sb vl now age ha _ _ _ _ _ _
  refine ⟨a.length + 1, ?_⟩
  unfold laws_FnExactFindFact.f
  rw [szFact a 1048576 (by omega) (by omega) (by omega)]
  simp only [Option.bind_some]
  by_cases h1 : (1048576 : Int) - a.length < 0
  · rw [if_pos h1]; rfl
  · rw [if_neg h1, if_neg h1]
    simp only [toFactS_some a (by omega) _ (show a.length < a.length + 1 by omega), Option.bind_some, sFind (a.map toI) (by simp; omega) kd sb vl now age _ (show (a.map toI).length < a.length + 1 by simp), iFind (a.map toI) (by simp; omega) kd sb vl now age _ (show (a.map toI).length < a.length + 1 by simp),
      eqFactS_some (a.map toI) (a.map toI) (by simp; omega) _ (show (a.map toI).length < a.length + 1 by simp)]
    simp

end Go.Proofs.Ytobpbnbjdpdflac.Pure
