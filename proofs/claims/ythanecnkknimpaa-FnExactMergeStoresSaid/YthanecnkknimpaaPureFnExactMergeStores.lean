/- FnExactMergeStores holds: for all two lists of facts the program's MergeStores and the reference's agree; the lists are not changed, and the result is in memory of its own. No conditions. -/
import Derived.Test.YthanecnkknimpaaPFnExactMergeStoresx11
import Derived.OpenShut
namespace Go.Proofs.Ythanecnkknimpaa.Pure
open Go.RowKit Go.Proofs.Ythanecnkknimpaa.PFnExactMergeStores Go.Proofs.YthanecnkknimpaaW.PrintWords Go.Proofs.YthanecnkknimpaaW.PrintLast
set_option linter.unusedVariables false
set_option linter.unusedSimpArgs false

theorem w64 {n : Int} (h : -9223372036854775808 ≤ n) (h' : n ≤ 9223372036854775807) : wrap64 n = n := by unfold wrap64; omega
theorem w64_lo (n : Int) : -9223372036854775808 ≤ wrap64 n := by unfold wrap64; omega
theorem w64_hi (n : Int) : wrap64 n ≤ 9223372036854775807 := by unfold wrap64; omega
theorem of_wf {n : Int} (h : (Lit.int .i64 n).wf = true) : -9223372036854775808 ≤ n ∧ n ≤ 9223372036854775807 := bounds_i64 h
theorem of_wf8 {n : Int} (h : (Lit.int .u8 n).wf = true) : 0 ≤ n ∧ n ≤ 255 := bounds_u8 h
theorem and_le (x : Int) (m : Nat) (hm : m < 9223372036854775808) : 0 ≤ bits .and .i64 x (m : Int) ∧ bits .and .i64 x (m : Int) ≤ m := by
  unfold bits
  rw [Go.IntKind.wrap_i64]
  simp only [BitVec.toNat_and]
  have h1 : (BitVec.ofInt IntKind.i64.bits (m : Int)).toNat = m := by
    rw [BitVec.ofInt_natCast, BitVec.toNat_ofNat]
    exact Nat.mod_eq_of_lt (by show m < 2 ^ 64; omega)
  rw [h1]
  have h2 : (BitVec.ofInt IntKind.i64.bits x).toNat &&& m ≤ m := Nat.and_le_right
  omega
theorem and255 (x : Int) : 0 ≤ bits .and .i64 x 255 ∧ bits .and .i64 x 255 ≤ 255 := and_le x 255 (by decide)
theorem tmod_lt {x n : Int} (h0 : 0 ≤ x) (hn : 0 < n) : 0 ≤ Int.tmod x n ∧ Int.tmod x n < n := by
  rw [Int.tmod_eq_emod_of_nonneg h0]
  exact ⟨Int.emod_nonneg _ (by omega), Int.emod_lt_of_pos _ hn⟩

theorem rd_nat (x : List Int) (i : Nat) (h : i < x.length) : rd x (i : Int) = x[i] := by
  unfold rd
  rw [List.getD_eq_getElem?_getD, Int.toNat_natCast, List.getElem?_eq_getElem h]
  rfl
theorem cast_succ (i : Nat) (h : i < 4611686018427387904) : wrap64 ((i : Int) + 1) = ((i + 1 : Nat) : Int) := by
  rw [w64 (by omega) (by omega)]
  rfl
theorem drop_cons {α : Type} (x : List α) (i : Nat) (h : i < x.length) : x.drop i = x[i] :: x.drop (i + 1) := List.drop_eq_getElem_cons h

instance : DecidableEq S26 := fun a b =>
  if h : a.f0 = b.f0 ∧ a.f1 = b.f1 ∧ a.f2 = b.f2 ∧ a.f3 = b.f3 ∧ a.f4 = b.f4 ∧ a.f5 = b.f5 then .isTrue (by
    obtain ⟨h0, h1, h2, h3, h4, h5⟩ := h
    cases a; cases b
    simp only at h0 h1 h2 h3 h4 h5
    subst h0 h1 h2 h3 h4 h5
    rfl) else .isFalse (fun e => h (by rw [e]; exact ⟨rfl, rfl, rfl, rfl, rfl, rfl⟩))
theorem rdF_nat (x : List S26) (i : Nat) (h : i < x.length) : rd_T26 x (i : Int) = x[i] := by
  unfold rd_T26
  rw [List.getD_eq_getElem?_getD, Int.toNat_natCast, List.getElem?_eq_getElem h]
  rfl
theorem neqF (a b : S26) : (!((a.f0) == (b.f0)) || (!((a.f1) == (b.f1)) || (!((a.f2) == (b.f2)) || (!((a.f3) == (b.f3)) || (!((a.f4) == (b.f4)) || (!((a.f5) == (b.f5)))))))) = !decide (a = b) := by
  by_cases h : a = b
  · subst h
    simp
  · rw [decide_eq_false h]
    simp only [Bool.not_false]
    cases c : (!((a.f0) == (b.f0)) || (!((a.f1) == (b.f1)) || (!((a.f2) == (b.f2)) || (!((a.f3) == (b.f3)) || (!((a.f4) == (b.f4)) || (!((a.f5) == (b.f5))))))))
    · simp only [Bool.or_eq_false_iff, Bool.not_eq_false', beq_iff_eq] at c
      exfalso
      apply h
      obtain ⟨h0, h1, h2, h3, h4, h5⟩ := c
      cases a; cases b
      simp only at h0 h1 h2 h3 h4 h5
      subst h0 h1 h2 h3 h4 h5
      rfl
    · rfl

def toI (x : S50) : S26 := ⟨x.f0, x.f1, x.f2, x.f3, x.f4, x.f5⟩
theorem rdL_nat (x : List S50) (i : Nat) (h : i < x.length) : rd_T50 x (i : Int) = x[i] := by
  unfold rd_T50
  rw [List.getD_eq_getElem?_getD, Int.toNat_natCast, List.getElem?_eq_getElem h]
  rfl
theorem szFact (l : List S50) (a : Int) (ha : 0 ≤ a) (ha' : a ≤ 1048576) (hl : l.length ≤ 140737488351232) : laws_szFactS.f l a = some (if a - l.length < 0 then -1 else a - l.length) := by
  unfold laws_szFactS.f
  rw [w64 (n := a - l.length) (by omega) (by omega)]
  split <;> rfl
theorem toFactS_l0 (x : List S50) (hx : x.length ≤ 140737488351232) : ∀ (d k : Nat) (y : List S26) (i : Nat), i + d = x.length → d < k → y.length = x.length → (∀ j : Nat, j < i → y[j]? = (x.map toI)[j]?) → laws_toFactS.l0 k x y (i : Int) = some (x.map toI) := by
  intro d
  induction d with
  | zero =>
    intro k y i hd hk hl hj
    obtain ⟨k, rfl⟩ : ∃ m, k = m + 1 := ⟨k - 1, by omega⟩
    simp only [laws_toFactS.l0]
    rw [if_neg (by omega)]
    congr 1
    apply List.ext_getElem?
    intro j
    by_cases hj' : j < i
    · exact hj j hj'
    · rw [List.getElem?_eq_none (by omega), List.getElem?_eq_none (by simp; omega)]
  | succ d ih =>
    intro k y i hd hk hl hj
    obtain ⟨k, rfl⟩ : ∃ m, k = m + 1 := ⟨k - 1, by omega⟩
    simp only [laws_toFactS.l0, laws_toFact.f, Option.bind_some]
    rw [if_pos (by omega), if_pos (by omega), if_pos (by omega), cast_succ i (by omega), rdL_nat x i (by omega)]
    refine ih k _ (i + 1) (by omega) (by omega) (by simpa using hl) ?_
    intro j hj1
    rw [Int.toNat_natCast, List.getElem?_set]
    by_cases e : i = j
    · subst e
      rw [if_pos rfl, if_pos (by omega), List.getElem?_map, List.getElem?_eq_getElem (by omega)]
      rfl
    · rw [if_neg e]
      exact hj j (by omega)
theorem toFactS_some (x : List S50) (hx : x.length ≤ 1048576) (k : Nat) (hk : x.length < k) : laws_toFactS.f k x = some (x.map toI) := by
  unfold laws_toFactS.f
  rw [if_pos (by omega), if_pos (by omega)]
  exact toFactS_l0 x (by omega) x.length k _ 0 (by omega) hk (by simp) (by omega)

theorem eqFact_some (a b : S26) : laws_eqFact.f a.f0 a.f1 a.f2 a.f3 a.f4 a.f5 b.f0 b.f1 b.f2 b.f3 b.f4 b.f5 = some (decide (a = b)) := by
  unfold laws_eqFact.f
  by_cases h : a = b
  · subst h
    simp
  · rw [decide_eq_false h]
    by_cases h0 : a.f0 = b.f0
    · by_cases h1 : a.f1 = b.f1
      · by_cases h2 : a.f2 = b.f2
        · by_cases h3 : a.f3 = b.f3
          · by_cases h4 : a.f4 = b.f4
            · by_cases h5 : a.f5 = b.f5
              · exfalso
                apply h
                cases a; cases b
                simp only at h0 h1 h2 h3 h4 h5
                subst h0 h1 h2 h3 h4 h5
                rfl
              · simp [h0, h1, h2, h3, h4, h5]
            · simp [h0, h1, h2, h3, h4]
          · simp [h0, h1, h2, h3]
        · simp [h0, h1, h2]
      · simp [h0, h1]
    · simp [h0]
theorem eqFactS_l0 (x y : List S26) (hx : x.length ≤ 140737488351232) (hl : x.length = y.length) : ∀ (d k i : Nat), i + d = x.length → d < k → laws_eqFactS.l0 k x y (i : Int) = some (decide (x.drop i = y.drop i)) := by
  intro d
  induction d with
  | zero =>
    intro k i hd hk
    obtain ⟨k, rfl⟩ : ∃ m, k = m + 1 := ⟨k - 1, by omega⟩
    simp only [laws_eqFactS.l0]
    rw [if_neg (by omega), List.drop_eq_nil_of_le (by omega), List.drop_eq_nil_of_le (by omega)]
    simp
  | succ d ih =>
    intro k i hd hk
    obtain ⟨k, rfl⟩ : ∃ m, k = m + 1 := ⟨k - 1, by omega⟩
    simp only [laws_eqFactS.l0]
    rw [if_pos (by omega), if_pos (by omega), if_pos (by omega), cast_succ i (by omega), rdF_nat x i (by omega), rdF_nat y i (by omega), eqFact_some, ih k (i + 1) (by omega) (by omega), drop_cons x i (by omega), drop_cons y i (by omega)]
    simp only [Option.bind_some, decide_eq_true_eq]
    by_cases e : x[i] = y[i]
    · rw [if_pos e]
      simp only [List.cons.injEq, e, true_and]
    · rw [if_neg e]
      simp only [List.cons.injEq, e, false_and, decide_false]
theorem eqFactS_some (x y : List S26) (hx : x.length ≤ 140737488351232) (k : Nat) (hk : x.length < k) : laws_eqFactS.f k x y = some (decide (x = y)) := by
  unfold laws_eqFactS.f
  by_cases h : x.length = y.length
  · rw [if_pos (by omega)]
    exact eqFactS_l0 x y hx h x.length k 0 (by omega) hk
  · rw [if_neg (by omega)]
    have : x ≠ y := fun e => h (by rw [e])
    simp [this]

def mk6 (m : Int) : S26 := ⟨m, m + 1, m + 2, m + 3, m + 4, m + 5⟩
theorem rd_setF (x : List S26) (i : Nat) (a : S26) (h : i < x.length) : rd_T26 (x.set (i : Int).toNat a) (i : Int) = a := by
  rw [rdF_nat _ i (by rw [List.length_set]; exact h)]
  simp
theorem wraps6 (m : Int) (h0 : 0 ≤ m) (h1 : m ≤ 4611686018427387904) : wrap64 (m + 1) = m + 1 ∧ wrap64 (m + 1 + 1) = m + 2 ∧ wrap64 (m + 2 + 1) = m + 3 ∧ wrap64 (m + 3 + 1) = m + 4 ∧ wrap64 (m + 4 + 1) = m + 5 ∧ wrap64 (m + 5 + 1) = m + 6 := by
  refine ⟨?_, ?_, ?_, ?_, ?_, ?_⟩ <;> (rw [w64 (by omega) (by omega)]; try omega)
theorem markF_l0 (n : Nat) (hn : n ≤ 1048576) : ∀ (d k i : Nat) (x : List S26) (m : Int), i + d = n → d < k → x.length = n → 0 ≤ m → m ≤ 1000000000000 + 6 * i → ∃ y, laws_markFactS.l0 k x m (i : Int) = some (m + 6 * d, y) ∧ y.length = n ∧
    (∀ j : Nat, j < i → y[j]? = x[j]?) ∧ (∀ j : Nat, i ≤ j → j < n → y[j]? = some (mk6 (m + 6 * (j - i)))) := by
  intro d
  induction d with
  | zero =>
    intro k i x m hd hk hl h0 h1
    obtain ⟨k, rfl⟩ : ∃ m, k = m + 1 := ⟨k - 1, by omega⟩
    refine ⟨x, ?_, hl, fun _ _ => rfl, fun j a b => by omega⟩
    simp only [laws_markFactS.l0]
    rw [if_neg (by omega)]
    simp
  | succ d ih =>
    intro k i x m hd hk hl h0 h1
    obtain ⟨k, rfl⟩ : ∃ m, k = m + 1 := ⟨k - 1, by omega⟩
    obtain ⟨y, e, hy, h2, h3⟩ := ih k (i + 1) (x.set i (mk6 m)) (m + 6) (by omega) (by omega) (by simpa using hl) (by omega) (by omega)
    obtain ⟨e1, e2, e3, e4, e5, e6⟩ := wraps6 m h0 (by omega)
    refine ⟨y, ?_, hy, fun j hj => ?_, fun j a b => ?_⟩
    · simp only [laws_markFactS.l0, Option.bind_some, rd_setF x i _ (show i < x.length by omega), List.set_set, e1, e2, e3, e4, e5, e6]
      rw [if_pos (by omega), if_pos (by omega), cast_succ i (by omega), Int.toNat_natCast]
      refine e.trans ?_
      congr 2
      omega
    · rw [h2 j (by omega), List.getElem?_set_ne (by omega)]
    · by_cases ej : j = i
      · subst ej
        rw [h2 j (by omega), List.getElem?_set_self (by omega)]
        congr 2
        omega
      · rw [h3 j (by omega) b]
        congr 2
        omega
theorem heldF_l0 (n : Nat) (hn : n ≤ 1048576) (y : List S26) (hy : y.length = n) (hm : ∀ j : Nat, j < n → y[j]? = some (mk6 (1 + 6 * j))) : ∀ (d k i : Nat), i + d = n → d < k → laws_heldFactS.l0 k y (1 + 6 * i) (i : Int) = some (1 + 6 * (n : Int)) := by
  intro d
  induction d with
  | zero =>
    intro k i hd hk
    obtain ⟨k, rfl⟩ : ∃ m, k = m + 1 := ⟨k - 1, by omega⟩
    simp only [laws_heldFactS.l0]
    rw [if_neg (by omega), show i = n by omega]
  | succ d ih =>
    intro k i hd hk
    obtain ⟨k, rfl⟩ : ∃ m, k = m + 1 := ⟨k - 1, by omega⟩
    have e : y[i] = mk6 (1 + 6 * i) := by
      have := hm i (by omega)
      rw [List.getElem?_eq_getElem (by omega)] at this
      exact Option.some.inj this
    obtain ⟨e1, e2, e3, e4, e5, e6⟩ := wraps6 (1 + 6 * (i : Int)) (by omega) (by omega)
    simp only [laws_heldFactS.l0, rdF_nat y i (show i < y.length by omega), e, e1, e2, e3, e4, e5, e6]
    simp only [mk6, if_true]
    rw [if_pos (by omega), if_pos (by omega), cast_succ i (by omega), show (1 + 6 * (i : Int) + 6) = 1 + 6 * ((i + 1 : Nat) : Int) by omega]
    exact ih k (i + 1) (by omega) (by omega)
/-- Marked, a row of facts is held. -/
theorem markF_some (x : List S26) (hn : x.length ≤ 1048576) (k : Nat) (hk : x.length < k) : ∃ y, laws_markFactS.f k x 1 = some (1 + 6 * (x.length : Int), y) ∧ ∀ k', x.length < k' → laws_heldFactS.f k' y 1 = some (1 + 6 * (x.length : Int)) := by
  obtain ⟨y, e, hy, _, h3⟩ := markF_l0 x.length hn x.length k 0 x 1 (by omega) hk rfl (by omega) (by omega)
  refine ⟨y, e, fun k' hk' => ?_⟩
  exact heldF_l0 x.length hn y hy (fun j hj => by rw [h3 j (by omega) hj]; congr 2) x.length k' 0 (by omega) hk'
theorem markF_from (x : List S26) (hn : x.length ≤ 1048576) (m : Int) (h0 : 0 ≤ m) (h1 : m ≤ 1000000000000) (k : Nat) (hk : x.length < k) : ∃ y, laws_markFactS.f k x m = some (m + 6 * (x.length : Int), y) := by
  obtain ⟨y, e, _⟩ := markF_l0 x.length hn x.length k 0 x m (by omega) hk rfl h0 (by omega)
  exact ⟨y, e⟩

def inR (x lo hi : Int) : Bool := decide (lo ≤ x) && decide (x ≤ hi)
theorem inR_true {x lo hi : Int} : inR x lo hi = true ↔ lo ≤ x ∧ x ≤ hi := by simp [inR]
theorem inR_false {x lo hi : Int} : inR x lo hi = false ↔ ¬ (lo ≤ x ∧ x ≤ hi) := by simp [inR]

def hasKind (x k : Int) : Bool := inR x 10 49 && decide (x / 10 = k)
theorem tdiv10 {x : Int} (h : inR x 10 49 = true) : wrap64 (Int.tdiv x 10) = x / 10 := by
  rw [inR_true] at h
  rw [Int.tdiv_eq_ediv_of_nonneg (by omega)]
  exact w64 (by omega) (by omega)
theorem tmod10 {x : Int} (h : inR x 10 49 = true) : Int.tmod x 10 = x % 10 := by
  rw [inR_true] at h
  exact Int.tmod_eq_emod_of_nonneg (by omega)

/-- What makes a fact. -/
def claimB (a0 a1 a2 : Int) : Bool :=
  if a0 = 1 then hasKind a1 1 && inR a2 0 5 else if a0 = 2 then hasKind a1 1 && hasKind a2 2 else if a0 = 3 then hasKind a1 2 && inR a2 0 3 else if a0 = 4 then hasKind a1 3 && inR a2 0 3 else false
def factB (a0 a1 a2 a3 a4 a5 : Int) : Bool := claimB a0 a1 a2 && (inR a3 0 9 && (inR a4 0 10000 && (inR a5 0 10000 && decide (a4 ≤ a5))))

def sameB (a0 a1 a2 a3 b0 b1 b2 b3 : Int) : Bool := decide (a0 = b0 ∧ a1 = b1 ∧ a2 = b2 ∧ a3 = b3)
def beforeB (a0 a1 a2 a3 b0 b1 b2 b3 : Int) : Bool := decide (a0 < b0 ∨ (a0 = b0 ∧ (a1 < b1 ∨ (a1 = b1 ∧ (a2 < b2 ∨ (a2 = b2 ∧ a3 < b3))))))

def factF (x : S26) : Bool := factB x.f0 x.f1 x.f2 x.f3 x.f4 x.f5
def befF (x y : S26) : Bool := beforeB x.f0 x.f1 x.f2 x.f3 y.f0 y.f1 y.f2 y.f3
def samF (x y : S26) : Bool := sameB x.f0 x.f1 x.f2 x.f3 y.f0 y.f1 y.f2 y.f3
def chain : Option S26 → List S26 → Bool
  | _, [] => true
  | none, x :: r => factF x && chain (some x) r
  | some p, x :: r => factF x && (befF p x && chain (some x) r)
def isStoreL (xs : List S26) : Bool := chain none xs && decide (xs.length ≤ 30)
def prevOf (xs : List S26) (i : Nat) : Option S26 := if i = 0 then none else xs[i - 1]?
theorem prevOf_succ (xs : List S26) (i : Nat) (h : i < xs.length) : prevOf xs (i + 1) = some xs[i] := by
  unfold prevOf
  rw [if_neg (by omega), Nat.add_sub_cancel, List.getElem?_eq_getElem h]
theorem rdF_prev (xs : List S26) (i : Nat) (h0 : 0 < i) (h : i < xs.length) (hx : xs.length ≤ 140737488351232) : rd_T26 xs ((i : Int) - 1) = xs[i - 1] := by
  rw [show (i : Int) - 1 = ((i - 1 : Nat) : Int) by omega, rdF_nat xs (i - 1) (by omega)]

def laterF (f x : S26) : Bool := decide (f.f4 > x.f4) || (decide (f.f4 = x.f4) && decide (f.f5 > x.f5))
/-- What is laid at the place where a fact belongs. -/
def putAt (f : S26) : List S26 → List S26
  | [] => [f]
  | x :: r => if samF x f = true then (if laterF f x = true then f else x) :: r else f :: x :: r
/-- A fact put into a sorted list. -/
def putRec (f : S26) : List S26 → List S26
  | [] => [f]
  | x :: r => if befF x f = true then x :: putRec f r else putAt f (x :: r)
def finF (xs y : List S26) : List S26 × Bool := if y.length ≤ 30 then (y, true) else (xs, false)
def putL (xs : List S26) (f : S26) : List S26 × Bool := if (isStoreL xs && factF f) = true then finF xs (putRec f xs) else (xs, false)
theorem befF_iff (x y : S26) : befF x y = true ↔ (x.f0 < y.f0 ∨ (x.f0 = y.f0 ∧ (x.f1 < y.f1 ∨ (x.f1 = y.f1 ∧ (x.f2 < y.f2 ∨ (x.f2 = y.f2 ∧ x.f3 < y.f3)))))) := by
  unfold befF beforeB
  rw [decide_eq_true_iff]
theorem samF_iff (x y : S26) : samF x y = true ↔ (x.f0 = y.f0 ∧ x.f1 = y.f1 ∧ x.f2 = y.f2 ∧ x.f3 = y.f3) := by
  unfold samF sameB
  rw [decide_eq_true_iff]
theorem bef_trans {x y z : S26} (h : befF x y = true) (k : befF y z = true) : befF x z = true := by
  rw [befF_iff] at *
  omega
theorem sam_bef {x y z : S26} (h : samF x y = true) (k : befF y z = true) : befF x z = true := by
  rw [befF_iff] at *
  rw [samF_iff] at h
  omega
theorem bef_sam {x y z : S26} (h : befF x y = true) (k : samF y z = true) : befF x z = true := by
  rw [befF_iff] at *
  rw [samF_iff] at k
  omega
theorem sam_comm (x y : S26) : samF x y = samF y x := by
  rw [Bool.eq_iff_iff, samF_iff, samF_iff]
  omega
theorem bef_not_sam {x y : S26} (h : befF x y = true) : samF x y = false := by
  cases c : samF x y
  · rfl
  · rw [befF_iff] at h
    rw [samF_iff] at c
    omega
theorem bef_not_bef {x y : S26} (h : befF x y = true) : befF y x = false := by
  cases c : befF y x
  · rfl
  · rw [befF_iff] at h c
    omega
theorem bef_total {x y : S26} (h : befF x y = false) (k : samF x y = false) : befF y x = true := by
  rw [← Bool.not_eq_true, befF_iff] at h
  rw [← Bool.not_eq_true, samF_iff] at k
  rw [befF_iff]
  omega
theorem chain_some_of {p : Option S26} {x : S26} {r : List S26} (h : chain p (x :: r) = true) : factF x = true ∧ chain (some x) r = true := by
  cases p with
  | none => simpa [chain] using h
  | some p =>
    simp only [chain, Bool.and_eq_true] at h
    exact ⟨h.1, h.2.2⟩
theorem chain_bef {p x : S26} {r : List S26} (h : chain (some p) (x :: r) = true) : befF p x = true := by
  simp only [chain, Bool.and_eq_true] at h
  exact h.2.1
/-- What stands behind an element that is not ahead of f bears no claim of f's. -/
theorem chain_not_sam (f : S26) : ∀ (r : List S26) (p : S26), chain (some p) r = true → befF f p = true ∨ samF f p = true → ∀ x ∈ r, samF f x = false
  | [], _, _, _, _, h => by cases h
  | y :: r, p, hc, hp, x, hx => by
    have hb : befF f y = true := by
      rcases hp with hp | hp
      · exact bef_trans hp (chain_bef hc)
      · exact sam_bef hp (chain_bef hc)
    rcases List.mem_cons.1 hx with rfl | hx
    · exact bef_not_sam hb
    · exact chain_not_sam f r y (chain_some_of hc).2 (.inl hb) x hx
theorem putRec_len (f : S26) : ∀ xs : List S26, xs.length ≤ (putRec f xs).length ∧ (putRec f xs).length ≤ xs.length + 1
  | [] => by simp [putRec]
  | x :: r => by
    have ih := putRec_len f r
    simp only [putRec, putAt]
    split
    · simp only [List.length_cons]
      omega
    · split <;> simp
theorem putL_len (xs : List S26) (f : S26) : (putL xs f).1.length ≤ xs.length ∨ (putL xs f).1.length ≤ 30 := by
  unfold putL finF
  split
  · split
    · exact .inr (by assumption)
    · exact .inl (Nat.le_refl _)
  · exact .inl (Nat.le_refl _)

def mergeL : List S26 → List S26 → List S26
  | out, [] => out
  | out, f :: r => mergeL (putL out f).1 r
theorem mergeL_len : ∀ (b a : List S26), (mergeL a b).length ≤ a.length ∨ (mergeL a b).length ≤ 30
  | [], a => .inl (Nat.le_refl _)
  | f :: r, a => by
    have h1 := mergeL_len r (putL a f).1
    have h2 := putL_len a f
    show (mergeL (putL a f).1 r).length ≤ a.length ∨ (mergeL (putL a f).1 r).length ≤ 30
    omega

theorem sIn (x lo hi : Int) : spec_l1In.f x lo hi = some (inR x lo hi) := by
  unfold spec_l1In.f inR
  by_cases h : lo ≤ x <;> simp [h]

theorem sName (x : Int) : spec_IsName.f x = some (inR x 10 49) := by unfold spec_IsName.f; rw [sIn]; rfl

theorem sHasKind (x k : Int) : spec_HasKind.f x k = some (hasKind x k) := by
  unfold spec_HasKind.f hasKind
  rw [sName]
  cases h : inR x 10 49
  · simp
  · simp only [Option.bind_some, if_true, Bool.true_and]
    rw [tdiv10 h]
    rfl

theorem sTime (x : Int) : spec_IsTime.f x = some (inR x 0 10000) := by unfold spec_IsTime.f; rw [sIn]; rfl

theorem sFact (a0 a1 a2 a3 a4 a5 : Int) : spec_IsFact.f a0 a1 a2 a3 a4 a5 = some (factB a0 a1 a2 a3 a4 a5) := by
  unfold spec_IsFact.f factB claimB
  simp only [sHasKind, sIn, sTime, Option.bind_some]
  by_cases h1 : a0 = 1
  · simp only [h1, if_true]
    cases hasKind a1 1 <;> cases inR a2 0 5 <;> cases inR a3 0 9 <;> cases inR a4 0 10000 <;> cases inR a5 0 10000 <;> simp
  · by_cases h2 : a0 = 2
    · simp only [h2, if_true, if_false, show ¬ ((2 : Int) = 1) by decide]
      cases hasKind a1 1 <;> cases hasKind a2 2 <;> cases inR a3 0 9 <;> cases inR a4 0 10000 <;> cases inR a5 0 10000 <;> simp
    · by_cases h3 : a0 = 3
      · simp only [h3, if_true, if_false, show ¬ ((3 : Int) = 1) by decide, show ¬ ((3 : Int) = 2) by decide]
        cases hasKind a1 2 <;> cases inR a2 0 3 <;> cases inR a3 0 9 <;> cases inR a4 0 10000 <;> cases inR a5 0 10000 <;> simp
      · by_cases h4 : a0 = 4
        · simp only [h4, if_true, if_false, show ¬ ((4 : Int) = 1) by decide, show ¬ ((4 : Int) = 2) by decide, show ¬ ((4 : Int) = 3) by decide]
          cases hasKind a1 3 <;> cases inR a2 0 3 <;> cases inR a3 0 9 <;> cases inR a4 0 10000 <;> cases inR a5 0 10000 <;> simp
        · simp only [h1, h2, h3, h4, if_false]
          simp

theorem sBefore (a0 a1 a2 a3 a4 a5 b0 b1 b2 b3 b4 b5 : Int) : spec_FactBefore.f a0 a1 a2 a3 a4 a5 b0 b1 b2 b3 b4 b5 = some (beforeB a0 a1 a2 a3 b0 b1 b2 b3) := by
  unfold spec_FactBefore.f beforeB
  by_cases h0 : a0 = b0
  · by_cases h1 : a1 = b1
    · by_cases h2 : a2 = b2
      · rw [if_pos h0, if_pos h1, if_pos h2]
        congr 1
        rw [decide_eq_decide]
        omega
      · rw [if_pos h0, if_pos h1, if_neg h2]
        congr 1
        rw [decide_eq_decide]
        omega
    · rw [if_pos h0, if_neg h1]
      congr 1
      rw [decide_eq_decide]
      omega
  · rw [if_neg h0]
    congr 1
    rw [decide_eq_decide]
    omega

theorem sStore_l0 (xs : List S26) (hx : xs.length ≤ 140737488351232) : ∀ (d k i : Nat), i + d = xs.length → d < k → spec_IsStore.l0 k xs (i : Int) = some (chain (prevOf xs i) (xs.drop i) && decide (xs.length ≤ 30)) := by
  intro d
  induction d with
  | zero =>
    intro k i hd hk
    obtain ⟨k, rfl⟩ : ∃ m, k = m + 1 := ⟨k - 1, by omega⟩
    simp only [spec_IsStore.l0]
    rw [if_neg (by omega), List.drop_eq_nil_of_le (by omega)]
    simp only [chain, Bool.true_and]
    congr 1
    rw [decide_eq_decide]
    omega
  | succ d ih =>
    intro k i hd hk
    obtain ⟨k, rfl⟩ : ∃ m, k = m + 1 := ⟨k - 1, by omega⟩
    simp only [spec_IsStore.l0]
    rw [if_pos (by omega), if_pos (by omega), rdF_nat xs i (by omega), sFact, Option.bind_some, cast_succ i (by omega), ih k (i + 1) (by omega) (by omega), prevOf_succ xs i (by omega), drop_cons xs i (by omega)]
    by_cases c : i = 0
    · subst c
      rw [if_neg (show ¬ (((0 : Nat) : Int) > 0) by omega)]
      simp only [prevOf, if_true, chain]
      show (if factF xs[0] = true then _ else _) = _
      cases factF xs[0] <;> simp
    · rw [if_pos (show (i : Int) > 0 by omega), w64 (n := (i : Int) - 1) (by omega) (by omega), if_pos (show (0 : Int) ≤ (i : Int) - 1 by omega), if_pos (show (i : Int) - 1 < (xs.length : Int) by omega), rdF_prev xs i (by omega) (by omega) hx, sBefore, Option.bind_some]
      simp only [prevOf, if_neg c, List.getElem?_eq_getElem (show i - 1 < xs.length by omega), chain]
      show (if factF xs[i] = true then (if befF xs[i - 1] xs[i] = true then _ else _) else _) = _
      cases factF xs[i] <;> cases befF xs[i - 1] xs[i] <;> simp
theorem sStore (xs : List S26) (hx : xs.length ≤ 140737488351232) (k : Nat) (hk : xs.length < k) : spec_IsStore.f k xs = some (isStoreL xs) := sStore_l0 xs hx xs.length k 0 (by omega) hk

theorem sSame (a0 a1 a2 a3 a4 a5 b0 b1 b2 b3 b4 b5 : Int) : spec_SameClaim.f a0 a1 a2 a3 a4 a5 b0 b1 b2 b3 b4 b5 = some (sameB a0 a1 a2 a3 b0 b1 b2 b3) := by
  unfold spec_SameClaim.f sameB
  by_cases h0 : a0 = b0
  · by_cases h1 : a1 = b1
    · by_cases h2 : a2 = b2
      · rw [if_pos h0, if_pos h1, if_pos h2]
        congr 1
        rw [Bool.eq_iff_iff]
        simp [h0, h1, h2]
      · simp [h0, h1, h2]
    · simp [h0, h1]
  · simp [h0]

theorem sCopy (xs : List S26) (hx : xs.length ≤ 2000000) : spec_l7Copy.f xs = some xs := by
  unfold spec_l7Copy.f
  simp only [Option.bind_some, List.length_nil, Nat.zero_add, List.nil_append]
  rw [if_pos (by omega)]
/-- The place is behind us: what is left goes over. -/
theorem sPut_done (xs : List S26) (hx : xs.length ≤ 30) (f : S26) : ∀ (d k i : Nat) (acc : List S26), i + d = xs.length → 3 * d < k → acc.length ≤ i + 1 → (∀ x ∈ xs.drop i, samF f x = false) →
    spec_PutFact.l0 k xs acc true (i : Int) f.f0 f.f1 f.f2 f.f3 f.f4 f.f5 = some (finF xs (acc ++ xs.drop i)) := by
  intro d
  induction d with
  | zero =>
    intro k i acc hd hk ha hn
    obtain ⟨k, rfl⟩ : ∃ m, k = m + 1 := ⟨k - 1, by omega⟩
    simp only [spec_PutFact.l0]
    rw [if_neg (by omega), if_pos trivial, List.drop_eq_nil_of_le (by omega), List.append_nil]
    unfold finF
    by_cases h : acc.length ≤ 30
    · rw [if_neg (by omega), if_pos h]
    · rw [if_pos (by omega), if_neg h, sCopy xs (by omega), Option.bind_some]
  | succ d ih =>
    intro k i acc hd hk ha hn
    obtain ⟨k, rfl⟩ : ∃ m, k = m + 3 := ⟨k - 3, by omega⟩
    have h : i < xs.length := by omega
    have hs : samF f xs[i] = false := hn _ (by rw [drop_cons xs i h]; exact List.mem_cons_self)
    simp only [spec_PutFact.l0, spec_PutFact.j2, spec_PutFact.j3, rdF_nat xs i h, sSame, Option.bind_some]
    rw [if_pos (by omega), if_pos trivial, if_neg (by simp), if_pos (by omega), if_pos (by omega)]
    show (if samF f xs[i] = true then _ else _) = _
    rw [if_neg (by rw [hs]; simp), if_pos (by omega), cast_succ i (by omega)]
    refine (ih k (i + 1) (acc ++ [xs[i]]) (by omega) (by omega) (by rw [List.length_append, List.length_singleton]; omega) (fun x hx => hn x (by rw [drop_cons xs i h]; exact List.mem_cons_of_mem _ hx))).trans ?_
    rw [drop_cons xs i h, List.append_assoc]
    rfl
theorem sPut_l0 (xs : List S26) (hx : xs.length ≤ 30) (f : S26) : ∀ (d k i : Nat) (acc : List S26) (p : Option S26), i + d = xs.length → 3 * d < k → acc.length ≤ i → chain p (xs.drop i) = true →
    spec_PutFact.l0 k xs acc false (i : Int) f.f0 f.f1 f.f2 f.f3 f.f4 f.f5 = some (finF xs (acc ++ putRec f (xs.drop i))) := by
  intro d
  induction d with
  | zero =>
    intro k i acc p hd hk ha hc
    obtain ⟨k, rfl⟩ : ∃ m, k = m + 1 := ⟨k - 1, by omega⟩
    simp only [spec_PutFact.l0, Option.bind_some]
    rw [if_neg (by omega), if_neg (by simp), if_pos (by omega), List.drop_eq_nil_of_le (by omega)]
    unfold finF putRec
    have hl : (acc ++ [f]).length = acc.length + 1 := by simp
    show (if ((acc ++ [f]).length : Int) > 30 then _ else _) = some (if (acc ++ [f]).length ≤ 30 then _ else _)
    rw [hl]
    by_cases h : acc.length + 1 ≤ 30
    · rw [if_neg (by omega), if_pos h]
    · rw [if_pos (by omega), if_neg h, sCopy xs (by omega), Option.bind_some]
  | succ d ih =>
    intro k i acc p hd hk ha hc
    obtain ⟨k, rfl⟩ : ∃ m, k = m + 3 := ⟨k - 3, by omega⟩
    have h : i < xs.length := by omega
    rw [drop_cons xs i h] at hc
    have hc2 := (chain_some_of hc).2
    simp only [spec_PutFact.l0, rdF_nat xs i h, sBefore, Option.bind_some]
    rw [if_pos (by omega), if_neg (by simp), if_pos (by omega)]
    show spec_PutFact.j2 (k + 2) xs acc false (i : Int) (befF f xs[i]) _ _ _ _ _ _ = _
    simp only [spec_PutFact.j2]
    cases cb : befF f xs[i] with
    | true =>
      -- it goes in here
      have hs : samF f xs[i] = false := bef_not_sam cb
      rw [if_pos rfl, if_pos (by omega)]
      simp only [spec_PutFact.j3, rdF_nat xs i h, sSame, Option.bind_some]
      rw [if_pos (by omega), if_pos (by omega)]
      show (if samF f xs[i] = true then _ else _) = _
      rw [if_neg (by rw [hs]; simp), if_pos (by rw [List.length_append, List.length_singleton]; omega), cast_succ i (by omega)]
      refine (sPut_done xs hx f d k (i + 1) ((acc ++ [f]) ++ [xs[i]]) (by omega) (by omega) (by simp only [List.length_append, List.length_singleton]; omega) (chain_not_sam f _ _ hc2 (.inl cb))).trans ?_
      rw [drop_cons xs i h]
      simp only [putRec]
      rw [if_neg (by rw [bef_not_bef cb]; simp)]
      simp only [putAt]
      rw [if_neg (by rw [sam_comm, hs]; simp)]
      simp only [List.append_assoc]
      rfl
    | false =>
      rw [if_neg (by simp)]
      simp only [spec_PutFact.j3, rdF_nat xs i h, sSame, Option.bind_some]
      rw [if_pos (by omega), if_pos (by omega)]
      show (if samF f xs[i] = true then _ else _) = _
      cases cs : samF f xs[i] with
      | true =>
        have hns := chain_not_sam f _ _ hc2 (.inr cs)
        have e : putRec f (xs[i] :: xs.drop (i + 1)) = (if laterF f xs[i] = true then f else xs[i]) :: xs.drop (i + 1) := by
          simp only [putRec]
          rw [if_neg (by
            have h1 : samF xs[i] f = true := by rw [sam_comm]; exact cs
            cases c3 : befF xs[i] f with
            | false => simp
            | true => rw [bef_not_sam c3] at h1; cases h1)]
          simp only [putAt]
          rw [if_pos (by rw [sam_comm]; exact cs)]
        have fin : ∀ y : S26, spec_PutFact.l0 k xs (acc ++ [y]) true ((i + 1 : Nat) : Int) f.f0 f.f1 f.f2 f.f3 f.f4 f.f5 = some (finF xs (acc ++ y :: xs.drop (i + 1))) := fun y => by
          refine (sPut_done xs hx f d k (i + 1) (acc ++ [y]) (by omega) (by omega) (by rw [List.length_append, List.length_singleton]; omega) hns).trans ?_
          rw [List.append_assoc]
          rfl
        rw [if_pos rfl, drop_cons xs i h, e, cast_succ i (by omega)]
        unfold laterF
        by_cases h4 : f.f4 > xs[i].f4
        · rw [if_pos h4, if_pos (by omega), decide_eq_true h4, Bool.true_or, if_pos rfl]
          exact fin f
        · rw [if_neg h4, decide_eq_false h4, Bool.false_or]
          by_cases h5 : f.f4 = xs[i].f4
          · rw [if_pos h5, decide_eq_true h5, Bool.true_and]
            by_cases h6 : f.f5 > xs[i].f5
            · rw [if_pos h6, if_pos (by omega), decide_eq_true h6, if_pos rfl]
              exact fin f
            · rw [if_neg h6, if_pos (by omega), decide_eq_false h6, if_neg (by simp)]
              exact fin xs[i]
          · rw [if_neg h5, if_pos (by omega), decide_eq_false h5, Bool.false_and, if_neg (by simp)]
            exact fin xs[i]
      | false =>
        have hb : befF xs[i] f = true := bef_total cb cs
        rw [if_neg (by simp), if_pos (by omega), cast_succ i (by omega)]
        refine (ih k (i + 1) (acc ++ [xs[i]]) (some xs[i]) (by omega) (by omega) (by rw [List.length_append, List.length_singleton]; omega) hc2).trans ?_
        rw [drop_cons xs i h]
        simp only [putRec]
        rw [if_pos hb, List.append_assoc]
        rfl
theorem sPut (xs : List S26) (hx : xs.length ≤ 2000000) (f : S26) (k : Nat) (hk : xs.length < k) (hk2 : 100 ≤ k) : spec_PutFact.f k xs f.f0 f.f1 f.f2 f.f3 f.f4 f.f5 = some (putL xs f) := by
  obtain ⟨k, rfl⟩ : ∃ m, k = m + 1 := ⟨k - 1, by omega⟩
  unfold spec_PutFact.f putL
  rw [sStore xs (by omega) (k + 1) hk, Option.bind_some]
  cases c : isStoreL xs with
  | false =>
    rw [if_neg (by simp), if_neg (by simp)]
    simp only [spec_PutFact.j0, if_true, sCopy xs hx, Option.bind_some]
  | true =>
    have h30 : chain none xs = true ∧ xs.length ≤ 30 := by
      unfold isStoreL at c
      rw [Bool.and_eq_true, decide_eq_true_eq] at c
      exact c
    rw [if_pos rfl, sFact, Option.bind_some]
    show spec_PutFact.j0 (k + 1) xs (!factF f) _ _ _ _ _ _ = _
    cases cf : factF f with
    | false =>
      rw [if_neg (by simp)]
      simp only [spec_PutFact.j0, Bool.not_false, if_true, sCopy xs hx, Option.bind_some]
    | true =>
      rw [if_pos (by simp)]
      simp only [spec_PutFact.j0, Bool.not_true, Bool.false_eq_true, if_false]
      have := sPut_l0 xs h30.2 f xs.length k 0 [] none (by omega) (by omega) (by simp) (by simpa using h30.1)
      simp only [List.nil_append, List.drop_zero] at this
      exact this

theorem sMerge_l0 (b : List S26) (hb : b.length ≤ 2000000) : ∀ (d k i : Nat) (out : List S26), i + d = b.length → d + 40 + out.length < k → 140 + d < k → out.length ≤ 1900000 → spec_MergeStores.l0 k b out (i : Int) = some (mergeL out (b.drop i)) := by
  intro d
  induction d with
  | zero =>
    intro k i out hd hk hk2 ho
    obtain ⟨k, rfl⟩ : ∃ m, k = m + 1 := ⟨k - 1, by omega⟩
    simp only [spec_MergeStores.l0]
    rw [if_neg (by omega), List.drop_eq_nil_of_le (by omega)]
    rfl
  | succ d ih =>
    intro k i out hd hk hk2 ho
    obtain ⟨k, rfl⟩ : ∃ m, k = m + 1 := ⟨k - 1, by omega⟩
    have hl := putL_len out b[i]
    simp only [spec_MergeStores.l0]
    rw [if_pos (by omega), if_pos (by omega), rdF_nat b i (by omega), sPut out (by omega) _ k (by omega) (by omega), Option.bind_some, cast_succ i (by omega), ih k (i + 1) _ (by omega) (by omega) (by omega) (by omega), drop_cons b i (by omega)]
    rfl
theorem sMerge (a b : List S26) (ha : a.length ≤ 1900000) (hb : b.length ≤ 2000000) (k : Nat) (hk : a.length + b.length + 150 ≤ k) : spec_MergeStores.f k a b = some (mergeL a b) := by
  unfold spec_MergeStores.f
  rw [sCopy a (by omega), Option.bind_some]
  exact sMerge_l0 b hb b.length k 0 a (by omega) (by omega) (by omega) ha

theorem iIn (x lo hi : Int) : impl_InRange.f x lo hi = some (inR x lo hi) := by
  unfold impl_InRange.f inR
  by_cases h : lo ≤ x <;> simp [h]

theorem iName (x : Int) : impl_IsName.f x = some (inR x 10 49) := by unfold impl_IsName.f; rw [iIn]; rfl

theorem iKindOf (x : Int) : impl_KindOf.f x = some (if inR x 10 49 = true then x / 10 else 0) := by
  unfold impl_KindOf.f
  rw [iName]
  cases h : inR x 10 49
  · simp
  · simp only [Option.bind_some, if_true]
    rw [tdiv10 h]

theorem iHasKind (x k : Int) : impl_HasKind.f x k = some (hasKind x k) := by
  unfold impl_HasKind.f hasKind
  rw [iName, iKindOf]
  cases h : inR x 10 49
  · simp
  · simp only [Option.bind_some, if_true, Bool.true_and]
    rfl

theorem iTime (x : Int) : impl_IsTime.f x = some (inR x 0 10000) := by unfold impl_IsTime.f; rw [iIn]; rfl

theorem iClaim (a0 a1 a2 a3 a4 a5 : Int) : impl_isClaim.f a0 a1 a2 a3 a4 a5 = some (claimB a0 a1 a2) := by
  unfold impl_isClaim.f claimB
  simp only [iHasKind, iIn, Option.bind_some]
  by_cases h1 : a0 = 1
  · simp only [h1, if_true]
    cases hasKind a1 1 <;> simp
  · by_cases h2 : a0 = 2
    · simp only [h2, if_true, if_false, show ¬ ((2 : Int) = 1) by decide]
      cases hasKind a1 1 <;> simp
    · by_cases h3 : a0 = 3
      · simp only [h3, if_true, if_false, show ¬ ((3 : Int) = 1) by decide, show ¬ ((3 : Int) = 2) by decide]
        cases hasKind a1 2 <;> simp
      · by_cases h4 : a0 = 4
        · simp only [h4, if_true, if_false, show ¬ ((4 : Int) = 1) by decide, show ¬ ((4 : Int) = 2) by decide, show ¬ ((4 : Int) = 3) by decide]
          cases hasKind a1 3 <;> simp
        · simp only [h1, h2, h3, h4, if_false]
theorem iFact (a0 a1 a2 a3 a4 a5 : Int) : impl_IsFact.f a0 a1 a2 a3 a4 a5 = some (factB a0 a1 a2 a3 a4 a5) := by
  unfold impl_IsFact.f factB
  simp only [iClaim, iIn, iTime, Option.bind_some]
  cases claimB a0 a1 a2 <;> cases inR a3 0 9 <;> cases inR a4 0 10000 <;> cases inR a5 0 10000 <;> simp

theorem iCmp (a0 a1 a2 a3 a4 a5 b0 b1 b2 b3 b4 b5 : Int) : ∃ c, impl_compareClaims.f a0 a1 a2 a3 a4 a5 b0 b1 b2 b3 b4 b5 = some c ∧ (c = 0 ↔ sameB a0 a1 a2 a3 b0 b1 b2 b3 = true) ∧ (c < 0 ↔ beforeB a0 a1 a2 a3 b0 b1 b2 b3 = true) := by
  refine ⟨_, rfl, ?_, ?_⟩
  · unfold sameB
    rw [decide_eq_true_iff]
    repeat' split
    all_goals omega
  · unfold beforeB
    rw [decide_eq_true_iff]
    repeat' split
    all_goals omega

theorem iBefore (a0 a1 a2 a3 a4 a5 b0 b1 b2 b3 b4 b5 : Int) : impl_FactBefore.f a0 a1 a2 a3 a4 a5 b0 b1 b2 b3 b4 b5 = some (beforeB a0 a1 a2 a3 b0 b1 b2 b3) := by
  obtain ⟨c, e, _, h⟩ := iCmp a0 a1 a2 a3 a4 a5 b0 b1 b2 b3 b4 b5
  unfold impl_FactBefore.f
  rw [e, Option.bind_some]
  congr 1
  rw [Bool.eq_iff_iff, ← h]
  simp

theorem iStore_l0 (xs : List S26) (hx : xs.length ≤ 140737488351232) : ∀ (d k i : Nat), i + d = xs.length → d < k → impl_IsStore.l0 k xs xs (xs.length : Int) (i : Int) = some (chain (prevOf xs i) (xs.drop i) && decide (xs.length ≤ 30)) := by
  intro d
  induction d with
  | zero =>
    intro k i hd hk
    obtain ⟨k, rfl⟩ : ∃ m, k = m + 1 := ⟨k - 1, by omega⟩
    simp only [impl_IsStore.l0]
    rw [if_neg (by omega), List.drop_eq_nil_of_le (by omega)]
    simp only [chain, Bool.true_and]
    congr 1
    rw [decide_eq_decide]
    omega
  | succ d ih =>
    intro k i hd hk
    obtain ⟨k, rfl⟩ : ∃ m, k = m + 1 := ⟨k - 1, by omega⟩
    simp only [impl_IsStore.l0]
    rw [if_pos (by omega), if_pos (by omega), if_pos (by omega), rdF_nat xs i (by omega), iFact, Option.bind_some, cast_succ i (by omega), ih k (i + 1) (by omega) (by omega), prevOf_succ xs i (by omega), drop_cons xs i (by omega)]
    by_cases c : i = 0
    · subst c
      rw [if_neg (show ¬ (((0 : Nat) : Int) > 0) by omega)]
      simp only [prevOf, if_true, chain]
      show (if factF xs[0] = true then _ else _) = _
      cases factF xs[0] <;> simp
    · rw [if_pos (show (i : Int) > 0 by omega), w64 (n := (i : Int) - 1) (by omega) (by omega), if_pos (show (0 : Int) ≤ (i : Int) - 1 by omega), if_pos (show (i : Int) - 1 < (xs.length : Int) by omega), rdF_prev xs i (by omega) (by omega) hx, iBefore, Option.bind_some]
      simp only [prevOf, if_neg c, List.getElem?_eq_getElem (show i - 1 < xs.length by omega), chain]
      show (if factF xs[i] = true then (if befF xs[i - 1] xs[i] = true then _ else _) else _) = _
      cases factF xs[i] <;> cases befF xs[i - 1] xs[i] <;> simp
theorem iStore (xs : List S26) (hx : xs.length ≤ 140737488351232) (k : Nat) (hk : xs.length < k) : impl_IsStore.f k xs = some (isStoreL xs) := iStore_l0 xs hx xs.length k 0 (by omega) hk

theorem iSame (a0 a1 a2 a3 a4 a5 b0 b1 b2 b3 b4 b5 : Int) : impl_SameClaim.f a0 a1 a2 a3 a4 a5 b0 b1 b2 b3 b4 b5 = some (sameB a0 a1 a2 a3 b0 b1 b2 b3) := by
  obtain ⟨c, e, h, _⟩ := iCmp a0 a1 a2 a3 a4 a5 b0 b1 b2 b3 b4 b5
  unfold impl_SameClaim.f
  rw [e, Option.bind_some]
  congr 1
  rw [Bool.eq_iff_iff, ← h]
  simp

theorem iLater (f x : S26) : impl_isLater.f f.f0 f.f1 f.f2 f.f3 f.f4 f.f5 x.f0 x.f1 x.f2 x.f3 x.f4 x.f5 = some (laterF f x) := by
  unfold impl_isLater.f laterF
  by_cases h : f.f4 > x.f4
  · simp [h]
  · by_cases h2 : f.f4 = x.f4
    · simp [h2]
    · simp [h, h2]
theorem iPut_j3 (xs : List S26) (hx : xs.length ≤ 30) (f : S26) (i : Nat) (hi : i ≤ xs.length) (k : Nat) (s : Bool) (hs : s = true → i < xs.length) (hs' : ∀ h : i < xs.length, samF xs[i] f = s) :
    impl_PutFact.j3 (k + 1) xs xs (i : Int) s f.f0 f.f1 f.f2 f.f3 f.f4 f.f5 = some (finF xs (xs.take i ++ putAt f (xs.drop i))) := by
  simp only [impl_PutFact.j3]
  cases s with
  | true =>
    have h := hs rfl
    have e := hs' h
    rw [if_pos rfl, if_pos (by omega), if_pos (by omega), rdF_nat xs i h, iLater, Option.bind_some, drop_cons xs i h]
    simp only [putAt]
    rw [if_pos e]
    cases c : laterF f xs[i] with
    | true =>
      rw [if_pos rfl, if_pos (by omega), if_pos rfl]
      unfold finF
      rw [if_pos (by rw [List.length_append, List.length_cons, List.length_take, List.length_drop]; omega), Int.toNat_natCast]
      congr 2
      show xs.set i f = _
      rw [List.set_eq_take_append_cons_drop, if_pos h]
    | false =>
      rw [if_neg (by simp), if_neg (by simp)]
      unfold finF
      rw [← drop_cons xs i h, List.take_append_drop, if_pos hx]
  | false =>
    rw [if_neg (by simp)]
    have e : putAt f (xs.drop i) = f :: xs.drop i := by
      by_cases h : i < xs.length
      · rw [drop_cons xs i h]
        simp only [putAt]
        rw [if_neg (by rw [hs' h]; simp)]
      · rw [List.drop_eq_nil_of_le (by omega)]
        rfl
    rw [e]
    have hl : (xs.take i ++ f :: xs.drop i).length = xs.length + 1 := by
      rw [List.length_append, List.length_cons, List.length_take, List.length_drop]
      omega
    unfold finF
    rw [hl]
    by_cases h30 : (xs.length : Int) = 30
    · rw [if_pos h30, if_neg (by omega)]
    · rw [if_neg h30, if_pos (by omega)]
      unfold impl_Fact.f
      rw [if_pos List.length_singleton, if_pos (by omega), if_pos (by omega), if_pos (by omega), Option.bind_some, Int.toNat_natCast, List.append_assoc]
      rfl
theorem iPut_j2 (xs : List S26) (hx : xs.length ≤ 30) (f : S26) (i : Nat) (hi : i ≤ xs.length) (k : Nat) :
    impl_PutFact.j2 (k + 2) xs xs (i : Int) f.f0 f.f1 f.f2 f.f3 f.f4 f.f5 = some (finF xs (xs.take i ++ putAt f (xs.drop i))) := by
  simp only [impl_PutFact.j2]
  by_cases h : i < xs.length
  · rw [if_pos (by omega), if_pos (by omega), rdF_nat xs i h, iSame, Option.bind_some]
    exact iPut_j3 xs hx f i hi k _ (fun _ => h) (fun _ => rfl)
  · rw [if_neg (by omega)]
    exact iPut_j3 xs hx f i hi k false (by simp) (fun h' => absurd h' h)
theorem iPut_l0 (xs : List S26) (hx : xs.length ≤ 30) (f : S26) : ∀ (d k i : Nat), i + d = xs.length → d + 2 < k → impl_PutFact.l0 k xs xs (i : Int) f.f0 f.f1 f.f2 f.f3 f.f4 f.f5 = some (finF xs (xs.take i ++ putRec f (xs.drop i))) := by
  intro d
  induction d with
  | zero =>
    intro k i hd hk
    obtain ⟨k, rfl⟩ : ∃ m, k = m + 3 := ⟨k - 3, by omega⟩
    simp only [impl_PutFact.l0]
    rw [if_neg (by omega), iPut_j2 xs hx f i (by omega) k, List.drop_eq_nil_of_le (by omega)]
    rfl
  | succ d ih =>
    intro k i hd hk
    obtain ⟨k, rfl⟩ : ∃ m, k = m + 1 := ⟨k - 1, by omega⟩
    have h : i < xs.length := by omega
    simp only [impl_PutFact.l0]
    rw [if_pos (by omega), if_pos (by omega), rdF_nat xs i h, iBefore, Option.bind_some]
    show (if befF xs[i] f = true then _ else _) = _
    cases c : befF xs[i] f with
    | true =>
      rw [if_pos rfl, cast_succ i (by omega), ih k (i + 1) (by omega) (by omega), drop_cons xs i h]
      simp only [putRec]
      rw [if_pos c, List.take_succ_eq_append_getElem h, List.append_assoc]
      rfl
    | false =>
      obtain ⟨k, rfl⟩ : ∃ m, k = m + 2 := ⟨k - 2, by omega⟩
      rw [if_neg (by simp), iPut_j2 xs hx f i (by omega) k, drop_cons xs i h]
      simp only [putRec]
      rw [if_neg (by rw [c]; simp)]
theorem iPut (xs : List S26) (hx : xs.length ≤ 2000000) (f : S26) (k : Nat) (hk : xs.length < k) (hk2 : 40 ≤ k) : impl_PutFact.f k xs f.f0 f.f1 f.f2 f.f3 f.f4 f.f5 = some (putL xs f) := by
  obtain ⟨k, rfl⟩ : ∃ m, k = m + 1 := ⟨k - 1, by omega⟩
  unfold impl_PutFact.f impl_copyFacts.f putL
  simp only [Option.bind_some, List.length_nil, Nat.zero_add, List.nil_append]
  rw [if_pos (by omega), Option.bind_some, iStore xs (by omega) (k + 1) hk, Option.bind_some]
  cases c : isStoreL xs with
  | false =>
    rw [if_neg (by simp), if_neg (by simp)]
    simp only [impl_PutFact.j0, if_true]
  | true =>
    have h30 : xs.length ≤ 30 := by
      unfold isStoreL at c
      rw [Bool.and_eq_true, decide_eq_true_eq] at c
      exact c.2
    rw [if_pos rfl, iFact, Option.bind_some]
    show impl_PutFact.j0 (k + 1) xs xs 0 (!factF f) _ _ _ _ _ _ = _
    cases cf : factF f with
    | false =>
      rw [if_neg (by simp)]
      simp only [impl_PutFact.j0, Bool.not_false, if_true]
    | true =>
      rw [if_pos (by simp)]
      simp only [impl_PutFact.j0, Bool.not_true, Bool.false_eq_true, if_false]
      have := iPut_l0 xs h30 f xs.length k 0 (by omega) (by omega)
      simp only [List.take_zero, List.nil_append, List.drop_zero] at this
      exact this

theorem iMerge_l0 (b : List S26) (hb : b.length ≤ 2000000) : ∀ (d k i : Nat) (out : List S26), i + d = b.length → d + 40 + out.length < k → 70 + d < k → out.length ≤ 1900000 → impl_MergeStores.l0 k out b (b.length : Int) (i : Int) = some (mergeL out (b.drop i)) := by
  intro d
  induction d with
  | zero =>
    intro k i out hd hk hk2 ho
    obtain ⟨k, rfl⟩ : ∃ m, k = m + 1 := ⟨k - 1, by omega⟩
    simp only [impl_MergeStores.l0]
    rw [if_neg (by omega), List.drop_eq_nil_of_le (by omega)]
    rfl
  | succ d ih =>
    intro k i out hd hk hk2 ho
    obtain ⟨k, rfl⟩ : ∃ m, k = m + 1 := ⟨k - 1, by omega⟩
    have hl := putL_len out b[i]
    simp only [impl_MergeStores.l0]
    rw [if_pos (by omega), if_pos (by omega), if_pos (by omega), rdF_nat b i (by omega), iPut out (by omega) _ k (by omega) (by omega), Option.bind_some, cast_succ i (by omega), ih k (i + 1) _ (by omega) (by omega) (by omega) (by omega), drop_cons b i (by omega)]
    rfl
theorem iMerge (a b : List S26) (ha : a.length ≤ 1900000) (hb : b.length ≤ 2000000) (k : Nat) (hk : a.length + b.length + 80 ≤ k) : impl_MergeStores.f k a b = some (mergeL a b) := by
  unfold impl_MergeStores.f impl_copyFacts.f
  simp only [Option.bind_some, List.length_nil, Nat.zero_add, List.nil_append]
  rw [if_pos (by omega), Option.bind_some]
  exact iMerge_l0 b hb b.length k 0 a (by omega) (by omega) (by omega) ha

theorem FnExactMergeStores : laws_FnExactMergeStores.Pure := by
  intro a b ha _ hb _
  refine ⟨a.length + b.length + 203, ?_⟩
  unfold laws_FnExactMergeStores.f
  rw [szFact a 1048576 (by omega) (by omega) (by omega)]
  simp only [Option.bind_some]
  by_cases h1 : (1048576 : Int) - a.length < 0
  · rw [if_pos h1]; rfl
  · rw [if_neg h1, if_neg h1, szFact b _ (by omega) (by omega) (by omega)]
    simp only [Option.bind_some]
    by_cases h2 : (1048576 : Int) - a.length - b.length < 0
    · rw [if_pos h2]; rfl
    · rw [if_neg h2, if_neg h2]
      have hla : (a.map toI).length = a.length := List.length_map _
      have hlb : (b.map toI).length = b.length := List.length_map _
      have hs := sMerge (a.map toI) (b.map toI) (by omega) (by omega) (a.length + b.length + 203) (by omega)
      have hi := fun k (hk : a.length + b.length + 80 ≤ k) => iMerge (a.map toI) (b.map toI) (by omega) (by omega) k (by omega)
      have hm := mergeL_len (b.map toI) (a.map toI)
      generalize mergeL (a.map toI) (b.map toI) = y at hs hi hm
      have hy : y.length ≤ 1048576 ∧ y.length ≤ a.length + 30 := by omega
      obtain ⟨ya, ea⟩ := markF_from (a.map toI) (by omega) 1 (by omega) (by omega) (a.length + b.length + 203) (by omega)
      obtain ⟨yb, eb⟩ := markF_from (b.map toI) (by omega) (1 + 6 * ((a.map toI).length : Int)) (by omega) (by omega) (a.length + b.length + 203) (by omega)
      obtain ⟨z, ez, hz⟩ := markF_some y hy.1 (a.length + b.length + 202) (by omega)
      simp only [toFactS_some a (by omega) _ (show a.length < a.length + b.length + 203 by omega), toFactS_some b (by omega) _ (show b.length < a.length + b.length + 203 by omega), Option.bind_some, hs, hi (a.length + b.length + 203) (by omega),
        eqFactS_some y y (by omega) _ (show y.length < a.length + b.length + 203 by omega), eqFactS_some (a.map toI) (a.map toI) (by omega) _ (show (a.map toI).length < a.length + b.length + 203 by omega), eqFactS_some (b.map toI) (b.map toI) (by omega) _ (show (b.map toI).length < a.length + b.length + 203 by omega), ea, eb, decide_true, if_true, Bool.not_true]
      rw [if_neg (by omega)]
      simp only [laws_FnExactMergeStores.j0, Bool.false_eq_true, if_false, ez, Option.bind_some, hz _ (show y.length < a.length + b.length + 202 by omega), toFactS_some a (by omega) _ (show a.length < a.length + b.length + 202 by omega), toFactS_some b (by omega) _ (show b.length < a.length + b.length + 202 by omega),
        hi (a.length + b.length + 202) (by omega), eqFactS_some y y (by omega) _ (show y.length < a.length + b.length + 202 by omega), decide_true, if_true]
      rw [if_neg (by omega), if_neg (by omega)]

end Go.Proofs.Ythanecnkknimpaa.Pure
