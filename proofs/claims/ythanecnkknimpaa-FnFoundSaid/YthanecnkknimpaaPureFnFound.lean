/- FnFound holds: whatever is drawn, what is found holds, the greatest value is that of a fact that holds, and what is past is dropped. No conditions. -/
import Derived.Test.YthanecnkknimpaaPFnFoundx12
import Derived.OpenShut
import Derived.Test.YthanecnkknimpaaWSized
namespace Go.Proofs.Ythanecnkknimpaa.Pure
open Go.RowKit Go.Proofs.Ythanecnkknimpaa.PFnFound Go.Proofs.YthanecnkknimpaaW.PrintWords Go.Proofs.YthanecnkknimpaaW.PrintLast
set_option linter.unusedVariables false
set_option linter.unusedSimpArgs false

theorem w64 {n : Int} (h : -9223372036854775808 ≤ n) (h' : n ≤ 9223372036854775807) : wrap64 n = n := by unfold wrap64; omega
theorem w64_lo (n : Int) : -9223372036854775808 ≤ wrap64 n := by unfold wrap64; omega
theorem w64_hi (n : Int) : wrap64 n ≤ 9223372036854775807 := by unfold wrap64; omega
theorem of_wf {n : Int} (h : (Lit.int .i64 n).wf = true) : -9223372036854775808 ≤ n ∧ n ≤ 9223372036854775807 := bounds_i64 h
theorem of_wf8 {n : Int} (h : (Lit.int .u8 n).wf = true) : 0 ≤ n ∧ n ≤ 255 := bounds_u8 h
theorem and_le (x : Int) (m : Nat) (hm : m < 9223372036854775808) : 0 ≤ bits .and .i64 x (m : Int) ∧ bits .and .i64 x (m : Int) ≤ m := by
  unfold bits
  rw [Go.IntKind.wrap_i64]
  simp only [BitVec.toNat_and]
  have h1 : (BitVec.ofInt IntKind.i64.bits (m : Int)).toNat = m := by
    rw [BitVec.ofInt_natCast, BitVec.toNat_ofNat]
    exact Nat.mod_eq_of_lt (by show m < 2 ^ 64; omega)
  rw [h1]
  have h2 : (BitVec.ofInt IntKind.i64.bits x).toNat &&& m ≤ m := Nat.and_le_right
  omega
theorem and255 (x : Int) : 0 ≤ bits .and .i64 x 255 ∧ bits .and .i64 x 255 ≤ 255 := and_le x 255 (by decide)
theorem tmod_lt {x n : Int} (h0 : 0 ≤ x) (hn : 0 < n) : 0 ≤ Int.tmod x n ∧ Int.tmod x n < n := by
  rw [Int.tmod_eq_emod_of_nonneg h0]
  exact ⟨Int.emod_nonneg _ (by omega), Int.emod_lt_of_pos _ hn⟩

/-- A cursor that stands inside its bytes. -/
def Cur (b : List Int) (i : Int) : Prop := 0 ≤ i ∧ i ≤ (b.length : Int) ∧ b.length ≤ 140737488351232
theorem l1New_l0 (l : List Int) (hl : l.length ≤ 140737488351232) : ∀ (d k : Nat) (h i : Int), 0 ≤ i → (l.length : Int) - i ≤ d → d < k → ∃ h', spec_l1New.l0 k l h i = some (l, 0, h') := by
  intro d
  induction d with
  | zero =>
    intro k h i h0 h1 hk
    obtain ⟨k, rfl⟩ : ∃ m, k = m + 1 := ⟨k - 1, by omega⟩
    exact ⟨h, by simp only [spec_l1New.l0]; rw [if_neg (by omega)]⟩
  | succ d ih =>
    intro k h i h0 h1 hk
    obtain ⟨k, rfl⟩ : ∃ m, k = m + 1 := ⟨k - 1, by omega⟩
    by_cases c1 : i < (l.length : Int)
    · by_cases c2 : i < 4000
      · obtain ⟨h', e⟩ := ih k _ (i + 1) (by omega) (by omega) (by omega)
        exact ⟨h', by simp only [spec_l1New.l0]; rw [if_pos c1, if_pos c2, if_pos h0, w64 (n := i + 1) (by omega) (by omega)]; exact e⟩
      · exact ⟨h, by simp only [spec_l1New.l0]; rw [if_pos c1, if_neg c2]⟩
    · exact ⟨h, by simp only [spec_l1New.l0]; rw [if_neg c1]⟩
theorem l1New_l0' (l : List Int) (hl : l.length ≤ 140737488351232) : ∀ (d k : Nat) (h i : Int), 0 ≤ i → i ≤ 4000 → 4000 - i ≤ d → d < k → ∃ h', spec_l1New.l0 k l h i = some (l, 0, h') := by
  intro d
  induction d with
  | zero =>
    intro k h i h0 h9 h1 hk
    obtain ⟨k, rfl⟩ : ∃ m, k = m + 1 := ⟨k - 1, by omega⟩
    by_cases c1 : i < (l.length : Int)
    · exact ⟨h, by simp only [spec_l1New.l0]; rw [if_pos c1, if_neg (by omega)]⟩
    · exact ⟨h, by simp only [spec_l1New.l0]; rw [if_neg c1]⟩
  | succ d ih =>
    intro k h i h0 h9 h1 hk
    obtain ⟨k, rfl⟩ : ∃ m, k = m + 1 := ⟨k - 1, by omega⟩
    by_cases c1 : i < (l.length : Int)
    · by_cases c2 : i < 4000
      · obtain ⟨h', e⟩ := ih k _ (i + 1) (by omega) (by omega) (by omega) (by omega)
        exact ⟨h', by simp only [spec_l1New.l0]; rw [if_pos c1, if_pos c2, if_pos h0, w64 (n := i + 1) (by omega) (by omega)]; exact e⟩
      · exact ⟨h, by simp only [spec_l1New.l0]; rw [if_pos c1, if_neg c2]⟩
    · exact ⟨h, by simp only [spec_l1New.l0]; rw [if_neg c1]⟩
/-- A new cursor stands at the begin; 4001 rounds are enough. -/
theorem l1New_some (l : List Int) (hl : l.length ≤ 140737488351232) (k : Nat) (hk : 4001 ≤ k) : ∃ h, spec_l1New.f k l = some (l, 0, h) ∧ Cur l 0 := by
  obtain ⟨h, e⟩ := l1New_l0' l hl 4000 k (wrap64 (193017 + (l.length : Int))) 0 (by omega) (by omega) (by omega) (by omega)
  exact ⟨h, e, ⟨by omega, by omega, hl⟩⟩
theorem l1Byte_some {b : List Int} {i : Int} (hc : Cur b i) (h : Int) : ∃ x i' h', spec_l1Byte.f b i h = some (x, i', h') ∧ 0 ≤ x ∧ x ≤ 255 ∧ Cur b i' := by
  obtain ⟨h0, h1, hb⟩ := hc
  unfold spec_l1Byte.f
  by_cases c : i < (b.length : Int)
  · rw [if_pos c, if_pos h0, w64 (n := i + 1) (by omega) (by omega)]
    exact ⟨_, _, _, rfl, (and255 _).1, (and255 _).2, by omega, by omega, hb⟩
  · rw [if_neg c]
    exact ⟨_, _, _, rfl, (and255 _).1, (and255 _).2, h0, h1, hb⟩
theorem l1Below_some {b : List Int} {i : Int} (hc : Cur b i) (h n : Int) (hn : 0 < n) : ∃ x i' h', spec_l1Below.f b i h n = some (x, i', h') ∧ 0 ≤ x ∧ x < n ∧ Cur b i' := by
  unfold spec_l1Below.f
  rw [if_neg (by omega)]
  by_cases c : n ≤ 256
  · rw [if_pos c]
    obtain ⟨x, i1, h1, e1, x0, x1, hc1⟩ := l1Byte_some hc h
    rw [e1]; simp only [Option.bind_some]
    rw [if_neg (by omega)]
    exact ⟨_, _, _, rfl, (tmod_lt x0 hn).1, (tmod_lt x0 hn).2, hc1⟩
  · rw [if_neg c]
    obtain ⟨x, i1, h1, e1, x0, x1, hc1⟩ := l1Byte_some hc h
    rw [e1]; simp only [Option.bind_some]
    obtain ⟨y, i2, h2, e2, y0, y1, hc2⟩ := l1Byte_some hc1 h1
    rw [e2]; simp only [Option.bind_some]
    obtain ⟨z, i3, h3, e3, z0, z1, hc3⟩ := l1Byte_some hc2 h2
    rw [e3]; simp only [Option.bind_some]
    rw [if_neg (by omega), w64 (n := x * 65536) (by omega) (by omega), w64 (n := y * 256) (by omega) (by omega), w64 (n := x * 65536 + y * 256) (by omega) (by omega), w64 (n := x * 65536 + y * 256 + z) (by omega) (by omega)]
    exact ⟨_, _, _, rfl, (tmod_lt (by omega) hn).1, (tmod_lt (by omega) hn).2, hc3⟩
theorem l1Below_some0 {b : List Int} {i : Int} (hc : Cur b i) (h n : Int) : ∃ x i' h', spec_l1Below.f b i h n = some (x, i', h') ∧ 0 ≤ x ∧ x ≤ mx 0 n ∧ Cur b i' := by
  by_cases hn : 0 < n
  · obtain ⟨x, i', h', e, x0, x1, hc'⟩ := l1Below_some hc h n hn
    exact ⟨x, i', h', e, x0, by unfold mx; split <;> omega, hc'⟩
  · refine ⟨0, i, h, ?_, by omega, by unfold mx; split <;> omega, hc⟩
    unfold spec_l1Below.f
    rw [if_pos (by omega)]

theorem l1Int_some {b : List Int} {i : Int} (hc : Cur b i) (h : Int) (l : List Int) (hl : 0 < l.length) (P : Int → Prop) (hP : ∀ x ∈ l, P x) : ∃ x i' h', spec_l1Int.f b i h l = some (x, i', h') ∧ P x ∧ Cur b i' := by
  unfold spec_l1Int.f
  obtain ⟨x, i1, h1, e1, x0, x1, hc1⟩ := l1Below_some hc h (l.length : Int) (by omega)
  rw [e1]; simp only [Option.bind_some]
  rw [if_pos x0, if_pos x1]
  refine ⟨_, _, _, rfl, hP _ ?_, hc1⟩
  unfold rd
  rw [List.getD_eq_getElem?_getD, List.getElem?_eq_getElem (show x.toNat < l.length by omega)]
  exact List.getElem_mem _

theorem l1Once_some {b : List Int} {i : Int} (hc : Cur b i) (h n : Int) (hn : 0 < n) : ∃ x i' h', spec_l1Once.f b i h n = some (x, i', h') ∧ Cur b i' := by
  unfold spec_l1Once.f
  obtain ⟨x, i1, h1, e1, x0, x1, hc1⟩ := l1Below_some hc h n hn
  rw [e1]; simp only [Option.bind_some]
  exact ⟨_, _, _, rfl, hc1⟩

def R64 (x : Int) : Prop := -9223372036854775808 ≤ x ∧ x ≤ 9223372036854775807
theorem R64_wrap (x : Int) : R64 (wrap64 x) := ⟨w64_lo x, w64_hi x⟩
theorem l5Name_some {b : List Int} {i : Int} (hc : Cur b i) (h a : Int) : ∃ x i' h', spec_l5Name.f b i h a = some (x, i', h') ∧ R64 x ∧ Cur b i' := by
  unfold spec_l5Name.f
  obtain ⟨y, i1, h1, e1, _, _, hc1⟩ := l1Below_some hc h 3 (by omega)
  rw [e1]
  exact ⟨_, _, _, rfl, R64_wrap _, hc1⟩
theorem l6Fact_some {b : List Int} {i : Int} (hc : Cur b i) (h : Int) : ∃ f0 f1 f2 f3 f4 f5 i' h', spec_l6Fact.f b i h = some (f0, f1, f2, f3, f4, f5, i', h') ∧ (R64 f0 ∧ R64 f1 ∧ R64 f2 ∧ R64 f3 ∧ R64 f4 ∧ R64 f5) ∧ Cur b i' := by
  unfold spec_l6Fact.f
  obtain ⟨x, i1, h1, e1, x0, x1, hc1⟩ := l1Below_some hc h 4 (by omega)
  rw [e1]; simp only [Option.bind_some]
  obtain ⟨y, i2, h2, e2, y0, y1, hc2⟩ := l1Below_some hc1 h1 3 (by omega)
  rw [e2]; simp only [Option.bind_some]
  obtain ⟨z, i3, h3, e3, z0, z1, hc3⟩ := l1Below_some hc2 h2 20 (by omega)
  rw [e3]; simp only [Option.bind_some]
  obtain ⟨u, i4, h4, e4, u0, u1, hc4⟩ := l1Below_some hc3 h3 30 (by omega)
  rw [e4]; simp only [Option.bind_some]
  have ry : R64 y := ⟨by omega, by omega⟩
  have rz : R64 z := ⟨by omega, by omega⟩
  by_cases c1 : wrap64 (1 + x) = 1
  · rw [if_pos c1]
    obtain ⟨n, i5, h5, e5, rn, hc5⟩ := l5Name_some hc4 h4 1
    rw [e5]; simp only [Option.bind_some]
    obtain ⟨v, i6, h6, e6, v0, v1, hc6⟩ := l1Below_some hc5 h5 4 (by omega)
    rw [e6]
    exact ⟨_, _, _, _, _, _, _, _, rfl, ⟨R64_wrap _, rn, ⟨by omega, by omega⟩, ry, rz, R64_wrap _⟩, hc6⟩
  · rw [if_neg c1]
    by_cases c2 : wrap64 (1 + x) = 2
    · rw [if_pos c2]
      obtain ⟨n, i5, h5, e5, rn, hc5⟩ := l5Name_some hc4 h4 1
      rw [e5]; simp only [Option.bind_some]
      obtain ⟨v, i6, h6, e6, rv, hc6⟩ := l5Name_some hc5 h5 2
      rw [e6]
      exact ⟨_, _, _, _, _, _, _, _, rfl, ⟨R64_wrap _, rn, rv, ry, rz, R64_wrap _⟩, hc6⟩
    · rw [if_neg c2]
      by_cases c3 : wrap64 (1 + x) = 3
      · rw [if_pos c3]
        obtain ⟨n, i5, h5, e5, rn, hc5⟩ := l5Name_some hc4 h4 2
        rw [e5]; simp only [Option.bind_some]
        obtain ⟨v, i6, h6, e6, v0, v1, hc6⟩ := l1Below_some hc5 h5 4 (by omega)
        rw [e6]
        exact ⟨_, _, _, _, _, _, _, _, rfl, ⟨R64_wrap _, rn, ⟨by omega, by omega⟩, ry, rz, R64_wrap _⟩, hc6⟩
      · rw [if_neg c3]
        obtain ⟨n, i5, h5, e5, rn, hc5⟩ := l5Name_some hc4 h4 3
        rw [e5]; simp only [Option.bind_some]
        obtain ⟨v, i6, h6, e6, v0, v1, hc6⟩ := l1Below_some hc5 h5 4 (by omega)
        rw [e6]
        exact ⟨_, _, _, _, _, _, _, _, rfl, ⟨R64_wrap _, rn, ⟨by omega, by omega⟩, ry, rz, R64_wrap _⟩, hc6⟩

theorem rd_nat (x : List Int) (i : Nat) (h : i < x.length) : rd x (i : Int) = x[i] := by
  unfold rd
  rw [List.getD_eq_getElem?_getD, Int.toNat_natCast, List.getElem?_eq_getElem h]
  rfl
theorem cast_succ (i : Nat) (h : i < 4611686018427387904) : wrap64 ((i : Int) + 1) = ((i + 1 : Nat) : Int) := by
  rw [w64 (by omega) (by omega)]
  rfl
theorem drop_cons {α : Type} (x : List α) (i : Nat) (h : i < x.length) : x.drop i = x[i] :: x.drop (i + 1) := List.drop_eq_getElem_cons h

instance : DecidableEq S26 := fun a b =>
  if h : a.f0 = b.f0 ∧ a.f1 = b.f1 ∧ a.f2 = b.f2 ∧ a.f3 = b.f3 ∧ a.f4 = b.f4 ∧ a.f5 = b.f5 then .isTrue (by
    obtain ⟨h0, h1, h2, h3, h4, h5⟩ := h
    cases a; cases b
    simp only at h0 h1 h2 h3 h4 h5
    subst h0 h1 h2 h3 h4 h5
    rfl) else .isFalse (fun e => h (by rw [e]; exact ⟨rfl, rfl, rfl, rfl, rfl, rfl⟩))
theorem rdF_nat (x : List S26) (i : Nat) (h : i < x.length) : rd_T26 x (i : Int) = x[i] := by
  unfold rd_T26
  rw [List.getD_eq_getElem?_getD, Int.toNat_natCast, List.getElem?_eq_getElem h]
  rfl
theorem neqF (a b : S26) : (!((a.f0) == (b.f0)) || (!((a.f1) == (b.f1)) || (!((a.f2) == (b.f2)) || (!((a.f3) == (b.f3)) || (!((a.f4) == (b.f4)) || (!((a.f5) == (b.f5)))))))) = !decide (a = b) := by
  by_cases h : a = b
  · subst h
    simp
  · rw [decide_eq_false h]
    simp only [Bool.not_false]
    cases c : (!((a.f0) == (b.f0)) || (!((a.f1) == (b.f1)) || (!((a.f2) == (b.f2)) || (!((a.f3) == (b.f3)) || (!((a.f4) == (b.f4)) || (!((a.f5) == (b.f5))))))))
    · simp only [Bool.or_eq_false_iff, Bool.not_eq_false', beq_iff_eq] at c
      exfalso
      apply h
      obtain ⟨h0, h1, h2, h3, h4, h5⟩ := c
      cases a; cases b
      simp only at h0 h1 h2 h3 h4 h5
      subst h0 h1 h2 h3 h4 h5
      rfl
    · rfl

def inR (x lo hi : Int) : Bool := decide (lo ≤ x) && decide (x ≤ hi)
theorem inR_true {x lo hi : Int} : inR x lo hi = true ↔ lo ≤ x ∧ x ≤ hi := by simp [inR]
theorem inR_false {x lo hi : Int} : inR x lo hi = false ↔ ¬ (lo ≤ x ∧ x ≤ hi) := by simp [inR]

def hasKind (x k : Int) : Bool := inR x 10 49 && decide (x / 10 = k)
theorem tdiv10 {x : Int} (h : inR x 10 49 = true) : wrap64 (Int.tdiv x 10) = x / 10 := by
  rw [inR_true] at h
  rw [Int.tdiv_eq_ediv_of_nonneg (by omega)]
  exact w64 (by omega) (by omega)
theorem tmod10 {x : Int} (h : inR x 10 49 = true) : Int.tmod x 10 = x % 10 := by
  rw [inR_true] at h
  exact Int.tmod_eq_emod_of_nonneg (by omega)

/-- What makes a fact. -/
def claimB (a0 a1 a2 : Int) : Bool :=
  if a0 = 1 then hasKind a1 1 && inR a2 0 5 else if a0 = 2 then hasKind a1 1 && hasKind a2 2 else if a0 = 3 then hasKind a1 2 && inR a2 0 3 else if a0 = 4 then hasKind a1 3 && inR a2 0 3 else false
def factB (a0 a1 a2 a3 a4 a5 : Int) : Bool := claimB a0 a1 a2 && (inR a3 0 9 && (inR a4 0 10000 && (inR a5 0 10000 && decide (a4 ≤ a5))))

def sameB (a0 a1 a2 a3 b0 b1 b2 b3 : Int) : Bool := decide (a0 = b0 ∧ a1 = b1 ∧ a2 = b2 ∧ a3 = b3)
def beforeB (a0 a1 a2 a3 b0 b1 b2 b3 : Int) : Bool := decide (a0 < b0 ∨ (a0 = b0 ∧ (a1 < b1 ∨ (a1 = b1 ∧ (a2 < b2 ∨ (a2 = b2 ∧ a3 < b3))))))

def factF (x : S26) : Bool := factB x.f0 x.f1 x.f2 x.f3 x.f4 x.f5
def befF (x y : S26) : Bool := beforeB x.f0 x.f1 x.f2 x.f3 y.f0 y.f1 y.f2 y.f3
def samF (x y : S26) : Bool := sameB x.f0 x.f1 x.f2 x.f3 y.f0 y.f1 y.f2 y.f3
def chain : Option S26 → List S26 → Bool
  | _, [] => true
  | none, x :: r => factF x && chain (some x) r
  | some p, x :: r => factF x && (befF p x && chain (some x) r)
def isStoreL (xs : List S26) : Bool := chain none xs && decide (xs.length ≤ 30)
def prevOf (xs : List S26) (i : Nat) : Option S26 := if i = 0 then none else xs[i - 1]?
theorem prevOf_succ (xs : List S26) (i : Nat) (h : i < xs.length) : prevOf xs (i + 1) = some xs[i] := by
  unfold prevOf
  rw [if_neg (by omega), Nat.add_sub_cancel, List.getElem?_eq_getElem h]
theorem rdF_prev (xs : List S26) (i : Nat) (h0 : 0 < i) (h : i < xs.length) (hx : xs.length ≤ 140737488351232) : rd_T26 xs ((i : Int) - 1) = xs[i - 1] := by
  rw [show (i : Int) - 1 = ((i - 1 : Nat) : Int) by omega, rdF_nat xs (i - 1) (by omega)]

def laterF (f x : S26) : Bool := decide (f.f4 > x.f4) || (decide (f.f4 = x.f4) && decide (f.f5 > x.f5))
/-- What is laid at the place where a fact belongs. -/
def putAt (f : S26) : List S26 → List S26
  | [] => [f]
  | x :: r => if samF x f = true then (if laterF f x = true then f else x) :: r else f :: x :: r
/-- A fact put into a sorted list. -/
def putRec (f : S26) : List S26 → List S26
  | [] => [f]
  | x :: r => if befF x f = true then x :: putRec f r else putAt f (x :: r)
def finF (xs y : List S26) : List S26 × Bool := if y.length ≤ 30 then (y, true) else (xs, false)
def putL (xs : List S26) (f : S26) : List S26 × Bool := if (isStoreL xs && factF f) = true then finF xs (putRec f xs) else (xs, false)
theorem befF_iff (x y : S26) : befF x y = true ↔ (x.f0 < y.f0 ∨ (x.f0 = y.f0 ∧ (x.f1 < y.f1 ∨ (x.f1 = y.f1 ∧ (x.f2 < y.f2 ∨ (x.f2 = y.f2 ∧ x.f3 < y.f3)))))) := by
  unfold befF beforeB
  rw [decide_eq_true_iff]
theorem samF_iff (x y : S26) : samF x y = true ↔ (x.f0 = y.f0 ∧ x.f1 = y.f1 ∧ x.f2 = y.f2 ∧ x.f3 = y.f3) := by
  unfold samF sameB
  rw [decide_eq_true_iff]
theorem bef_trans {x y z : S26} (h : befF x y = true) (k : befF y z = true) : befF x z = true := by
  rw [befF_iff] at *
  omega
theorem sam_bef {x y z : S26} (h : samF x y = true) (k : befF y z = true) : befF x z = true := by
  rw [befF_iff] at *
  rw [samF_iff] at h
  omega
theorem bef_sam {x y z : S26} (h : befF x y = true) (k : samF y z = true) : befF x z = true := by
  rw [befF_iff] at *
  rw [samF_iff] at k
  omega
theorem sam_comm (x y : S26) : samF x y = samF y x := by
  rw [Bool.eq_iff_iff, samF_iff, samF_iff]
  omega
theorem bef_not_sam {x y : S26} (h : befF x y = true) : samF x y = false := by
  cases c : samF x y
  · rfl
  · rw [befF_iff] at h
    rw [samF_iff] at c
    omega
theorem bef_not_bef {x y : S26} (h : befF x y = true) : befF y x = false := by
  cases c : befF y x
  · rfl
  · rw [befF_iff] at h c
    omega
theorem bef_total {x y : S26} (h : befF x y = false) (k : samF x y = false) : befF y x = true := by
  rw [← Bool.not_eq_true, befF_iff] at h
  rw [← Bool.not_eq_true, samF_iff] at k
  rw [befF_iff]
  omega
theorem chain_some_of {p : Option S26} {x : S26} {r : List S26} (h : chain p (x :: r) = true) : factF x = true ∧ chain (some x) r = true := by
  cases p with
  | none => simpa [chain] using h
  | some p =>
    simp only [chain, Bool.and_eq_true] at h
    exact ⟨h.1, h.2.2⟩
theorem chain_bef {p x : S26} {r : List S26} (h : chain (some p) (x :: r) = true) : befF p x = true := by
  simp only [chain, Bool.and_eq_true] at h
  exact h.2.1
/-- What stands behind an element that is not ahead of f bears no claim of f's. -/
theorem chain_not_sam (f : S26) : ∀ (r : List S26) (p : S26), chain (some p) r = true → befF f p = true ∨ samF f p = true → ∀ x ∈ r, samF f x = false
  | [], _, _, _, _, h => by cases h
  | y :: r, p, hc, hp, x, hx => by
    have hb : befF f y = true := by
      rcases hp with hp | hp
      · exact bef_trans hp (chain_bef hc)
      · exact sam_bef hp (chain_bef hc)
    rcases List.mem_cons.1 hx with rfl | hx
    · exact bef_not_sam hb
    · exact chain_not_sam f r y (chain_some_of hc).2 (.inl hb) x hx
theorem putRec_len (f : S26) : ∀ xs : List S26, xs.length ≤ (putRec f xs).length ∧ (putRec f xs).length ≤ xs.length + 1
  | [] => by simp [putRec]
  | x :: r => by
    have ih := putRec_len f r
    simp only [putRec, putAt]
    split
    · simp only [List.length_cons]
      omega
    · split <;> simp
theorem putL_len (xs : List S26) (f : S26) : (putL xs f).1.length ≤ xs.length ∨ (putL xs f).1.length ≤ 30 := by
  unfold putL finF
  split
  · split
    · exact .inr (by assumption)
    · exact .inl (Nat.le_refl _)
  · exact .inl (Nat.le_refl _)

theorem sIn (x lo hi : Int) : spec_l1In.f x lo hi = some (inR x lo hi) := by
  unfold spec_l1In.f inR
  by_cases h : lo ≤ x <;> simp [h]

theorem sName (x : Int) : spec_IsName.f x = some (inR x 10 49) := by unfold spec_IsName.f; rw [sIn]; rfl

theorem sHasKind (x k : Int) : spec_HasKind.f x k = some (hasKind x k) := by
  unfold spec_HasKind.f hasKind
  rw [sName]
  cases h : inR x 10 49
  · simp
  · simp only [Option.bind_some, if_true, Bool.true_and]
    rw [tdiv10 h]
    rfl

theorem sTime (x : Int) : spec_IsTime.f x = some (inR x 0 10000) := by unfold spec_IsTime.f; rw [sIn]; rfl

theorem sFact (a0 a1 a2 a3 a4 a5 : Int) : spec_IsFact.f a0 a1 a2 a3 a4 a5 = some (factB a0 a1 a2 a3 a4 a5) := by
  unfold spec_IsFact.f factB claimB
  simp only [sHasKind, sIn, sTime, Option.bind_some]
  by_cases h1 : a0 = 1
  · simp only [h1, if_true]
    cases hasKind a1 1 <;> cases inR a2 0 5 <;> cases inR a3 0 9 <;> cases inR a4 0 10000 <;> cases inR a5 0 10000 <;> simp
  · by_cases h2 : a0 = 2
    · simp only [h2, if_true, if_false, show ¬ ((2 : Int) = 1) by decide]
      cases hasKind a1 1 <;> cases hasKind a2 2 <;> cases inR a3 0 9 <;> cases inR a4 0 10000 <;> cases inR a5 0 10000 <;> simp
    · by_cases h3 : a0 = 3
      · simp only [h3, if_true, if_false, show ¬ ((3 : Int) = 1) by decide, show ¬ ((3 : Int) = 2) by decide]
        cases hasKind a1 2 <;> cases inR a2 0 3 <;> cases inR a3 0 9 <;> cases inR a4 0 10000 <;> cases inR a5 0 10000 <;> simp
      · by_cases h4 : a0 = 4
        · simp only [h4, if_true, if_false, show ¬ ((4 : Int) = 1) by decide, show ¬ ((4 : Int) = 2) by decide, show ¬ ((4 : Int) = 3) by decide]
          cases hasKind a1 3 <;> cases inR a2 0 3 <;> cases inR a3 0 9 <;> cases inR a4 0 10000 <;> cases inR a5 0 10000 <;> simp
        · simp only [h1, h2, h3, h4, if_false]
          simp

theorem sBefore (a0 a1 a2 a3 a4 a5 b0 b1 b2 b3 b4 b5 : Int) : spec_FactBefore.f a0 a1 a2 a3 a4 a5 b0 b1 b2 b3 b4 b5 = some (beforeB a0 a1 a2 a3 b0 b1 b2 b3) := by
  unfold spec_FactBefore.f beforeB
  by_cases h0 : a0 = b0
  · by_cases h1 : a1 = b1
    · by_cases h2 : a2 = b2
      · rw [if_pos h0, if_pos h1, if_pos h2]
        congr 1
        rw [decide_eq_decide]
        omega
      · rw [if_pos h0, if_pos h1, if_neg h2]
        congr 1
        rw [decide_eq_decide]
        omega
    · rw [if_pos h0, if_neg h1]
      congr 1
      rw [decide_eq_decide]
      omega
  · rw [if_neg h0]
    congr 1
    rw [decide_eq_decide]
    omega

theorem sStore_l0 (xs : List S26) (hx : xs.length ≤ 140737488351232) : ∀ (d k i : Nat), i + d = xs.length → d < k → spec_IsStore.l0 k xs (i : Int) = some (chain (prevOf xs i) (xs.drop i) && decide (xs.length ≤ 30)) := by
  intro d
  induction d with
  | zero =>
    intro k i hd hk
    obtain ⟨k, rfl⟩ : ∃ m, k = m + 1 := ⟨k - 1, by omega⟩
    simp only [spec_IsStore.l0]
    rw [if_neg (by omega), List.drop_eq_nil_of_le (by omega)]
    simp only [chain, Bool.true_and]
    congr 1
    rw [decide_eq_decide]
    omega
  | succ d ih =>
    intro k i hd hk
    obtain ⟨k, rfl⟩ : ∃ m, k = m + 1 := ⟨k - 1, by omega⟩
    simp only [spec_IsStore.l0]
    rw [if_pos (by omega), if_pos (by omega), rdF_nat xs i (by omega), sFact, Option.bind_some, cast_succ i (by omega), ih k (i + 1) (by omega) (by omega), prevOf_succ xs i (by omega), drop_cons xs i (by omega)]
    by_cases c : i = 0
    · subst c
      rw [if_neg (show ¬ (((0 : Nat) : Int) > 0) by omega)]
      simp only [prevOf, if_true, chain]
      show (if factF xs[0] = true then _ else _) = _
      cases factF xs[0] <;> simp
    · rw [if_pos (show (i : Int) > 0 by omega), w64 (n := (i : Int) - 1) (by omega) (by omega), if_pos (show (0 : Int) ≤ (i : Int) - 1 by omega), if_pos (show (i : Int) - 1 < (xs.length : Int) by omega), rdF_prev xs i (by omega) (by omega) hx, sBefore, Option.bind_some]
      simp only [prevOf, if_neg c, List.getElem?_eq_getElem (show i - 1 < xs.length by omega), chain]
      show (if factF xs[i] = true then (if befF xs[i - 1] xs[i] = true then _ else _) else _) = _
      cases factF xs[i] <;> cases befF xs[i - 1] xs[i] <;> simp
theorem sStore (xs : List S26) (hx : xs.length ≤ 140737488351232) (k : Nat) (hk : xs.length < k) : spec_IsStore.f k xs = some (isStoreL xs) := sStore_l0 xs hx xs.length k 0 (by omega) hk

theorem sSame (a0 a1 a2 a3 a4 a5 b0 b1 b2 b3 b4 b5 : Int) : spec_SameClaim.f a0 a1 a2 a3 a4 a5 b0 b1 b2 b3 b4 b5 = some (sameB a0 a1 a2 a3 b0 b1 b2 b3) := by
  unfold spec_SameClaim.f sameB
  by_cases h0 : a0 = b0
  · by_cases h1 : a1 = b1
    · by_cases h2 : a2 = b2
      · rw [if_pos h0, if_pos h1, if_pos h2]
        congr 1
        rw [Bool.eq_iff_iff]
        simp [h0, h1, h2]
      · simp [h0, h1, h2]
    · simp [h0, h1]
  · simp [h0]

theorem sCopy (xs : List S26) (hx : xs.length ≤ 2000000) : spec_l7Copy.f xs = some xs := by
  unfold spec_l7Copy.f
  simp only [Option.bind_some, List.length_nil, Nat.zero_add, List.nil_append]
  rw [if_pos (by omega)]
/-- The place is behind us: what is left goes over. -/
theorem sPut_done (xs : List S26) (hx : xs.length ≤ 30) (f : S26) : ∀ (d k i : Nat) (acc : List S26), i + d = xs.length → 3 * d < k → acc.length ≤ i + 1 → (∀ x ∈ xs.drop i, samF f x = false) →
    spec_PutFact.l0 k xs acc true (i : Int) f.f0 f.f1 f.f2 f.f3 f.f4 f.f5 = some (finF xs (acc ++ xs.drop i)) := by
  intro d
  induction d with
  | zero =>
    intro k i acc hd hk ha hn
    obtain ⟨k, rfl⟩ : ∃ m, k = m + 1 := ⟨k - 1, by omega⟩
    simp only [spec_PutFact.l0]
    rw [if_neg (by omega), if_pos trivial, List.drop_eq_nil_of_le (by omega), List.append_nil]
    unfold finF
    by_cases h : acc.length ≤ 30
    · rw [if_neg (by omega), if_pos h]
    · rw [if_pos (by omega), if_neg h, sCopy xs (by omega), Option.bind_some]
  | succ d ih =>
    intro k i acc hd hk ha hn
    obtain ⟨k, rfl⟩ : ∃ m, k = m + 3 := ⟨k - 3, by omega⟩
    have h : i < xs.length := by omega
    have hs : samF f xs[i] = false := hn _ (by rw [drop_cons xs i h]; exact List.mem_cons_self)
    simp only [spec_PutFact.l0, spec_PutFact.j2, spec_PutFact.j3, rdF_nat xs i h, sSame, Option.bind_some]
    rw [if_pos (by omega), if_pos trivial, if_neg (by simp), if_pos (by omega), if_pos (by omega)]
    show (if samF f xs[i] = true then _ else _) = _
    rw [if_neg (by rw [hs]; simp), if_pos (by omega), cast_succ i (by omega)]
    refine (ih k (i + 1) (acc ++ [xs[i]]) (by omega) (by omega) (by rw [List.length_append, List.length_singleton]; omega) (fun x hx => hn x (by rw [drop_cons xs i h]; exact List.mem_cons_of_mem _ hx))).trans ?_
    rw [drop_cons xs i h, List.append_assoc]
    rfl
theorem sPut_l0 (xs : List S26) (hx : xs.length ≤ 30) (f : S26) : ∀ (d k i : Nat) (acc : List S26) (p : Option S26), i + d = xs.length → 3 * d < k → acc.length ≤ i → chain p (xs.drop i) = true →
    spec_PutFact.l0 k xs acc false (i : Int) f.f0 f.f1 f.f2 f.f3 f.f4 f.f5 = some (finF xs (acc ++ putRec f (xs.drop i))) := by
  intro d
  induction d with
  | zero =>
    intro k i acc p hd hk ha hc
    obtain ⟨k, rfl⟩ : ∃ m, k = m + 1 := ⟨k - 1, by omega⟩
    simp only [spec_PutFact.l0, Option.bind_some]
    rw [if_neg (by omega), if_neg (by simp), if_pos (by omega), List.drop_eq_nil_of_le (by omega)]
    unfold finF putRec
    have hl : (acc ++ [f]).length = acc.length + 1 := by simp
    show (if ((acc ++ [f]).length : Int) > 30 then _ else _) = some (if (acc ++ [f]).length ≤ 30 then _ else _)
    rw [hl]
    by_cases h : acc.length + 1 ≤ 30
    · rw [if_neg (by omega), if_pos h]
    · rw [if_pos (by omega), if_neg h, sCopy xs (by omega), Option.bind_some]
  | succ d ih =>
    intro k i acc p hd hk ha hc
    obtain ⟨k, rfl⟩ : ∃ m, k = m + 3 := ⟨k - 3, by omega⟩
    have h : i < xs.length := by omega
    rw [drop_cons xs i h] at hc
    have hc2 := (chain_some_of hc).2
    simp only [spec_PutFact.l0, rdF_nat xs i h, sBefore, Option.bind_some]
    rw [if_pos (by omega), if_neg (by simp), if_pos (by omega)]
    show spec_PutFact.j2 (k + 2) xs acc false (i : Int) (befF f xs[i]) _ _ _ _ _ _ = _
    simp only [spec_PutFact.j2]
    cases cb : befF f xs[i] with
    | true =>
      -- it goes in here
      have hs : samF f xs[i] = false := bef_not_sam cb
      rw [if_pos rfl, if_pos (by omega)]
      simp only [spec_PutFact.j3, rdF_nat xs i h, sSame, Option.bind_some]
      rw [if_pos (by omega), if_pos (by omega)]
      show (if samF f xs[i] = true then _ else _) = _
      rw [if_neg (by rw [hs]; simp), if_pos (by rw [List.length_append, List.length_singleton]; omega), cast_succ i (by omega)]
      refine (sPut_done xs hx f d k (i + 1) ((acc ++ [f]) ++ [xs[i]]) (by omega) (by omega) (by simp only [List.length_append, List.length_singleton]; omega) (chain_not_sam f _ _ hc2 (.inl cb))).trans ?_
      rw [drop_cons xs i h]
      simp only [putRec]
      rw [if_neg (by rw [bef_not_bef cb]; simp)]
      simp only [putAt]
      rw [if_neg (by rw [sam_comm, hs]; simp)]
      simp only [List.append_assoc]
      rfl
    | false =>
      rw [if_neg (by simp)]
      simp only [spec_PutFact.j3, rdF_nat xs i h, sSame, Option.bind_some]
      rw [if_pos (by omega), if_pos (by omega)]
      show (if samF f xs[i] = true then _ else _) = _
      cases cs : samF f xs[i] with
      | true =>
        have hns := chain_not_sam f _ _ hc2 (.inr cs)
        have e : putRec f (xs[i] :: xs.drop (i + 1)) = (if laterF f xs[i] = true then f else xs[i]) :: xs.drop (i + 1) := by
          simp only [putRec]
          rw [if_neg (by
            have h1 : samF xs[i] f = true := by rw [sam_comm]; exact cs
            cases c3 : befF xs[i] f with
            | false => simp
            | true => rw [bef_not_sam c3] at h1; cases h1)]
          simp only [putAt]
          rw [if_pos (by rw [sam_comm]; exact cs)]
        have fin : ∀ y : S26, spec_PutFact.l0 k xs (acc ++ [y]) true ((i + 1 : Nat) : Int) f.f0 f.f1 f.f2 f.f3 f.f4 f.f5 = some (finF xs (acc ++ y :: xs.drop (i + 1))) := fun y => by
          refine (sPut_done xs hx f d k (i + 1) (acc ++ [y]) (by omega) (by omega) (by rw [List.length_append, List.length_singleton]; omega) hns).trans ?_
          rw [List.append_assoc]
          rfl
        rw [if_pos rfl, drop_cons xs i h, e, cast_succ i (by omega)]
        unfold laterF
        by_cases h4 : f.f4 > xs[i].f4
        · rw [if_pos h4, if_pos (by omega), decide_eq_true h4, Bool.true_or, if_pos rfl]
          exact fin f
        · rw [if_neg h4, decide_eq_false h4, Bool.false_or]
          by_cases h5 : f.f4 = xs[i].f4
          · rw [if_pos h5, decide_eq_true h5, Bool.true_and]
            by_cases h6 : f.f5 > xs[i].f5
            · rw [if_pos h6, if_pos (by omega), decide_eq_true h6, if_pos rfl]
              exact fin f
            · rw [if_neg h6, if_pos (by omega), decide_eq_false h6, if_neg (by simp)]
              exact fin xs[i]
          · rw [if_neg h5, if_pos (by omega), decide_eq_false h5, Bool.false_and, if_neg (by simp)]
            exact fin xs[i]
      | false =>
        have hb : befF xs[i] f = true := bef_total cb cs
        rw [if_neg (by simp), if_pos (by omega), cast_succ i (by omega)]
        refine (ih k (i + 1) (acc ++ [xs[i]]) (some xs[i]) (by omega) (by omega) (by rw [List.length_append, List.length_singleton]; omega) hc2).trans ?_
        rw [drop_cons xs i h]
        simp only [putRec]
        rw [if_pos hb, List.append_assoc]
        rfl
theorem sPut (xs : List S26) (hx : xs.length ≤ 2000000) (f : S26) (k : Nat) (hk : xs.length < k) (hk2 : 100 ≤ k) : spec_PutFact.f k xs f.f0 f.f1 f.f2 f.f3 f.f4 f.f5 = some (putL xs f) := by
  obtain ⟨k, rfl⟩ : ∃ m, k = m + 1 := ⟨k - 1, by omega⟩
  unfold spec_PutFact.f putL
  rw [sStore xs (by omega) (k + 1) hk, Option.bind_some]
  cases c : isStoreL xs with
  | false =>
    rw [if_neg (by simp), if_neg (by simp)]
    simp only [spec_PutFact.j0, if_true, sCopy xs hx, Option.bind_some]
  | true =>
    have h30 : chain none xs = true ∧ xs.length ≤ 30 := by
      unfold isStoreL at c
      rw [Bool.and_eq_true, decide_eq_true_eq] at c
      exact c
    rw [if_pos rfl, sFact, Option.bind_some]
    show spec_PutFact.j0 (k + 1) xs (!factF f) _ _ _ _ _ _ = _
    cases cf : factF f with
    | false =>
      rw [if_neg (by simp)]
      simp only [spec_PutFact.j0, Bool.not_false, if_true, sCopy xs hx, Option.bind_some]
    | true =>
      rw [if_pos (by simp)]
      simp only [spec_PutFact.j0, Bool.not_true, Bool.false_eq_true, if_false]
      have := sPut_l0 xs h30.2 f xs.length k 0 [] none (by omega) (by omega) (by simp) (by simpa using h30.1)
      simp only [List.nil_append, List.drop_zero] at this
      exact this

theorem l7Store_l0 {b : List Int} : ∀ (d k : Nat) (s : List S26) (n i h : Int), Cur b i → n ≤ d → n ≤ 1000 → d + 110 < k → s.length ≤ 30 → ∃ s' i' h', spec_l7Store.l0 k s n b i h = some (s', i', h') ∧ s'.length ≤ 30 ∧ Cur b i' := by
  intro d
  induction d with
  | zero =>
    intro k s n i h hc hn hn2 hk hs
    obtain ⟨k, rfl⟩ : ∃ m, k = m + 1 := ⟨k - 1, by omega⟩
    refine ⟨s, i, h, ?_, hs, hc⟩
    simp only [spec_l7Store.l0]
    rw [if_neg (by omega)]
  | succ d ih =>
    intro k s n i h hc hn hn2 hk hs
    obtain ⟨k, rfl⟩ : ∃ m, k = m + 1 := ⟨k - 1, by omega⟩
    simp only [spec_l7Store.l0]
    by_cases c : n > 0
    · obtain ⟨f0, f1, f2, f3, f4, f5, i1, h1, e1, _, hc1⟩ := l6Fact_some hc h
      have e2 := sPut s (by omega) ⟨f0, f1, f2, f3, f4, f5⟩ k (by omega) (by omega)
      have hl := putL_len s ⟨f0, f1, f2, f3, f4, f5⟩
      rw [if_pos c, e1]
      simp only [Option.bind_some]
      rw [e2]
      simp only [Option.bind_some]
      exact ih k _ _ _ _ hc1 (by rw [w64 (by omega) (by omega)]; omega) (by rw [w64 (by omega) (by omega)]; omega) (by omega) (by omega)
    · refine ⟨s, i, h, ?_, hs, hc⟩
      rw [if_neg c]
theorem l7Store_some {b : List Int} {i : Int} (hc : Cur b i) (h : Int) (k : Nat) (hk : 130 ≤ k) : ∃ s i' h', spec_l7Store.f k b i h = some (s, i', h') ∧ s.length ≤ 30 ∧ Cur b i' := by
  unfold spec_l7Store.f
  obtain ⟨x, i1, h1, e1, x0, x1, hc1⟩ := l1Below_some hc h 10 (by omega)
  rw [e1]; simp only [Option.bind_some]
  exact l7Store_l0 10 k [] x i1 h1 hc1 (by omega) (by omega) (by omega) (by simp)

theorem drawFind_j0 (s : List S26) (hs : s.length ≤ 30) (b : Bool) (hb : b = true → 0 < s.length) (l : List Int) (i h : Int) (hc : Cur l i) (k : Nat) (f0 f1 f2 f3 f4 f5 : Int) : ∃ kd sb vl now age, spec_DrawFindFact.j0 (k + 1) s b l i h f0 f1 f2 f3 f4 f5 = some (s, kd, sb, vl, now, age) := by
  simp only [spec_DrawFindFact.j0]
  cases b with
  | true =>
    have h0 := hb rfl
    rw [if_pos rfl]
    obtain ⟨x, i1, h1, e1, x0, x1, hc1⟩ := l1Below_some hc h (s.length : Int) (by omega)
    rw [e1]; simp only [Option.bind_some]
    rw [if_pos x0, if_pos x1]
    obtain ⟨y, i2, h2, e2, y0, y1, hc2⟩ := l1Below_some hc1 h1 8 (by omega)
    rw [e2]; simp only [Option.bind_some]
    obtain ⟨z, i3, h3, e3, _, hc3⟩ := l1Int_some hc2 h2 [0, 3, 20, (-1)] (by decide) (fun _ => True) (by simp)
    rw [e3]
    exact ⟨_, _, _, _, _, rfl⟩
  | false =>
    rw [if_neg (by simp)]
    obtain ⟨y, i2, h2, e2, y0, y1, hc2⟩ := l1Below_some hc h 8 (by omega)
    rw [e2]; simp only [Option.bind_some]
    obtain ⟨z, i3, h3, e3, _, hc3⟩ := l1Int_some hc2 h2 [0, 3, 20, (-1)] (by decide) (fun _ => True) (by simp)
    rw [e3]
    exact ⟨_, _, _, _, _, rfl⟩
theorem drawFind (l : List Int) (hl : l.length ≤ 140737488351232) (k : Nat) (hk : 4200 ≤ k) : ∃ s kd sb vl now age, spec_DrawFindFact.f k l = some (s, kd, sb, vl, now, age) ∧ s.length ≤ 30 := by
  obtain ⟨k, rfl⟩ : ∃ m, k = m + 1 := ⟨k - 1, by omega⟩
  unfold spec_DrawFindFact.f
  obtain ⟨h, e, hc⟩ := l1New_some l hl (k + 1) (by omega)
  rw [e]; simp only [Option.bind_some]
  obtain ⟨s, i1, h1, e1, hs, hc1⟩ := l7Store_some hc h (k + 1) (by omega)
  rw [e1]; simp only [Option.bind_some]
  obtain ⟨f0, f1, f2, f3, f4, f5, i2, h2, e2, _, hc2⟩ := l6Fact_some hc1 h1
  rw [e2]; simp only [Option.bind_some]
  by_cases c : (s.length : Int) > 0
  · rw [if_pos c]
    obtain ⟨x, i3, h3, e3, hc3⟩ := l1Once_some hc2 h2 3 (by omega)
    rw [e3]; simp only [Option.bind_some]
    obtain ⟨kd, sb, vl, now, age, e4⟩ := drawFind_j0 s hs (!x) (fun _ => by omega) l i3 h3 hc3 k f0 f1 f2 f3 f4 f5
    exact ⟨s, kd, sb, vl, now, age, e4, hs⟩
  · rw [if_neg c]
    obtain ⟨kd, sb, vl, now, age, e4⟩ := drawFind_j0 s hs false (by simp) l i2 h2 hc2 k f0 f1 f2 f3 f4 f5
    exact ⟨s, kd, sb, vl, now, age, e4, hs⟩

theorem l4Time_some {b : List Int} {i : Int} (hc : Cur b i) (h : Int) : ∃ x i' h', spec_l4Time.f b i h = some (x, i', h') ∧ (-9223372036854775808 ≤ x ∧ x ≤ 9223372036854775807) ∧ Cur b i' := by
  unfold spec_l4Time.f
  obtain ⟨x, i1, h1, e1, hc1⟩ := l1Once_some hc h 8 (by omega)
  rw [e1]; simp only [Option.bind_some]
  cases x
  · rw [if_neg (by decide)]
    obtain ⟨y, i2, h2, e2, y0, y1, hc2⟩ := l1Below_some hc1 h1 40 (by omega)
    rw [e2]
    exact ⟨_, _, _, rfl, by constructor <;> omega, hc2⟩
  · rw [if_pos rfl]
    obtain ⟨y, i2, h2, e2, hy, hc2⟩ := l1Int_some hc1 h1 [(-1), 0, 10000, 10001, 9223372036854775807, (-9223372036854775808)] (by decide) (fun x => -9223372036854775808 ≤ x ∧ x ≤ 9223372036854775807) (by decide)
    rw [e2]
    exact ⟨_, _, _, rfl, hy, hc2⟩

theorem drawDrop (l : List Int) (hl : l.length ≤ 140737488351232) (k : Nat) (hk : 4200 ≤ k) : ∃ s now, spec_DrawDropPast.f k l = some (s, now) ∧ s.length ≤ 30 := by
  unfold spec_DrawDropPast.f
  obtain ⟨h, e, hc⟩ := l1New_some l hl k (by omega)
  rw [e]; simp only [Option.bind_some]
  obtain ⟨s, i1, h1, e1, hs, hc1⟩ := l7Store_some hc h k (by omega)
  rw [e1]; simp only [Option.bind_some]
  obtain ⟨x, i2, h2, e2, _, hc2⟩ := l4Time_some hc1 h1
  rw [e2]
  exact ⟨s, x, rfl, hs⟩

theorem iIn (x lo hi : Int) : impl_InRange.f x lo hi = some (inR x lo hi) := by
  unfold impl_InRange.f inR
  by_cases h : lo ≤ x <;> simp [h]

theorem iName (x : Int) : impl_IsName.f x = some (inR x 10 49) := by unfold impl_IsName.f; rw [iIn]; rfl

theorem iKindOf (x : Int) : impl_KindOf.f x = some (if inR x 10 49 = true then x / 10 else 0) := by
  unfold impl_KindOf.f
  rw [iName]
  cases h : inR x 10 49
  · simp
  · simp only [Option.bind_some, if_true]
    rw [tdiv10 h]

theorem iHasKind (x k : Int) : impl_HasKind.f x k = some (hasKind x k) := by
  unfold impl_HasKind.f hasKind
  rw [iName, iKindOf]
  cases h : inR x 10 49
  · simp
  · simp only [Option.bind_some, if_true, Bool.true_and]
    rfl

theorem iTime (x : Int) : impl_IsTime.f x = some (inR x 0 10000) := by unfold impl_IsTime.f; rw [iIn]; rfl

theorem iClaim (a0 a1 a2 a3 a4 a5 : Int) : impl_isClaim.f a0 a1 a2 a3 a4 a5 = some (claimB a0 a1 a2) := by
  unfold impl_isClaim.f claimB
  simp only [iHasKind, iIn, Option.bind_some]
  by_cases h1 : a0 = 1
  · simp only [h1, if_true]
    cases hasKind a1 1 <;> simp
  · by_cases h2 : a0 = 2
    · simp only [h2, if_true, if_false, show ¬ ((2 : Int) = 1) by decide]
      cases hasKind a1 1 <;> simp
    · by_cases h3 : a0 = 3
      · simp only [h3, if_true, if_false, show ¬ ((3 : Int) = 1) by decide, show ¬ ((3 : Int) = 2) by decide]
        cases hasKind a1 2 <;> simp
      · by_cases h4 : a0 = 4
        · simp only [h4, if_true, if_false, show ¬ ((4 : Int) = 1) by decide, show ¬ ((4 : Int) = 2) by decide, show ¬ ((4 : Int) = 3) by decide]
          cases hasKind a1 3 <;> simp
        · simp only [h1, h2, h3, h4, if_false]
theorem iFact (a0 a1 a2 a3 a4 a5 : Int) : impl_IsFact.f a0 a1 a2 a3 a4 a5 = some (factB a0 a1 a2 a3 a4 a5) := by
  unfold impl_IsFact.f factB
  simp only [iClaim, iIn, iTime, Option.bind_some]
  cases claimB a0 a1 a2 <;> cases inR a3 0 9 <;> cases inR a4 0 10000 <;> cases inR a5 0 10000 <;> simp

theorem iCmp (a0 a1 a2 a3 a4 a5 b0 b1 b2 b3 b4 b5 : Int) : ∃ c, impl_compareClaims.f a0 a1 a2 a3 a4 a5 b0 b1 b2 b3 b4 b5 = some c ∧ (c = 0 ↔ sameB a0 a1 a2 a3 b0 b1 b2 b3 = true) ∧ (c < 0 ↔ beforeB a0 a1 a2 a3 b0 b1 b2 b3 = true) := by
  refine ⟨_, rfl, ?_, ?_⟩
  · unfold sameB
    rw [decide_eq_true_iff]
    repeat' split
    all_goals omega
  · unfold beforeB
    rw [decide_eq_true_iff]
    repeat' split
    all_goals omega

theorem iBefore (a0 a1 a2 a3 a4 a5 b0 b1 b2 b3 b4 b5 : Int) : impl_FactBefore.f a0 a1 a2 a3 a4 a5 b0 b1 b2 b3 b4 b5 = some (beforeB a0 a1 a2 a3 b0 b1 b2 b3) := by
  obtain ⟨c, e, _, h⟩ := iCmp a0 a1 a2 a3 a4 a5 b0 b1 b2 b3 b4 b5
  unfold impl_FactBefore.f
  rw [e, Option.bind_some]
  congr 1
  rw [Bool.eq_iff_iff, ← h]
  simp

theorem iStore_l0 (xs : List S26) (hx : xs.length ≤ 140737488351232) : ∀ (d k i : Nat), i + d = xs.length → d < k → impl_IsStore.l0 k xs xs (xs.length : Int) (i : Int) = some (chain (prevOf xs i) (xs.drop i) && decide (xs.length ≤ 30)) := by
  intro d
  induction d with
  | zero =>
    intro k i hd hk
    obtain ⟨k, rfl⟩ : ∃ m, k = m + 1 := ⟨k - 1, by omega⟩
    simp only [impl_IsStore.l0]
    rw [if_neg (by omega), List.drop_eq_nil_of_le (by omega)]
    simp only [chain, Bool.true_and]
    congr 1
    rw [decide_eq_decide]
    omega
  | succ d ih =>
    intro k i hd hk
    obtain ⟨k, rfl⟩ : ∃ m, k = m + 1 := ⟨k - 1, by omega⟩
    simp only [impl_IsStore.l0]
    rw [if_pos (by omega), if_pos (by omega), if_pos (by omega), rdF_nat xs i (by omega), iFact, Option.bind_some, cast_succ i (by omega), ih k (i + 1) (by omega) (by omega), prevOf_succ xs i (by omega), drop_cons xs i (by omega)]
    by_cases c : i = 0
    · subst c
      rw [if_neg (show ¬ (((0 : Nat) : Int) > 0) by omega)]
      simp only [prevOf, if_true, chain]
      show (if factF xs[0] = true then _ else _) = _
      cases factF xs[0] <;> simp
    · rw [if_pos (show (i : Int) > 0 by omega), w64 (n := (i : Int) - 1) (by omega) (by omega), if_pos (show (0 : Int) ≤ (i : Int) - 1 by omega), if_pos (show (i : Int) - 1 < (xs.length : Int) by omega), rdF_prev xs i (by omega) (by omega) hx, iBefore, Option.bind_some]
      simp only [prevOf, if_neg c, List.getElem?_eq_getElem (show i - 1 < xs.length by omega), chain]
      show (if factF xs[i] = true then (if befF xs[i - 1] xs[i] = true then _ else _) else _) = _
      cases factF xs[i] <;> cases befF xs[i - 1] xs[i] <;> simp
theorem iStore (xs : List S26) (hx : xs.length ≤ 140737488351232) (k : Nat) (hk : xs.length < k) : impl_IsStore.f k xs = some (isStoreL xs) := iStore_l0 xs hx xs.length k 0 (by omega) hk

def endOf (f s : Int) : Int := if inR f 0 10000 = true then (if inR s 0 10000 = true then (if f + s > 10000 then 10000 else f + s) else 0) else 0
def withinB (f u n : Int) : Bool := inR f 0 10000 && (inR u 0 10000 && (inR n 0 10000 && (decide (f ≤ n) && decide (n ≤ u))))
def leftOf (u n : Int) : Int := if inR u 0 10000 = true then (if inR n 0 10000 = true then (if u ≤ n then 0 else u - n) else 0) else 0

def ageOf (a n : Int) : Int := if inR a 0 10000 = true then (if inR n 0 10000 = true then (if a > n then -1 else n - a) else -1) else -1

def holdsB (a0 a1 a2 a3 a4 a5 now age : Int) : Bool := factB a0 a1 a2 a3 a4 a5 && (withinB a4 a5 now && decide (ageOf a4 now ≤ age))
theorem age_of_within {f u n : Int} (h : withinB f u n = true) : 0 ≤ ageOf f n := by
  simp only [withinB, Bool.and_eq_true, decide_eq_true_eq] at h
  unfold ageOf
  rw [if_pos h.1, if_pos h.2.2.1, if_neg (by omega)]
  omega

def holdsF' (x : S26) (now age : Int) : Bool := holdsB x.f0 x.f1 x.f2 x.f3 x.f4 x.f5 now age
def findP (kd sb vl now age : Int) (x : S26) : Bool := if x.f0 = kd then (if x.f1 = sb then (if x.f2 = vl then holdsF' x now age else false) else false) else false
def findL (p : S26 → Bool) : Nat → List S26 → Int
  | _, [] => -1
  | i, x :: r => if p x = true then (i : Int) else findL p (i + 1) r

theorem iWithin (f u n : Int) : impl_IsWithin.f f u n = some (withinB f u n) := by
  unfold impl_IsWithin.f withinB
  simp only [iTime, iIn, Option.bind_some]
  cases inR f 0 10000 <;> cases inR u 0 10000 <;> cases inR n 0 10000 <;> simp [inR]

theorem iAge (a n : Int) : impl_AgeOf.f a n = some (ageOf a n) := by
  unfold impl_AgeOf.f ageOf
  simp only [iTime, Option.bind_some]
  cases h1 : inR a 0 10000 <;> cases h2 : inR n 0 10000 <;> simp
  rw [inR_true] at h1 h2
  by_cases h : n < a <;> simp [h]
  exact w64 (by omega) (by omega)

theorem iHolds (a0 a1 a2 a3 a4 a5 now age : Int) : impl_HoldsAt.f a0 a1 a2 a3 a4 a5 now age = some (holdsB a0 a1 a2 a3 a4 a5 now age) := by
  unfold impl_HoldsAt.f holdsB
  simp only [iFact, iWithin, iAge, Option.bind_some]
  cases factB a0 a1 a2 a3 a4 a5 <;> cases h : withinB a4 a5 now <;> simp

theorem iFindP (kd sb vl now age : Int) (x : S26) : impl_FindFact.pf kd sb vl now age x = some (findP kd sb vl now age x) := by
  unfold impl_FindFact.pf findP holdsF'
  rw [iHolds]
  repeat' split
  all_goals rfl
theorem iIdx_l0 (pf : S26 → Option Bool) (p : S26 → Bool) (hp : ∀ y, pf y = some (p y)) (x : List S26) (hx : x.length ≤ 140737488351232) : ∀ (d k i : Nat), i + d = x.length → d < k → impl_Fact_49.l0 pf k x (i : Int) = some (findL p i (x.drop i)) := by
  intro d
  induction d with
  | zero =>
    intro k i hd hk
    obtain ⟨k, rfl⟩ : ∃ m, k = m + 1 := ⟨k - 1, by omega⟩
    simp only [impl_Fact_49.l0]
    rw [if_neg (by omega), List.drop_eq_nil_of_le (by omega)]
    rfl
  | succ d ih =>
    intro k i hd hk
    obtain ⟨k, rfl⟩ : ∃ m, k = m + 1 := ⟨k - 1, by omega⟩
    simp only [impl_Fact_49.l0]
    rw [if_pos (by omega), if_pos (by omega), rdF_nat x i (by omega), cast_succ i (by omega), drop_cons x i (by omega), hp, Option.bind_some, ih k (i + 1) (by omega) (by omega), findL]
    split <;> rfl
theorem iFind (x : List S26) (hx : x.length ≤ 140737488351232) (kd sb vl now age : Int) (k : Nat) (hk : x.length < k) : impl_FindFact.f k x kd sb vl now age = some (findL (findP kd sb vl now age) 0 x) := by
  unfold impl_FindFact.f
  rw [if_pos (by omega)]
  exact iIdx_l0 _ _ (iFindP kd sb vl now age) x hx x.length k 0 (by omega) hk

def holdsF (x : S26) (now age : Int) : Bool := holdsB x.f0 x.f1 x.f2 x.f3 x.f4 x.f5 now age
def bestStep (kd sb now age best : Int) (x : S26) : Int := if x.f0 = kd then (if x.f1 = sb then (if holdsF x now age = true then mx best x.f2 else best) else best) else best

theorem iBest_l0 (x : List S26) (hx : x.length ≤ 140737488351232) (kd sb now age : Int) : ∀ (d k i : Nat) (best : Int), i + d = x.length → d < k → impl_BestValue.l0 k kd sb now age best x (x.length : Int) (i : Int) = some ((x.drop i).foldl (bestStep kd sb now age) best) := by
  intro d
  induction d with
  | zero =>
    intro k i best hd hk
    obtain ⟨k, rfl⟩ : ∃ m, k = m + 1 := ⟨k - 1, by omega⟩
    simp only [impl_BestValue.l0]
    rw [if_neg (by omega), List.drop_eq_nil_of_le (by omega)]
    rfl
  | succ d ih =>
    intro k i best hd hk
    obtain ⟨k, rfl⟩ : ∃ m, k = m + 1 := ⟨k - 1, by omega⟩
    simp only [impl_BestValue.l0]
    rw [if_pos (by omega), if_pos (by omega), if_pos (by omega), rdF_nat x i (by omega), cast_succ i (by omega), drop_cons x i (by omega), iHolds, List.foldl_cons]
    simp only [Option.bind_some]
    rw [ih k (i + 1) _ (by omega) (by omega), ih k (i + 1) _ (by omega) (by omega)]
    unfold bestStep holdsF
    repeat' split
    all_goals first | rfl | contradiction
theorem iBest (x : List S26) (hx : x.length ≤ 140737488351232) (kd sb now age : Int) (k : Nat) (hk : x.length < k) : impl_BestValue.f k x kd sb now age = some (x.foldl (bestStep kd sb now age) (-1)) := iBest_l0 x hx kd sb now age x.length k 0 (-1) (by omega) hk

def keptF (now : Int) (xs : List S26) : List S26 := xs.filter fun x => !decide (x.f5 < now)
theorem keptF_len (now : Int) (xs : List S26) : (keptF now xs).length ≤ xs.length := List.length_filter_le _ _

theorem iDrop (xs : List S26) (hx : xs.length < 2932031007402) (now : Int) : impl_DropPast.f xs now = some (keptF now xs) := by
  unfold impl_DropPast.f impl_copyFacts.f
  simp only [Option.bind_some, List.length_nil, Nat.zero_add, List.nil_append]
  rw [if_pos hx, Option.bind_some, if_pos (by omega)]
  rfl

theorem findL_spec (p : S26 → Bool) : ∀ (xs : List S26) (i : Nat), (findL p i xs = -1 ∧ ∀ x ∈ xs, p x = false) ∨ ∃ m : Nat, ∃ h : m < xs.length, findL p i xs = ((i + m : Nat) : Int) ∧ p xs[m] = true
  | [], i => .inl ⟨rfl, fun x h => by cases h⟩
  | y :: r, i => by
    unfold findL
    by_cases c : p y = true
    · exact .inr ⟨0, by simp, by rw [if_pos c]; rfl, c⟩
    · rw [if_neg c]
      rcases findL_spec p r (i + 1) with ⟨e, h⟩ | ⟨m, hm, e, h⟩
      · refine .inl ⟨e, fun x hx => ?_⟩
        rcases List.mem_cons.1 hx with rfl | hx
        · simpa using c
        · exact h x hx
      · exact .inr ⟨m + 1, by simp; omega, by rw [e]; congr 1; omega, by simpa using h⟩
theorem mx_le (a b : Int) : a ≤ mx a b ∧ b ≤ mx a b ∧ (mx a b = a ∨ mx a b = b) := by
  unfold mx
  split <;> omega
def matchF (kd sb now age : Int) (x : S26) : Prop := x.f0 = kd ∧ x.f1 = sb ∧ holdsF x now age = true
theorem best_spec (kd sb now age : Int) : ∀ (xs : List S26) (b : Int), b ≤ xs.foldl (bestStep kd sb now age) b ∧ (∀ x ∈ xs, matchF kd sb now age x → x.f2 ≤ xs.foldl (bestStep kd sb now age) b) ∧
    (xs.foldl (bestStep kd sb now age) b = b ∨ ∃ x ∈ xs, matchF kd sb now age x ∧ xs.foldl (bestStep kd sb now age) b = x.f2)
  | [], b => ⟨Int.le_refl _, (fun x h => by cases h), .inl rfl⟩
  | y :: r, b => by
    obtain ⟨h1, h2, h3⟩ := best_spec kd sb now age r (bestStep kd sb now age b y)
    rw [List.foldl_cons]
    have hs : b ≤ bestStep kd sb now age b y ∧ (matchF kd sb now age y → y.f2 ≤ bestStep kd sb now age b y) ∧ (bestStep kd sb now age b y = b ∨ matchF kd sb now age y ∧ bestStep kd sb now age b y = y.f2) := by
      unfold bestStep
      have hm := mx_le b y.f2
      by_cases c0 : y.f0 = kd
      · by_cases c1 : y.f1 = sb
        · by_cases c2 : holdsF y now age = true
          · rw [if_pos c0, if_pos c1, if_pos c2]
            refine ⟨hm.1, fun _ => hm.2.1, ?_⟩
            rcases hm.2.2 with e | e
            · exact .inl e
            · exact .inr ⟨⟨c0, c1, c2⟩, e⟩
          · rw [if_pos c0, if_pos c1, if_neg c2]
            exact ⟨Int.le_refl _, fun h => absurd h.2.2 c2, .inl rfl⟩
        · rw [if_pos c0, if_neg c1]
          exact ⟨Int.le_refl _, fun h => absurd h.2.1 c1, .inl rfl⟩
      · rw [if_neg c0]
        exact ⟨Int.le_refl _, fun h => absurd h.1 c0, .inl rfl⟩
    refine ⟨Int.le_trans hs.1 h1, fun x hx hm => ?_, ?_⟩
    · rcases List.mem_cons.1 hx with rfl | hx
      · exact Int.le_trans (hs.2.1 hm) h1
      · exact h2 x hx hm
    · rcases h3 with e | ⟨x, hx, hm, e⟩
      · rcases hs.2.2 with e2 | ⟨hm, e2⟩
        · exact .inl (e.trans e2)
        · exact .inr ⟨y, List.mem_cons_self, hm, e.trans e2⟩
      · exact .inr ⟨x, List.mem_cons_of_mem _ hx, hm, e⟩
theorem findP_iff (kd sb vl now age : Int) (x : S26) : findP kd sb vl now age x = true ↔ matchF kd sb now age x ∧ x.f2 = vl := by
  unfold findP matchF holdsF' holdsF
  by_cases c0 : x.f0 = kd
  · by_cases c1 : x.f1 = sb
    · by_cases c2 : x.f2 = vl
      · rw [if_pos c0, if_pos c1, if_pos c2]
        exact ⟨fun h => ⟨⟨c0, c1, h⟩, c2⟩, fun h => h.1.2.2⟩
      · rw [if_pos c0, if_pos c1, if_neg c2]
        exact ⟨(fun h => by cases h), fun h => absurd h.2 c2⟩
    · rw [if_pos c0, if_neg c1]
      exact ⟨(fun h => by cases h), fun h => absurd h.1.2.1 c1⟩
  · rw [if_neg c0]
    exact ⟨(fun h => by cases h), fun h => absurd h.1.1 c0⟩
theorem chain_weaken {p x : S26} (h : befF p x = true) : ∀ r : List S26, chain (some x) r = true → chain (some p) r = true
  | [], _ => rfl
  | y :: r, hc => by
    simp only [chain, Bool.and_eq_true] at hc ⊢
    exact ⟨hc.1, bef_trans h hc.2.1, hc.2.2⟩
theorem chain_filter (q : S26 → Bool) : ∀ (xs : List S26) (p : Option S26), chain p xs = true → chain p (xs.filter q) = true
  | [], _, _ => by simp [chain]
  | x :: r, p, hc => by
    have h1 := chain_some_of hc
    cases c : q x with
    | true =>
      rw [List.filter_cons_of_pos c]
      have ih := chain_filter q r (some x) h1.2
      cases p with
      | none =>
        simp only [chain, Bool.and_eq_true]
        exact ⟨h1.1, ih⟩
      | some p =>
        simp only [chain, Bool.and_eq_true]
        exact ⟨h1.1, chain_bef hc, ih⟩
    | false =>
      rw [List.filter_cons_of_neg (by rw [c]; simp)]
      cases p with
      | none =>
        refine chain_filter q r none ?_
        have h2 := h1.2
        cases r with
        | nil => rfl
        | cons y r =>
          simp only [chain, Bool.and_eq_true] at h2 ⊢
          exact ⟨h2.1, h2.2.2⟩
      | some p => exact chain_filter q r (some p) (chain_weaken (chain_bef hc) r h1.2)
theorem found_l0 (t : List S26) (ht : t.length ≤ 30) (now : Int) : ∀ (d k j : Nat), j + d = (keptF now t).length → d + 50 < k → laws_FnFound.l0 k t now (keptF now t) (j : Int) = some true := by
  have hl := keptF_len now t
  intro d
  induction d with
  | zero =>
    intro k j hd hk
    obtain ⟨k, rfl⟩ : ∃ m, k = m + 1 := ⟨k - 1, by omega⟩
    simp only [laws_FnFound.l0]
    rw [if_neg (by omega), if_pos (by omega), iStore t (by omega) k (by omega), Option.bind_some]
    cases c : isStoreL t with
    | false => rw [if_neg (by simp)]
    | true =>
      rw [if_pos rfl, iStore (keptF now t) (by omega) k (by omega), Option.bind_some]
      congr 1
      unfold isStoreL at c ⊢
      rw [Bool.and_eq_true] at c ⊢
      exact ⟨chain_filter _ t none c.1, by rw [decide_eq_true_eq]; omega⟩
  | succ d ih =>
    intro k j hd hk
    obtain ⟨k, rfl⟩ : ∃ m, k = m + 1 := ⟨k - 1, by omega⟩
    have hm : (keptF now t)[j]'(by omega) ∈ keptF now t := List.getElem_mem _
    have hq : ¬ ((keptF now t)[j]'(by omega)).f5 < now := by
      have := (List.mem_filter.1 hm).2
      simpa using this
    simp only [laws_FnFound.l0]
    rw [if_pos (by omega), if_pos (by omega), rdF_nat (keptF now t) j (by omega), if_neg hq, cast_succ j (by omega)]
    exact ih k (j + 1) (by omega) (by omega)
theorem found_j1 (l : List Int) (hl : l.length ≤ 140737488351232) (k : Nat) (hk : 4300 ≤ k) : laws_FnFound.j1 k l false = some true := by
  obtain ⟨k, rfl⟩ : ∃ m, k = m + 1 := ⟨k - 1, by omega⟩
  simp only [laws_FnFound.j1]
  rw [if_neg (by simp)]
  obtain ⟨t, now, e, ht⟩ := drawDrop l hl k (by omega)
  rw [e]
  simp only [Option.bind_some]
  rw [iDrop t (by omega) now, Option.bind_some]
  have := keptF_len now t
  exact found_l0 t ht now (keptF now t).length k 0 (by omega) (by omega)
theorem found_j0 (l : List Int) (hl : l.length ≤ 140737488351232) (s : List S26) (hs : s.length ≤ 30) (kd sb now age : Int) (k : Nat) (hk : 4301 ≤ k) : laws_FnFound.j0 k l s kd sb now age (s.foldl (bestStep kd sb now age) (-1)) false = some true := by
  obtain ⟨k, rfl⟩ : ∃ m, k = m + 1 := ⟨k - 1, by omega⟩
  obtain ⟨h1, _, h3⟩ := best_spec kd sb now age s (-1)
  generalize s.foldl (bestStep kd sb now age) (-1) = best at h1 h3
  simp only [laws_FnFound.j0]
  rw [if_neg (by simp)]
  by_cases c : best ≥ 0
  · rw [if_pos c, iFind s (by omega) kd sb best now age k (by omega), Option.bind_some]
    have hf : ¬ findL (findP kd sb best now age) 0 s < 0 := by
      rcases findL_spec (findP kd sb best now age) s 0 with ⟨_, h⟩ | ⟨m, _, e, _⟩
      · exfalso
        rcases h3 with h3 | ⟨x, hx, hm, e⟩
        · omega
        · have := h x hx
          rw [(findP_iff kd sb best now age x).2 ⟨hm, e.symm⟩] at this
          cases this
      · rw [e]; omega
    rw [decide_eq_false hf]
    exact found_j1 l hl k (by omega)
  · rw [if_neg c]
    exact found_j1 l hl k (by omega)
theorem FnFound : laws_FnFound.Pure := by
  intro l _ hl _
  obtain ⟨k, hk⟩ : ∃ k : Nat, 4400 ≤ k := ⟨4400, Nat.le_refl _⟩
  refine ⟨k, ?_⟩
  unfold laws_FnFound.f laws_big.f
  simp only [Option.bind_some]
  by_cases hb : (l.length : Int) > 1048576
  · rw [decide_eq_true hb, if_pos rfl]
  · rw [decide_eq_false hb, if_neg (by simp)]
    obtain ⟨s, kd, sb, vl, now, age, e, hs⟩ := drawFind l (by omega) k (by omega)
    rw [e]
    simp only [Option.bind_some]
    rw [iFind s (by omega) kd sb vl now age k (by omega), Option.bind_some, iBest s (by omega) kd sb now age k (by omega), Option.bind_some]
    have hj := found_j0 l (by omega) s hs kd sb now age k (by omega)
    rcases findL_spec (findP kd sb vl now age) s 0 with ⟨e1, _⟩ | ⟨m, hm, e1, hp⟩
    · rw [e1, if_neg (by omega)]
      exact hj
    · rw [Nat.zero_add] at e1
      have hp2 := (findP_iff kd sb vl now age s[m]).1 hp
      have hbest := (best_spec kd sb now age s (-1)).2.1 s[m] (List.getElem_mem _) hp2.1
      rw [e1, if_pos (by omega), if_neg (by omega), if_pos (by omega), if_pos (by omega), rdF_nat s m hm, iHolds, Option.bind_some]
      show (if holdsF s[m] now age = true then _ else _) = _
      rw [if_pos hp2.1.2.2, if_pos hp2.1.1, if_pos hp2.1.2.1, if_pos hp2.2, decide_eq_false (by rw [← hp2.2]; omega)]
      exact hj

end Go.Proofs.Ythanecnkknimpaa.Pure
namespace Go.Proofs.Ythanecnkknimpaa
/-- The seat's own word, under the name by which the row asks for it. -/
theorem PrintWords.sized_ints {H : Type} {enc : TypeId × Value → H} {P : Program} {W : World} {base : Nat} {spare : Nat → Bool} {held : Bool} {t e : TypeId} {k : IntKind} {a : Option Addr} {len cap : Nat} {d : DataW H} {ps : List MemPlace} {ts : List TypeId} {ds : List (DataW H)} {j : Nat}
    (hsz : (DataW.weightsEach P ts ds).all (· ≤ reachBytes) = true) (ht : ts[j]? = some t) (hd : ds[j]? = some d) (hu : P.underlying t = some (.slice e)) (he : P.underlying e = some (.int k)) (hc : P.cellsOf e = 1) {B : Nat} (hB : P.bytesOf e = B)
    (h : DataW.Trod enc P W base spare held t (.slice a len cap) d ps) : len * B ≤ 140737488351232 := Go.Proofs.YthanecnkknimpaaW.PrintWords.sized_ints hsz ht hd hu he hc hB h
end Go.Proofs.Ythanecnkknimpaa
