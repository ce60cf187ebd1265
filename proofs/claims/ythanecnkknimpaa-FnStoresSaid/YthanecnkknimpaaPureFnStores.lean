/- FnStores holds: whatever is drawn, a store keeps one fact of each claim, the newest. No conditions. -/
import Derived.Test.YthanecnkknimpaaPFnStoresx14
import Derived.OpenShut
import Derived.Test.YthanecnkknimpaaWSized
namespace Go.Proofs.Ythanecnkknimpaa.Pure
open Go.RowKit Go.Proofs.Ythanecnkknimpaa.PFnStores Go.Proofs.YthanecnkknimpaaW.PrintWords Go.Proofs.YthanecnkknimpaaW.PrintLast
set_option linter.unusedVariables false
set_option linter.unusedSimpArgs false

theorem w64 {n : Int} (h : -9223372036854775808 ≤ n) (h' : n ≤ 9223372036854775807) : wrap64 n = n := by unfold wrap64; omega
theorem w64_lo (n : Int) : -9223372036854775808 ≤ wrap64 n := by unfold wrap64; omega
theorem w64_hi (n : Int) : wrap64 n ≤ 9223372036854775807 := by unfold wrap64; omega
theorem of_wf {n : Int} (h : (Lit.int .i64 n).wf = true) : -9223372036854775808 ≤ n ∧ n ≤ 9223372036854775807 := bounds_i64 h
theorem of_wf8 {n : Int} (h : (Lit.int .u8 n).wf = true) : 0 ≤ n ∧ n ≤ 255 := bounds_u8 h
theorem and_le (x : Int) (m : Nat) (hm : m < 9223372036854775808) : 0 ≤ bits .and .i64 x (m : Int) ∧ bits .and .i64 x (m : Int) ≤ m := by
  unfold bits
  rw [Go.IntKind.wrap_i64]
  simp only [BitVec.toNat_and]
  have h1 : (BitVec.ofInt IntKind.i64.bits (m : Int)).toNat = m := by
    rw [BitVec.ofInt_natCast, BitVec.toNat_ofNat]
    exact Nat.mod_eq_of_lt (by show m < 2 ^ 64; omega)
  rw [h1]
  have h2 : (BitVec.ofInt IntKind.i64.bits x).toNat &&& m ≤ m := Nat.and_le_right
  omega
theorem and255 (x : Int) : 0 ≤ bits .and .i64 x 255 ∧ bits .and .i64 x 255 ≤ 255 := and_le x 255 (by decide)
theorem tmod_lt {x n : Int} (h0 : 0 ≤ x) (hn : 0 < n) : 0 ≤ Int.tmod x n ∧ Int.tmod x n < n := by
  rw [Int.tmod_eq_emod_of_nonneg h0]
  exact ⟨Int.emod_nonneg _ (by omega), Int.emod_lt_of_pos _ hn⟩

theorem rd_nat (x : List Int) (i : Nat) (h : i < x.length) : rd x (i : Int) = x[i] := by
  unfold rd
  rw [List.getD_eq_getElem?_getD, Int.toNat_natCast, List.getElem?_eq_getElem h]
  rfl
theorem cast_succ (i : Nat) (h : i < 4611686018427387904) : wrap64 ((i : Int) + 1) = ((i + 1 : Nat) : Int) := by
  rw [w64 (by omega) (by omega)]
  rfl
theorem drop_cons {α : Type} (x : List α) (i : Nat) (h : i < x.length) : x.drop i = x[i] :: x.drop (i + 1) := List.drop_eq_getElem_cons h

instance : DecidableEq S26 := fun a b =>
  if h : a.f0 = b.f0 ∧ a.f1 = b.f1 ∧ a.f2 = b.f2 ∧ a.f3 = b.f3 ∧ a.f4 = b.f4 ∧ a.f5 = b.f5 then .isTrue (by
    obtain ⟨h0, h1, h2, h3, h4, h5⟩ := h
    cases a; cases b
    simp only at h0 h1 h2 h3 h4 h5
    subst h0 h1 h2 h3 h4 h5
    rfl) else .isFalse (fun e => h (by rw [e]; exact ⟨rfl, rfl, rfl, rfl, rfl, rfl⟩))
theorem rdF_nat (x : List S26) (i : Nat) (h : i < x.length) : rd_T26 x (i : Int) = x[i] := by
  unfold rd_T26
  rw [List.getD_eq_getElem?_getD, Int.toNat_natCast, List.getElem?_eq_getElem h]
  rfl
theorem neqF (a b : S26) : (!((a.f0) == (b.f0)) || (!((a.f1) == (b.f1)) || (!((a.f2) == (b.f2)) || (!((a.f3) == (b.f3)) || (!((a.f4) == (b.f4)) || (!((a.f5) == (b.f5)))))))) = !decide (a = b) := by
  by_cases h : a = b
  · subst h
    simp
  · rw [decide_eq_false h]
    simp only [Bool.not_false]
    cases c : (!((a.f0) == (b.f0)) || (!((a.f1) == (b.f1)) || (!((a.f2) == (b.f2)) || (!((a.f3) == (b.f3)) || (!((a.f4) == (b.f4)) || (!((a.f5) == (b.f5))))))))
    · simp only [Bool.or_eq_false_iff, Bool.not_eq_false', beq_iff_eq] at c
      exfalso
      apply h
      obtain ⟨h0, h1, h2, h3, h4, h5⟩ := c
      cases a; cases b
      simp only at h0 h1 h2 h3 h4 h5
      subst h0 h1 h2 h3 h4 h5
      rfl
    · rfl

def inR (x lo hi : Int) : Bool := decide (lo ≤ x) && decide (x ≤ hi)
theorem inR_true {x lo hi : Int} : inR x lo hi = true ↔ lo ≤ x ∧ x ≤ hi := by simp [inR]
theorem inR_false {x lo hi : Int} : inR x lo hi = false ↔ ¬ (lo ≤ x ∧ x ≤ hi) := by simp [inR]

def hasKind (x k : Int) : Bool := inR x 10 49 && decide (x / 10 = k)
theorem tdiv10 {x : Int} (h : inR x 10 49 = true) : wrap64 (Int.tdiv x 10) = x / 10 := by
  rw [inR_true] at h
  rw [Int.tdiv_eq_ediv_of_nonneg (by omega)]
  exact w64 (by omega) (by omega)
theorem tmod10 {x : Int} (h : inR x 10 49 = true) : Int.tmod x 10 = x % 10 := by
  rw [inR_true] at h
  exact Int.tmod_eq_emod_of_nonneg (by omega)

/-- What makes a fact. -/
def claimB (a0 a1 a2 : Int) : Bool :=
  if a0 = 1 then hasKind a1 1 && inR a2 0 5 else if a0 = 2 then hasKind a1 1 && hasKind a2 2 else if a0 = 3 then hasKind a1 2 && inR a2 0 3 else if a0 = 4 then hasKind a1 3 && inR a2 0 3 else false
def factB (a0 a1 a2 a3 a4 a5 : Int) : Bool := claimB a0 a1 a2 && (inR a3 0 9 && (inR a4 0 10000 && (inR a5 0 10000 && decide (a4 ≤ a5))))

def sameB (a0 a1 a2 a3 b0 b1 b2 b3 : Int) : Bool := decide (a0 = b0 ∧ a1 = b1 ∧ a2 = b2 ∧ a3 = b3)
def beforeB (a0 a1 a2 a3 b0 b1 b2 b3 : Int) : Bool := decide (a0 < b0 ∨ (a0 = b0 ∧ (a1 < b1 ∨ (a1 = b1 ∧ (a2 < b2 ∨ (a2 = b2 ∧ a3 < b3))))))

def factF (x : S26) : Bool := factB x.f0 x.f1 x.f2 x.f3 x.f4 x.f5
def befF (x y : S26) : Bool := beforeB x.f0 x.f1 x.f2 x.f3 y.f0 y.f1 y.f2 y.f3
def samF (x y : S26) : Bool := sameB x.f0 x.f1 x.f2 x.f3 y.f0 y.f1 y.f2 y.f3
def chain : Option S26 → List S26 → Bool
  | _, [] => true
  | none, x :: r => factF x && chain (some x) r
  | some p, x :: r => factF x && (befF p x && chain (some x) r)
def isStoreL (xs : List S26) : Bool := chain none xs && decide (xs.length ≤ 30)
def prevOf (xs : List S26) (i : Nat) : Option S26 := if i = 0 then none else xs[i - 1]?
theorem prevOf_succ (xs : List S26) (i : Nat) (h : i < xs.length) : prevOf xs (i + 1) = some xs[i] := by
  unfold prevOf
  rw [if_neg (by omega), Nat.add_sub_cancel, List.getElem?_eq_getElem h]
theorem rdF_prev (xs : List S26) (i : Nat) (h0 : 0 < i) (h : i < xs.length) (hx : xs.length ≤ 140737488351232) : rd_T26 xs ((i : Int) - 1) = xs[i - 1] := by
  rw [show (i : Int) - 1 = ((i - 1 : Nat) : Int) by omega, rdF_nat xs (i - 1) (by omega)]

def laterF (f x : S26) : Bool := decide (f.f4 > x.f4) || (decide (f.f4 = x.f4) && decide (f.f5 > x.f5))
/-- What is laid at the place where a fact belongs. -/
def putAt (f : S26) : List S26 → List S26
  | [] => [f]
  | x :: r => if samF x f = true then (if laterF f x = true then f else x) :: r else f :: x :: r
/-- A fact put into a sorted list. -/
def putRec (f : S26) : List S26 → List S26
  | [] => [f]
  | x :: r => if befF x f = true then x :: putRec f r else putAt f (x :: r)
def finF (xs y : List S26) : List S26 × Bool := if y.length ≤ 30 then (y, true) else (xs, false)
def putL (xs : List S26) (f : S26) : List S26 × Bool := if (isStoreL xs && factF f) = true then finF xs (putRec f xs) else (xs, false)
theorem befF_iff (x y : S26) : befF x y = true ↔ (x.f0 < y.f0 ∨ (x.f0 = y.f0 ∧ (x.f1 < y.f1 ∨ (x.f1 = y.f1 ∧ (x.f2 < y.f2 ∨ (x.f2 = y.f2 ∧ x.f3 < y.f3)))))) := by
  unfold befF beforeB
  rw [decide_eq_true_iff]
theorem samF_iff (x y : S26) : samF x y = true ↔ (x.f0 = y.f0 ∧ x.f1 = y.f1 ∧ x.f2 = y.f2 ∧ x.f3 = y.f3) := by
  unfold samF sameB
  rw [decide_eq_true_iff]
theorem bef_trans {x y z : S26} (h : befF x y = true) (k : befF y z = true) : befF x z = true := by
  rw [befF_iff] at *
  omega
theorem sam_bef {x y z : S26} (h : samF x y = true) (k : befF y z = true) : befF x z = true := by
  rw [befF_iff] at *
  rw [samF_iff] at h
  omega
theorem bef_sam {x y z : S26} (h : befF x y = true) (k : samF y z = true) : befF x z = true := by
  rw [befF_iff] at *
  rw [samF_iff] at k
  omega
theorem sam_comm (x y : S26) : samF x y = samF y x := by
  rw [Bool.eq_iff_iff, samF_iff, samF_iff]
  omega
theorem bef_not_sam {x y : S26} (h : befF x y = true) : samF x y = false := by
  cases c : samF x y
  · rfl
  · rw [befF_iff] at h
    rw [samF_iff] at c
    omega
theorem bef_not_bef {x y : S26} (h : befF x y = true) : befF y x = false := by
  cases c : befF y x
  · rfl
  · rw [befF_iff] at h c
    omega
theorem bef_total {x y : S26} (h : befF x y = false) (k : samF x y = false) : befF y x = true := by
  rw [← Bool.not_eq_true, befF_iff] at h
  rw [← Bool.not_eq_true, samF_iff] at k
  rw [befF_iff]
  omega
theorem chain_some_of {p : Option S26} {x : S26} {r : List S26} (h : chain p (x :: r) = true) : factF x = true ∧ chain (some x) r = true := by
  cases p with
  | none => simpa [chain] using h
  | some p =>
    simp only [chain, Bool.and_eq_true] at h
    exact ⟨h.1, h.2.2⟩
theorem chain_bef {p x : S26} {r : List S26} (h : chain (some p) (x :: r) = true) : befF p x = true := by
  simp only [chain, Bool.and_eq_true] at h
  exact h.2.1
/-- What stands behind an element that is not ahead of f bears no claim of f's. -/
theorem chain_not_sam (f : S26) : ∀ (r : List S26) (p : S26), chain (some p) r = true → befF f p = true ∨ samF f p = true → ∀ x ∈ r, samF f x = false
  | [], _, _, _, _, h => by cases h
  | y :: r, p, hc, hp, x, hx => by
    have hb : befF f y = true := by
      rcases hp with hp | hp
      · exact bef_trans hp (chain_bef hc)
      · exact sam_bef hp (chain_bef hc)
    rcases List.mem_cons.1 hx with rfl | hx
    · exact bef_not_sam hb
    · exact chain_not_sam f r y (chain_some_of hc).2 (.inl hb) x hx
theorem putRec_len (f : S26) : ∀ xs : List S26, xs.length ≤ (putRec f xs).length ∧ (putRec f xs).length ≤ xs.length + 1
  | [] => by simp [putRec]
  | x :: r => by
    have ih := putRec_len f r
    simp only [putRec, putAt]
    split
    · simp only [List.length_cons]
      omega
    · split <;> simp
theorem putL_len (xs : List S26) (f : S26) : (putL xs f).1.length ≤ xs.length ∨ (putL xs f).1.length ≤ 30 := by
  unfold putL finF
  split
  · split
    · exact .inr (by assumption)
    · exact .inl (Nat.le_refl _)
  · exact .inl (Nat.le_refl _)

def mergeL : List S26 → List S26 → List S26
  | out, [] => out
  | out, f :: r => mergeL (putL out f).1 r
theorem mergeL_len : ∀ (b a : List S26), (mergeL a b).length ≤ a.length ∨ (mergeL a b).length ≤ 30
  | [], a => .inl (Nat.le_refl _)
  | f :: r, a => by
    have h1 := mergeL_len r (putL a f).1
    have h2 := putL_len a f
    show (mergeL (putL a f).1 r).length ≤ a.length ∨ (mergeL (putL a f).1 r).length ≤ 30
    omega

theorem chain_sam {x f : S26} (h : samF x f = true) : ∀ r : List S26, chain (some x) r = true → chain (some f) r = true
  | [], _ => rfl
  | y :: r, hc => by
    simp only [chain, Bool.and_eq_true] at hc ⊢
    exact ⟨hc.1, sam_bef (by rw [sam_comm]; exact h) hc.2.1, hc.2.2⟩
/-- A fact put into a store leaves a store. -/
theorem chain_put (f : S26) (hf : factF f = true) : ∀ (xs : List S26) (p : Option S26), chain p xs = true → (∀ q, p = some q → befF q f = true) → chain p (putRec f xs) = true
  | [], p, _, hp => by
    cases p with
    | none => simp [putRec, chain, hf]
    | some q => simp [putRec, chain, hf, hp q rfl]
  | x :: r, p, hc, hp => by
    have h1 := chain_some_of hc
    have lead : ∀ (z : S26) (t : List S26), factF z = true → (∀ q, p = some q → befF q z = true) → chain (some z) t = true → chain p (z :: t) = true := fun z t hz hq ht => by
      cases p with
      | none => simp only [chain, Bool.and_eq_true]; exact ⟨hz, ht⟩
      | some q => simp only [chain, Bool.and_eq_true]; exact ⟨hz, hq q rfl, ht⟩
    have hx : ∀ q, p = some q → befF q x = true := fun q e => by subst e; exact chain_bef hc
    simp only [putRec]
    by_cases c : befF x f = true
    · rw [if_pos c]
      exact lead x _ h1.1 hx (chain_put f hf r (some x) h1.2 (fun q e => by injection e with e; rw [← e]; exact c))
    · rw [if_neg c]
      simp only [putAt]
      by_cases s : samF x f = true
      · rw [if_pos s]
        by_cases l : laterF f x = true
        · rw [if_pos l]
          exact lead f r hf hp (chain_sam s r h1.2)
        · rw [if_neg l]
          exact hc
      · rw [if_neg s]
        have hb : befF f x = true := bef_total (by simpa using c) (by simpa using s)
        refine lead f _ hf hp ?_
        simp only [chain, Bool.and_eq_true]
        exact ⟨h1.1, hb, h1.2⟩
theorem later_self (f : S26) : laterF f f = false := by
  unfold laterF
  simp
theorem later_iff (f x : S26) : laterF f x = false ↔ (f.f4 < x.f4 ∨ (f.f4 = x.f4 ∧ f.f5 ≤ x.f5)) := by
  unfold laterF
  rw [Bool.or_eq_false_iff, Bool.and_eq_false_iff, decide_eq_false_iff_not, decide_eq_false_iff_not, decide_eq_false_iff_not]
  omega
theorem sam_trans {x y z : S26} (h : samF x y = true) (k : samF y z = true) : samF x z = true := by
  rw [samF_iff] at *
  omega
theorem chain_all_bef : ∀ (r : List S26) (p : S26), chain (some p) r = true → ∀ y ∈ r, befF p y = true
  | [], _, _, _, h => by cases h
  | z :: r, p, hc, y, hy => by
    have hb := chain_bef hc
    rcases List.mem_cons.1 hy with rfl | hy
    · exact hb
    · exact bef_trans hb (chain_all_bef r z (chain_some_of hc).2 y hy)
/-- In a store with f put in, what bears f's claim is not elder than f. -/
theorem put_newest (f : S26) : ∀ (xs : List S26) (p : Option S26), chain p xs = true → ∀ y ∈ putRec f xs, samF y f = true → laterF f y = false
  | [], _, _, y, hy, _ => by
    simp only [putRec, List.mem_singleton] at hy
    subst hy
    exact later_self _
  | x :: r, p, hc, y, hy, hs => by
    have h1 := chain_some_of hc
    simp only [putRec] at hy
    by_cases c : befF x f = true
    · rw [if_pos c] at hy
      rcases List.mem_cons.1 hy with rfl | hy
      · rw [bef_not_sam c] at hs; cases hs
      · exact put_newest f r (some x) h1.2 y hy hs
    · rw [if_neg c] at hy
      simp only [putAt] at hy
      by_cases s : samF x f = true
      · rw [if_pos s] at hy
        rcases List.mem_cons.1 hy with hy | hy
        · by_cases l : laterF f x = true
          · rw [if_pos l] at hy
            rw [hy]
            exact later_self _
          · rw [if_neg l] at hy
            rw [hy]
            simpa using l
        · have hb := chain_all_bef r x h1.2 y hy
          have := sam_trans s (by rw [sam_comm]; exact hs)
          rw [bef_not_sam hb] at this; cases this
      · rw [if_neg s] at hy
        have hb : befF f x = true := bef_total (by simpa using c) (by simpa using s)
        rcases List.mem_cons.1 hy with rfl | hy
        · exact later_self _
        · rcases List.mem_cons.1 hy with rfl | hy
          · exact absurd hs s
          · have := bef_trans hb (chain_all_bef r x h1.2 y hy)
            rw [sam_comm] at hs
            rw [bef_not_sam this] at hs; cases hs
theorem put_there (f : S26) : ∀ (xs : List S26), ∃ y ∈ putRec f xs, samF y f = true ∧ (y = f ∨ y ∈ xs ∧ laterF f y = false)
  | [] => ⟨f, by simp [putRec], by rw [samF_iff]; exact ⟨rfl, rfl, rfl, rfl⟩, .inl rfl⟩
  | x :: r => by
    simp only [putRec]
    by_cases c : befF x f = true
    · rw [if_pos c]
      obtain ⟨y, hy, hs, h⟩ := put_there f r
      refine ⟨y, List.mem_cons_of_mem _ hy, hs, ?_⟩
      rcases h with h | h
      · exact .inl h
      · exact .inr ⟨List.mem_cons_of_mem _ h.1, h.2⟩
    · rw [if_neg c]
      simp only [putAt]
      by_cases s : samF x f = true
      · rw [if_pos s]
        by_cases l : laterF f x = true
        · rw [if_pos l]
          exact ⟨f, List.mem_cons_self, by rw [samF_iff]; exact ⟨rfl, rfl, rfl, rfl⟩, .inl rfl⟩
        · rw [if_neg l]
          exact ⟨x, List.mem_cons_self, s, .inr ⟨List.mem_cons_self, by simpa using l⟩⟩
      · rw [if_neg s]
        exact ⟨f, List.mem_cons_self, by rw [samF_iff]; exact ⟨rfl, rfl, rfl, rfl⟩, .inl rfl⟩
/-- What stood there stands there still, or g took its place. -/
theorem put_stays (g : S26) : ∀ (xs : List S26) (x : S26), x ∈ xs → x ∈ putRec g xs ∨ (samF x g = true ∧ laterF g x = true ∧ g ∈ putRec g xs)
  | [], _, h => by cases h
  | z :: r, x, hx => by
    simp only [putRec]
    by_cases c : befF z g = true
    · rw [if_pos c]
      rcases List.mem_cons.1 hx with rfl | hx
      · exact .inl List.mem_cons_self
      · rcases put_stays g r x hx with h | ⟨h1, h2, h3⟩
        · exact .inl (List.mem_cons_of_mem _ h)
        · exact .inr ⟨h1, h2, List.mem_cons_of_mem _ h3⟩
    · rw [if_neg c]
      simp only [putAt]
      by_cases s : samF z g = true
      · rw [if_pos s]
        rcases List.mem_cons.1 hx with rfl | hx
        · by_cases l : laterF g x = true
          · rw [if_pos l]
            exact .inr ⟨s, l, List.mem_cons_self⟩
          · rw [if_neg l]
            exact .inl List.mem_cons_self
        · exact .inl (List.mem_cons_of_mem _ hx)
      · rw [if_neg s]
        exact .inl (List.mem_cons_of_mem _ hx)
/-- The store bears f, or what outdoes it, or f is no fact. -/
def absorbs (xs : List S26) (f : S26) : Prop := factF f = false ∨ ∃ x ∈ xs, samF x f = true ∧ laterF f x = false
theorem put_same (f : S26) : ∀ (xs : List S26) (p : Option S26), chain p xs = true → (∃ x ∈ xs, samF x f = true ∧ laterF f x = false) → putRec f xs = xs
  | [], _, _, ⟨x, h, _⟩ => by cases h
  | z :: r, p, hc, ⟨x, hx, hs, hl⟩ => by
    have h1 := chain_some_of hc
    simp only [putRec]
    by_cases c : befF z f = true
    · rw [if_pos c]
      rcases List.mem_cons.1 hx with rfl | hx
      · rw [bef_not_sam c] at hs; cases hs
      · rw [put_same f r (some z) h1.2 ⟨x, hx, hs, hl⟩]
    · rw [if_neg c]
      simp only [putAt]
      by_cases s : samF z f = true
      · rw [if_pos s]
        rcases List.mem_cons.1 hx with rfl | hx
        · rw [if_neg (by rw [hl]; simp)]
        · have hb := chain_all_bef r z h1.2 x hx
          have := sam_trans s (by rw [sam_comm]; exact hs)
          rw [bef_not_sam hb] at this; cases this
      · exfalso
        have hb : befF f z = true := bef_total (by simpa using c) (by simpa using s)
        rcases List.mem_cons.1 hx with rfl | hx
        · exact s hs
        · have := bef_trans hb (chain_all_bef r z h1.2 x hx)
          rw [sam_comm] at hs
          rw [bef_not_sam this] at hs; cases hs
theorem isStoreL_iff (xs : List S26) : isStoreL xs = true ↔ chain none xs = true ∧ xs.length ≤ 30 := by
  unfold isStoreL
  rw [Bool.and_eq_true, decide_eq_true_eq]
theorem putL_store (xs : List S26) (f : S26) (h : isStoreL xs = true) : isStoreL (putL xs f).1 = true := by
  unfold putL finF
  split
  · rename_i hc
    rw [Bool.and_eq_true] at hc
    split
    · rename_i hl
      rw [isStoreL_iff] at h ⊢
      exact ⟨chain_put f hc.2 xs none h.1 (fun q e => by cases e), hl⟩
    · exact h
  · exact h
theorem putL_grows (xs : List S26) (f : S26) : xs.length ≤ (putL xs f).1.length ∧ (putL xs f).1.length ≤ xs.length + 1 := by
  have h := putRec_len f xs
  unfold putL finF
  split
  · split
    · exact h
    · exact ⟨Nat.le_refl _, Nat.le_succ _⟩
  · exact ⟨Nat.le_refl _, Nat.le_succ _⟩
theorem mergeL_store : ∀ (b a : List S26), isStoreL a = true → isStoreL (mergeL a b) = true
  | [], _, h => h
  | f :: r, a, h => mergeL_store r _ (putL_store a f h)
theorem mergeL_grows : ∀ (b a : List S26), a.length ≤ (mergeL a b).length
  | [], _ => Nat.le_refl _
  | f :: r, a => Nat.le_trans (putL_grows a f).1 (mergeL_grows r _)
theorem absorbs_put (xs : List S26) (f g : S26) (h : absorbs xs f) : absorbs (putL xs g).1 f := by
  unfold putL finF
  split
  · split
    · rcases h with h | ⟨x, hx, hs, hl⟩
      · exact .inl h
      · rcases put_stays g xs x hx with h2 | ⟨h2, h3, h4⟩
        · exact .inr ⟨x, h2, hs, hl⟩
        · refine .inr ⟨g, h4, sam_trans (by rw [sam_comm]; exact h2) hs, ?_⟩
          have h3' : ¬ laterF g x = false := by rw [h3]; simp
          rw [later_iff] at hl h3' ⊢
          omega
    · exact h
  · exact h
theorem absorbs_merge : ∀ (b a : List S26) (f : S26), absorbs a f → absorbs (mergeL a b) f
  | [], _, _, h => h
  | g :: r, a, f, h => absorbs_merge r _ f (absorbs_put a f g h)
theorem absorbs_now (xs : List S26) (f : S26) (h : isStoreL xs = true) (hl : (putL xs f).1.length < 30) : absorbs (putL xs f).1 f := by
  cases cf : factF f with
  | false => exact .inl cf
  | true =>
    unfold putL at hl ⊢
    rw [if_pos (by rw [h, cf]; rfl)] at hl ⊢
    have hr := putRec_len f xs
    unfold finF at hl ⊢
    by_cases c : (putRec f xs).length ≤ 30
    · rw [if_pos c]
      obtain ⟨y, hy, hs, hh⟩ := put_there f xs
      refine .inr ⟨y, hy, hs, ?_⟩
      rcases hh with rfl | hh
      · exact later_self _
      · exact hh.2
    · rw [if_neg c] at hl
      simp only at hl
      omega
theorem putL_absorbed (xs : List S26) (f : S26) (h : isStoreL xs = true) (ha : absorbs xs f) : (putL xs f).1 = xs := by
  unfold putL
  split
  · rename_i hc
    rw [Bool.and_eq_true] at hc
    rw [isStoreL_iff] at h
    rcases ha with ha | ha
    · rw [hc.2] at ha; cases ha
    · rw [put_same f xs none h.1 ha]
      unfold finF
      rw [if_pos h.2]
  · rfl
theorem merge_all_absorbed : ∀ (b a : List S26), isStoreL a = true → (mergeL a b).length < 30 → ∀ f ∈ b, absorbs (mergeL a b) f
  | [], _, _, _, _, h => by cases h
  | g :: r, a, hs, hl, f, hf => by
    have hs2 := putL_store a g hs
    rcases List.mem_cons.1 hf with rfl | hf
    · refine absorbs_merge r _ f (absorbs_now a f hs ?_)
      exact Nat.lt_of_le_of_lt (mergeL_grows r _) hl
    · exact merge_all_absorbed r _ hs2 hl f hf
theorem merge_absorbed : ∀ (b m : List S26), isStoreL m = true → (∀ f ∈ b, absorbs m f) → mergeL m b = m
  | [], _, _, _ => rfl
  | f :: r, m, hs, ha => by
    show mergeL (putL m f).1 r = m
    rw [putL_absorbed m f hs (ha f List.mem_cons_self)]
    exact merge_absorbed r m hs (fun g hg => ha g (List.mem_cons_of_mem _ hg))

theorem iIn (x lo hi : Int) : impl_InRange.f x lo hi = some (inR x lo hi) := by
  unfold impl_InRange.f inR
  by_cases h : lo ≤ x <;> simp [h]

theorem iName (x : Int) : impl_IsName.f x = some (inR x 10 49) := by unfold impl_IsName.f; rw [iIn]; rfl

theorem iKindOf (x : Int) : impl_KindOf.f x = some (if inR x 10 49 = true then x / 10 else 0) := by
  unfold impl_KindOf.f
  rw [iName]
  cases h : inR x 10 49
  · simp
  · simp only [Option.bind_some, if_true]
    rw [tdiv10 h]

theorem iHasKind (x k : Int) : impl_HasKind.f x k = some (hasKind x k) := by
  unfold impl_HasKind.f hasKind
  rw [iName, iKindOf]
  cases h : inR x 10 49
  · simp
  · simp only [Option.bind_some, if_true, Bool.true_and]
    rfl

theorem iTime (x : Int) : impl_IsTime.f x = some (inR x 0 10000) := by unfold impl_IsTime.f; rw [iIn]; rfl

theorem iClaim (a0 a1 a2 a3 a4 a5 : Int) : impl_isClaim.f a0 a1 a2 a3 a4 a5 = some (claimB a0 a1 a2) := by
  unfold impl_isClaim.f claimB
  simp only [iHasKind, iIn, Option.bind_some]
  by_cases h1 : a0 = 1
  · simp only [h1, if_true]
    cases hasKind a1 1 <;> simp
  · by_cases h2 : a0 = 2
    · simp only [h2, if_true, if_false, show ¬ ((2 : Int) = 1) by decide]
      cases hasKind a1 1 <;> simp
    · by_cases h3 : a0 = 3
      · simp only [h3, if_true, if_false, show ¬ ((3 : Int) = 1) by decide, show ¬ ((3 : Int) = 2) by decide]
        cases hasKind a1 2 <;> simp
      · by_cases h4 : a0 = 4
        · simp only [h4, if_true, if_false, show ¬ ((4 : Int) = 1) by decide, show ¬ ((4 : Int) = 2) by decide, show ¬ ((4 : Int) = 3) by decide]
          cases hasKind a1 3 <;> simp
        · simp only [h1, h2, h3, h4, if_false]
theorem iFact (a0 a1 a2 a3 a4 a5 : Int) : impl_IsFact.f a0 a1 a2 a3 a4 a5 = some (factB a0 a1 a2 a3 a4 a5) := by
  unfold impl_IsFact.f factB
  simp only [iClaim, iIn, iTime, Option.bind_some]
  cases claimB a0 a1 a2 <;> cases inR a3 0 9 <;> cases inR a4 0 10000 <;> cases inR a5 0 10000 <;> simp

theorem iCmp (a0 a1 a2 a3 a4 a5 b0 b1 b2 b3 b4 b5 : Int) : ∃ c, impl_compareClaims.f a0 a1 a2 a3 a4 a5 b0 b1 b2 b3 b4 b5 = some c ∧ (c = 0 ↔ sameB a0 a1 a2 a3 b0 b1 b2 b3 = true) ∧ (c < 0 ↔ beforeB a0 a1 a2 a3 b0 b1 b2 b3 = true) := by
  refine ⟨_, rfl, ?_, ?_⟩
  · unfold sameB
    rw [decide_eq_true_iff]
    repeat' split
    all_goals omega
  · unfold beforeB
    rw [decide_eq_true_iff]
    repeat' split
    all_goals omega

theorem iBefore (a0 a1 a2 a3 a4 a5 b0 b1 b2 b3 b4 b5 : Int) : impl_FactBefore.f a0 a1 a2 a3 a4 a5 b0 b1 b2 b3 b4 b5 = some (beforeB a0 a1 a2 a3 b0 b1 b2 b3) := by
  obtain ⟨c, e, _, h⟩ := iCmp a0 a1 a2 a3 a4 a5 b0 b1 b2 b3 b4 b5
  unfold impl_FactBefore.f
  rw [e, Option.bind_some]
  congr 1
  rw [Bool.eq_iff_iff, ← h]
  simp

theorem iStore_l0 (xs : List S26) (hx : xs.length ≤ 140737488351232) : ∀ (d k i : Nat), i + d = xs.length → d < k → impl_IsStore.l0 k xs xs (xs.length : Int) (i : Int) = some (chain (prevOf xs i) (xs.drop i) && decide (xs.length ≤ 30)) := by
  intro d
  induction d with
  | zero =>
    intro k i hd hk
    obtain ⟨k, rfl⟩ : ∃ m, k = m + 1 := ⟨k - 1, by omega⟩
    simp only [impl_IsStore.l0]
    rw [if_neg (by omega), List.drop_eq_nil_of_le (by omega)]
    simp only [chain, Bool.true_and]
    congr 1
    rw [decide_eq_decide]
    omega
  | succ d ih =>
    intro k i hd hk
    obtain ⟨k, rfl⟩ : ∃ m, k = m + 1 := ⟨k - 1, by omega⟩
    simp only [impl_IsStore.l0]
    rw [if_pos (by omega), if_pos (by omega), if_pos (by omega), rdF_nat xs i (by omega), iFact, Option.bind_some, cast_succ i (by omega), ih k (i + 1) (by omega) (by omega), prevOf_succ xs i (by omega), drop_cons xs i (by omega)]
    by_cases c : i = 0
    · subst c
      rw [if_neg (show ¬ (((0 : Nat) : Int) > 0) by omega)]
      simp only [prevOf, if_true, chain]
      show (if factF xs[0] = true then _ else _) = _
      cases factF xs[0] <;> simp
    · rw [if_pos (show (i : Int) > 0 by omega), w64 (n := (i : Int) - 1) (by omega) (by omega), if_pos (show (0 : Int) ≤ (i : Int) - 1 by omega), if_pos (show (i : Int) - 1 < (xs.length : Int) by omega), rdF_prev xs i (by omega) (by omega) hx, iBefore, Option.bind_some]
      simp only [prevOf, if_neg c, List.getElem?_eq_getElem (show i - 1 < xs.length by omega), chain]
      show (if factF xs[i] = true then (if befF xs[i - 1] xs[i] = true then _ else _) else _) = _
      cases factF xs[i] <;> cases befF xs[i - 1] xs[i] <;> simp
theorem iStore (xs : List S26) (hx : xs.length ≤ 140737488351232) (k : Nat) (hk : xs.length < k) : impl_IsStore.f k xs = some (isStoreL xs) := iStore_l0 xs hx xs.length k 0 (by omega) hk

theorem iSame (a0 a1 a2 a3 a4 a5 b0 b1 b2 b3 b4 b5 : Int) : impl_SameClaim.f a0 a1 a2 a3 a4 a5 b0 b1 b2 b3 b4 b5 = some (sameB a0 a1 a2 a3 b0 b1 b2 b3) := by
  obtain ⟨c, e, h, _⟩ := iCmp a0 a1 a2 a3 a4 a5 b0 b1 b2 b3 b4 b5
  unfold impl_SameClaim.f
  rw [e, Option.bind_some]
  congr 1
  rw [Bool.eq_iff_iff, ← h]
  simp

theorem iLater (f x : S26) : impl_isLater.f f.f0 f.f1 f.f2 f.f3 f.f4 f.f5 x.f0 x.f1 x.f2 x.f3 x.f4 x.f5 = some (laterF f x) := by
  unfold impl_isLater.f laterF
  by_cases h : f.f4 > x.f4
  · simp [h]
  · by_cases h2 : f.f4 = x.f4
    · simp [h2]
    · simp [h, h2]
theorem iPut_j3 (xs : List S26) (hx : xs.length ≤ 30) (f : S26) (i : Nat) (hi : i ≤ xs.length) (k : Nat) (s : Bool) (hs : s = true → i < xs.length) (hs' : ∀ h : i < xs.length, samF xs[i] f = s) :
    impl_PutFact.j3 (k + 1) xs xs (i : Int) s f.f0 f.f1 f.f2 f.f3 f.f4 f.f5 = some (finF xs (xs.take i ++ putAt f (xs.drop i))) := by
  simp only [impl_PutFact.j3]
  cases s with
  | true =>
    have h := hs rfl
    have e := hs' h
    rw [if_pos rfl, if_pos (by omega), if_pos (by omega), rdF_nat xs i h, iLater, Option.bind_some, drop_cons xs i h]
    simp only [putAt]
    rw [if_pos e]
    cases c : laterF f xs[i] with
    | true =>
      rw [if_pos rfl, if_pos (by omega), if_pos rfl]
      unfold finF
      rw [if_pos (by rw [List.length_append, List.length_cons, List.length_take, List.length_drop]; omega), Int.toNat_natCast]
      congr 2
      show xs.set i f = _
      rw [List.set_eq_take_append_cons_drop, if_pos h]
    | false =>
      rw [if_neg (by simp), if_neg (by simp)]
      unfold finF
      rw [← drop_cons xs i h, List.take_append_drop, if_pos hx]
  | false =>
    rw [if_neg (by simp)]
    have e : putAt f (xs.drop i) = f :: xs.drop i := by
      by_cases h : i < xs.length
      · rw [drop_cons xs i h]
        simp only [putAt]
        rw [if_neg (by rw [hs' h]; simp)]
      · rw [List.drop_eq_nil_of_le (by omega)]
        rfl
    rw [e]
    have hl : (xs.take i ++ f :: xs.drop i).length = xs.length + 1 := by
      rw [List.length_append, List.length_cons, List.length_take, List.length_drop]
      omega
    unfold finF
    rw [hl]
    by_cases h30 : (xs.length : Int) = 30
    · rw [if_pos h30, if_neg (by omega)]
    · rw [if_neg h30, if_pos (by omega)]
      unfold impl_Fact_41.f
      rw [if_pos List.length_singleton, if_pos (by omega), if_pos (by omega), if_pos (by omega), Option.bind_some, Int.toNat_natCast, List.append_assoc]
      rfl
theorem iPut_j2 (xs : List S26) (hx : xs.length ≤ 30) (f : S26) (i : Nat) (hi : i ≤ xs.length) (k : Nat) :
    impl_PutFact.j2 (k + 2) xs xs (i : Int) f.f0 f.f1 f.f2 f.f3 f.f4 f.f5 = some (finF xs (xs.take i ++ putAt f (xs.drop i))) := by
  simp only [impl_PutFact.j2]
  by_cases h : i < xs.length
  · rw [if_pos (by omega), if_pos (by omega), rdF_nat xs i h, iSame, Option.bind_some]
    exact iPut_j3 xs hx f i hi k _ (fun _ => h) (fun _ => rfl)
  · rw [if_neg (by omega)]
    exact iPut_j3 xs hx f i hi k false (by simp) (fun h' => absurd h' h)
theorem iPut_l0 (xs : List S26) (hx : xs.length ≤ 30) (f : S26) : ∀ (d k i : Nat), i + d = xs.length → d + 2 < k → impl_PutFact.l0 k xs xs (i : Int) f.f0 f.f1 f.f2 f.f3 f.f4 f.f5 = some (finF xs (xs.take i ++ putRec f (xs.drop i))) := by
  intro d
  induction d with
  | zero =>
    intro k i hd hk
    obtain ⟨k, rfl⟩ : ∃ m, k = m + 3 := ⟨k - 3, by omega⟩
    simp only [impl_PutFact.l0]
    rw [if_neg (by omega), iPut_j2 xs hx f i (by omega) k, List.drop_eq_nil_of_le (by omega)]
    rfl
  | succ d ih =>
    intro k i hd hk
    obtain ⟨k, rfl⟩ : ∃ m, k = m + 1 := ⟨k - 1, by omega⟩
    have h : i < xs.length := by omega
    simp only [impl_PutFact.l0]
    rw [if_pos (by omega), if_pos (by omega), rdF_nat xs i h, iBefore, Option.bind_some]
    show (if befF xs[i] f = true then _ else _) = _
    cases c : befF xs[i] f with
    | true =>
      rw [if_pos rfl, cast_succ i (by omega), ih k (i + 1) (by omega) (by omega), drop_cons xs i h]
      simp only [putRec]
      rw [if_pos c, List.take_succ_eq_append_getElem h, List.append_assoc]
      rfl
    | false =>
      obtain ⟨k, rfl⟩ : ∃ m, k = m + 2 := ⟨k - 2, by omega⟩
      rw [if_neg (by simp), iPut_j2 xs hx f i (by omega) k, drop_cons xs i h]
      simp only [putRec]
      rw [if_neg (by rw [c]; simp)]
theorem iPut (xs : List S26) (hx : xs.length ≤ 2000000) (f : S26) (k : Nat) (hk : xs.length < k) (hk2 : 40 ≤ k) : impl_PutFact.f k xs f.f0 f.f1 f.f2 f.f3 f.f4 f.f5 = some (putL xs f) := by
  obtain ⟨k, rfl⟩ : ∃ m, k = m + 1 := ⟨k - 1, by omega⟩
  unfold impl_PutFact.f impl_copyFacts.f putL
  simp only [Option.bind_some, List.length_nil, Nat.zero_add, List.nil_append]
  rw [if_pos (by omega), Option.bind_some, iStore xs (by omega) (k + 1) hk, Option.bind_some]
  cases c : isStoreL xs with
  | false =>
    rw [if_neg (by simp), if_neg (by simp)]
    simp only [impl_PutFact.j0, if_true]
  | true =>
    have h30 : xs.length ≤ 30 := by
      unfold isStoreL at c
      rw [Bool.and_eq_true, decide_eq_true_eq] at c
      exact c.2
    rw [if_pos rfl, iFact, Option.bind_some]
    show impl_PutFact.j0 (k + 1) xs xs 0 (!factF f) _ _ _ _ _ _ = _
    cases cf : factF f with
    | false =>
      rw [if_neg (by simp)]
      simp only [impl_PutFact.j0, Bool.not_false, if_true]
    | true =>
      rw [if_pos (by simp)]
      simp only [impl_PutFact.j0, Bool.not_true, Bool.false_eq_true, if_false]
      have := iPut_l0 xs h30 f xs.length k 0 (by omega) (by omega)
      simp only [List.take_zero, List.nil_append, List.drop_zero] at this
      exact this

theorem iMerge_l0 (b : List S26) (hb : b.length ≤ 2000000) : ∀ (d k i : Nat) (out : List S26), i + d = b.length → d + 40 + out.length < k → 70 + d < k → out.length ≤ 1900000 → impl_MergeStores.l0 k out b (b.length : Int) (i : Int) = some (mergeL out (b.drop i)) := by
  intro d
  induction d with
  | zero =>
    intro k i out hd hk hk2 ho
    obtain ⟨k, rfl⟩ : ∃ m, k = m + 1 := ⟨k - 1, by omega⟩
    simp only [impl_MergeStores.l0]
    rw [if_neg (by omega), List.drop_eq_nil_of_le (by omega)]
    rfl
  | succ d ih =>
    intro k i out hd hk hk2 ho
    obtain ⟨k, rfl⟩ : ∃ m, k = m + 1 := ⟨k - 1, by omega⟩
    have hl := putL_len out b[i]
    simp only [impl_MergeStores.l0]
    rw [if_pos (by omega), if_pos (by omega), if_pos (by omega), rdF_nat b i (by omega), iPut out (by omega) _ k (by omega) (by omega), Option.bind_some, cast_succ i (by omega), ih k (i + 1) _ (by omega) (by omega) (by omega) (by omega), drop_cons b i (by omega)]
    rfl
theorem iMerge (a b : List S26) (ha : a.length ≤ 1900000) (hb : b.length ≤ 2000000) (k : Nat) (hk : a.length + b.length + 80 ≤ k) : impl_MergeStores.f k a b = some (mergeL a b) := by
  unfold impl_MergeStores.f impl_copyFacts.f
  simp only [Option.bind_some, List.length_nil, Nat.zero_add, List.nil_append]
  rw [if_pos (by omega), Option.bind_some]
  exact iMerge_l0 b hb b.length k 0 a (by omega) (by omega) (by omega) ha

/-- A cursor that stands inside its bytes. -/
def Cur (b : List Int) (i : Int) : Prop := 0 ≤ i ∧ i ≤ (b.length : Int) ∧ b.length ≤ 140737488351232
theorem l1New_l0 (l : List Int) (hl : l.length ≤ 140737488351232) : ∀ (d k : Nat) (h i : Int), 0 ≤ i → (l.length : Int) - i ≤ d → d < k → ∃ h', spec_l1New.l0 k l h i = some (l, 0, h') := by
  intro d
  induction d with
  | zero =>
    intro k h i h0 h1 hk
    obtain ⟨k, rfl⟩ : ∃ m, k = m + 1 := ⟨k - 1, by omega⟩
    exact ⟨h, by simp only [spec_l1New.l0]; rw [if_neg (by omega)]⟩
  | succ d ih =>
    intro k h i h0 h1 hk
    obtain ⟨k, rfl⟩ : ∃ m, k = m + 1 := ⟨k - 1, by omega⟩
    by_cases c1 : i < (l.length : Int)
    · by_cases c2 : i < 4000
      · obtain ⟨h', e⟩ := ih k _ (i + 1) (by omega) (by omega) (by omega)
        exact ⟨h', by simp only [spec_l1New.l0]; rw [if_pos c1, if_pos c2, if_pos h0, w64 (n := i + 1) (by omega) (by omega)]; exact e⟩
      · exact ⟨h, by simp only [spec_l1New.l0]; rw [if_pos c1, if_neg c2]⟩
    · exact ⟨h, by simp only [spec_l1New.l0]; rw [if_neg c1]⟩
theorem l1New_l0' (l : List Int) (hl : l.length ≤ 140737488351232) : ∀ (d k : Nat) (h i : Int), 0 ≤ i → i ≤ 4000 → 4000 - i ≤ d → d < k → ∃ h', spec_l1New.l0 k l h i = some (l, 0, h') := by
  intro d
  induction d with
  | zero =>
    intro k h i h0 h9 h1 hk
    obtain ⟨k, rfl⟩ : ∃ m, k = m + 1 := ⟨k - 1, by omega⟩
    by_cases c1 : i < (l.length : Int)
    · exact ⟨h, by simp only [spec_l1New.l0]; rw [if_pos c1, if_neg (by omega)]⟩
    · exact ⟨h, by simp only [spec_l1New.l0]; rw [if_neg c1]⟩
  | succ d ih =>
    intro k h i h0 h9 h1 hk
    obtain ⟨k, rfl⟩ : ∃ m, k = m + 1 := ⟨k - 1, by omega⟩
    by_cases c1 : i < (l.length : Int)
    · by_cases c2 : i < 4000
      · obtain ⟨h', e⟩ := ih k _ (i + 1) (by omega) (by omega) (by omega) (by omega)
        exact ⟨h', by simp only [spec_l1New.l0]; rw [if_pos c1, if_pos c2, if_pos h0, w64 (n := i + 1) (by omega) (by omega)]; exact e⟩
      · exact ⟨h, by simp only [spec_l1New.l0]; rw [if_pos c1, if_neg c2]⟩
    · exact ⟨h, by simp only [spec_l1New.l0]; rw [if_neg c1]⟩
/-- A new cursor stands at the begin; 4001 rounds are enough. -/
theorem l1New_some (l : List Int) (hl : l.length ≤ 140737488351232) (k : Nat) (hk : 4001 ≤ k) : ∃ h, spec_l1New.f k l = some (l, 0, h) ∧ Cur l 0 := by
  obtain ⟨h, e⟩ := l1New_l0' l hl 4000 k (wrap64 (193017 + (l.length : Int))) 0 (by omega) (by omega) (by omega) (by omega)
  exact ⟨h, e, ⟨by omega, by omega, hl⟩⟩
theorem l1Byte_some {b : List Int} {i : Int} (hc : Cur b i) (h : Int) : ∃ x i' h', spec_l1Byte.f b i h = some (x, i', h') ∧ 0 ≤ x ∧ x ≤ 255 ∧ Cur b i' := by
  obtain ⟨h0, h1, hb⟩ := hc
  unfold spec_l1Byte.f
  by_cases c : i < (b.length : Int)
  · rw [if_pos c, if_pos h0, w64 (n := i + 1) (by omega) (by omega)]
    exact ⟨_, _, _, rfl, (and255 _).1, (and255 _).2, by omega, by omega, hb⟩
  · rw [if_neg c]
    exact ⟨_, _, _, rfl, (and255 _).1, (and255 _).2, h0, h1, hb⟩
theorem l1Below_some {b : List Int} {i : Int} (hc : Cur b i) (h n : Int) (hn : 0 < n) : ∃ x i' h', spec_l1Below.f b i h n = some (x, i', h') ∧ 0 ≤ x ∧ x < n ∧ Cur b i' := by
  unfold spec_l1Below.f
  rw [if_neg (by omega)]
  by_cases c : n ≤ 256
  · rw [if_pos c]
    obtain ⟨x, i1, h1, e1, x0, x1, hc1⟩ := l1Byte_some hc h
    rw [e1]; simp only [Option.bind_some]
    rw [if_neg (by omega)]
    exact ⟨_, _, _, rfl, (tmod_lt x0 hn).1, (tmod_lt x0 hn).2, hc1⟩
  · rw [if_neg c]
    obtain ⟨x, i1, h1, e1, x0, x1, hc1⟩ := l1Byte_some hc h
    rw [e1]; simp only [Option.bind_some]
    obtain ⟨y, i2, h2, e2, y0, y1, hc2⟩ := l1Byte_some hc1 h1
    rw [e2]; simp only [Option.bind_some]
    obtain ⟨z, i3, h3, e3, z0, z1, hc3⟩ := l1Byte_some hc2 h2
    rw [e3]; simp only [Option.bind_some]
    rw [if_neg (by omega), w64 (n := x * 65536) (by omega) (by omega), w64 (n := y * 256) (by omega) (by omega), w64 (n := x * 65536 + y * 256) (by omega) (by omega), w64 (n := x * 65536 + y * 256 + z) (by omega) (by omega)]
    exact ⟨_, _, _, rfl, (tmod_lt (by omega) hn).1, (tmod_lt (by omega) hn).2, hc3⟩
theorem l1Below_some0 {b : List Int} {i : Int} (hc : Cur b i) (h n : Int) : ∃ x i' h', spec_l1Below.f b i h n = some (x, i', h') ∧ 0 ≤ x ∧ x ≤ mx 0 n ∧ Cur b i' := by
  by_cases hn : 0 < n
  · obtain ⟨x, i', h', e, x0, x1, hc'⟩ := l1Below_some hc h n hn
    exact ⟨x, i', h', e, x0, by unfold mx; split <;> omega, hc'⟩
  · refine ⟨0, i, h, ?_, by omega, by unfold mx; split <;> omega, hc⟩
    unfold spec_l1Below.f
    rw [if_pos (by omega)]

theorem l1Int_some {b : List Int} {i : Int} (hc : Cur b i) (h : Int) (l : List Int) (hl : 0 < l.length) (P : Int → Prop) (hP : ∀ x ∈ l, P x) : ∃ x i' h', spec_l1Int.f b i h l = some (x, i', h') ∧ P x ∧ Cur b i' := by
  unfold spec_l1Int.f
  obtain ⟨x, i1, h1, e1, x0, x1, hc1⟩ := l1Below_some hc h (l.length : Int) (by omega)
  rw [e1]; simp only [Option.bind_some]
  rw [if_pos x0, if_pos x1]
  refine ⟨_, _, _, rfl, hP _ ?_, hc1⟩
  unfold rd
  rw [List.getD_eq_getElem?_getD, List.getElem?_eq_getElem (show x.toNat < l.length by omega)]
  exact List.getElem_mem _

theorem l1Once_some {b : List Int} {i : Int} (hc : Cur b i) (h n : Int) (hn : 0 < n) : ∃ x i' h', spec_l1Once.f b i h n = some (x, i', h') ∧ Cur b i' := by
  unfold spec_l1Once.f
  obtain ⟨x, i1, h1, e1, x0, x1, hc1⟩ := l1Below_some hc h n hn
  rw [e1]; simp only [Option.bind_some]
  exact ⟨_, _, _, rfl, hc1⟩

def R64 (x : Int) : Prop := -9223372036854775808 ≤ x ∧ x ≤ 9223372036854775807
theorem R64_wrap (x : Int) : R64 (wrap64 x) := ⟨w64_lo x, w64_hi x⟩
theorem l5Name_some {b : List Int} {i : Int} (hc : Cur b i) (h a : Int) : ∃ x i' h', spec_l5Name.f b i h a = some (x, i', h') ∧ R64 x ∧ Cur b i' := by
  unfold spec_l5Name.f
  obtain ⟨y, i1, h1, e1, _, _, hc1⟩ := l1Below_some hc h 3 (by omega)
  rw [e1]
  exact ⟨_, _, _, rfl, R64_wrap _, hc1⟩
theorem l6Fact_some {b : List Int} {i : Int} (hc : Cur b i) (h : Int) : ∃ f0 f1 f2 f3 f4 f5 i' h', spec_l6Fact.f b i h = some (f0, f1, f2, f3, f4, f5, i', h') ∧ (R64 f0 ∧ R64 f1 ∧ R64 f2 ∧ R64 f3 ∧ R64 f4 ∧ R64 f5) ∧ Cur b i' := by
  unfold spec_l6Fact.f
  obtain ⟨x, i1, h1, e1, x0, x1, hc1⟩ := l1Below_some hc h 4 (by omega)
  rw [e1]; simp only [Option.bind_some]
  obtain ⟨y, i2, h2, e2, y0, y1, hc2⟩ := l1Below_some hc1 h1 3 (by omega)
  rw [e2]; simp only [Option.bind_some]
  obtain ⟨z, i3, h3, e3, z0, z1, hc3⟩ := l1Below_some hc2 h2 20 (by omega)
  rw [e3]; simp only [Option.bind_some]
  obtain ⟨u, i4, h4, e4, u0, u1, hc4⟩ := l1Below_some hc3 h3 30 (by omega)
  rw [e4]; simp only [Option.bind_some]
  have ry : R64 y := ⟨by omega, by omega⟩
  have rz : R64 z := ⟨by omega, by omega⟩
  by_cases c1 : wrap64 (1 + x) = 1
  · rw [if_pos c1]
    obtain ⟨n, i5, h5, e5, rn, hc5⟩ := l5Name_some hc4 h4 1
    rw [e5]; simp only [Option.bind_some]
    obtain ⟨v, i6, h6, e6, v0, v1, hc6⟩ := l1Below_some hc5 h5 4 (by omega)
    rw [e6]
    exact ⟨_, _, _, _, _, _, _, _, rfl, ⟨R64_wrap _, rn, ⟨by omega, by omega⟩, ry, rz, R64_wrap _⟩, hc6⟩
  · rw [if_neg c1]
    by_cases c2 : wrap64 (1 + x) = 2
    · rw [if_pos c2]
      obtain ⟨n, i5, h5, e5, rn, hc5⟩ := l5Name_some hc4 h4 1
      rw [e5]; simp only [Option.bind_some]
      obtain ⟨v, i6, h6, e6, rv, hc6⟩ := l5Name_some hc5 h5 2
      rw [e6]
      exact ⟨_, _, _, _, _, _, _, _, rfl, ⟨R64_wrap _, rn, rv, ry, rz, R64_wrap _⟩, hc6⟩
    · rw [if_neg c2]
      by_cases c3 : wrap64 (1 + x) = 3
      · rw [if_pos c3]
        obtain ⟨n, i5, h5, e5, rn, hc5⟩ := l5Name_some hc4 h4 2
        rw [e5]; simp only [Option.bind_some]
        obtain ⟨v, i6, h6, e6, v0, v1, hc6⟩ := l1Below_some hc5 h5 4 (by omega)
        rw [e6]
        exact ⟨_, _, _, _, _, _, _, _, rfl, ⟨R64_wrap _, rn, ⟨by omega, by omega⟩, ry, rz, R64_wrap _⟩, hc6⟩
      · rw [if_neg c3]
        obtain ⟨n, i5, h5, e5, rn, hc5⟩ := l5Name_some hc4 h4 3
        rw [e5]; simp only [Option.bind_some]
        obtain ⟨v, i6, h6, e6, v0, v1, hc6⟩ := l1Below_some hc5 h5 4 (by omega)
        rw [e6]
        exact ⟨_, _, _, _, _, _, _, _, rfl, ⟨R64_wrap _, rn, ⟨by omega, by omega⟩, ry, rz, R64_wrap _⟩, hc6⟩

theorem sIn (x lo hi : Int) : spec_l1In.f x lo hi = some (inR x lo hi) := by
  unfold spec_l1In.f inR
  by_cases h : lo ≤ x <;> simp [h]

theorem sName (x : Int) : spec_IsName.f x = some (inR x 10 49) := by unfold spec_IsName.f; rw [sIn]; rfl

theorem sHasKind (x k : Int) : spec_HasKind.f x k = some (hasKind x k) := by
  unfold spec_HasKind.f hasKind
  rw [sName]
  cases h : inR x 10 49
  · simp
  · simp only [Option.bind_some, if_true, Bool.true_and]
    rw [tdiv10 h]
    rfl

theorem sTime (x : Int) : spec_IsTime.f x = some (inR x 0 10000) := by unfold spec_IsTime.f; rw [sIn]; rfl

theorem sFact (a0 a1 a2 a3 a4 a5 : Int) : spec_IsFact.f a0 a1 a2 a3 a4 a5 = some (factB a0 a1 a2 a3 a4 a5) := by
  unfold spec_IsFact.f factB claimB
  simp only [sHasKind, sIn, sTime, Option.bind_some]
  by_cases h1 : a0 = 1
  · simp only [h1, if_true]
    cases hasKind a1 1 <;> cases inR a2 0 5 <;> cases inR a3 0 9 <;> cases inR a4 0 10000 <;> cases inR a5 0 10000 <;> simp
  · by_cases h2 : a0 = 2
    · simp only [h2, if_true, if_false, show ¬ ((2 : Int) = 1) by decide]
      cases hasKind a1 1 <;> cases hasKind a2 2 <;> cases inR a3 0 9 <;> cases inR a4 0 10000 <;> cases inR a5 0 10000 <;> simp
    · by_cases h3 : a0 = 3
      · simp only [h3, if_true, if_false, show ¬ ((3 : Int) = 1) by decide, show ¬ ((3 : Int) = 2) by decide]
        cases hasKind a1 2 <;> cases inR a2 0 3 <;> cases inR a3 0 9 <;> cases inR a4 0 10000 <;> cases inR a5 0 10000 <;> simp
      · by_cases h4 : a0 = 4
        · simp only [h4, if_true, if_false, show ¬ ((4 : Int) = 1) by decide, show ¬ ((4 : Int) = 2) by decide, show ¬ ((4 : Int) = 3) by decide]
          cases hasKind a1 3 <;> cases inR a2 0 3 <;> cases inR a3 0 9 <;> cases inR a4 0 10000 <;> cases inR a5 0 10000 <;> simp
        · simp only [h1, h2, h3, h4, if_false]
          simp

theorem sBefore (a0 a1 a2 a3 a4 a5 b0 b1 b2 b3 b4 b5 : Int) : spec_FactBefore.f a0 a1 a2 a3 a4 a5 b0 b1 b2 b3 b4 b5 = some (beforeB a0 a1 a2 a3 b0 b1 b2 b3) := by
  unfold spec_FactBefore.f beforeB
  by_cases h0 : a0 = b0
  · by_cases h1 : a1 = b1
    · by_cases h2 : a2 = b2
      · rw [if_pos h0, if_pos h1, if_pos h2]
        congr 1
        rw [decide_eq_decide]
        omega
      · rw [if_pos h0, if_pos h1, if_neg h2]
        congr 1
        rw [decide_eq_decide]
        omega
    · rw [if_pos h0, if_neg h1]
      congr 1
      rw [decide_eq_decide]
      omega
  · rw [if_neg h0]
    congr 1
    rw [decide_eq_decide]
    omega

theorem sStore_l0 (xs : List S26) (hx : xs.length ≤ 140737488351232) : ∀ (d k i : Nat), i + d = xs.length → d < k → spec_IsStore.l0 k xs (i : Int) = some (chain (prevOf xs i) (xs.drop i) && decide (xs.length ≤ 30)) := by
  intro d
  induction d with
  | zero =>
    intro k i hd hk
    obtain ⟨k, rfl⟩ : ∃ m, k = m + 1 := ⟨k - 1, by omega⟩
    simp only [spec_IsStore.l0]
    rw [if_neg (by omega), List.drop_eq_nil_of_le (by omega)]
    simp only [chain, Bool.true_and]
    congr 1
    rw [decide_eq_decide]
    omega
  | succ d ih =>
    intro k i hd hk
    obtain ⟨k, rfl⟩ : ∃ m, k = m + 1 := ⟨k - 1, by omega⟩
    simp only [spec_IsStore.l0]
    rw [if_pos (by omega), if_pos (by omega), rdF_nat xs i (by omega), sFact, Option.bind_some, cast_succ i (by omega), ih k (i + 1) (by omega) (by omega), prevOf_succ xs i (by omega), drop_cons xs i (by omega)]
    by_cases c : i = 0
    · subst c
      rw [if_neg (show ¬ (((0 : Nat) : Int) > 0) by omega)]
      simp only [prevOf, if_true, chain]
      show (if factF xs[0] = true then _ else _) = _
      cases factF xs[0] <;> simp
    · rw [if_pos (show (i : Int) > 0 by omega), w64 (n := (i : Int) - 1) (by omega) (by omega), if_pos (show (0 : Int) ≤ (i : Int) - 1 by omega), if_pos (show (i : Int) - 1 < (xs.length : Int) by omega), rdF_prev xs i (by omega) (by omega) hx, sBefore, Option.bind_some]
      simp only [prevOf, if_neg c, List.getElem?_eq_getElem (show i - 1 < xs.length by omega), chain]
      show (if factF xs[i] = true then (if befF xs[i - 1] xs[i] = true then _ else _) else _) = _
      cases factF xs[i] <;> cases befF xs[i - 1] xs[i] <;> simp
theorem sStore (xs : List S26) (hx : xs.length ≤ 140737488351232) (k : Nat) (hk : xs.length < k) : spec_IsStore.f k xs = some (isStoreL xs) := sStore_l0 xs hx xs.length k 0 (by omega) hk

theorem sSame (a0 a1 a2 a3 a4 a5 b0 b1 b2 b3 b4 b5 : Int) : spec_SameClaim.f a0 a1 a2 a3 a4 a5 b0 b1 b2 b3 b4 b5 = some (sameB a0 a1 a2 a3 b0 b1 b2 b3) := by
  unfold spec_SameClaim.f sameB
  by_cases h0 : a0 = b0
  · by_cases h1 : a1 = b1
    · by_cases h2 : a2 = b2
      · rw [if_pos h0, if_pos h1, if_pos h2]
        congr 1
        rw [Bool.eq_iff_iff]
        simp [h0, h1, h2]
      · simp [h0, h1, h2]
    · simp [h0, h1]
  · simp [h0]

theorem sCopy (xs : List S26) (hx : xs.length ≤ 2000000) : spec_l7Copy.f xs = some xs := by
  unfold spec_l7Copy.f
  simp only [Option.bind_some, List.length_nil, Nat.zero_add, List.nil_append]
  rw [if_pos (by omega)]
/-- The place is behind us: what is left goes over. -/
theorem sPut_done (xs : List S26) (hx : xs.length ≤ 30) (f : S26) : ∀ (d k i : Nat) (acc : List S26), i + d = xs.length → 3 * d < k → acc.length ≤ i + 1 → (∀ x ∈ xs.drop i, samF f x = false) →
    spec_PutFact.l0 k xs acc true (i : Int) f.f0 f.f1 f.f2 f.f3 f.f4 f.f5 = some (finF xs (acc ++ xs.drop i)) := by
  intro d
  induction d with
  | zero =>
    intro k i acc hd hk ha hn
    obtain ⟨k, rfl⟩ : ∃ m, k = m + 1 := ⟨k - 1, by omega⟩
    simp only [spec_PutFact.l0]
    rw [if_neg (by omega), if_pos trivial, List.drop_eq_nil_of_le (by omega), List.append_nil]
    unfold finF
    by_cases h : acc.length ≤ 30
    · rw [if_neg (by omega), if_pos h]
    · rw [if_pos (by omega), if_neg h, sCopy xs (by omega), Option.bind_some]
  | succ d ih =>
    intro k i acc hd hk ha hn
    obtain ⟨k, rfl⟩ : ∃ m, k = m + 3 := ⟨k - 3, by omega⟩
    have h : i < xs.length := by omega
    have hs : samF f xs[i] = false := hn _ (by rw [drop_cons xs i h]; exact List.mem_cons_self)
    simp only [spec_PutFact.l0, spec_PutFact.j2, spec_PutFact.j3, rdF_nat xs i h, sSame, Option.bind_some]
    rw [if_pos (by omega), if_pos trivial, if_neg (by simp), if_pos (by omega), if_pos (by omega)]
    show (if samF f xs[i] = true then _ else _) = _
    rw [if_neg (by rw [hs]; simp), if_pos (by omega), cast_succ i (by omega)]
    refine (ih k (i + 1) (acc ++ [xs[i]]) (by omega) (by omega) (by rw [List.length_append, List.length_singleton]; omega) (fun x hx => hn x (by rw [drop_cons xs i h]; exact List.mem_cons_of_mem _ hx))).trans ?_
    rw [drop_cons xs i h, List.append_assoc]
    rfl
theorem sPut_l0 (xs : List S26) (hx : xs.length ≤ 30) (f : S26) : ∀ (d k i : Nat) (acc : List S26) (p : Option S26), i + d = xs.length → 3 * d < k → acc.length ≤ i → chain p (xs.drop i) = true →
    spec_PutFact.l0 k xs acc false (i : Int) f.f0 f.f1 f.f2 f.f3 f.f4 f.f5 = some (finF xs (acc ++ putRec f (xs.drop i))) := by
  intro d
  induction d with
  | zero =>
    intro k i acc p hd hk ha hc
    obtain ⟨k, rfl⟩ : ∃ m, k = m + 1 := ⟨k - 1, by omega⟩
    simp only [spec_PutFact.l0, Option.bind_some]
    rw [if_neg (by omega), if_neg (by simp), if_pos (by omega), List.drop_eq_nil_of_le (by omega)]
    unfold finF putRec
    have hl : (acc ++ [f]).length = acc.length + 1 := by simp
    show (if ((acc ++ [f]).length : Int) > 30 then _ else _) = some (if (acc ++ [f]).length ≤ 30 then _ else _)
    rw [hl]
    by_cases h : acc.length + 1 ≤ 30
    · rw [if_neg (by omega), if_pos h]
    · rw [if_pos (by omega), if_neg h, sCopy xs (by omega), Option.bind_some]
  | succ d ih =>
    intro k i acc p hd hk ha hc
    obtain ⟨k, rfl⟩ : ∃ m, k = m + 3 := ⟨k - 3, by omega⟩
    have h : i < xs.length := by omega
    rw [drop_cons xs i h] at hc
    have hc2 := (chain_some_of hc).2
    simp only [spec_PutFact.l0, rdF_nat xs i h, sBefore, Option.bind_some]
    rw [if_pos (by omega), if_neg (by simp), if_pos (by omega)]
    show spec_PutFact.j2 (k + 2) xs acc false (i : Int) (befF f xs[i]) _ _ _ _ _ _ = _
    simp only [spec_PutFact.j2]
    cases cb : befF f xs[i] with
    | true =>
      -- it goes in here
      have hs : samF f xs[i] = false := bef_not_sam cb
      rw [if_pos rfl, if_pos (by omega)]
      simp only [spec_PutFact.j3, rdF_nat xs i h, sSame, Option.bind_some]
      rw [if_pos (by omega), if_pos (by omega)]
      show (if samF f xs[i] = true then _ else _) = _
      rw [if_neg (by rw [hs]; simp), if_pos (by rw [List.length_append, List.length_singleton]; omega), cast_succ i (by omega)]
      refine (sPut_done xs hx f d k (i + 1) ((acc ++ [f]) ++ [xs[i]]) (by omega) (by omega) (by simp only [List.length_append, List.length_singleton]; omega) (chain_not_sam f _ _ hc2 (.inl cb))).trans ?_
      rw [drop_cons xs i h]
      simp only [putRec]
      rw [if_neg (by rw [bef_not_bef cb]; simp)]
      simp only [putAt]
      rw [if_neg (by rw [sam_comm, hs]; simp)]
      simp only [List.append_assoc]
      rfl
    | false =>
      rw [if_neg (by simp)]
      simp only [spec_PutFact.j3, rdF_nat xs i h, sSame, Option.bind_some]
      rw [if_pos (by omega), if_pos (by omega)]
      show (if samF f xs[i] = true then _ else _) = _
      cases cs : samF f xs[i] with
      | true =>
        have hns := chain_not_sam f _ _ hc2 (.inr cs)
        have e : putRec f (xs[i] :: xs.drop (i + 1)) = (if laterF f xs[i] = true then f else xs[i]) :: xs.drop (i + 1) := by
          simp only [putRec]
          rw [if_neg (by
            have h1 : samF xs[i] f = true := by rw [sam_comm]; exact cs
            cases c3 : befF xs[i] f with
            | false => simp
            | true => rw [bef_not_sam c3] at h1; cases h1)]
          simp only [putAt]
          rw [if_pos (by rw [sam_comm]; exact cs)]
        have fin : ∀ y : S26, spec_PutFact.l0 k xs (acc ++ [y]) true ((i + 1 : Nat) : Int) f.f0 f.f1 f.f2 f.f3 f.f4 f.f5 = some (finF xs (acc ++ y :: xs.drop (i + 1))) := fun y => by
          refine (sPut_done xs hx f d k (i + 1) (acc ++ [y]) (by omega) (by omega) (by rw [List.length_append, List.length_singleton]; omega) hns).trans ?_
          rw [List.append_assoc]
          rfl
        rw [if_pos rfl, drop_cons xs i h, e, cast_succ i (by omega)]
        unfold laterF
        by_cases h4 : f.f4 > xs[i].f4
        · rw [if_pos h4, if_pos (by omega), decide_eq_true h4, Bool.true_or, if_pos rfl]
          exact fin f
        · rw [if_neg h4, decide_eq_false h4, Bool.false_or]
          by_cases h5 : f.f4 = xs[i].f4
          · rw [if_pos h5, decide_eq_true h5, Bool.true_and]
            by_cases h6 : f.f5 > xs[i].f5
            · rw [if_pos h6, if_pos (by omega), decide_eq_true h6, if_pos rfl]
              exact fin f
            · rw [if_neg h6, if_pos (by omega), decide_eq_false h6, if_neg (by simp)]
              exact fin xs[i]
          · rw [if_neg h5, if_pos (by omega), decide_eq_false h5, Bool.false_and, if_neg (by simp)]
            exact fin xs[i]
      | false =>
        have hb : befF xs[i] f = true := bef_total cb cs
        rw [if_neg (by simp), if_pos (by omega), cast_succ i (by omega)]
        refine (ih k (i + 1) (acc ++ [xs[i]]) (some xs[i]) (by omega) (by omega) (by rw [List.length_append, List.length_singleton]; omega) hc2).trans ?_
        rw [drop_cons xs i h]
        simp only [putRec]
        rw [if_pos hb, List.append_assoc]
        rfl
theorem sPut (xs : List S26) (hx : xs.length ≤ 2000000) (f : S26) (k : Nat) (hk : xs.length < k) (hk2 : 100 ≤ k) : spec_PutFact.f k xs f.f0 f.f1 f.f2 f.f3 f.f4 f.f5 = some (putL xs f) := by
  obtain ⟨k, rfl⟩ : ∃ m, k = m + 1 := ⟨k - 1, by omega⟩
  unfold spec_PutFact.f putL
  rw [sStore xs (by omega) (k + 1) hk, Option.bind_some]
  cases c : isStoreL xs with
  | false =>
    rw [if_neg (by simp), if_neg (by simp)]
    simp only [spec_PutFact.j0, if_true, sCopy xs hx, Option.bind_some]
  | true =>
    have h30 : chain none xs = true ∧ xs.length ≤ 30 := by
      unfold isStoreL at c
      rw [Bool.and_eq_true, decide_eq_true_eq] at c
      exact c
    rw [if_pos rfl, sFact, Option.bind_some]
    show spec_PutFact.j0 (k + 1) xs (!factF f) _ _ _ _ _ _ = _
    cases cf : factF f with
    | false =>
      rw [if_neg (by simp)]
      simp only [spec_PutFact.j0, Bool.not_false, if_true, sCopy xs hx, Option.bind_some]
    | true =>
      rw [if_pos (by simp)]
      simp only [spec_PutFact.j0, Bool.not_true, Bool.false_eq_true, if_false]
      have := sPut_l0 xs h30.2 f xs.length k 0 [] none (by omega) (by omega) (by simp) (by simpa using h30.1)
      simp only [List.nil_append, List.drop_zero] at this
      exact this

theorem l7Store_l0 {b : List Int} : ∀ (d k : Nat) (s : List S26) (n i h : Int), Cur b i → n ≤ d → n ≤ 1000 → d + 110 < k → s.length ≤ 30 → ∃ s' i' h', spec_l7Store.l0 k s n b i h = some (s', i', h') ∧ s'.length ≤ 30 ∧ Cur b i' := by
  intro d
  induction d with
  | zero =>
    intro k s n i h hc hn hn2 hk hs
    obtain ⟨k, rfl⟩ : ∃ m, k = m + 1 := ⟨k - 1, by omega⟩
    refine ⟨s, i, h, ?_, hs, hc⟩
    simp only [spec_l7Store.l0]
    rw [if_neg (by omega)]
  | succ d ih =>
    intro k s n i h hc hn hn2 hk hs
    obtain ⟨k, rfl⟩ : ∃ m, k = m + 1 := ⟨k - 1, by omega⟩
    simp only [spec_l7Store.l0]
    by_cases c : n > 0
    · obtain ⟨f0, f1, f2, f3, f4, f5, i1, h1, e1, _, hc1⟩ := l6Fact_some hc h
      have e2 := sPut s (by omega) ⟨f0, f1, f2, f3, f4, f5⟩ k (by omega) (by omega)
      have hl := putL_len s ⟨f0, f1, f2, f3, f4, f5⟩
      rw [if_pos c, e1]
      simp only [Option.bind_some]
      rw [e2]
      simp only [Option.bind_some]
      exact ih k _ _ _ _ hc1 (by rw [w64 (by omega) (by omega)]; omega) (by rw [w64 (by omega) (by omega)]; omega) (by omega) (by omega)
    · refine ⟨s, i, h, ?_, hs, hc⟩
      rw [if_neg c]
theorem l7Store_some {b : List Int} {i : Int} (hc : Cur b i) (h : Int) (k : Nat) (hk : 130 ≤ k) : ∃ s i' h', spec_l7Store.f k b i h = some (s, i', h') ∧ s.length ≤ 30 ∧ Cur b i' := by
  unfold spec_l7Store.f
  obtain ⟨x, i1, h1, e1, x0, x1, hc1⟩ := l1Below_some hc h 10 (by omega)
  rw [e1]; simp only [Option.bind_some]
  exact l7Store_l0 10 k [] x i1 h1 hc1 (by omega) (by omega) (by omega) (by simp)

theorem l4Time_some {b : List Int} {i : Int} (hc : Cur b i) (h : Int) : ∃ x i' h', spec_l4Time.f b i h = some (x, i', h') ∧ (-9223372036854775808 ≤ x ∧ x ≤ 9223372036854775807) ∧ Cur b i' := by
  unfold spec_l4Time.f
  obtain ⟨x, i1, h1, e1, hc1⟩ := l1Once_some hc h 8 (by omega)
  rw [e1]; simp only [Option.bind_some]
  cases x
  · rw [if_neg (by decide)]
    obtain ⟨y, i2, h2, e2, y0, y1, hc2⟩ := l1Below_some hc1 h1 40 (by omega)
    rw [e2]
    exact ⟨_, _, _, rfl, by constructor <;> omega, hc2⟩
  · rw [if_pos rfl]
    obtain ⟨y, i2, h2, e2, hy, hc2⟩ := l1Int_some hc1 h1 [(-1), 0, 10000, 10001, 9223372036854775807, (-9223372036854775808)] (by decide) (fun x => -9223372036854775808 ≤ x ∧ x ≤ 9223372036854775807) (by decide)
    rw [e2]
    exact ⟨_, _, _, rfl, hy, hc2⟩

theorem l5Any_some {b : List Int} {i : Int} (hc : Cur b i) (h : Int) : ∃ x i' h', spec_l5Any.f b i h = some (x, i', h') ∧ Cur b i' := by
  unfold spec_l5Any.f
  obtain ⟨x, i1, h1, e1, hc1⟩ := l1Once_some hc h 6 (by omega)
  rw [e1]; simp only [Option.bind_some]
  cases x
  · rw [if_neg (by simp)]
    obtain ⟨x, i2, h2, e2, x0, x1, hc2⟩ := l1Below_some hc1 h1 4 (by omega)
    rw [e2]; simp only [Option.bind_some]
    unfold spec_l5Name.f
    obtain ⟨y, i3, h3, e3, y0, y1, hc3⟩ := l1Below_some hc2 h2 3 (by omega)
    rw [e3]; simp only [Option.bind_some]
    exact ⟨_, _, _, rfl, hc3⟩
  · rw [if_pos rfl]
    obtain ⟨y, i2, h2, e2, hy, hc2⟩ := l1Int_some hc1 h1 [(-1), 9, 10, 49, 50, 19] (by decide) (fun _ => True) (by simp)
    rw [e2]; simp only [Option.bind_some]
    exact ⟨_, _, _, rfl, hc2⟩

theorem l5Any_r {b : List Int} {i : Int} (hc : Cur b i) (h : Int) : ∃ x i' h', spec_l5Any.f b i h = some (x, i', h') ∧ R64 x ∧ Cur b i' := by
  unfold spec_l5Any.f
  obtain ⟨x, i1, h1, e1, hc1⟩ := l1Once_some hc h 6 (by omega)
  rw [e1]; simp only [Option.bind_some]
  cases x
  · rw [if_neg (by simp)]
    obtain ⟨x, i2, h2, e2, x0, x1, hc2⟩ := l1Below_some hc1 h1 4 (by omega)
    rw [e2]; simp only [Option.bind_some]
    obtain ⟨y, i3, h3, e3, ry, hc3⟩ := l5Name_some hc2 h2 (wrap64 (1 + x))
    rw [e3]; simp only [Option.bind_some]
    exact ⟨_, _, _, rfl, ry, hc3⟩
  · rw [if_pos rfl]
    obtain ⟨y, i2, h2, e2, hy, hc2⟩ := l1Int_some hc1 h1 [(-1), 9, 10, 49, 50, 19] (by decide) (fun x => -9223372036854775808 ≤ x ∧ x ≤ 9223372036854775807) (by decide)
    rw [e2]; simp only [Option.bind_some]
    exact ⟨_, _, _, rfl, hy, hc2⟩
theorem l6Any_some {b : List Int} {i : Int} (hc : Cur b i) (h : Int) : ∃ f0 f1 f2 f3 f4 f5 i' h', spec_l6Any.f b i h = some (f0, f1, f2, f3, f4, f5, i', h') ∧ (R64 f0 ∧ R64 f1 ∧ R64 f2 ∧ R64 f3 ∧ R64 f4 ∧ R64 f5) ∧ Cur b i' := by
  unfold spec_l6Any.f
  obtain ⟨f0, f1, f2, f3, f4, f5, i1, h1, e1, ⟨r0, r1, r2, r3, r4, r5⟩, hc1⟩ := l6Fact_some hc h
  rw [e1]; simp only [Option.bind_some]
  obtain ⟨x, i2, h2, e2, x0, x1, hc2⟩ := l1Below_some hc1 h1 12 (by omega)
  rw [e2]; simp only [Option.bind_some]
  by_cases c0 : x = 0
  · rw [if_pos c0]
    obtain ⟨y, i3, h3, e3, y0, y1, hc3⟩ := l1Below_some hc2 h2 6 (by omega)
    rw [e3]
    exact ⟨_, _, _, _, _, _, _, _, rfl, ⟨⟨by omega, by omega⟩, r1, r2, r3, r4, r5⟩, hc3⟩
  rw [if_neg c0]
  by_cases c1 : x = 1
  · rw [if_pos c1]
    obtain ⟨y, i3, h3, e3, ry, hc3⟩ := l5Any_r hc2 h2
    rw [e3]
    exact ⟨_, _, _, _, _, _, _, _, rfl, ⟨r0, ry, r2, r3, r4, r5⟩, hc3⟩
  rw [if_neg c1]
  by_cases c2 : x = 2
  · rw [if_pos c2]
    obtain ⟨y, i3, h3, e3, ry, hc3⟩ := l1Int_some hc2 h2 [(-1), 3, 4, 5, 6, 20] (by decide) (fun x => -9223372036854775808 ≤ x ∧ x ≤ 9223372036854775807) (by decide)
    rw [e3]
    exact ⟨_, _, _, _, _, _, _, _, rfl, ⟨r0, r1, ry, r3, r4, r5⟩, hc3⟩
  rw [if_neg c2]
  by_cases c3 : x = 3
  · rw [if_pos c3]
    obtain ⟨y, i3, h3, e3, ry, hc3⟩ := l1Int_some hc2 h2 [(-1), 9, 10] (by decide) (fun x => -9223372036854775808 ≤ x ∧ x ≤ 9223372036854775807) (by decide)
    rw [e3]
    exact ⟨_, _, _, _, _, _, _, _, rfl, ⟨r0, r1, r2, ry, r4, r5⟩, hc3⟩
  rw [if_neg c3]
  by_cases c4 : x = 4
  · rw [if_pos c4]
    obtain ⟨y, i3, h3, e3, ry, hc3⟩ := l4Time_some hc2 h2
    rw [e3]
    exact ⟨_, _, _, _, _, _, _, _, rfl, ⟨r0, r1, r2, r3, ry, r5⟩, hc3⟩
  rw [if_neg c4]
  by_cases c5 : x = 5
  · rw [if_pos c5]
    obtain ⟨y, i3, h3, e3, ry, hc3⟩ := l4Time_some hc2 h2
    rw [e3]
    exact ⟨_, _, _, _, _, _, _, _, rfl, ⟨r0, r1, r2, r3, r4, ry⟩, hc3⟩
  rw [if_neg c5]
  exact ⟨_, _, _, _, _, _, _, _, rfl, ⟨r0, r1, r2, r3, r4, r5⟩, hc2⟩

theorem implEq_l0 (x y : List S26) (hx : x.length ≤ 140737488351232) (hl : x.length = y.length) : ∀ (d k i : Nat), i + d = x.length → d < k → impl_Fact_42.l0 k x y (x.length : Int) (i : Int) = some (decide (x.drop i = y.drop i)) := by
  intro d
  induction d with
  | zero =>
    intro k i hd hk
    obtain ⟨k, rfl⟩ : ∃ m, k = m + 1 := ⟨k - 1, by omega⟩
    simp only [impl_Fact_42.l0]
    rw [if_neg (by omega), List.drop_eq_nil_of_le (by omega), List.drop_eq_nil_of_le (by omega)]
    simp
  | succ d ih =>
    intro k i hd hk
    obtain ⟨k, rfl⟩ : ∃ m, k = m + 1 := ⟨k - 1, by omega⟩
    simp only [impl_Fact_42.l0]
    rw [if_pos (by omega), if_pos (by omega), if_pos (by omega), if_pos (by omega), cast_succ i (by omega), rdF_nat x i (by omega), rdF_nat y i (by omega), neqF, ih k (i + 1) (by omega) (by omega), drop_cons x i (by omega), drop_cons y i (by omega)]
    by_cases e : x[i] = y[i]
    · rw [if_neg (by rw [decide_eq_true e]; decide)]
      simp only [List.cons.injEq, e, true_and]
    · rw [if_pos (by rw [decide_eq_false e]; decide)]
      simp only [List.cons.injEq, e, false_and, decide_false]
theorem implEq_some (x y : List S26) (hx : x.length ≤ 140737488351232) (k : Nat) (hk : x.length < k) : impl_Fact_42.f k x y = some (decide (x = y)) := by
  unfold impl_Fact_42.f
  by_cases h : x.length = y.length
  · rw [if_pos (by omega)]
    exact implEq_l0 x y hx h x.length k 0 (by omega) hk
  · rw [if_neg (by omega)]
    have : x ≠ y := fun e => h (by rw [e])
    simp [this]

theorem sameFs_l0 (x y : List S26) (hx : x.length ≤ 140737488351232) (hl : x.length = y.length) : ∀ (d k i : Nat), i + d = x.length → d < k → laws_sameFacts.l0 k x y (i : Int) = some (decide (x.drop i = y.drop i)) := by
  intro d
  induction d with
  | zero =>
    intro k i hd hk
    obtain ⟨k, rfl⟩ : ∃ m, k = m + 1 := ⟨k - 1, by omega⟩
    simp only [laws_sameFacts.l0]
    rw [if_neg (by omega), List.drop_eq_nil_of_le (by omega), List.drop_eq_nil_of_le (by omega)]
    simp
  | succ d ih =>
    intro k i hd hk
    obtain ⟨k, rfl⟩ : ∃ m, k = m + 1 := ⟨k - 1, by omega⟩
    simp only [laws_sameFacts.l0]
    rw [if_pos (by omega), if_pos (by omega), if_pos (by omega), cast_succ i (by omega), rdF_nat x i (by omega), rdF_nat y i (by omega), neqF, ih k (i + 1) (by omega) (by omega), drop_cons x i (by omega), drop_cons y i (by omega)]
    by_cases e : x[i] = y[i]
    · rw [if_neg (by rw [decide_eq_true e]; decide)]
      simp only [List.cons.injEq, e, true_and]
    · rw [if_pos (by rw [decide_eq_false e]; decide)]
      simp only [List.cons.injEq, e, false_and, decide_false]
theorem sameFs_some (x y : List S26) (hx : x.length ≤ 140737488351232) (k : Nat) (hk : x.length < k) : laws_sameFacts.f k x y = some (decide (x = y)) := by
  unfold laws_sameFacts.f
  by_cases h : x.length = y.length
  · rw [if_pos (by omega)]
    exact sameFs_l0 x y hx h x.length k 0 (by omega) hk
  · rw [if_neg (by omega)]
    have : x ≠ y := fun e => h (by rw [e])
    simp [this]

theorem drawPut_j2 (s : List S26) (hs : s.length ≤ 30) (b : Bool) (hb : b = true → 0 < s.length) (l : List Int) (i h : Int) (hc : Cur l i) (k : Nat) (f0 f1 f2 f3 f4 f5 : Int) : ∃ g0 g1 g2 g3 g4 g5, spec_DrawPutFact.j2 (k + 1) s b l i h f0 f1 f2 f3 f4 f5 = some (s, g0, g1, g2, g3, g4, g5) := by
  simp only [spec_DrawPutFact.j2]
  cases b with
  | true =>
    have h0 := hb rfl
    rw [if_pos rfl]
    obtain ⟨x, i1, h1, e1, x0, x1, hc1⟩ := l1Below_some hc h (s.length : Int) (by omega)
    rw [e1]; simp only [Option.bind_some]
    rw [if_pos x0, if_pos x1]
    obtain ⟨y, i2, h2, e2, y0, y1, hc2⟩ := l1Below_some hc1 h1 30 (by omega)
    rw [e2]
    exact ⟨_, _, _, _, _, _, rfl⟩
  | false =>
    rw [if_neg (by simp)]
    exact ⟨_, _, _, _, _, _, rfl⟩
theorem drawPut_j1 (s : List S26) (hs : s.length ≤ 30) (l : List Int) (i h : Int) (hc : Cur l i) (k : Nat) : ∃ g0 g1 g2 g3 g4 g5, spec_DrawPutFact.j1 (k + 2) s l i h = some (s, g0, g1, g2, g3, g4, g5) := by
  simp only [spec_DrawPutFact.j1]
  obtain ⟨f0, f1, f2, f3, f4, f5, i1, h1, e1, _, hc1⟩ := l6Any_some hc h
  rw [e1]; simp only [Option.bind_some]
  by_cases c : (s.length : Int) > 0
  · rw [if_pos c]
    obtain ⟨x, i2, h2, e2, hc2⟩ := l1Once_some hc1 h1 3 (by omega)
    rw [e2]; simp only [Option.bind_some]
    exact drawPut_j2 s hs x (fun _ => by omega) l i2 h2 hc2 k f0 f1 f2 f3 f4 f5
  · rw [if_neg c]
    exact drawPut_j2 s hs false (by simp) l i1 h1 hc1 k f0 f1 f2 f3 f4 f5
theorem drawPut_l0 (l : List Int) (i h : Int) (hc : Cur l i) : ∀ (d k : Nat) (s : List S26) (n : Int), s.length ≤ 30 → 30 - n ≤ d → 0 ≤ n → d + 120 < k → ∃ t g0 g1 g2 g3 g4 g5, spec_DrawPutFact.l0 k s n l i h = some (t, g0, g1, g2, g3, g4, g5) ∧ t.length ≤ 30 := by
  intro d
  induction d with
  | zero =>
    intro k s n hs hn h0 hk
    obtain ⟨k, rfl⟩ : ∃ m, k = m + 3 := ⟨k - 3, by omega⟩
    simp only [spec_DrawPutFact.l0]
    rw [if_neg (by omega)]
    obtain ⟨g0, g1, g2, g3, g4, g5, e⟩ := drawPut_j1 s hs l i h hc k
    exact ⟨s, g0, g1, g2, g3, g4, g5, e, hs⟩
  | succ d ih =>
    intro k s n hs hn h0 hk
    obtain ⟨k, rfl⟩ : ∃ m, k = m + 1 := ⟨k - 1, by omega⟩
    simp only [spec_DrawPutFact.l0]
    by_cases c : n < 30
    · have hl := putL_len s ⟨1, wrap64 (10 + Int.tmod n 10), wrap64 (Int.tdiv n 10), 9, 0, 5⟩
      have e := sPut s (by omega) ⟨1, wrap64 (10 + Int.tmod n 10), wrap64 (Int.tdiv n 10), 9, 0, 5⟩ k (by omega) (by omega)
      rw [if_pos c, e, Option.bind_some, w64 (n := n + 1) (by omega) (by omega)]
      exact ih k _ (n + 1) (by omega) (by omega) (by omega) (by omega)
    · obtain ⟨k, rfl⟩ : ∃ m, k = m + 2 := ⟨k - 2, by omega⟩
      rw [if_neg c]
      obtain ⟨g0, g1, g2, g3, g4, g5, e⟩ := drawPut_j1 s hs l i h hc k
      exact ⟨s, g0, g1, g2, g3, g4, g5, e, hs⟩
theorem drawPut (l : List Int) (hl : l.length ≤ 140737488351232) (k : Nat) (hk : 4200 ≤ k) : ∃ t g0 g1 g2 g3 g4 g5, spec_DrawPutFact.f k l = some (t, g0, g1, g2, g3, g4, g5) ∧ t.length ≤ 30 := by
  unfold spec_DrawPutFact.f
  obtain ⟨h, e, hc⟩ := l1New_some l hl k (by omega)
  rw [e]; simp only [Option.bind_some]
  obtain ⟨s, i1, h1, e1, hs, hc1⟩ := l7Store_some hc h k (by omega)
  rw [e1]; simp only [Option.bind_some]
  obtain ⟨x, i2, h2, e2, hc2⟩ := l1Once_some hc1 h1 10 (by omega)
  rw [e2]; simp only [Option.bind_some]
  cases x
  · rw [if_neg (by simp)]
    obtain ⟨k, rfl⟩ : ∃ m, k = m + 2 := ⟨k - 2, by omega⟩
    obtain ⟨g0, g1, g2, g3, g4, g5, e⟩ := drawPut_j1 s hs l i2 h2 hc2 k
    exact ⟨s, g0, g1, g2, g3, g4, g5, e, hs⟩
  · rw [if_pos rfl]
    exact drawPut_l0 l i2 h2 hc2 30 k s 0 hs (by omega) (by omega) (by omega)
theorem drawMerge (l : List Int) (hl : l.length ≤ 140737488351232) (k : Nat) (hk : 4200 ≤ k) : ∃ a b, spec_DrawMergeStores.f k l = some (a, b) ∧ a.length ≤ 30 ∧ b.length ≤ 30 := by
  unfold spec_DrawMergeStores.f
  obtain ⟨h, e, hc⟩ := l1New_some l hl k (by omega)
  rw [e]; simp only [Option.bind_some]
  obtain ⟨s, i1, h1, e1, hs, hc1⟩ := l7Store_some hc h k (by omega)
  rw [e1]; simp only [Option.bind_some]
  obtain ⟨t, i2, h2, e2, ht, hc2⟩ := l7Store_some hc1 h1 k (by omega)
  rw [e2]
  exact ⟨s, t, rfl, hs, ht⟩
theorem stores_l0 (y : List S26) (hy : y.length ≤ 30) (f : S26) : ∀ (d k i : Nat), i + d = y.length → d < k → (∀ x ∈ y.drop i, samF x f = true → laterF f x = false) → (∃ x ∈ y.drop i, samF x f = true) → laws_FnStores.l0 k y (i : Int) f.f0 f.f1 f.f2 f.f3 f.f4 f.f5 = some true := by
  intro d
  induction d with
  | zero =>
    intro k i hd hk _ hex
    obtain ⟨x, hx, _⟩ := hex
    rw [List.drop_eq_nil_of_le (by omega)] at hx
    cases hx
  | succ d ih =>
    intro k i hd hk hall hex
    obtain ⟨k, rfl⟩ : ∃ m, k = m + 1 := ⟨k - 1, by omega⟩
    have h : i < y.length := by omega
    have hm : y[i] ∈ y.drop i := by rw [drop_cons y i h]; exact List.mem_cons_self
    simp only [laws_FnStores.l0]
    rw [if_pos (by omega), if_pos (by omega), rdF_nat y i h, iSame, Option.bind_some]
    show (if samF y[i] f = true then _ else _) = _
    by_cases c : samF y[i] f = true
    · have hl := hall _ hm c
      rw [later_iff] at hl
      rw [if_pos c, if_pos (by omega)]
      split
      · rfl
      · split
        · rfl
        · rw [decide_eq_true (by omega)]
    · rw [if_neg c, cast_succ i (by omega)]
      refine ih k (i + 1) (by omega) (by omega) (fun x hx => hall x (by rw [drop_cons y i h]; exact List.mem_cons_of_mem _ hx)) ?_
      obtain ⟨x, hx, hs⟩ := hex
      rw [drop_cons y i h] at hx
      rcases List.mem_cons.1 hx with rfl | hx
      · exact absurd hs c
      · exact ⟨x, hx, hs⟩
theorem stores_j0 (s : List S26) (hs : s.length ≤ 30) (f : S26) (k : Nat) (hk : 100 ≤ k) : laws_FnStores.j0 (k + 2) s (putL s f).1 (putL s f).2 false f.f0 f.f1 f.f2 f.f3 f.f4 f.f5 = some true := by
  have hg := putL_grows s f
  have hl := putL_len s f
  simp only [laws_FnStores.j0]
  rw [if_neg (by simp)]
  cases c : (putL s f).2 with
  | false =>
    have e : (putL s f).1 = s := by
      unfold putL finF at c ⊢
      split
      · rename_i h1
        rw [if_pos h1] at c
        split
        · rename_i h2
          rw [if_pos h2] at c
          cases c
        · rfl
      · rfl
    rw [if_neg (by simp), e, sameFs_some s s (by omega) (k + 1) (by omega), Option.bind_some, decide_eq_true rfl]
  | true =>
    have e : (isStoreL s && factF f) = true ∧ (putRec f s).length ≤ 30 := by
      unfold putL finF at c
      split at c
      · rename_i h1
        split at c
        · rename_i h2
          exact ⟨h1, h2⟩
        · cases c
      · cases c
    have e1 : (putL s f).1 = putRec f s := by
      unfold putL finF
      rw [if_pos e.1, if_pos e.2]
    have hst : isStoreL s = true := by
      have := e.1
      rw [Bool.and_eq_true] at this
      exact this.1
    rw [if_pos rfl, iStore _ (by omega) (k + 1) (by omega), Option.bind_some, putL_store s f hst, if_pos rfl, w64 (n := (s.length : Int) + 1) (by omega) (by omega), decide_eq_false (by omega)]
    simp only [laws_FnStores.j1]
    rw [if_neg (by simp), e1]
    rw [isStoreL_iff] at hst
    refine stores_l0 (putRec f s) e.2 f (putRec f s).length k 0 (by omega) (by omega) ?_ ?_
    · rw [List.drop_zero]
      exact put_newest f s none hst.1
    · rw [List.drop_zero]
      obtain ⟨y, hy, h1, _⟩ := put_there f s
      exact ⟨y, hy, h1⟩
theorem FnStores : laws_FnStores.Pure := by
  intro l _ hl _
  obtain ⟨k, hk⟩ : ∃ k : Nat, 4400 ≤ k := ⟨4400, Nat.le_refl _⟩
  refine ⟨k + 2, ?_⟩
  unfold laws_FnStores.f laws_big.f
  simp only [Option.bind_some]
  by_cases hb : (l.length : Int) > 1048576
  · rw [decide_eq_true hb, if_pos rfl]
  · rw [decide_eq_false hb, if_neg (by simp)]
    obtain ⟨s, f0, f1, f2, f3, f4, f5, e1, hs⟩ := drawPut l (by omega) (k + 2) (by omega)
    obtain ⟨a, b, e2, ha, hbl⟩ := drawMerge l (by omega) (k + 2) (by omega)
    have hput := iPut s (by omega) ⟨f0, f1, f2, f3, f4, f5⟩ (k + 2) (by omega) (by omega)
    have hj := stores_j0 s hs ⟨f0, f1, f2, f3, f4, f5⟩ k (by omega)
    have hml := mergeL_len b a
    have hmml := mergeL_len b (mergeL a b)
    rw [e1, Option.bind_some]
    simp only []
    rw [hput, Option.bind_some, e2, Option.bind_some]
    simp only []
    rw [iMerge a b (by omega) (by omega) (k + 2) (by omega), Option.bind_some, iStore a (by omega) (k + 2) (by omega), Option.bind_some]
    cases hst : isStoreL a with
    | false =>
      rw [if_neg (by simp)]
      exact hj
    | true =>
      have hms := mergeL_store b a hst
      rw [if_pos rfl, iStore (mergeL a b) (by omega) (k + 2) (by omega), Option.bind_some, hms, if_pos rfl, iMerge (mergeL a b) b (by omega) (by omega) (k + 2) (by omega), Option.bind_some]
      unfold impl_EqualStores.f
      rw [implEq_some (mergeL (mergeL a b) b) (mergeL a b) (by omega) (k + 2) (by omega), Option.bind_some, Option.bind_some]
      by_cases ceq : mergeL (mergeL a b) b = mergeL a b
      · rw [decide_eq_true ceq, if_pos rfl]
        exact hj
      · have hfull : ¬ ((mergeL a b).length : Int) < 30 := fun hlt => ceq (merge_absorbed b (mergeL a b) hms (merge_all_absorbed b a hst (by omega)))
        rw [decide_eq_false ceq, if_neg (by simp), decide_eq_false hfull]
        exact hj

end Go.Proofs.Ythanecnkknimpaa.Pure
namespace Go.Proofs.Ythanecnkknimpaa
/-- The seat's own word, under the name by which the row asks for it. -/
theorem PrintWords.sized_ints {H : Type} {enc : TypeId × Value → H} {P : Program} {W : World} {base : Nat} {spare : Nat → Bool} {held : Bool} {t e : TypeId} {k : IntKind} {a : Option Addr} {len cap : Nat} {d : DataW H} {ps : List MemPlace} {ts : List TypeId} {ds : List (DataW H)} {j : Nat}
    (hsz : (DataW.weightsEach P ts ds).all (· ≤ reachBytes) = true) (ht : ts[j]? = some t) (hd : ds[j]? = some d) (hu : P.underlying t = some (.slice e)) (he : P.underlying e = some (.int k)) (hc : P.cellsOf e = 1) {B : Nat} (hB : P.bytesOf e = B)
    (h : DataW.Trod enc P W base spare held t (.slice a len cap) d ps) : len * B ≤ 140737488351232 := Go.Proofs.YthanecnkknimpaaW.PrintWords.sized_ints hsz ht hd hu he hc hB h
end Go.Proofs.Ythanecnkknimpaa
