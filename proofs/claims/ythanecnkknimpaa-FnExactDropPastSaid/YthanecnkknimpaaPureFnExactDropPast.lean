/- FnExactDropPast holds: for every list of facts and every time the program's DropPast and the reference's agree; the list is not changed, and the result is in memory of its own. No conditions. -/
import Derived.Test.YthanecnkknimpaaPFnExactDropPastx3
import Derived.OpenShut
namespace Go.Proofs.Ythanecnkknimpaa.Pure
open Go.RowKit Go.Proofs.Ythanecnkknimpaa.PFnExactDropPast Go.Proofs.YthanecnkknimpaaW.PrintWords Go.Proofs.YthanecnkknimpaaW.PrintLast
set_option linter.unusedVariables false
set_option linter.unusedSimpArgs false

theorem w64 {n : Int} (h : -9223372036854775808 ≤ n) (h' : n ≤ 9223372036854775807) : wrap64 n = n := by unfold wrap64; omega
theorem w64_lo (n : Int) : -9223372036854775808 ≤ wrap64 n := by unfold wrap64; omega
theorem w64_hi (n : Int) : wrap64 n ≤ 9223372036854775807 := by unfold wrap64; omega
theorem of_wf {n : Int} (h : (Lit.int .i64 n).wf = true) : -9223372036854775808 ≤ n ∧ n ≤ 9223372036854775807 := bounds_i64 h
theorem of_wf8 {n : Int} (h : (Lit.int .u8 n).wf = true) : 0 ≤ n ∧ n ≤ 255 := bounds_u8 h
theorem and_le (x : Int) (m : Nat) (hm : m < 9223372036854775808) : 0 ≤ bits .and .i64 x (m : Int) ∧ bits .and .i64 x (m : Int) ≤ m := by
  unfold bits
  rw [Go.IntKind.wrap_i64]
  simp only [BitVec.toNat_and]
  have h1 : (BitVec.ofInt IntKind.i64.bits (m : Int)).toNat = m := by
    rw [BitVec.ofInt_natCast, BitVec.toNat_ofNat]
    exact Nat.mod_eq_of_lt (by show m < 2 ^ 64; omega)
  rw [h1]
  have h2 : (BitVec.ofInt IntKind.i64.bits x).toNat &&& m ≤ m := Nat.and_le_right
  omega
theorem and255 (x : Int) : 0 ≤ bits .and .i64 x 255 ∧ bits .and .i64 x 255 ≤ 255 := and_le x 255 (by decide)
theorem tmod_lt {x n : Int} (h0 : 0 ≤ x) (hn : 0 < n) : 0 ≤ Int.tmod x n ∧ Int.tmod x n < n := by
  rw [Int.tmod_eq_emod_of_nonneg h0]
  exact ⟨Int.emod_nonneg _ (by omega), Int.emod_lt_of_pos _ hn⟩

theorem rd_nat (x : List Int) (i : Nat) (h : i < x.length) : rd x (i : Int) = x[i] := by
  unfold rd
  rw [List.getD_eq_getElem?_getD, Int.toNat_natCast, List.getElem?_eq_getElem h]
  rfl
theorem cast_succ (i : Nat) (h : i < 4611686018427387904) : wrap64 ((i : Int) + 1) = ((i + 1 : Nat) : Int) := by
  rw [w64 (by omega) (by omega)]
  rfl
theorem drop_cons {α : Type} (x : List α) (i : Nat) (h : i < x.length) : x.drop i = x[i] :: x.drop (i + 1) := List.drop_eq_getElem_cons h

instance : DecidableEq S26 := fun a b =>
  if h : a.f0 = b.f0 ∧ a.f1 = b.f1 ∧ a.f2 = b.f2 ∧ a.f3 = b.f3 ∧ a.f4 = b.f4 ∧ a.f5 = b.f5 then .isTrue (by
    obtain ⟨h0, h1, h2, h3, h4, h5⟩ := h
    cases a; cases b
    simp only at h0 h1 h2 h3 h4 h5
    subst h0 h1 h2 h3 h4 h5
    rfl) else .isFalse (fun e => h (by rw [e]; exact ⟨rfl, rfl, rfl, rfl, rfl, rfl⟩))
theorem rdF_nat (x : List S26) (i : Nat) (h : i < x.length) : rd_T26 x (i : Int) = x[i] := by
  unfold rd_T26
  rw [List.getD_eq_getElem?_getD, Int.toNat_natCast, List.getElem?_eq_getElem h]
  rfl
theorem neqF (a b : S26) : (!((a.f0) == (b.f0)) || (!((a.f1) == (b.f1)) || (!((a.f2) == (b.f2)) || (!((a.f3) == (b.f3)) || (!((a.f4) == (b.f4)) || (!((a.f5) == (b.f5)))))))) = !decide (a = b) := by
  by_cases h : a = b
  · subst h
    simp
  · rw [decide_eq_false h]
    simp only [Bool.not_false]
    cases c : (!((a.f0) == (b.f0)) || (!((a.f1) == (b.f1)) || (!((a.f2) == (b.f2)) || (!((a.f3) == (b.f3)) || (!((a.f4) == (b.f4)) || (!((a.f5) == (b.f5))))))))
    · simp only [Bool.or_eq_false_iff, Bool.not_eq_false', beq_iff_eq] at c
      exfalso
      apply h
      obtain ⟨h0, h1, h2, h3, h4, h5⟩ := c
      cases a; cases b
      simp only at h0 h1 h2 h3 h4 h5
      subst h0 h1 h2 h3 h4 h5
      rfl
    · rfl

def toI (x : S50) : S26 := ⟨x.f0, x.f1, x.f2, x.f3, x.f4, x.f5⟩
theorem rdL_nat (x : List S50) (i : Nat) (h : i < x.length) : rd_T50 x (i : Int) = x[i] := by
  unfold rd_T50
  rw [List.getD_eq_getElem?_getD, Int.toNat_natCast, List.getElem?_eq_getElem h]
  rfl
theorem szFact (l : List S50) (a : Int) (ha : 0 ≤ a) (ha' : a ≤ 1048576) (hl : l.length ≤ 140737488351232) : laws_szFactS.f l a = some (if a - l.length < 0 then -1 else a - l.length) := by
  unfold laws_szFactS.f
  rw [w64 (n := a - l.length) (by omega) (by omega)]
  split <;> rfl
theorem toFactS_l0 (x : List S50) (hx : x.length ≤ 140737488351232) : ∀ (d k : Nat) (y : List S26) (i : Nat), i + d = x.length → d < k → y.length = x.length → (∀ j : Nat, j < i → y[j]? = (x.map toI)[j]?) → laws_toFactS.l0 k x y (i : Int) = some (x.map toI) := by
  intro d
  induction d with
  | zero =>
    intro k y i hd hk hl hj
    obtain ⟨k, rfl⟩ : ∃ m, k = m + 1 := ⟨k - 1, by omega⟩
    simp only [laws_toFactS.l0]
    rw [if_neg (by omega)]
    congr 1
    apply List.ext_getElem?
    intro j
    by_cases hj' : j < i
    · exact hj j hj'
    · rw [List.getElem?_eq_none (by omega), List.getElem?_eq_none (by simp; omega)]
  | succ d ih =>
    intro k y i hd hk hl hj
    obtain ⟨k, rfl⟩ : ∃ m, k = m + 1 := ⟨k - 1, by omega⟩
    simp only [laws_toFactS.l0, laws_toFact.f, Option.bind_some]
    rw [if_pos (by omega), if_pos (by omega), if_pos (by omega), cast_succ i (by omega), rdL_nat x i (by omega)]
    refine ih k _ (i + 1) (by omega) (by omega) (by simpa using hl) ?_
    intro j hj1
    rw [Int.toNat_natCast, List.getElem?_set]
    by_cases e : i = j
    · subst e
      rw [if_pos rfl, if_pos (by omega), List.getElem?_map, List.getElem?_eq_getElem (by omega)]
      rfl
    · rw [if_neg e]
      exact hj j (by omega)
theorem toFactS_some (x : List S50) (hx : x.length ≤ 1048576) (k : Nat) (hk : x.length < k) : laws_toFactS.f k x = some (x.map toI) := by
  unfold laws_toFactS.f
  rw [if_pos (by omega), if_pos (by omega)]
  exact toFactS_l0 x (by omega) x.length k _ 0 (by omega) hk (by simp) (by omega)

theorem eqFact_some (a b : S26) : laws_eqFact.f a.f0 a.f1 a.f2 a.f3 a.f4 a.f5 b.f0 b.f1 b.f2 b.f3 b.f4 b.f5 = some (decide (a = b)) := by
  unfold laws_eqFact.f
  by_cases h : a = b
  · subst h
    simp
  · rw [decide_eq_false h]
    by_cases h0 : a.f0 = b.f0
    · by_cases h1 : a.f1 = b.f1
      · by_cases h2 : a.f2 = b.f2
        · by_cases h3 : a.f3 = b.f3
          · by_cases h4 : a.f4 = b.f4
            · by_cases h5 : a.f5 = b.f5
              · exfalso
                apply h
                cases a; cases b
                simp only at h0 h1 h2 h3 h4 h5
                subst h0 h1 h2 h3 h4 h5
                rfl
              · simp [h0, h1, h2, h3, h4, h5]
            · simp [h0, h1, h2, h3, h4]
          · simp [h0, h1, h2, h3]
        · simp [h0, h1, h2]
      · simp [h0, h1]
    · simp [h0]
theorem eqFactS_l0 (x y : List S26) (hx : x.length ≤ 140737488351232) (hl : x.length = y.length) : ∀ (d k i : Nat), i + d = x.length → d < k → laws_eqFactS.l0 k x y (i : Int) = some (decide (x.drop i = y.drop i)) := by
  intro d
  induction d with
  | zero =>
    intro k i hd hk
    obtain ⟨k, rfl⟩ : ∃ m, k = m + 1 := ⟨k - 1, by omega⟩
    simp only [laws_eqFactS.l0]
    rw [if_neg (by omega), List.drop_eq_nil_of_le (by omega), List.drop_eq_nil_of_le (by omega)]
    simp
  | succ d ih =>
    intro k i hd hk
    obtain ⟨k, rfl⟩ : ∃ m, k = m + 1 := ⟨k - 1, by omega⟩
    simp only [laws_eqFactS.l0]
    rw [if_pos (by omega), if_pos (by omega), if_pos (by omega), cast_succ i (by omega), rdF_nat x i (by omega), rdF_nat y i (by omega), eqFact_some, ih k (i + 1) (by omega) (by omega), drop_cons x i (by omega), drop_cons y i (by omega)]
    simp only [Option.bind_some, decide_eq_true_eq]
    by_cases e : x[i] = y[i]
    · rw [if_pos e]
      simp only [List.cons.injEq, e, true_and]
    · rw [if_neg e]
      simp only [List.cons.injEq, e, false_and, decide_false]
theorem eqFactS_some (x y : List S26) (hx : x.length ≤ 140737488351232) (k : Nat) (hk : x.length < k) : laws_eqFactS.f k x y = some (decide (x = y)) := by
  unfold laws_eqFactS.f
  by_cases h : x.length = y.length
  · rw [if_pos (by omega)]
    exact eqFactS_l0 x y hx h x.length k 0 (by omega) hk
  · rw [if_neg (by omega)]
    have : x ≠ y := fun e => h (by rw [e])
    simp [this]

def mk6 (m : Int) : S26 := ⟨m, m + 1, m + 2, m + 3, m + 4, m + 5⟩
theorem rd_setF (x : List S26) (i : Nat) (a : S26) (h : i < x.length) : rd_T26 (x.set (i : Int).toNat a) (i : Int) = a := by
  rw [rdF_nat _ i (by rw [List.length_set]; exact h)]
  simp
theorem wraps6 (m : Int) (h0 : 0 ≤ m) (h1 : m ≤ 4611686018427387904) : wrap64 (m + 1) = m + 1 ∧ wrap64 (m + 1 + 1) = m + 2 ∧ wrap64 (m + 2 + 1) = m + 3 ∧ wrap64 (m + 3 + 1) = m + 4 ∧ wrap64 (m + 4 + 1) = m + 5 ∧ wrap64 (m + 5 + 1) = m + 6 := by
  refine ⟨?_, ?_, ?_, ?_, ?_, ?_⟩ <;> (rw [w64 (by omega) (by omega)]; try omega)
theorem markF_l0 (n : Nat) (hn : n ≤ 1048576) : ∀ (d k i : Nat) (x : List S26) (m : Int), i + d = n → d < k → x.length = n → 0 ≤ m → m ≤ 1000000000000 + 6 * i → ∃ y, laws_markFactS.l0 k x m (i : Int) = some (m + 6 * d, y) ∧ y.length = n ∧
    (∀ j : Nat, j < i → y[j]? = x[j]?) ∧ (∀ j : Nat, i ≤ j → j < n → y[j]? = some (mk6 (m + 6 * (j - i)))) := by
  intro d
  induction d with
  | zero =>
    intro k i x m hd hk hl h0 h1
    obtain ⟨k, rfl⟩ : ∃ m, k = m + 1 := ⟨k - 1, by omega⟩
    refine ⟨x, ?_, hl, fun _ _ => rfl, fun j a b => by omega⟩
    simp only [laws_markFactS.l0]
    rw [if_neg (by omega)]
    simp
  | succ d ih =>
    intro k i x m hd hk hl h0 h1
    obtain ⟨k, rfl⟩ : ∃ m, k = m + 1 := ⟨k - 1, by omega⟩
    obtain ⟨y, e, hy, h2, h3⟩ := ih k (i + 1) (x.set i (mk6 m)) (m + 6) (by omega) (by omega) (by simpa using hl) (by omega) (by omega)
    obtain ⟨e1, e2, e3, e4, e5, e6⟩ := wraps6 m h0 (by omega)
    refine ⟨y, ?_, hy, fun j hj => ?_, fun j a b => ?_⟩
    · simp only [laws_markFactS.l0, Option.bind_some, rd_setF x i _ (show i < x.length by omega), List.set_set, e1, e2, e3, e4, e5, e6]
      rw [if_pos (by omega), if_pos (by omega), cast_succ i (by omega), Int.toNat_natCast]
      refine e.trans ?_
      congr 2
      omega
    · rw [h2 j (by omega), List.getElem?_set_ne (by omega)]
    · by_cases ej : j = i
      · subst ej
        rw [h2 j (by omega), List.getElem?_set_self (by omega)]
        congr 2
        omega
      · rw [h3 j (by omega) b]
        congr 2
        omega
theorem heldF_l0 (n : Nat) (hn : n ≤ 1048576) (y : List S26) (hy : y.length = n) (hm : ∀ j : Nat, j < n → y[j]? = some (mk6 (1 + 6 * j))) : ∀ (d k i : Nat), i + d = n → d < k → laws_heldFactS.l0 k y (1 + 6 * i) (i : Int) = some (1 + 6 * (n : Int)) := by
  intro d
  induction d with
  | zero =>
    intro k i hd hk
    obtain ⟨k, rfl⟩ : ∃ m, k = m + 1 := ⟨k - 1, by omega⟩
    simp only [laws_heldFactS.l0]
    rw [if_neg (by omega), show i = n by omega]
  | succ d ih =>
    intro k i hd hk
    obtain ⟨k, rfl⟩ : ∃ m, k = m + 1 := ⟨k - 1, by omega⟩
    have e : y[i] = mk6 (1 + 6 * i) := by
      have := hm i (by omega)
      rw [List.getElem?_eq_getElem (by omega)] at this
      exact Option.some.inj this
    obtain ⟨e1, e2, e3, e4, e5, e6⟩ := wraps6 (1 + 6 * (i : Int)) (by omega) (by omega)
    simp only [laws_heldFactS.l0, rdF_nat y i (show i < y.length by omega), e, e1, e2, e3, e4, e5, e6]
    simp only [mk6, if_true]
    rw [if_pos (by omega), if_pos (by omega), cast_succ i (by omega), show (1 + 6 * (i : Int) + 6) = 1 + 6 * ((i + 1 : Nat) : Int) by omega]
    exact ih k (i + 1) (by omega) (by omega)
/-- Marked, a row of facts is held. -/
theorem markF_some (x : List S26) (hn : x.length ≤ 1048576) (k : Nat) (hk : x.length < k) : ∃ y, laws_markFactS.f k x 1 = some (1 + 6 * (x.length : Int), y) ∧ ∀ k', x.length < k' → laws_heldFactS.f k' y 1 = some (1 + 6 * (x.length : Int)) := by
  obtain ⟨y, e, hy, _, h3⟩ := markF_l0 x.length hn x.length k 0 x 1 (by omega) hk rfl (by omega) (by omega)
  refine ⟨y, e, fun k' hk' => ?_⟩
  exact heldF_l0 x.length hn y hy (fun j hj => by rw [h3 j (by omega) hj]; congr 2) x.length k' 0 (by omega) hk'
theorem markF_from (x : List S26) (hn : x.length ≤ 1048576) (m : Int) (h0 : 0 ≤ m) (h1 : m ≤ 1000000000000) (k : Nat) (hk : x.length < k) : ∃ y, laws_markFactS.f k x m = some (m + 6 * (x.length : Int), y) := by
  obtain ⟨y, e, _⟩ := markF_l0 x.length hn x.length k 0 x m (by omega) hk rfl h0 (by omega)
  exact ⟨y, e⟩

def keptF (now : Int) (xs : List S26) : List S26 := xs.filter fun x => !decide (x.f5 < now)
theorem keptF_len (now : Int) (xs : List S26) : (keptF now xs).length ≤ xs.length := List.length_filter_le _ _

theorem sDrop_l0 (xs : List S26) (hx : xs.length < 2932031007402) (now : Int) : ∀ (d k i : Nat) (acc : List S26), i + d = xs.length → d < k → acc.length ≤ i → spec_DropPast.l0 k xs now acc (i : Int) = some (acc ++ keptF now (xs.drop i)) := by
  intro d
  induction d with
  | zero =>
    intro k i acc hd hk ha
    obtain ⟨k, rfl⟩ : ∃ m, k = m + 1 := ⟨k - 1, by omega⟩
    simp only [spec_DropPast.l0]
    rw [if_neg (by omega), List.drop_eq_nil_of_le (by omega)]
    simp [keptF]
  | succ d ih =>
    intro k i acc hd hk ha
    obtain ⟨k, rfl⟩ : ∃ m, k = m + 1 := ⟨k - 1, by omega⟩
    simp only [spec_DropPast.l0, rdF_nat xs i (show i < xs.length by omega)]
    rw [if_pos (by omega), if_pos (by omega), cast_succ i (by omega), drop_cons xs i (by omega)]
    by_cases c : xs[i].f5 ≥ now
    · rw [if_pos c, if_pos (by omega), ih k (i + 1) _ (by omega) (by omega) (by rw [List.length_append, List.length_singleton]; omega)]
      unfold keptF
      rw [List.filter_cons_of_pos (by rw [decide_eq_false (by omega)]; rfl), List.append_assoc]
      rfl
    · rw [if_neg c, ih k (i + 1) _ (by omega) (by omega) (by omega)]
      unfold keptF
      rw [List.filter_cons_of_neg (by rw [decide_eq_true (by omega)]; simp)]
theorem sDrop (xs : List S26) (hx : xs.length < 2932031007402) (now : Int) (k : Nat) (hk : xs.length < k) : spec_DropPast.f k xs now = some (keptF now xs) := by
  have := sDrop_l0 xs hx now xs.length k 0 [] (by omega) hk (by simp)
  simp only [List.drop_zero, List.nil_append] at this
  exact this

theorem iDrop (xs : List S26) (hx : xs.length < 2932031007402) (now : Int) : impl_DropPast.f xs now = some (keptF now xs) := by
  unfold impl_DropPast.f impl_copyFacts.f
  simp only [Option.bind_some, List.length_nil, Nat.zero_add, List.nil_append]
  rw [if_pos hx, Option.bind_some, if_pos (by omega)]
  rfl

theorem FnExactDropPast : laws_FnExactDropPast.Pure := by
  intro a now ha _ _
  refine ⟨a.length + 2, ?_⟩
  unfold laws_FnExactDropPast.f
  rw [szFact a 1048576 (by omega) (by omega) (by omega)]
  simp only [Option.bind_some]
  by_cases h1 : (1048576 : Int) - a.length < 0
  · rw [if_pos h1]; rfl
  · rw [if_neg h1, if_neg h1]
    have hl : (a.map toI).length = a.length := List.length_map _
    have hd := keptF_len now (a.map toI)
    obtain ⟨y, em⟩ := markF_from (a.map toI) (by omega) 1 (by omega) (by omega) (a.length + 2) (by omega)
    obtain ⟨z, ez, hz⟩ := markF_some (keptF now (a.map toI)) (by omega) (a.length + 1) (by omega)
    simp only [toFactS_some a (by omega) _ (show a.length < a.length + 2 by omega), Option.bind_some, sDrop (a.map toI) (by omega) now _ (show (a.map toI).length < a.length + 2 by omega), iDrop (a.map toI) (by omega) now,
      eqFactS_some (keptF now (a.map toI)) (keptF now (a.map toI)) (by omega) _ (show (keptF now (a.map toI)).length < a.length + 2 by omega), eqFactS_some (a.map toI) (a.map toI) (by omega) _ (show (a.map toI).length < a.length + 2 by omega), em, decide_true, if_true, Bool.not_true]
    rw [if_neg (by omega)]
    simp only [laws_FnExactDropPast.j0, Bool.false_eq_true, if_false, ez, Option.bind_some, hz _ (show (keptF now (a.map toI)).length < a.length + 1 by omega), toFactS_some a (by omega) _ (show a.length < a.length + 1 by omega),
      iDrop (a.map toI) (by omega) now, eqFactS_some (keptF now (a.map toI)) (keptF now (a.map toI)) (by omega) _ (show (keptF now (a.map toI)).length < a.length + 1 by omega), decide_true, if_true]
    rw [if_neg (by omega), if_neg (by omega)]

end Go.Proofs.Ythanecnkknimpaa.Pure
