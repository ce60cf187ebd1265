/- FnExactBytesToInts holds: for every byte slice the program's BytesToInts and the reference's agree; the slice is not changed, and the result is in memory of its own. No conditions. -/
import Derived.Test.YtobpbnbjdpdflabPFnExactBytesToIntsx2
import Derived.OpenShut
import Derived.Test.YtobpbnbjdpdflabWSized
namespace Go.Proofs.Ytobpbnbjdpdflab.Pure
open Go.RowKit Go.Proofs.Ytobpbnbjdpdflab.PFnExactBytesToInts Go.Proofs.YtobpbnbjdpdflabW.PrintWords Go.Proofs.YtobpbnbjdpdflabW.PrintLast
set_option linter.unusedVariables false
set_option linter.unusedSimpArgs false

theorem w64 {n : Int} (h : -9223372036854775808 ≤ n) (h' : n ≤ 9223372036854775807) : wrap64 n = n := by unfold wrap64; omega
theorem w64_lo (n : Int) : -9223372036854775808 ≤ wrap64 n := by unfold wrap64; omega
theorem w64_hi (n : Int) : wrap64 n ≤ 9223372036854775807 := by unfold wrap64; omega
theorem of_wf {n : Int} (h : (Lit.int .i64 n).wf = true) : -9223372036854775808 ≤ n ∧ n ≤ 9223372036854775807 := bounds_i64 h
theorem of_wf8 {n : Int} (h : (Lit.int .u8 n).wf = true) : 0 ≤ n ∧ n ≤ 255 := bounds_u8 h
theorem and_le (x : Int) (m : Nat) (hm : m < 9223372036854775808) : 0 ≤ bits .and .i64 x (m : Int) ∧ bits .and .i64 x (m : Int) ≤ m := by
  unfold bits
  rw [Go.IntKind.wrap_i64]
  simp only [BitVec.toNat_and]
  have h1 : (BitVec.ofInt IntKind.i64.bits (m : Int)).toNat = m := by
    rw [BitVec.ofInt_natCast, BitVec.toNat_ofNat]
    exact Nat.mod_eq_of_lt (by show m < 2 ^ 64; omega)
  rw [h1]
  have h2 : (BitVec.ofInt IntKind.i64.bits x).toNat &&& m ≤ m := Nat.and_le_right
  omega
theorem and255 (x : Int) : 0 ≤ bits .and .i64 x 255 ∧ bits .and .i64 x 255 ≤ 255 := and_le x 255 (by decide)
theorem tmod_lt {x n : Int} (h0 : 0 ≤ x) (hn : 0 < n) : 0 ≤ Int.tmod x n ∧ Int.tmod x n < n := by
  rw [Int.tmod_eq_emod_of_nonneg h0]
  exact ⟨Int.emod_nonneg _ (by omega), Int.emod_lt_of_pos _ hn⟩

theorem rd_nat (x : List Int) (i : Nat) (h : i < x.length) : rd x (i : Int) = x[i] := by
  unfold rd
  rw [List.getD_eq_getElem?_getD, Int.toNat_natCast, List.getElem?_eq_getElem h]
  rfl
theorem cast_succ (i : Nat) (h : i < 4611686018427387904) : wrap64 ((i : Int) + 1) = ((i + 1 : Nat) : Int) := by
  rw [w64 (by omega) (by omega)]
  rfl
theorem drop_cons {α : Type} (x : List α) (i : Nat) (h : i < x.length) : x.drop i = x[i] :: x.drop (i + 1) := List.drop_eq_getElem_cons h

theorem toByteS_l0 (x : List Int) (hx : x.length ≤ 140737488351232) : ∀ (d k : Nat) (y : List Int) (i : Nat), i + d = x.length → d < k → y.length = x.length → (∀ j : Nat, j < i → y[j]? = x[j]?) → laws_toByteS.l0 k x y (i : Int) = some x := by
  intro d
  induction d with
  | zero =>
    intro k y i hd hk hl hj
    obtain ⟨k, rfl⟩ : ∃ m, k = m + 1 := ⟨k - 1, by omega⟩
    simp only [laws_toByteS.l0]
    rw [if_neg (by omega)]
    congr 1
    apply List.ext_getElem?
    intro j
    by_cases hj' : j < i
    · exact hj j hj'
    · rw [List.getElem?_eq_none (by omega), List.getElem?_eq_none (by omega)]
  | succ d ih =>
    intro k y i hd hk hl hj
    obtain ⟨k, rfl⟩ : ∃ m, k = m + 1 := ⟨k - 1, by omega⟩
    simp only [laws_toByteS.l0]
    rw [if_pos (by omega), if_pos (by omega), if_pos (by omega), cast_succ i (by omega), rd_nat x i (by omega)]
    refine ih k _ (i + 1) (by omega) (by omega) (by simpa using hl) ?_
    intro j hj1
    rw [Int.toNat_natCast, List.getElem?_set]
    by_cases e : i = j
    · subst e
      rw [if_pos rfl, if_pos (by omega), List.getElem?_eq_getElem (by omega)]
    · rw [if_neg e]
      exact hj j (by omega)
theorem toByteS_some (x : List Int) (hx : x.length ≤ 1048576) (k : Nat) (hk : x.length < k) : laws_toByteS.f k x = some x := by
  unfold laws_toByteS.f
  rw [if_pos (by omega), if_pos (by omega)]
  exact toByteS_l0 x (by omega) x.length k _ 0 (by omega) hk (by simp) (by omega)

theorem eqByteS_l0 (x y : List Int) (hx : x.length ≤ 140737488351232) (hl : x.length = y.length) : ∀ (d k i : Nat), i + d = x.length → d < k → laws_eqByteS.l0 k x y (i : Int) = some (decide (x.drop i = y.drop i)) := by
  intro d
  induction d with
  | zero =>
    intro k i hd hk
    obtain ⟨k, rfl⟩ : ∃ m, k = m + 1 := ⟨k - 1, by omega⟩
    simp only [laws_eqByteS.l0]
    rw [if_neg (by omega), List.drop_eq_nil_of_le (by omega), List.drop_eq_nil_of_le (by omega)]
    simp
  | succ d ih =>
    intro k i hd hk
    obtain ⟨k, rfl⟩ : ∃ m, k = m + 1 := ⟨k - 1, by omega⟩
    simp only [laws_eqByteS.l0]
    rw [if_pos (by omega), if_pos (by omega), if_pos (by omega), cast_succ i (by omega), rd_nat x i (by omega), rd_nat y i (by omega), ih k (i + 1) (by omega) (by omega), drop_cons x i (by omega), drop_cons y i (by omega)]
    by_cases e : x[i] = y[i]
    · rw [if_pos e]
      simp only [List.cons.injEq, e, true_and]
    · rw [if_neg e]
      simp only [List.cons.injEq, e, false_and, decide_false]
theorem eqByteS_some (x y : List Int) (hx : x.length ≤ 140737488351232) (k : Nat) (hk : x.length < k) : laws_eqByteS.f k x y = some (decide (x = y)) := by
  unfold laws_eqByteS.f
  by_cases h : x.length = y.length
  · rw [if_pos (by omega)]
    exact eqByteS_l0 x y hx h x.length k 0 (by omega) hk
  · rw [if_neg (by omega)]
    have : x ≠ y := fun e => h (by rw [e])
    simp [this]

theorem eqIntS_l0 (x y : List Int) (hx : x.length ≤ 140737488351232) (hl : x.length = y.length) : ∀ (d k i : Nat), i + d = x.length → d < k → laws_eqIntS.l0 k x y (i : Int) = some (decide (x.drop i = y.drop i)) := by
  intro d
  induction d with
  | zero =>
    intro k i hd hk
    obtain ⟨k, rfl⟩ : ∃ m, k = m + 1 := ⟨k - 1, by omega⟩
    simp only [laws_eqIntS.l0]
    rw [if_neg (by omega), List.drop_eq_nil_of_le (by omega), List.drop_eq_nil_of_le (by omega)]
    simp
  | succ d ih =>
    intro k i hd hk
    obtain ⟨k, rfl⟩ : ∃ m, k = m + 1 := ⟨k - 1, by omega⟩
    simp only [laws_eqIntS.l0]
    rw [if_pos (by omega), if_pos (by omega), if_pos (by omega), cast_succ i (by omega), rd_nat x i (by omega), rd_nat y i (by omega), ih k (i + 1) (by omega) (by omega), drop_cons x i (by omega), drop_cons y i (by omega)]
    by_cases e : x[i] = y[i]
    · rw [if_pos e]
      simp only [List.cons.injEq, e, true_and]
    · rw [if_neg e]
      simp only [List.cons.injEq, e, false_and, decide_false]
theorem eqIntS_some (x y : List Int) (hx : x.length ≤ 140737488351232) (k : Nat) (hk : x.length < k) : laws_eqIntS.f k x y = some (decide (x = y)) := by
  unfold laws_eqIntS.f
  by_cases h : x.length = y.length
  · rw [if_pos (by omega)]
    exact eqIntS_l0 x y hx h x.length k 0 (by omega) hk
  · rw [if_neg (by omega)]
    have : x ≠ y := fun e => h (by rw [e])
    simp [this]

def idI (x : Int) : Int := x
def b256 (x : Int) : Int := x % 256

/-- The marks from m on. -/
theorem markInt_l0 (n : Nat) (hn : n ≤ 70368744177664) : ∀ (d k i : Nat) (x : List Int) (m : Int), i + d = n → d < k → x.length = n → 0 ≤ m → m ≤ i + 1 → ∃ y, laws_markIntS.l0 k x m (i : Int) = some (m + d, y) ∧ y.length = n ∧
    (∀ j : Nat, j < i → y[j]? = x[j]?) ∧ (∀ j : Nat, i ≤ j → j < n → y[j]? = some (idI (m + (j - i)))) := by
  intro d
  induction d with
  | zero =>
    intro k i x m hd hk hl h0 h1
    obtain ⟨k, rfl⟩ : ∃ m, k = m + 1 := ⟨k - 1, by omega⟩
    refine ⟨x, ?_, hl, fun _ _ => rfl, fun j a b => by omega⟩
    simp only [laws_markIntS.l0]
    rw [if_neg (by omega)]
    simp
  | succ d ih =>
    intro k i x m hd hk hl h0 h1
    obtain ⟨k, rfl⟩ : ∃ m, k = m + 1 := ⟨k - 1, by omega⟩
    obtain ⟨y, e, hy, h2, h3⟩ := ih k (i + 1) (x.set i (idI m)) (m + 1) (by omega) (by omega) (by simpa using hl) (by omega) (by omega)
    refine ⟨y, ?_, hy, fun j hj => ?_, fun j a b => ?_⟩
    · simp only [laws_markIntS.l0]
      rw [if_pos (by omega), if_pos (by omega), cast_succ i (by omega), w64 (n := m + 1) (by omega) (by omega), Int.toNat_natCast]
      refine e.trans ?_
      congr 2
      omega
    · rw [h2 j (by omega), List.getElem?_set_ne (by omega)]
    · by_cases ej : j = i
      · subst ej
        rw [h2 j (by omega), List.getElem?_set_self (by omega)]
        congr 2
        omega
      · rw [h3 j (by omega) b]
        congr 2
        omega
theorem heldInt_l0 (n : Nat) (hn : n ≤ 70368744177664) (y : List Int) (hy : y.length = n) (hm : ∀ j : Nat, j < n → y[j]? = some (idI (1 + j))) : ∀ (d k i : Nat), i + d = n → d < k → laws_heldIntS.l0 k y (1 + i) (i : Int) = some (1 + (n : Int)) := by
  intro d
  induction d with
  | zero =>
    intro k i hd hk
    obtain ⟨k, rfl⟩ : ∃ m, k = m + 1 := ⟨k - 1, by omega⟩
    simp only [laws_heldIntS.l0]
    rw [if_neg (by omega), show i = n by omega]
  | succ d ih =>
    intro k i hd hk
    obtain ⟨k, rfl⟩ : ∃ m, k = m + 1 := ⟨k - 1, by omega⟩
    have e : y[i] = idI (1 + i) := by
      have := hm i (by omega)
      rw [List.getElem?_eq_getElem (by omega)] at this
      exact Option.some.inj this
    simp only [laws_heldIntS.l0]
    rw [if_pos (by omega), if_pos (by omega), rd_nat y i (by omega), if_pos (by rw [e]; rfl), cast_succ i (by omega), w64 (n := 1 + (i : Int) + 1) (by omega) (by omega), show (1 + (i : Int) + 1) = 1 + ((i + 1 : Nat) : Int) by omega]
    exact ih k (i + 1) (by omega) (by omega)
/-- Marked, a row is held. -/
theorem markInt_some (x : List Int) (hn : x.length ≤ 70368744177664) (k : Nat) (hk : x.length < k) : ∃ y, laws_markIntS.f k x 1 = some (1 + (x.length : Int), y) ∧ ∀ k', x.length < k' → laws_heldIntS.f k' y 1 = some (1 + (x.length : Int)) := by
  obtain ⟨y, e, hy, _, h3⟩ := markInt_l0 x.length hn x.length k 0 x 1 (by omega) hk rfl (by omega) (by omega)
  refine ⟨y, e, fun k' hk' => ?_⟩
  exact heldInt_l0 x.length hn y hy (fun j hj => by rw [h3 j (by omega) hj]; congr 2) x.length k' 0 (by omega) hk'

theorem markByte_only_l0 (n : Nat) (hn : n ≤ 70368744177664) : ∀ (d k i : Nat) (x : List Int) (m : Int), i + d = n → d < k → x.length = n → 0 ≤ m → m ≤ i + 1 → ∃ y, laws_markByteS.l0 k x m (i : Int) = some (m + d, y) := by
  intro d
  induction d with
  | zero =>
    intro k i x m hd hk hl h0 h1
    obtain ⟨k, rfl⟩ : ∃ m, k = m + 1 := ⟨k - 1, by omega⟩
    refine ⟨x, ?_⟩
    simp only [laws_markByteS.l0]
    rw [if_neg (by omega)]
    simp
  | succ d ih =>
    intro k i x m hd hk hl h0 h1
    obtain ⟨k, rfl⟩ : ∃ m, k = m + 1 := ⟨k - 1, by omega⟩
    simp only [laws_markByteS.l0]
    rw [if_pos (by omega), if_pos (by omega), cast_succ i (by omega), w64 (n := m + 1) (by omega) (by omega)]
    obtain ⟨y, e⟩ := ih k (i + 1) (x.set (i : Int).toNat _) (m + 1) (by omega) (by omega) (by simpa using hl) (by omega) (by omega)
    exact ⟨y, e.trans (by congr 2; omega)⟩
theorem markByte_only (x : List Int) (hn : x.length ≤ 70368744177664) (k : Nat) (hk : x.length < k) : ∃ m y, laws_markByteS.f k x 1 = some (m, y) ∧ 0 ≤ m := by
  obtain ⟨y, e⟩ := markByte_only_l0 x.length hn x.length k 0 x 1 (by omega) hk rfl (by omega) (by omega)
  exact ⟨_, y, e, by omega⟩

theorem sB2I_l0 (x : List Int) (hb : ∀ v ∈ x, 0 ≤ v ∧ v ≤ 255) (hx : x.length ≤ 1048576) : ∀ (d k i : Nat) (o : List Int), i + d = x.length → d < k → o.length ≤ 1 + i → spec_BytesToInts.l0 k x o (i : Int) = some (o ++ x.drop i) := by
  intro d
  induction d with
  | zero =>
    intro k i o hd hk _
    obtain ⟨k, rfl⟩ : ∃ m, k = m + 1 := ⟨k - 1, by omega⟩
    simp only [spec_BytesToInts.l0]
    rw [if_neg (by omega), List.drop_eq_nil_of_le (by omega), List.append_nil]
  | succ d ih =>
    intro k i o hd hk ho
    obtain ⟨k, rfl⟩ : ∃ m, k = m + 1 := ⟨k - 1, by omega⟩
    have hv := hb x[i] (List.getElem_mem _)
    simp only [spec_BytesToInts.l0]
    rw [if_pos (by omega), if_pos (by omega), if_pos (by omega), rd_nat x i (by omega), cast_succ i (by omega), w64 (by omega) (by omega), ih k (i + 1) _ (by omega) (by omega) (by simp; omega), drop_cons x i (by omega), List.append_assoc]
    rfl
theorem sB2I (x : List Int) (hb : ∀ v ∈ x, 0 ≤ v ∧ v ≤ 255) (hx : x.length ≤ 1048576) (k : Nat) (hk : x.length < k) : spec_BytesToInts.f k x = some ((x.length : Int) :: x) := sB2I_l0 x hb hx x.length k 0 _ (by omega) hk (by simp)
theorem iB2I_l0 (x : List Int) (hb : ∀ v ∈ x, 0 ≤ v ∧ v ≤ 255) (hx : x.length ≤ 1048576) : ∀ (d k i : Nat) (o : List Int), i + d = x.length → d < k → o.length ≤ 1 + i → impl_BytesToInts.l0 k o x (x.length : Int) (i : Int) = some (o ++ x.drop i) := by
  intro d
  induction d with
  | zero =>
    intro k i o hd hk _
    obtain ⟨k, rfl⟩ : ∃ m, k = m + 1 := ⟨k - 1, by omega⟩
    simp only [impl_BytesToInts.l0]
    rw [if_neg (by omega), List.drop_eq_nil_of_le (by omega), List.append_nil]
  | succ d ih =>
    intro k i o hd hk ho
    obtain ⟨k, rfl⟩ : ∃ m, k = m + 1 := ⟨k - 1, by omega⟩
    have hv := hb x[i] (List.getElem_mem _)
    simp only [impl_BytesToInts.l0]
    rw [if_pos (by omega), if_pos (by omega), if_pos (by omega), if_pos (by omega), rd_nat x i (by omega), cast_succ i (by omega), w64 (by omega) (by omega), ih k (i + 1) _ (by omega) (by omega) (by simp; omega), drop_cons x i (by omega), List.append_assoc]
    rfl
theorem iB2I (x : List Int) (hb : ∀ v ∈ x, 0 ≤ v ∧ v ≤ 255) (hx : x.length ≤ 1048576) (k : Nat) (hk : x.length < k) : impl_BytesToInts.f k x = some ((x.length : Int) :: x) := iB2I_l0 x hb hx x.length k 0 _ (by omega) hk (by simp)

theorem FnExactBytesToInts : laws_FnExactBytesToInts.Pure := by
  intro a _ _ hw
  have hb : ∀ v ∈ a, 0 ≤ v ∧ v ≤ 255 := fun v hv => of_wf8 (hw v hv)
  by_cases h1 : (a.length : Int) > 1048576
  · exact ⟨0, by unfold laws_FnExactBytesToInts.f; rw [if_pos h1]⟩
  · refine ⟨a.length + 3, ?_⟩
    unfold laws_FnExactBytesToInts.f
    rw [if_neg h1]
    obtain ⟨m, y, em, hm⟩ := markByte_only a (by omega) (a.length + 3) (by omega)
    obtain ⟨z, ez, hz⟩ := markInt_some ((a.length : Int) :: a) (by simp; omega) (a.length + 2) (by simp)
    simp only [toByteS_some a (by omega) _ (show a.length < a.length + 3 by omega), Option.bind_some, sB2I a hb (by omega) _ (show a.length < a.length + 3 by omega), iB2I a hb (by omega) _ (show a.length < a.length + 3 by omega),
      eqByteS_some a a (by omega) _ (show a.length < a.length + 3 by omega), eqIntS_some ((a.length : Int) :: a) ((a.length : Int) :: a) (by simp; omega) _ (show ((a.length : Int) :: a).length < a.length + 3 by simp), em, decide_true, if_true, Bool.not_true]
    rw [if_neg (by omega)]
    simp only [laws_FnExactBytesToInts.j0, ez, Option.bind_some, hz _ (show ((a.length : Int) :: a).length < a.length + 2 by simp), toByteS_some a (by omega) _ (show a.length < a.length + 2 by omega),
      iB2I a hb (by omega) _ (show a.length < a.length + 2 by omega), eqIntS_some ((a.length : Int) :: a) ((a.length : Int) :: a) (by simp; omega) _ (show ((a.length : Int) :: a).length < a.length + 2 by simp), decide_true, if_true]
    rw [if_neg (by decide), if_neg (by simp; omega), if_neg (by simp; omega)]

end Go.Proofs.Ytobpbnbjdpdflab.Pure
namespace Go.Proofs.Ytobpbnbjdpdflab
/-- The seat's own word, under the name by which the row asks for it. -/
theorem PrintWords.sized_ints {H : Type} {enc : TypeId × Value → H} {P : Program} {W : World} {base : Nat} {spare : Nat → Bool} {held : Bool} {t e : TypeId} {k : IntKind} {a : Option Addr} {len cap : Nat} {d : DataW H} {ps : List MemPlace} {ts : List TypeId} {ds : List (DataW H)} {j : Nat}
    (hsz : (DataW.weightsEach P ts ds).all (· ≤ reachBytes) = true) (ht : ts[j]? = some t) (hd : ds[j]? = some d) (hu : P.underlying t = some (.slice e)) (he : P.underlying e = some (.int k)) (hc : P.cellsOf e = 1) {B : Nat} (hB : P.bytesOf e = B)
    (h : DataW.Trod enc P W base spare held t (.slice a len cap) d ps) : len * B ≤ 140737488351232 := Go.Proofs.YtobpbnbjdpdflabW.PrintWords.sized_ints hsz ht hd hu he hc hB h
end Go.Proofs.Ytobpbnbjdpdflab
