/- FnExactReadBytes holds: for every byte slice, offset and greatest length the program's ReadBytes and the reference's agree; the slice is not changed, and the result is in memory of its own. No conditions. -/
import Derived.Test.YtobpbnbjdpdflacPFnExactReadBytesx3
import Derived.OpenShut
import Derived.Test.YtobpbnbjdpdflacWSized
namespace Go.Proofs.Ytobpbnbjdpdflac.Pure
open Go.RowKit Go.Proofs.Ytobpbnbjdpdflac.PFnExactReadBytes Go.Proofs.YtobpbnbjdpdflacW.PrintWords Go.Proofs.YtobpbnbjdpdflacW.PrintLast
set_option linter.unusedVariables false
set_option linter.unusedSimpArgs false

def idI (x : Int) : Int := x
def b256 (x : Int) : Int := x % 256

theorem w64 {n : Int} (h : -9223372036854775808 ≤ n) (h' : n ≤ 9223372036854775807) : wrap64 n = n := by unfold wrap64; omega
theorem w64_lo (n : Int) : -9223372036854775808 ≤ wrap64 n := by unfold wrap64; omega
theorem w64_hi (n : Int) : wrap64 n ≤ 9223372036854775807 := by unfold wrap64; omega
theorem of_wf {n : Int} (h : (Lit.int .i64 n).wf = true) : -9223372036854775808 ≤ n ∧ n ≤ 9223372036854775807 := bounds_i64 h
theorem of_wf8 {n : Int} (h : (Lit.int .u8 n).wf = true) : 0 ≤ n ∧ n ≤ 255 := bounds_u8 h
theorem and_le (x : Int) (m : Nat) (hm : m < 9223372036854775808) : 0 ≤ bits .and .i64 x (m : Int) ∧ bits .and .i64 x (m : Int) ≤ m := by
  unfold bits
  rw [Go.IntKind.wrap_i64]
  simp only [BitVec.toNat_and]
  have h1 : (BitVec.ofInt IntKind.i64.bits (m : Int)).toNat = m := by
    rw [BitVec.ofInt_natCast, BitVec.toNat_ofNat]
    exact Nat.mod_eq_of_lt (by show m < 2 ^ 64; omega)
  rw [h1]
  have h2 : (BitVec.ofInt IntKind.i64.bits x).toNat &&& m ≤ m := Nat.and_le_right
  omega
theorem and255 (x : Int) : 0 ≤ bits .and .i64 x 255 ∧ bits .and .i64 x 255 ≤ 255 := and_le x 255 (by decide)
theorem tmod_lt {x n : Int} (h0 : 0 ≤ x) (hn : 0 < n) : 0 ≤ Int.tmod x n ∧ Int.tmod x n < n := by
  rw [Int.tmod_eq_emod_of_nonneg h0]
  exact ⟨Int.emod_nonneg _ (by omega), Int.emod_lt_of_pos _ hn⟩

theorem rd_nat (x : List Int) (i : Nat) (h : i < x.length) : rd x (i : Int) = x[i] := by
  unfold rd
  rw [List.getD_eq_getElem?_getD, Int.toNat_natCast, List.getElem?_eq_getElem h]
  rfl
theorem cast_succ (i : Nat) (h : i < 4611686018427387904) : wrap64 ((i : Int) + 1) = ((i + 1 : Nat) : Int) := by
  rw [w64 (by omega) (by omega)]
  rfl
theorem drop_cons {α : Type} (x : List α) (i : Nat) (h : i < x.length) : x.drop i = x[i] :: x.drop (i + 1) := List.drop_eq_getElem_cons h

theorem toByteS_l0 (x : List Int) (hx : x.length ≤ 140737488351232) : ∀ (d k : Nat) (y : List Int) (i : Nat), i + d = x.length → d < k → y.length = x.length → (∀ j : Nat, j < i → y[j]? = x[j]?) → laws_toByteS.l0 k x y (i : Int) = some x := by
  intro d
  induction d with
  | zero =>
    intro k y i hd hk hl hj
    obtain ⟨k, rfl⟩ : ∃ m, k = m + 1 := ⟨k - 1, by omega⟩
    simp only [laws_toByteS.l0]
    rw [if_neg (by omega)]
    congr 1
    apply List.ext_getElem?
    intro j
    by_cases hj' : j < i
    · exact hj j hj'
    · rw [List.getElem?_eq_none (by omega), List.getElem?_eq_none (by omega)]
  | succ d ih =>
    intro k y i hd hk hl hj
    obtain ⟨k, rfl⟩ : ∃ m, k = m + 1 := ⟨k - 1, by omega⟩
    simp only [laws_toByteS.l0]
    rw [if_pos (by omega), if_pos (by omega), if_pos (by omega), cast_succ i (by omega), rd_nat x i (by omega)]
    refine ih k _ (i + 1) (by omega) (by omega) (by simpa using hl) ?_
    intro j hj1
    rw [Int.toNat_natCast, List.getElem?_set]
    by_cases e : i = j
    · subst e
      rw [if_pos rfl, if_pos (by omega), List.getElem?_eq_getElem (by omega)]
    · rw [if_neg e]
      exact hj j (by omega)
theorem toByteS_some (x : List Int) (hx : x.length ≤ 1048576) (k : Nat) (hk : x.length < k) : laws_toByteS.f k x = some x := by
  unfold laws_toByteS.f
  rw [if_pos (by omega), if_pos (by omega)]
  exact toByteS_l0 x (by omega) x.length k _ 0 (by omega) hk (by simp) (by omega)

theorem eqByteS_l0 (x y : List Int) (hx : x.length ≤ 140737488351232) (hl : x.length = y.length) : ∀ (d k i : Nat), i + d = x.length → d < k → laws_eqByteS.l0 k x y (i : Int) = some (decide (x.drop i = y.drop i)) := by
  intro d
  induction d with
  | zero =>
    intro k i hd hk
    obtain ⟨k, rfl⟩ : ∃ m, k = m + 1 := ⟨k - 1, by omega⟩
    simp only [laws_eqByteS.l0]
    rw [if_neg (by omega), List.drop_eq_nil_of_le (by omega), List.drop_eq_nil_of_le (by omega)]
    simp
  | succ d ih =>
    intro k i hd hk
    obtain ⟨k, rfl⟩ : ∃ m, k = m + 1 := ⟨k - 1, by omega⟩
    simp only [laws_eqByteS.l0]
    rw [if_pos (by omega), if_pos (by omega), if_pos (by omega), cast_succ i (by omega), rd_nat x i (by omega), rd_nat y i (by omega), ih k (i + 1) (by omega) (by omega), drop_cons x i (by omega), drop_cons y i (by omega)]
    by_cases e : x[i] = y[i]
    · rw [if_pos e]
      simp only [List.cons.injEq, e, true_and]
    · rw [if_neg e]
      simp only [List.cons.injEq, e, false_and, decide_false]
theorem eqByteS_some (x y : List Int) (hx : x.length ≤ 140737488351232) (k : Nat) (hk : x.length < k) : laws_eqByteS.f k x y = some (decide (x = y)) := by
  unfold laws_eqByteS.f
  by_cases h : x.length = y.length
  · rw [if_pos (by omega)]
    exact eqByteS_l0 x y hx h x.length k 0 (by omega) hk
  · rw [if_neg (by omega)]
    have : x ≠ y := fun e => h (by rw [e])
    simp [this]

/-- The marks from m on. -/
theorem markByte_l0 (n : Nat) (hn : n ≤ 70368744177664) : ∀ (d k i : Nat) (x : List Int) (m : Int), i + d = n → d < k → x.length = n → 0 ≤ m → m ≤ i + 1 → ∃ y, laws_markByteS.l0 k x m (i : Int) = some (m + d, y) ∧ y.length = n ∧
    (∀ j : Nat, j < i → y[j]? = x[j]?) ∧ (∀ j : Nat, i ≤ j → j < n → y[j]? = some (b256 (m + (j - i)))) := by
  intro d
  induction d with
  | zero =>
    intro k i x m hd hk hl h0 h1
    obtain ⟨k, rfl⟩ : ∃ m, k = m + 1 := ⟨k - 1, by omega⟩
    refine ⟨x, ?_, hl, fun _ _ => rfl, fun j a b => by omega⟩
    simp only [laws_markByteS.l0]
    rw [if_neg (by omega)]
    simp
  | succ d ih =>
    intro k i x m hd hk hl h0 h1
    obtain ⟨k, rfl⟩ : ∃ m, k = m + 1 := ⟨k - 1, by omega⟩
    obtain ⟨y, e, hy, h2, h3⟩ := ih k (i + 1) (x.set i (b256 m)) (m + 1) (by omega) (by omega) (by simpa using hl) (by omega) (by omega)
    refine ⟨y, ?_, hy, fun j hj => ?_, fun j a b => ?_⟩
    · simp only [laws_markByteS.l0]
      rw [if_pos (by omega), if_pos (by omega), cast_succ i (by omega), w64 (n := m + 1) (by omega) (by omega), Int.toNat_natCast]
      refine e.trans ?_
      congr 2
      omega
    · rw [h2 j (by omega), List.getElem?_set_ne (by omega)]
    · by_cases ej : j = i
      · subst ej
        rw [h2 j (by omega), List.getElem?_set_self (by omega)]
        congr 2
        omega
      · rw [h3 j (by omega) b]
        congr 2
        omega
theorem heldByte_l0 (n : Nat) (hn : n ≤ 70368744177664) (y : List Int) (hy : y.length = n) (hm : ∀ j : Nat, j < n → y[j]? = some (b256 (1 + j))) : ∀ (d k i : Nat), i + d = n → d < k → laws_heldByteS.l0 k y (1 + i) (i : Int) = some (1 + (n : Int)) := by
  intro d
  induction d with
  | zero =>
    intro k i hd hk
    obtain ⟨k, rfl⟩ : ∃ m, k = m + 1 := ⟨k - 1, by omega⟩
    simp only [laws_heldByteS.l0]
    rw [if_neg (by omega), show i = n by omega]
  | succ d ih =>
    intro k i hd hk
    obtain ⟨k, rfl⟩ : ∃ m, k = m + 1 := ⟨k - 1, by omega⟩
    have e : y[i] = b256 (1 + i) := by
      have := hm i (by omega)
      rw [List.getElem?_eq_getElem (by omega)] at this
      exact Option.some.inj this
    simp only [laws_heldByteS.l0]
    rw [if_pos (by omega), if_pos (by omega), rd_nat y i (by omega), if_pos (by rw [e]; rfl), cast_succ i (by omega), w64 (n := 1 + (i : Int) + 1) (by omega) (by omega), show (1 + (i : Int) + 1) = 1 + ((i + 1 : Nat) : Int) by omega]
    exact ih k (i + 1) (by omega) (by omega)
/-- Marked, a row is held. -/
theorem markByte_some (x : List Int) (hn : x.length ≤ 70368744177664) (k : Nat) (hk : x.length < k) : ∃ y, laws_markByteS.f k x 1 = some (1 + (x.length : Int), y) ∧ ∀ k', x.length < k' → laws_heldByteS.f k' y 1 = some (1 + (x.length : Int)) := by
  obtain ⟨y, e, hy, _, h3⟩ := markByte_l0 x.length hn x.length k 0 x 1 (by omega) hk rfl (by omega) (by omega)
  refine ⟨y, e, fun k' hk' => ?_⟩
  exact heldByte_l0 x.length hn y hy (fun j hj => by rw [h3 j (by omega) hj]; congr 2) x.length k' 0 (by omega) hk'

theorem wraps_i64 (n : Int) (h0 : 0 ≤ n) (h1 : n < 2 ^ 63) : IntKind.i64.wrap n = n := by
  rw [show (2 : Int) ^ 63 = 9223372036854775808 by decide] at h1
  rw [Go.IntKind.wrap_i64]
  omega
theorem bits_or_comm (x y : Int) : bits .or .i64 x y = bits .or .i64 y x := by
  unfold bits
  simp only [BitVec.or_comm]
theorem or_i64 (i : Nat) (x y p : Int) (hp : (2 : Int) ^ i = p) (hx0 : 0 ≤ x) (hx : x % p = 0) (hx1 : x < 4611686018427387904) (hy0 : 0 ≤ y) (hy : y < p) (hp1 : p ≤ 4611686018427387904) : bits .or .i64 y x = y + x := by
  subst hp
  rw [bits_or_comm, bits_join .i64 63 (by decide) wraps_i64 i x y hx0 hx (by rw [show (2 : Int) ^ 63 = 9223372036854775808 by decide]; omega) hy0 hy (by rw [show (2 : Int) ^ 63 = 9223372036854775808 by decide]; omega)]
  omega
theorem shl_i64 (i : Nat) (hi : i ≤ 42) (v p : Int) (hp : (2 : Int) ^ i = p) (h0 : 0 ≤ v * p) (h1 : v * p < 9223372036854775808) : shl .i64 v (i : Int) = v * p := by
  unfold shl
  rw [Int.toNat_natCast, Nat.min_eq_left (by show i ≤ 64; omega), hp, Go.IntKind.wrap_i64]
  omega
/-- What a varint's byte number k weighs. -/
def pw7 : Nat → Int
  | 0 => 1
  | k + 1 => 128 * pw7 k
theorem pw7_two : ∀ k, (2 : Int) ^ (7 * k) = pw7 k
  | 0 => rfl
  | k + 1 => by
    rw [show 7 * (k + 1) = 7 * k + 7 by omega, Int.pow_add, pw7_two k]
    show pw7 k * 128 = 128 * pw7 k
    omega
theorem pw7_bd (k : Nat) (hk : k ≤ 6) : 1 ≤ pw7 k ∧ pw7 k ≤ 4398046511104 := by
  obtain rfl | rfl | rfl | rfl | rfl | rfl | rfl : k = 0 ∨ k = 1 ∨ k = 2 ∨ k = 3 ∨ k = 4 ∨ k = 5 ∨ k = 6 := by omega
  all_goals decide
theorem mul_bd {v p : Int} (h0 : 0 ≤ v) (h1 : v < 128) (hp : 1 ≤ p) : 0 ≤ v * p ∧ v * p ≤ 127 * p := by
  constructor
  · exact Int.mul_nonneg h0 (by omega)
  · exact Int.mul_le_mul_of_nonneg_right (by omega) (by omega)
theorem or_step (k : Nat) (hk : k < 6) (n v : Int) (hn : 0 ≤ n) (hn' : n < pw7 k) (hv : 0 ≤ v) (hv' : v < 128) :
    bits .or .i64 n (shl .i64 v (wrap64 (7 * (k : Int)))) = n + v * pw7 k ∧ 0 ≤ n + v * pw7 k ∧ n + v * pw7 k < pw7 (k + 1) := by
  have hb := pw7_bd k (by omega)
  have hm := mul_bd hv hv' hb.1
  have e : wrap64 (7 * (k : Int)) = ((7 * k : Nat) : Int) := by rw [w64 (by omega) (by omega)]; omega
  rw [e, shl_i64 (7 * k) (by omega) v (pw7 k) (pw7_two k) hm.1 (by omega), or_i64 (7 * k) (v * pw7 k) n (pw7 k) (pw7_two k) hm.1 (Int.mul_emod_left _ _) (by omega) hn hn' (by omega)]
  refine ⟨rfl, by omega, ?_⟩
  show _ < 128 * pw7 k
  omega
theorem and127_i64 (x : Int) (h0 : 0 ≤ x) (h1 : x ≤ 255) : bits .and .i64 x 127 = x % 128 := bits_mask .i64 63 (by decide) wraps_i64 7 (by decide) x h0 (by rw [show (2 : Int) ^ 63 = 9223372036854775808 by decide]; omega)
theorem and127_u8 (x : Int) (h0 : 0 ≤ x) (h1 : x ≤ 255) : bits .and .u8 x 127 = x % 128 := bits_mask .u8 8 (by decide) wraps_u8 7 (by decide) x h0 (by rw [show (2 : Int) ^ 8 = 256 by decide]; omega)
set_option maxRecDepth 100000 in
theorem and128_u8 (x : Int) (h0 : 0 ≤ x) (h1 : x ≤ 255) : bits .and .u8 x 128 = 0 ↔ x < 128 := by
  have key : ∀ y : Fin 256, bits .and .u8 (y.val : Int) 128 = 0 ↔ (y.val : Int) < 128 := by decide
  have := key ⟨x.toNat, by omega⟩
  rwa [show ((⟨x.toNat, by omega⟩ : Fin 256).val : Int) = x by show (x.toNat : Int) = x; omega] at this

/-- A varint read from a row of bytes: its number and how many bytes it takes. f: rounds left, k: rounds done, n: what they gave. -/
def rv : Nat → Nat → Int → List Int → Option (Int × Nat)
  | 0, _, _, _ => none
  | _ + 1, _, _, [] => none
  | f + 1, k, n, x :: r => if x < 128 then (if x = 0 ∧ 0 < k then none else if n + x % 128 * pw7 k > 1000000000000 then none else some (n + x % 128 * pw7 k, k + 1)) else rv f (k + 1) (n + x % 128 * pw7 k) r
def rvOut (a : Int) : Option (Int × Nat) → Int × Int × Bool
  | none => (0, 0, false)
  | some (n, c) => (n, a + c, true)
/-- What ReadUvarint gives. -/
def readU (b : List Int) (a : Int) : Int × Int × Bool := if 0 ≤ a ∧ a < b.length then rvOut a (rv 6 0 0 (b.drop a.toNat)) else (0, 0, false)

def inR (x lo hi : Int) : Bool := decide (lo ≤ x) && decide (x ≤ hi)
theorem inR_true {x lo hi : Int} : inR x lo hi = true ↔ lo ≤ x ∧ x ≤ hi := by simp [inR]
theorem inR_false {x lo hi : Int} : inR x lo hi = false ↔ ¬ (lo ≤ x ∧ x ≤ hi) := by simp [inR]

theorem rv_bd : ∀ (f k : Nat) (n : Int) (r : List Int) (m : Int) (c : Nat), f + k = 6 → 0 ≤ n → n < pw7 k → (∀ v ∈ r, 0 ≤ v ∧ v ≤ 255) → rv f k n r = some (m, c) → k < c ∧ c ≤ k + r.length ∧ 0 ≤ m ∧ m ≤ 1000000000000
  | 0, _, _, _, _, _, _, _, _, _, h => by simp [rv] at h
  | _ + 1, _, _, [], _, _, _, _, _, _, h => by simp [rv] at h
  | f + 1, k, n, x :: r, m, c, hk, h0, h1, hb, h => by
    have hx := hb x (by simp)
    obtain ⟨_, e2, e3⟩ := or_step k (by omega) n (x % 128) h0 h1 (by omega) (by omega)
    simp only [rv] at h
    by_cases c1 : x < 128
    · rw [if_pos c1] at h
      by_cases c2 : x = 0 ∧ 0 < k
      · rw [if_pos c2] at h; cases h
      · rw [if_neg c2] at h
        by_cases c3 : n + x % 128 * pw7 k > 1000000000000
        · rw [if_pos c3] at h; cases h
        · rw [if_neg c3] at h
          simp only [Option.some.injEq, Prod.mk.injEq] at h
          obtain ⟨rfl, rfl⟩ := h
          refine ⟨by omega, ?_, e2, by omega⟩
          simp only [List.length_cons]
          omega
    · rw [if_neg c1] at h
      have := rv_bd f (k + 1) _ r m c (by omega) e2 e3 (fun v hv => hb v (by simp [hv])) h
      simp only [List.length_cons]
      omega
theorem readU_bd {b : List Int} (hb : ∀ v ∈ b, 0 ≤ v ∧ v ≤ 255) {a n nx : Int} (h : readU b a = (n, nx, true)) : a < nx ∧ nx ≤ b.length ∧ 0 ≤ n ∧ n ≤ 1000000000000 ∧ 0 ≤ a := by
  unfold readU at h
  by_cases c : 0 ≤ a ∧ a < b.length
  · rw [if_pos c] at h
    cases e : rv 6 0 0 (b.drop a.toNat) with
    | none => rw [e] at h; simp [rvOut] at h
    | some p =>
      obtain ⟨m, ct⟩ := p
      rw [e] at h
      simp only [rvOut, Prod.mk.injEq] at h
      obtain ⟨rfl, rfl, _⟩ := h
      have := rv_bd 6 0 0 _ m ct rfl (by omega) (by decide) (fun v hv => hb v (List.mem_of_mem_drop hv)) e
      rw [List.length_drop] at this
      omega
  · rw [if_neg c] at h
    simp at h
theorem readU_no {b : List Int} {a n nx : Int} (h : readU b a = (n, nx, false)) : n = 0 ∧ nx = 0 := by
  unfold readU at h
  by_cases c : 0 ≤ a ∧ a < b.length
  · rw [if_pos c] at h
    cases e : rv 6 0 0 (b.drop a.toNat) with
    | none => rw [e] at h; simp [rvOut] at h; exact ⟨h.1.symm, h.2.symm⟩
    | some p => obtain ⟨m, ct⟩ := p; rw [e] at h; simp [rvOut] at h
  · rw [if_neg c] at h
    simp at h
    exact ⟨h.1.symm, h.2.symm⟩
/-- d numbers, decoded one behind the other. -/
def dec (b : List Int) : Nat → Int → List Int → List Int × Int × Bool
  | 0, a, o => (o, a, true)
  | d + 1, a, o => if (readU b a).2.2 = true then dec b d (readU b a).2.1 (o ++ [(readU b a).1]) else ([], 0, false)
def decodeI (b : List Int) (a c : Int) : List Int × Int × Bool := if inR c 0 100 = true ∧ inR a 0 b.length = true then dec b c.toNat a [] else ([], 0, false)
theorem dec_len (b : List Int) : ∀ (d : Nat) (a : Int) (o : List Int), (dec b d a o).1.length ≤ o.length + d
  | 0, _, o => by simp [dec]
  | d + 1, a, o => by
    simp only [dec]
    split
    · have := dec_len b d (readU b a).2.1 (o ++ [(readU b a).1])
      rw [List.length_append, List.length_singleton] at this
      omega
    · simp
theorem decodeI_len (b : List Int) (a c : Int) : (decodeI b a c).1.length ≤ 100 := by
  unfold decodeI
  split
  · rename_i h
    have h1 := inR_true.mp h.1
    have := dec_len b c.toNat a []
    simp only [List.length_nil] at this
    omega
  · simp

def readB (b : List Int) (a mo : Int) : List Int × Int × Bool :=
  if (readU b a).2.2 = true then (if (readU b a).1 > mo then ([], 0, false) else if (readU b a).1 > b.length - (readU b a).2.1 then ([], 0, false) else
    ((b.take ((readU b a).2.1 + (readU b a).1).toNat).drop (readU b a).2.1.toNat, (readU b a).2.1 + (readU b a).1, true)) else ([], 0, false)
theorem readB_len (b : List Int) (a mo : Int) : (readB b a mo).1.length ≤ b.length := by
  unfold readB
  repeat' split
  · simp
  · simp
  · simp only [List.length_drop, List.length_take]; omega
  · simp

theorem sRv_l0 (b : List Int) (hb : ∀ v ∈ b, 0 ≤ v ∧ v ≤ 255) (hl : b.length ≤ 140737488351232) (a : Nat) (ha : a < b.length) : ∀ (f r k : Nat) (n : Int), f + k = 6 → 2 * f < r → 0 ≤ n → n < pw7 k →
    spec_ReadUvarint.l0 r b (a : Int) n (k : Int) = some (rvOut a (rv f k n (b.drop (a + k)))) := by
  intro f
  induction f with
  | zero =>
    intro r k n hk hr h0 h1
    obtain ⟨r, rfl⟩ : ∃ m, r = m + 1 := ⟨r - 1, by omega⟩
    simp only [spec_ReadUvarint.l0]
    rw [if_neg (by omega)]
    rfl
  | succ f ih =>
    intro r k n hk hr h0 h1
    obtain ⟨r, rfl⟩ : ∃ m, r = m + 2 := ⟨r - 2, by omega⟩
    simp only [spec_ReadUvarint.l0]
    rw [if_pos (by omega), if_neg (by omega), w64 (n := (b.length : Int) - k) (by omega) (by omega)]
    simp only [spec_ReadUvarint.j1]
    by_cases hin : a + k < b.length
    · rw [decide_eq_false (by omega), if_neg (by decide), w64 (n := (a : Int) + k) (by omega) (by omega), if_pos (by omega), if_pos (by omega), show (a : Int) + k = ((a + k : Nat) : Int) by omega, rd_nat b (a + k) hin]
      have hx := hb b[a + k] (List.getElem_mem _)
      obtain ⟨e1, e2, e3⟩ := or_step k (by omega) n (b[a + k] % 128) h0 h1 (by omega) (by omega)
      rw [w64 (n := b[a + k]) (by omega) (by omega), and127_i64 _ hx.1 hx.2, e1, if_pos (by rw [w64 (by omega) (by omega)]; omega), drop_cons b (a + k) hin]
      simp only [rv]
      by_cases c1 : b[a + k] < 128
      · rw [if_pos c1, if_pos c1]
        by_cases c2 : b[a + k] = 0
        · rw [if_pos c2]
          by_cases c3 : 0 < k
          · rw [if_pos (by omega), if_pos ⟨c2, c3⟩]
            rfl
          · rw [if_neg (show ¬ ((k : Int) > 0) by omega), if_neg (show ¬ (b[a + k] = 0 ∧ 0 < k) from fun h => c3 h.2)]
            by_cases c4 : n + b[a + k] % 128 * pw7 k > 1000000000000
            · rw [if_pos c4, if_pos c4]
              rfl
            · rw [if_neg c4, if_neg c4, cast_succ _ (by omega)]
              simp only [rvOut]
              rw [show ((a + k + 1 : Nat) : Int) = a + ((k + 1 : Nat) : Int) by omega]
        · rw [if_neg c2, if_neg (show ¬ (b[a + k] = 0 ∧ 0 < k) from fun h => c2 h.1)]
          by_cases c4 : n + b[a + k] % 128 * pw7 k > 1000000000000
          · rw [if_pos c4, if_pos c4]
            rfl
          · rw [if_neg c4, if_neg c4, cast_succ _ (by omega)]
            simp only [rvOut]
            rw [show ((a + k + 1 : Nat) : Int) = a + ((k + 1 : Nat) : Int) by omega]
      · rw [if_neg c1, if_neg c1, cast_succ k (by omega)]
        exact ih r (k + 1) _ (by omega) (by omega) e2 e3
    · rw [decide_eq_true (by omega), if_pos rfl, List.drop_eq_nil_of_le (by omega)]
      rfl
theorem sReadU (b : List Int) (hb : ∀ v ∈ b, 0 ≤ v ∧ v ≤ 255) (hl : b.length ≤ 140737488351232) (a : Int) (r : Nat) (hr : 13 ≤ r) : spec_ReadUvarint.f r b a = some (readU b a) := by
  unfold spec_ReadUvarint.f readU
  by_cases h : 0 ≤ a ∧ a < b.length
  · rw [if_pos h]
    have := sRv_l0 b hb hl a.toNat (by omega) 6 r 0 0 (by omega) (by omega) (by omega) (by decide)
    rwa [show ((a.toNat : Nat) : Int) = a by omega] at this
  · rw [if_neg h]
    obtain ⟨r, rfl⟩ : ∃ m, r = m + 2 := ⟨r - 2, by omega⟩
    simp only [spec_ReadUvarint.l0]
    rw [if_pos (by omega)]
    by_cases h0 : a < 0
    · rw [if_pos h0]
      simp only [spec_ReadUvarint.j1]
      rfl
    · rw [if_neg h0, w64 (n := (b.length : Int) - 0) (by omega) (by omega), decide_eq_true (by omega)]
      simp only [spec_ReadUvarint.j1]
      rfl

theorem sReadB (b : List Int) (hb : ∀ v ∈ b, 0 ≤ v ∧ v ≤ 255) (hl : b.length ≤ 10000000000000) (a mo : Int) (k : Nat) (hk : 13 ≤ k) : spec_ReadBytes.f k b a mo = some (readB b a mo) := by
  unfold spec_ReadBytes.f readB
  rw [sReadU b hb (by omega) a k hk, Option.bind_some]
  by_cases h : (readU b a).2.2 = true
  · have hbd := readU_bd hb (a := a) (n := (readU b a).1) (nx := (readU b a).2.1) (by rw [← h])
    rw [if_pos h, if_pos h]
    by_cases h1 : (readU b a).1 > mo
    · rw [if_pos h1, if_pos h1]
    · rw [if_neg h1, if_neg h1, w64 (n := (b.length : Int) - (readU b a).2.1) (by omega) (by omega)]
      by_cases h2 : (readU b a).1 > b.length - (readU b a).2.1
      · rw [if_pos h2, if_pos h2]
      · rw [if_neg h2, if_neg h2, w64 (n := (readU b a).2.1 + (readU b a).1) (by omega) (by omega)]
        simp only [Option.bind_some, List.nil_append, List.length_nil]
        rw [if_pos (by omega), if_pos (by omega), if_pos (by omega), if_pos (by simp only [List.length_drop, List.length_take]; omega)]
  · rw [if_neg h, if_neg h]

theorem iRv_l0 (b : List Int) (hb : ∀ v ∈ b, 0 ≤ v ∧ v ≤ 255) (hl : b.length ≤ 140737488351232) (a : Nat) (ha : a < b.length) : ∀ (f r k : Nat) (n : Int), f + k = 6 → 2 * f + 1 < r → 0 ≤ n → n < pw7 k →
    impl_ReadUvarint.l0 r b (a : Int) n (k : Int) = some (rvOut a (rv f k n (b.drop (a + k)))) := by
  intro f
  induction f with
  | zero =>
    intro r k n hk hr h0 h1
    obtain ⟨r, rfl⟩ : ∃ m, r = m + 2 := ⟨r - 2, by omega⟩
    simp only [impl_ReadUvarint.l0]
    rw [if_neg (by omega)]
    simp only [impl_ReadUvarint.j1]
    rfl
  | succ f ih =>
    intro r k n hk hr h0 h1
    obtain ⟨r, rfl⟩ : ∃ m, r = m + 2 := ⟨r - 2, by omega⟩
    simp only [impl_ReadUvarint.l0]
    rw [if_pos (by omega), w64 (n := (a : Int) + k) (by omega) (by omega)]
    simp only [impl_ReadUvarint.j1]
    by_cases hin : a + k < b.length
    · rw [decide_eq_true (by omega), if_pos rfl, w64 (n := (a : Int) + k) (by omega) (by omega), if_pos (by omega), if_pos (by omega), show (a : Int) + k = ((a + k : Nat) : Int) by omega, rd_nat b (a + k) hin]
      have hx := hb b[a + k] (List.getElem_mem _)
      obtain ⟨e1, e2, e3⟩ := or_step k (by omega) n (b[a + k] % 128) h0 h1 (by omega) (by omega)
      rw [and127_u8 _ hx.1 hx.2, w64 (n := b[a + k] % 128) (by omega) (by omega), e1, if_pos (by rw [w64 (by omega) (by omega)]; omega), drop_cons b (a + k) hin]
      simp only [rv]
      by_cases c1 : b[a + k] < 128
      · rw [if_pos ((and128_u8 _ hx.1 hx.2).mpr c1), if_pos c1]
        by_cases c3 : 0 < k
        · rw [if_pos (by omega)]
          by_cases c2 : b[a + k] = 0
          · rw [if_pos c2, if_pos ⟨c2, c3⟩]
            rfl
          · rw [if_neg c2, if_neg (show ¬ (b[a + k] = 0 ∧ 0 < k) from fun h => c2 h.1)]
            by_cases c4 : n + b[a + k] % 128 * pw7 k > 1000000000000
            · rw [if_pos c4, if_pos c4]
              rfl
            · rw [if_neg c4, if_neg c4, cast_succ _ (by omega)]
              simp only [rvOut]
              rw [show ((a + k + 1 : Nat) : Int) = a + ((k + 1 : Nat) : Int) by omega]
        · rw [if_neg (by omega), if_neg (show ¬ (b[a + k] = 0 ∧ 0 < k) from fun h => c3 h.2)]
          by_cases c4 : n + b[a + k] % 128 * pw7 k > 1000000000000
          · rw [if_pos c4, if_pos c4]
            rfl
          · rw [if_neg c4, if_neg c4, cast_succ _ (by omega)]
            simp only [rvOut]
            rw [show ((a + k + 1 : Nat) : Int) = a + ((k + 1 : Nat) : Int) by omega]
      · rw [if_neg (fun h => c1 ((and128_u8 _ hx.1 hx.2).mp h)), if_neg c1, cast_succ k (by omega)]
        exact ih r (k + 1) _ (by omega) (by omega) e2 e3
    · rw [decide_eq_false (by omega), if_neg (by decide), List.drop_eq_nil_of_le (by omega)]
      rfl
theorem iReadU (b : List Int) (hb : ∀ v ∈ b, 0 ≤ v ∧ v ≤ 255) (hl : b.length ≤ 140737488351232) (a : Int) (hA : a ≤ 9223372036854775807) (r : Nat) (hr : 14 ≤ r) : impl_ReadUvarint.f r b a = some (readU b a) := by
  unfold impl_ReadUvarint.f readU
  by_cases h : 0 ≤ a ∧ a < b.length
  · rw [if_pos h, if_neg (by omega)]
    have := iRv_l0 b hb hl a.toNat (by omega) 6 r 0 0 (by omega) (by omega) (by omega) (by decide)
    rwa [show ((a.toNat : Nat) : Int) = a by omega] at this
  · rw [if_neg h]
    by_cases h0 : a < 0
    · rw [if_pos h0]
    · rw [if_neg h0]
      obtain ⟨r, rfl⟩ : ∃ m, r = m + 2 := ⟨r - 2, by omega⟩
      simp only [impl_ReadUvarint.l0]
      rw [if_pos (by omega), w64 (n := a + 0) (by omega) (by omega), decide_eq_false (by omega)]
      simp only [impl_ReadUvarint.j1]
      rfl

theorem iReadB (b : List Int) (hb : ∀ v ∈ b, 0 ≤ v ∧ v ≤ 255) (hl : b.length ≤ 10000000000000) (a mo : Int) (hA : a ≤ 9223372036854775807) (k : Nat) (hk : 14 ≤ k) : impl_ReadBytes.f k b a mo = some (readB b a mo) := by
  unfold impl_ReadBytes.f readB
  rw [iReadU b hb (by omega) a hA k hk, Option.bind_some]
  by_cases h : (readU b a).2.2 = true
  · have hbd := readU_bd hb (a := a) (n := (readU b a).1) (nx := (readU b a).2.1) (by rw [← h])
    rw [if_pos h, if_pos h]
    by_cases h1 : (readU b a).1 > mo
    · rw [if_pos h1, if_pos h1]
    · rw [if_neg h1, if_neg h1, w64 (n := (b.length : Int) - (readU b a).2.1) (by omega) (by omega)]
      by_cases h2 : (readU b a).1 > b.length - (readU b a).2.1
      · rw [if_pos h2, if_pos h2]
      · rw [if_neg h2, if_neg h2, w64 (n := (readU b a).2.1 + (readU b a).1) (by omega) (by omega)]
        unfold slices_Clone_byte_byte.f
        rw [if_pos (by omega), if_pos (by omega), if_pos (by omega), if_pos (by simp only [List.length_drop, List.length_take]; omega)]
        rfl
  · rw [if_neg h, if_neg h]

theorem FnExactReadBytes : laws_FnExactReadBytes.Pure := by
  intro b a c _ _ hw ha hcw
  have hb : ∀ v ∈ b, 0 ≤ v ∧ v ≤ 255 := fun v hv => of_wf8 (hw v hv)
  by_cases h1 : (b.length : Int) > 1048576
  · exact ⟨0, by unfold laws_FnExactReadBytes.f; rw [if_pos h1]⟩
  · refine ⟨b.length + 103, ?_⟩
    have hd := readB_len b a c
    obtain ⟨y, em, hm⟩ := markByte_some b (by omega) (b.length + 102) (by omega)
    obtain ⟨z, ez, hz⟩ := markByte_some (readB b a c).1 (by omega) (b.length + 101) (by omega)
    unfold laws_FnExactReadBytes.f
    rw [if_neg h1]
    simp only [toByteS_some b (by omega) _ (show b.length < b.length + 103 by omega), Option.bind_some, sReadB b hb (by omega) a c _ (show 13 ≤ b.length + 103 by omega), iReadB b hb (by omega) a c (of_wf ha).2 _ (show 14 ≤ b.length + 103 by omega),
      eqByteS_some (readB b a c).1 (readB b a c).1 (by omega) _ (show (readB b a c).1.length < b.length + 103 by omega), decide_true, if_true, bne_self_eq_false]
    simp only [laws_FnExactReadBytes.j0, Bool.false_eq_true, if_false, toByteS_some b (by omega) _ (show b.length < b.length + 102 by omega), Option.bind_some, eqByteS_some b b (by omega) _ (show b.length < b.length + 102 by omega), em, decide_true, if_true,
      eqByteS_some (readB b a c).1 (readB b a c).1 (by omega) _ (show (readB b a c).1.length < b.length + 102 by omega), bne_self_eq_false]
    rw [if_neg (by omega)]
    simp only [laws_FnExactReadBytes.j1, Bool.false_eq_true, if_false, ez, Option.bind_some, hz _ (show (readB b a c).1.length < b.length + 101 by omega), toByteS_some b (by omega) _ (show b.length < b.length + 101 by omega),
      iReadB b hb (by omega) a c (of_wf ha).2 _ (show 14 ≤ b.length + 101 by omega), eqByteS_some (readB b a c).1 (readB b a c).1 (by omega) _ (show (readB b a c).1.length < b.length + 101 by omega), decide_true, if_true, bne_self_eq_false]
    rw [if_neg (by omega)]
    simp only [laws_FnExactReadBytes.j2, Bool.false_eq_true, if_false, Option.bind_some, hz _ (show (readB b a c).1.length < b.length + 100 by omega), if_true]
    rw [if_neg (by omega)]

end Go.Proofs.Ytobpbnbjdpdflac.Pure
namespace Go.Proofs.Ytobpbnbjdpdflac
/-- The seat's own word, under the name by which the row asks for it. -/
theorem PrintWords.sized_ints {H : Type} {enc : TypeId × Value → H} {P : Program} {W : World} {base : Nat} {spare : Nat → Bool} {held : Bool} {t e : TypeId} {k : IntKind} {a : Option Addr} {len cap : Nat} {d : DataW H} {ps : List MemPlace} {ts : List TypeId} {ds : List (DataW H)} {j : Nat}
    (hsz : (DataW.weightsEach P ts ds).all (· ≤ reachBytes) = true) (ht : ts[j]? = some t) (hd : ds[j]? = some d) (hu : P.underlying t = some (.slice e)) (he : P.underlying e = some (.int k)) (hc : P.cellsOf e = 1) {B : Nat} (hB : P.bytesOf e = B)
    (h : DataW.Trod enc P W base spare held t (.slice a len cap) d ps) : len * B ≤ 140737488351232 := Go.Proofs.YtobpbnbjdpdflacW.PrintWords.sized_ints hsz ht hd hu he hc hB h
end Go.Proofs.Ytobpbnbjdpdflac
