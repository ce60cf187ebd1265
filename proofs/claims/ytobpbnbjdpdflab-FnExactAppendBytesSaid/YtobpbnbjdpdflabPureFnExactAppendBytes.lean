/- FnExactAppendBytes holds: for all two byte slices the program's AppendBytes and the reference's agree; neither slice is changed, and the result is in memory of its own. No conditions. -/
import Derived.Test.YtobpbnbjdpdflabPFnExactAppendBytesx2
import Derived.OpenShut
import Derived.Test.YtobpbnbjdpdflabWSized
namespace Go.Proofs.Ytobpbnbjdpdflab.Pure
open Go.RowKit Go.Proofs.Ytobpbnbjdpdflab.PFnExactAppendBytes Go.Proofs.YtobpbnbjdpdflabW.PrintWords Go.Proofs.YtobpbnbjdpdflabW.PrintLast
set_option linter.unusedVariables false
set_option linter.unusedSimpArgs false

def idI (x : Int) : Int := x
def b256 (x : Int) : Int := x % 256

theorem w64 {n : Int} (h : -9223372036854775808 ≤ n) (h' : n ≤ 9223372036854775807) : wrap64 n = n := by unfold wrap64; omega
theorem w64_lo (n : Int) : -9223372036854775808 ≤ wrap64 n := by unfold wrap64; omega
theorem w64_hi (n : Int) : wrap64 n ≤ 9223372036854775807 := by unfold wrap64; omega
theorem of_wf {n : Int} (h : (Lit.int .i64 n).wf = true) : -9223372036854775808 ≤ n ∧ n ≤ 9223372036854775807 := bounds_i64 h
theorem of_wf8 {n : Int} (h : (Lit.int .u8 n).wf = true) : 0 ≤ n ∧ n ≤ 255 := bounds_u8 h
theorem and_le (x : Int) (m : Nat) (hm : m < 9223372036854775808) : 0 ≤ bits .and .i64 x (m : Int) ∧ bits .and .i64 x (m : Int) ≤ m := by
  unfold bits
  rw [Go.IntKind.wrap_i64]
  simp only [BitVec.toNat_and]
  have h1 : (BitVec.ofInt IntKind.i64.bits (m : Int)).toNat = m := by
    rw [BitVec.ofInt_natCast, BitVec.toNat_ofNat]
    exact Nat.mod_eq_of_lt (by show m < 2 ^ 64; omega)
  rw [h1]
  have h2 : (BitVec.ofInt IntKind.i64.bits x).toNat &&& m ≤ m := Nat.and_le_right
  omega
theorem and255 (x : Int) : 0 ≤ bits .and .i64 x 255 ∧ bits .and .i64 x 255 ≤ 255 := and_le x 255 (by decide)
theorem tmod_lt {x n : Int} (h0 : 0 ≤ x) (hn : 0 < n) : 0 ≤ Int.tmod x n ∧ Int.tmod x n < n := by
  rw [Int.tmod_eq_emod_of_nonneg h0]
  exact ⟨Int.emod_nonneg _ (by omega), Int.emod_lt_of_pos _ hn⟩

theorem rd_nat (x : List Int) (i : Nat) (h : i < x.length) : rd x (i : Int) = x[i] := by
  unfold rd
  rw [List.getD_eq_getElem?_getD, Int.toNat_natCast, List.getElem?_eq_getElem h]
  rfl
theorem cast_succ (i : Nat) (h : i < 4611686018427387904) : wrap64 ((i : Int) + 1) = ((i + 1 : Nat) : Int) := by
  rw [w64 (by omega) (by omega)]
  rfl
theorem drop_cons {α : Type} (x : List α) (i : Nat) (h : i < x.length) : x.drop i = x[i] :: x.drop (i + 1) := List.drop_eq_getElem_cons h

theorem toByteS_l0 (x : List Int) (hx : x.length ≤ 140737488351232) : ∀ (d k : Nat) (y : List Int) (i : Nat), i + d = x.length → d < k → y.length = x.length → (∀ j : Nat, j < i → y[j]? = x[j]?) → laws_toByteS.l0 k x y (i : Int) = some x := by
  intro d
  induction d with
  | zero =>
    intro k y i hd hk hl hj
    obtain ⟨k, rfl⟩ : ∃ m, k = m + 1 := ⟨k - 1, by omega⟩
    simp only [laws_toByteS.l0]
    rw [if_neg (by omega)]
    congr 1
    apply List.ext_getElem?
    intro j
    by_cases hj' : j < i
    · exact hj j hj'
    · rw [List.getElem?_eq_none (by omega), List.getElem?_eq_none (by omega)]
  | succ d ih =>
    intro k y i hd hk hl hj
    obtain ⟨k, rfl⟩ : ∃ m, k = m + 1 := ⟨k - 1, by omega⟩
    simp only [laws_toByteS.l0]
    rw [if_pos (by omega), if_pos (by omega), if_pos (by omega), cast_succ i (by omega), rd_nat x i (by omega)]
    refine ih k _ (i + 1) (by omega) (by omega) (by simpa using hl) ?_
    intro j hj1
    rw [Int.toNat_natCast, List.getElem?_set]
    by_cases e : i = j
    · subst e
      rw [if_pos rfl, if_pos (by omega), List.getElem?_eq_getElem (by omega)]
    · rw [if_neg e]
      exact hj j (by omega)
theorem toByteS_some (x : List Int) (hx : x.length ≤ 1048576) (k : Nat) (hk : x.length < k) : laws_toByteS.f k x = some x := by
  unfold laws_toByteS.f
  rw [if_pos (by omega), if_pos (by omega)]
  exact toByteS_l0 x (by omega) x.length k _ 0 (by omega) hk (by simp) (by omega)

theorem eqByteS_l0 (x y : List Int) (hx : x.length ≤ 140737488351232) (hl : x.length = y.length) : ∀ (d k i : Nat), i + d = x.length → d < k → laws_eqByteS.l0 k x y (i : Int) = some (decide (x.drop i = y.drop i)) := by
  intro d
  induction d with
  | zero =>
    intro k i hd hk
    obtain ⟨k, rfl⟩ : ∃ m, k = m + 1 := ⟨k - 1, by omega⟩
    simp only [laws_eqByteS.l0]
    rw [if_neg (by omega), List.drop_eq_nil_of_le (by omega), List.drop_eq_nil_of_le (by omega)]
    simp
  | succ d ih =>
    intro k i hd hk
    obtain ⟨k, rfl⟩ : ∃ m, k = m + 1 := ⟨k - 1, by omega⟩
    simp only [laws_eqByteS.l0]
    rw [if_pos (by omega), if_pos (by omega), if_pos (by omega), cast_succ i (by omega), rd_nat x i (by omega), rd_nat y i (by omega), ih k (i + 1) (by omega) (by omega), drop_cons x i (by omega), drop_cons y i (by omega)]
    by_cases e : x[i] = y[i]
    · rw [if_pos e]
      simp only [List.cons.injEq, e, true_and]
    · rw [if_neg e]
      simp only [List.cons.injEq, e, false_and, decide_false]
theorem eqByteS_some (x y : List Int) (hx : x.length ≤ 140737488351232) (k : Nat) (hk : x.length < k) : laws_eqByteS.f k x y = some (decide (x = y)) := by
  unfold laws_eqByteS.f
  by_cases h : x.length = y.length
  · rw [if_pos (by omega)]
    exact eqByteS_l0 x y hx h x.length k 0 (by omega) hk
  · rw [if_neg (by omega)]
    have : x ≠ y := fun e => h (by rw [e])
    simp [this]

/-- The marks from m on. -/
theorem markByte_l0 (n : Nat) (hn : n ≤ 70368744177664) : ∀ (d k i : Nat) (x : List Int) (m : Int), i + d = n → d < k → x.length = n → 0 ≤ m → m ≤ i + 1 → ∃ y, laws_markByteS.l0 k x m (i : Int) = some (m + d, y) ∧ y.length = n ∧
    (∀ j : Nat, j < i → y[j]? = x[j]?) ∧ (∀ j : Nat, i ≤ j → j < n → y[j]? = some (b256 (m + (j - i)))) := by
  intro d
  induction d with
  | zero =>
    intro k i x m hd hk hl h0 h1
    obtain ⟨k, rfl⟩ : ∃ m, k = m + 1 := ⟨k - 1, by omega⟩
    refine ⟨x, ?_, hl, fun _ _ => rfl, fun j a b => by omega⟩
    simp only [laws_markByteS.l0]
    rw [if_neg (by omega)]
    simp
  | succ d ih =>
    intro k i x m hd hk hl h0 h1
    obtain ⟨k, rfl⟩ : ∃ m, k = m + 1 := ⟨k - 1, by omega⟩
    obtain ⟨y, e, hy, h2, h3⟩ := ih k (i + 1) (x.set i (b256 m)) (m + 1) (by omega) (by omega) (by simpa using hl) (by omega) (by omega)
    refine ⟨y, ?_, hy, fun j hj => ?_, fun j a b => ?_⟩
    · simp only [laws_markByteS.l0]
      rw [if_pos (by omega), if_pos (by omega), cast_succ i (by omega), w64 (n := m + 1) (by omega) (by omega), Int.toNat_natCast]
      refine e.trans ?_
      congr 2
      omega
    · rw [h2 j (by omega), List.getElem?_set_ne (by omega)]
    · by_cases ej : j = i
      · subst ej
        rw [h2 j (by omega), List.getElem?_set_self (by omega)]
        congr 2
        omega
      · rw [h3 j (by omega) b]
        congr 2
        omega
theorem heldByte_l0 (n : Nat) (hn : n ≤ 70368744177664) (y : List Int) (hy : y.length = n) (hm : ∀ j : Nat, j < n → y[j]? = some (b256 (1 + j))) : ∀ (d k i : Nat), i + d = n → d < k → laws_heldByteS.l0 k y (1 + i) (i : Int) = some (1 + (n : Int)) := by
  intro d
  induction d with
  | zero =>
    intro k i hd hk
    obtain ⟨k, rfl⟩ : ∃ m, k = m + 1 := ⟨k - 1, by omega⟩
    simp only [laws_heldByteS.l0]
    rw [if_neg (by omega), show i = n by omega]
  | succ d ih =>
    intro k i hd hk
    obtain ⟨k, rfl⟩ : ∃ m, k = m + 1 := ⟨k - 1, by omega⟩
    have e : y[i] = b256 (1 + i) := by
      have := hm i (by omega)
      rw [List.getElem?_eq_getElem (by omega)] at this
      exact Option.some.inj this
    simp only [laws_heldByteS.l0]
    rw [if_pos (by omega), if_pos (by omega), rd_nat y i (by omega), if_pos (by rw [e]; rfl), cast_succ i (by omega), w64 (n := 1 + (i : Int) + 1) (by omega) (by omega), show (1 + (i : Int) + 1) = 1 + ((i + 1 : Nat) : Int) by omega]
    exact ih k (i + 1) (by omega) (by omega)
/-- Marked, a row is held. -/
theorem markByte_some (x : List Int) (hn : x.length ≤ 70368744177664) (k : Nat) (hk : x.length < k) : ∃ y, laws_markByteS.f k x 1 = some (1 + (x.length : Int), y) ∧ ∀ k', x.length < k' → laws_heldByteS.f k' y 1 = some (1 + (x.length : Int)) := by
  obtain ⟨y, e, hy, _, h3⟩ := markByte_l0 x.length hn x.length k 0 x 1 (by omega) hk rfl (by omega) (by omega)
  refine ⟨y, e, fun k' hk' => ?_⟩
  exact heldByte_l0 x.length hn y hy (fun j hj => by rw [h3 j (by omega) hj]; congr 2) x.length k' 0 (by omega) hk'

theorem markByte_from_l0 (n : Nat) (hn : n ≤ 70368744177664) : ∀ (d k i : Nat) (x : List Int) (m : Int), i + d = n → d < k → x.length = n → 0 ≤ m → m ≤ 1000000000000000 + i → ∃ y, laws_markByteS.l0 k x m (i : Int) = some (m + d, y) := by
  intro d
  induction d with
  | zero =>
    intro k i x m hd hk hl h0 h1
    obtain ⟨k, rfl⟩ : ∃ m, k = m + 1 := ⟨k - 1, by omega⟩
    refine ⟨x, ?_⟩
    simp only [laws_markByteS.l0]
    rw [if_neg (by omega)]
    simp
  | succ d ih =>
    intro k i x m hd hk hl h0 h1
    obtain ⟨k, rfl⟩ : ∃ m, k = m + 1 := ⟨k - 1, by omega⟩
    simp only [laws_markByteS.l0]
    rw [if_pos (by omega), if_pos (by omega), cast_succ i (by omega), w64 (n := m + 1) (by omega) (by omega)]
    obtain ⟨y, e⟩ := ih k (i + 1) (x.set (i : Int).toNat _) (m + 1) (by omega) (by omega) (by simpa using hl) (by omega) (by omega)
    exact ⟨y, e.trans (by congr 2; omega)⟩
theorem markByte_from (x : List Int) (hn : x.length ≤ 70368744177664) (m : Int) (h0 : 0 ≤ m) (h1 : m ≤ 1000000000000000) (k : Nat) (hk : x.length < k) : ∃ y, laws_markByteS.f k x m = some (m + x.length, y) := markByte_from_l0 x.length hn x.length k 0 x m (by omega) hk rfl h0 (by omega)

theorem wraps_i64 (n : Int) (h0 : 0 ≤ n) (h1 : n < 2 ^ 63) : IntKind.i64.wrap n = n := by
  rw [show (2 : Int) ^ 63 = 9223372036854775808 by decide] at h1
  rw [Go.IntKind.wrap_i64]
  omega
theorem bits_or_comm (x y : Int) : bits .or .i64 x y = bits .or .i64 y x := by
  unfold bits
  simp only [BitVec.or_comm]
theorem or_i64 (i : Nat) (x y p : Int) (hp : (2 : Int) ^ i = p) (hx0 : 0 ≤ x) (hx : x % p = 0) (hx1 : x < 4611686018427387904) (hy0 : 0 ≤ y) (hy : y < p) (hp1 : p ≤ 4611686018427387904) : bits .or .i64 y x = y + x := by
  subst hp
  rw [bits_or_comm, bits_join .i64 63 (by decide) wraps_i64 i x y hx0 hx (by rw [show (2 : Int) ^ 63 = 9223372036854775808 by decide]; omega) hy0 hy (by rw [show (2 : Int) ^ 63 = 9223372036854775808 by decide]; omega)]
  omega
theorem shl_i64 (i : Nat) (hi : i ≤ 42) (v p : Int) (hp : (2 : Int) ^ i = p) (h0 : 0 ≤ v * p) (h1 : v * p < 9223372036854775808) : shl .i64 v (i : Int) = v * p := by
  unfold shl
  rw [Int.toNat_natCast, Nat.min_eq_left (by show i ≤ 64; omega), hp, Go.IntKind.wrap_i64]
  omega
/-- What a varint's byte number k weighs. -/
def pw7 : Nat → Int
  | 0 => 1
  | k + 1 => 128 * pw7 k
theorem pw7_two : ∀ k, (2 : Int) ^ (7 * k) = pw7 k
  | 0 => rfl
  | k + 1 => by
    rw [show 7 * (k + 1) = 7 * k + 7 by omega, Int.pow_add, pw7_two k]
    show pw7 k * 128 = 128 * pw7 k
    omega
theorem pw7_bd (k : Nat) (hk : k ≤ 6) : 1 ≤ pw7 k ∧ pw7 k ≤ 4398046511104 := by
  obtain rfl | rfl | rfl | rfl | rfl | rfl | rfl : k = 0 ∨ k = 1 ∨ k = 2 ∨ k = 3 ∨ k = 4 ∨ k = 5 ∨ k = 6 := by omega
  all_goals decide
theorem mul_bd {v p : Int} (h0 : 0 ≤ v) (h1 : v < 128) (hp : 1 ≤ p) : 0 ≤ v * p ∧ v * p ≤ 127 * p := by
  constructor
  · exact Int.mul_nonneg h0 (by omega)
  · exact Int.mul_le_mul_of_nonneg_right (by omega) (by omega)
theorem or_step (k : Nat) (hk : k < 6) (n v : Int) (hn : 0 ≤ n) (hn' : n < pw7 k) (hv : 0 ≤ v) (hv' : v < 128) :
    bits .or .i64 n (shl .i64 v (wrap64 (7 * (k : Int)))) = n + v * pw7 k ∧ 0 ≤ n + v * pw7 k ∧ n + v * pw7 k < pw7 (k + 1) := by
  have hb := pw7_bd k (by omega)
  have hm := mul_bd hv hv' hb.1
  have e : wrap64 (7 * (k : Int)) = ((7 * k : Nat) : Int) := by rw [w64 (by omega) (by omega)]; omega
  rw [e, shl_i64 (7 * k) (by omega) v (pw7 k) (pw7_two k) hm.1 (by omega), or_i64 (7 * k) (v * pw7 k) n (pw7 k) (pw7_two k) hm.1 (Int.mul_emod_left _ _) (by omega) hn hn' (by omega)]
  refine ⟨rfl, by omega, ?_⟩
  show _ < 128 * pw7 k
  omega
theorem and127_i64 (x : Int) (h0 : 0 ≤ x) (h1 : x ≤ 255) : bits .and .i64 x 127 = x % 128 := bits_mask .i64 63 (by decide) wraps_i64 7 (by decide) x h0 (by rw [show (2 : Int) ^ 63 = 9223372036854775808 by decide]; omega)
theorem and127_u8 (x : Int) (h0 : 0 ≤ x) (h1 : x ≤ 255) : bits .and .u8 x 127 = x % 128 := bits_mask .u8 8 (by decide) wraps_u8 7 (by decide) x h0 (by rw [show (2 : Int) ^ 8 = 256 by decide]; omega)
set_option maxRecDepth 100000 in
theorem and128_u8 (x : Int) (h0 : 0 ≤ x) (h1 : x ≤ 255) : bits .and .u8 x 128 = 0 ↔ x < 128 := by
  have key : ∀ y : Fin 256, bits .and .u8 (y.val : Int) 128 = 0 ↔ (y.val : Int) < 128 := by decide
  have := key ⟨x.toNat, by omega⟩
  rwa [show ((⟨x.toNat, by omega⟩ : Fin 256).val : Int) = x by show (x.toNat : Int) = x; omega] at this

/-- A varint read from a row of bytes: its number and how many bytes it takes. f: rounds left, k: rounds done, n: what they gave. -/
def rv : Nat → Nat → Int → List Int → Option (Int × Nat)
  | 0, _, _, _ => none
  | _ + 1, _, _, [] => none
  | f + 1, k, n, x :: r => if x < 128 then (if x = 0 ∧ 0 < k then none else if n + x % 128 * pw7 k > 1000000000000 then none else some (n + x % 128 * pw7 k, k + 1)) else rv f (k + 1) (n + x % 128 * pw7 k) r
def rvOut (a : Int) : Option (Int × Nat) → Int × Int × Bool
  | none => (0, 0, false)
  | some (n, c) => (n, a + c, true)
/-- What ReadUvarint gives. -/
def readU (b : List Int) (a : Int) : Int × Int × Bool := if 0 ≤ a ∧ a < b.length then rvOut a (rv 6 0 0 (b.drop a.toNat)) else (0, 0, false)

def inR (x lo hi : Int) : Bool := decide (lo ≤ x) && decide (x ≤ hi)
theorem inR_true {x lo hi : Int} : inR x lo hi = true ↔ lo ≤ x ∧ x ≤ hi := by simp [inR]
theorem inR_false {x lo hi : Int} : inR x lo hi = false ↔ ¬ (lo ≤ x ∧ x ≤ hi) := by simp [inR]

/-- The bytes of a varint; g: how many more may follow the first. -/
def uvL : Nat → Int → List Int
  | 0, n => [n]
  | g + 1, n => if n ≥ 128 then (n % 128 + 128) :: uvL g (n / 128) else [n]
def uvI (n : Int) : List Int := if inR n 0 1000000000000 = true then uvL 5 n else []
theorem uvL_len : ∀ (g : Nat) (n : Int), 1 ≤ (uvL g n).length ∧ (uvL g n).length ≤ g + 1
  | 0, n => by simp [uvL]
  | g + 1, n => by
    simp only [uvL]
    split
    · have := uvL_len g (n / 128)
      simp only [List.length_cons]
      omega
    · simp
theorem uvI_len (n : Int) : (uvI n).length ≤ 6 := by
  unfold uvI
  split
  · exact (uvL_len 5 n).2
  · simp
theorem uvL_byte : ∀ (g : Nat) (n : Int), 0 ≤ n → n < pw7 (g + 1) → ∀ v ∈ uvL g n, 0 ≤ v ∧ v ≤ 255
  | 0, n, h0, h1, v, hv => by
    have h1' : n < 128 * 1 := h1
    simp only [uvL, List.mem_singleton] at hv
    omega
  | g + 1, n, h0, h1, v, hv => by
    have h1' : n < 128 * pw7 (g + 1) := h1
    simp only [uvL] at hv
    split at hv
    · rcases List.mem_cons.1 hv with rfl | hv
      · omega
      · exact uvL_byte g (n / 128) (by omega) (by omega) v hv
    · simp only [List.mem_singleton] at hv
      omega
theorem uvI_byte (n : Int) : ∀ v ∈ uvI n, 0 ≤ v ∧ v ≤ 255 := by
  intro v hv
  unfold uvI at hv
  split at hv
  · rename_i h
    rw [inR_true] at h
    exact uvL_byte 5 n (by omega) (by have : pw7 6 = 4398046511104 := by decide
                                      show n < pw7 6
                                      omega) v hv
  · simp at hv
theorem byte_or (x : Int) (h0 : 0 ≤ x) (h1 : x ≤ 9223372036854775807) : (bits .or .i64 (bits .and .i64 x 127) 128) % 256 = x % 128 + 128 := by
  have e : bits .and .i64 x 127 = x % 128 := bits_mask .i64 63 (by decide) wraps_i64 7 (by decide) x h0 (by rw [show (2 : Int) ^ 63 = 9223372036854775808 by decide]; omega)
  rw [e, or_i64 7 128 (x % 128) 128 (by decide) (by omega) (by decide) (by omega) (by omega) (by omega) (by omega)]
  omega
theorem mul_parts (n p : Int) : n % 128 * p + n / 128 * (128 * p) = n * p := by
  have h : n = 128 * (n / 128) + n % 128 := by omega
  generalize n / 128 = q at *
  generalize n % 128 = r at *
  subst h
  rw [Int.add_mul, Int.mul_assoc 128 q p, Int.mul_left_comm q 128 p]
  omega
/-- A varint is read back. -/
theorem rv_uvL : ∀ (g f k : Nat) (acc n : Int) (rest : List Int), f + k = 6 → g + 1 ≤ f → 0 ≤ acc → acc < pw7 k → 0 ≤ n → n < pw7 (g + 1) → (n = 0 → k = 0) → acc + n * pw7 k ≤ 1000000000000 →
    rv f k acc (uvL g n ++ rest) = some (acc + n * pw7 k, k + (uvL g n).length)
  | 0, f, k, acc, n, rest, hf, hg, h0, h1, hn, hn1, hz, hm => by
    obtain ⟨f, rfl⟩ : ∃ m, f = m + 1 := ⟨f - 1, by omega⟩
    have hn1' : n < 128 * 1 := hn1
    simp only [uvL, List.cons_append, List.nil_append, rv]
    rw [if_pos (by omega), if_neg (by omega), show n % 128 = n by omega, if_neg (by omega)]
    rfl
  | g + 1, f, k, acc, n, rest, hf, hg, h0, h1, hn, hn1, hz, hm => by
    obtain ⟨f, rfl⟩ : ∃ m, f = m + 1 := ⟨f - 1, by omega⟩
    have hn1' : n < 128 * pw7 (g + 1) := hn1
    have hb := pw7_bd k (by omega)
    simp only [uvL]
    by_cases c : n ≥ 128
    · rw [if_pos c]
      have hp : pw7 (k + 1) = 128 * pw7 k := rfl
      have hmp := mul_parts n (pw7 k)
      have hr := mul_bd (v := n % 128) (p := pw7 k) (by omega) (by omega) hb.1
      simp only [List.cons_append, rv, List.length_cons]
      rw [if_neg (by omega), show (n % 128 + 128) % 128 = n % 128 by omega,
        rv_uvL g f (k + 1) (acc + n % 128 * pw7 k) (n / 128) rest (by omega) (by omega) (by omega) (by rw [hp]; omega) (by omega) (by omega) (by omega) (by rw [hp]; omega), hp]
      congr 2
      · omega
      · omega
    · rw [if_neg c]
      simp only [List.cons_append, List.nil_append, rv]
      rw [if_pos (by omega), if_neg (by omega), show n % 128 = n by omega, if_neg (by omega)]
      rfl
theorem readU_uvI (b rest : List Int) (n : Int) (hn : 0 ≤ n) (hn1 : n ≤ 1000000000000) : readU (b ++ (uvI n ++ rest)) (b.length : Int) = (n, ((b.length + (uvI n).length : Nat) : Int), true) := by
  have hu : uvI n = uvL 5 n := by unfold uvI; rw [if_pos (inR_true.mpr ⟨hn, hn1⟩)]
  have hl := uvL_len 5 n
  have h6 : pw7 6 = 4398046511104 := by decide
  have h0 : pw7 0 = 1 := rfl
  unfold readU
  rw [if_pos (by rw [List.length_append, List.length_append, hu]; omega), Int.toNat_natCast, List.drop_left, hu, rv_uvL 5 6 0 0 n rest rfl (by omega) (by omega) (by omega) hn (by show n < pw7 6; omega) (fun _ => rfl) (by rw [h0]; omega), h0]
  simp only [rvOut]
  congr 2
  · omega
  · omega
/-- What is read is the varint of its number. -/
theorem rv_inv : ∀ (f k : Nat) (acc : Int) (r : List Int) (m : Int) (c : Nat), f + k = 6 → (∀ v ∈ r, 0 ≤ v ∧ v ≤ 255) → rv f k acc r = some (m, c) →
    ∃ n, m = acc + n * pw7 k ∧ 0 ≤ n ∧ (0 < k → 1 ≤ n) ∧ n < pw7 f ∧ k < c ∧ c ≤ k + r.length ∧ r.take (c - k) = uvL (f - 1) n
  | 0, _, _, _, _, _, _, _, h => by simp [rv] at h
  | _ + 1, _, _, [], _, _, _, _, h => by simp [rv] at h
  | f + 1, k, acc, x :: r, m, c, hf, hb, h => by
    have hx := hb x (by simp)
    have hpf := pw7_bd f (by omega)
    have hp1 : pw7 (f + 1) = 128 * pw7 f := rfl
    simp only [rv] at h
    by_cases c1 : x < 128
    · rw [if_pos c1] at h
      by_cases c2 : x = 0 ∧ 0 < k
      · rw [if_pos c2] at h; cases h
      · rw [if_neg c2] at h
        by_cases c3 : acc + x % 128 * pw7 k > 1000000000000
        · rw [if_pos c3] at h; cases h
        · rw [if_neg c3] at h
          simp only [Option.some.injEq, Prod.mk.injEq] at h
          obtain ⟨rfl, rfl⟩ := h
          refine ⟨x % 128, rfl, by omega, fun hk => by omega, by omega, by omega, by simp, ?_⟩
          rw [show k + 1 - k = 1 by omega, show x % 128 = x by omega]
          simp only [List.take_succ_cons, List.take_zero, Nat.add_sub_cancel]
          cases f with
          | zero => rfl
          | succ f =>
            simp only [uvL]
            rw [if_neg (by omega)]
    · rw [if_neg c1] at h
      have hp : pw7 (k + 1) = 128 * pw7 k := rfl
      obtain ⟨n, e1, e2, e3, e4, e5, e6, e7⟩ := rv_inv f (k + 1) _ r m c (by omega) (fun v hv => hb v (by simp [hv])) h
      have e3' := e3 (by omega)
      refine ⟨x % 128 + 128 * n, ?_, by omega, fun _ => by omega, by omega, by omega, by simp only [List.length_cons]; omega, ?_⟩
      · rw [e1, hp]
        have := mul_parts (x % 128 + 128 * n) (pw7 k)
        rw [show (x % 128 + 128 * n) % 128 = x % 128 by omega, show (x % 128 + 128 * n) / 128 = n by omega] at this
        omega
      · rw [show c - k = (c - (k + 1)) + 1 by omega]
        simp only [List.take_succ_cons, Nat.add_sub_cancel, e7]
        cases f with
        | zero => exfalso; have : pw7 0 = 1 := rfl; omega
        | succ f =>
          simp only [uvL, Nat.add_sub_cancel]
          rw [if_pos (by omega), show (x % 128 + 128 * n) % 128 + 128 = x by omega, show (x % 128 + 128 * n) / 128 = n by omega]
theorem readU_inv {b : List Int} (hb : ∀ v ∈ b, 0 ≤ v ∧ v ≤ 255) {a n nx : Int} (h : readU b a = (n, nx, true)) : 0 ≤ a ∧ a < nx ∧ nx ≤ b.length ∧ 0 ≤ n ∧ n ≤ 1000000000000 ∧ (b.take nx.toNat).drop a.toNat = uvI n := by
  unfold readU at h
  by_cases c : 0 ≤ a ∧ a < b.length
  · rw [if_pos c] at h
    cases e : rv 6 0 0 (b.drop a.toNat) with
    | none => rw [e] at h; simp [rvOut] at h
    | some p =>
      obtain ⟨m, ct⟩ := p
      rw [e] at h
      simp only [rvOut, Prod.mk.injEq] at h
      obtain ⟨rfl, rfl, _⟩ := h
      obtain ⟨q, e1, e2, _, e4, e5, e6, e7⟩ := rv_inv 6 0 0 _ m ct rfl (fun v hv => hb v (List.mem_of_mem_drop hv)) e
      have h0 : pw7 0 = 1 := rfl
      rw [h0] at e1
      have hq : m = q := by omega
      subst hq
      rw [List.length_drop] at e6
      have hm : m ≤ 1000000000000 := by
        have : ∀ (f k : Nat) (acc : Int) (r : List Int) (m : Int) (c : Nat), rv f k acc r = some (m, c) → m ≤ 1000000000000 := by
          intro f
          induction f with
          | zero => intro k acc r m c h; simp [rv] at h
          | succ f ih =>
            intro k acc r m c h
            cases r with
            | nil => simp [rv] at h
            | cons x r =>
              simp only [rv] at h
              split at h
              · split at h
                · cases h
                · split at h
                  · cases h
                  · simp only [Option.some.injEq, Prod.mk.injEq] at h
                    omega
              · exact ih _ _ _ _ _ h
        exact this _ _ _ _ _ _ e
      refine ⟨c.1, by omega, by omega, e2, hm, ?_⟩
      rw [show (a + (ct : Int)).toNat = a.toNat + ct by omega, List.drop_take, show a.toNat + ct - a.toNat = ct by omega]
      rw [Nat.sub_zero] at e7
      rw [e7]
      unfold uvI
      rw [if_pos (inR_true.mpr ⟨e2, hm⟩)]
  · rw [if_neg c] at h
    simp at h

def appB (a d : List Int) : List Int := a ++ uvI (d.length : Int) ++ d
theorem appB_len (a d : List Int) : (appB a d).length ≤ a.length + d.length + 6 := by
  have := uvI_len (d.length : Int)
  simp only [appB, List.length_append]
  omega

theorem sIn (x lo hi : Int) : spec_l1In.f x lo hi = some (inR x lo hi) := by
  unfold spec_l1In.f inR
  by_cases h : lo ≤ x <;> simp [h]

theorem sAppU_l0 : ∀ (g k : Nat) (n : Int) (o : List Int), g < k → 0 ≤ n → n < pw7 (g + 1) → g ≤ 5 → o.length + g < 140737488355328 → spec_AppendUvarint.l0 k n o = some (o ++ uvL g n) := by
  intro g
  induction g with
  | zero =>
    intro k n o hk h0 h1 hg ho
    obtain ⟨k, rfl⟩ : ∃ m, k = m + 1 := ⟨k - 1, by omega⟩
    have h1' : n < 128 * 1 := h1
    simp only [spec_AppendUvarint.l0]
    rw [if_neg (by omega), if_pos (by omega), show n % 256 = n by omega]
    rfl
  | succ g ih =>
    intro k n o hk h0 h1 hg ho
    obtain ⟨k, rfl⟩ : ∃ m, k = m + 1 := ⟨k - 1, by omega⟩
    have h1' : n < 128 * pw7 (g + 1) := h1
    have hb := pw7_bd (g + 1) (by omega)
    simp only [spec_AppendUvarint.l0, uvL]
    by_cases c : n ≥ 128
    · rw [if_pos (by omega), if_pos (by omega), if_pos c, byte_or n h0 (by omega), ih k (n / 128) _ (by omega) (by omega) (by omega) (by omega) (by simp; omega), List.append_assoc]
      rfl
    · rw [if_neg (by omega), if_pos (by omega), if_neg c, show n % 256 = n by omega]
theorem sAppU (b : List Int) (n : Int) (hb : b.length ≤ 100000000000000) (k : Nat) (hk : 6 ≤ k) : spec_AppendUvarint.f k b n = some (b ++ uvI n) := by
  unfold spec_AppendUvarint.f uvI
  simp only [Option.bind_some, sIn, List.nil_append, List.length_nil]
  rw [if_pos (by omega)]
  by_cases h : inR n 0 1000000000000 = true
  · rw [if_pos h, if_pos h]
    rw [inR_true] at h
    have h6 : pw7 6 = 4398046511104 := by decide
    exact sAppU_l0 5 k n b (by omega) h.1 (by show n < pw7 6; omega) (by omega) (by omega)
  · rw [if_neg h, if_neg h, List.append_nil]

theorem sAppB (a d : List Int) (ha : a.length ≤ 10000000000000) (hd : d.length ≤ 10000000000000) (k : Nat) (hk : 6 ≤ k) : spec_AppendBytes.f k a d = some (appB a d) := by
  unfold spec_AppendBytes.f appB
  rw [sAppU a _ (by omega) k hk, Option.bind_some]
  have := uvI_len (d.length : Int)
  rw [if_pos (by simp only [List.length_append]; omega)]

theorem iIn (x lo hi : Int) : impl_InRange.f x lo hi = some (inR x lo hi) := by
  unfold impl_InRange.f inR
  by_cases h : lo ≤ x <;> simp [h]

theorem iAppU_l0 : ∀ (g k : Nat) (n : Int) (o : List Int), g < k → 0 ≤ n → n < pw7 (g + 1) → g ≤ 5 → o.length + g < 140737488355328 → impl_AppendUvarint.l0 k n o = some (o ++ uvL g n) := by
  intro g
  induction g with
  | zero =>
    intro k n o hk h0 h1 hg ho
    obtain ⟨k, rfl⟩ : ∃ m, k = m + 1 := ⟨k - 1, by omega⟩
    have h1' : n < 128 * 1 := h1
    simp only [impl_AppendUvarint.l0]
    rw [if_neg (by omega), if_pos (by omega), show n % 256 = n by omega]
    rfl
  | succ g ih =>
    intro k n o hk h0 h1 hg ho
    obtain ⟨k, rfl⟩ : ∃ m, k = m + 1 := ⟨k - 1, by omega⟩
    have h1' : n < 128 * pw7 (g + 1) := h1
    have hb := pw7_bd (g + 1) (by omega)
    simp only [impl_AppendUvarint.l0, uvL]
    by_cases c : n ≥ 128
    · rw [if_pos (by omega), if_pos (by omega), if_pos c, byte_or n h0 (by omega), ih k (n / 128) _ (by omega) (by omega) (by omega) (by omega) (by simp; omega), List.append_assoc]
      rfl
    · rw [if_neg (by omega), if_pos (by omega), if_neg c, show n % 256 = n by omega]
theorem iAppU (b : List Int) (n : Int) (hb : b.length ≤ 100000000000000) (k : Nat) (hk : 6 ≤ k) : impl_AppendUvarint.f k b n = some (b ++ uvI n) := by
  unfold impl_AppendUvarint.f uvI slices_Clone_byte_byte.f
  rw [if_pos (by omega)]
  simp only [Option.bind_some, iIn]
  by_cases h : inR n 0 1000000000000 = true
  · rw [if_pos h, if_pos h]
    rw [inR_true] at h
    have h6 : pw7 6 = 4398046511104 := by decide
    exact iAppU_l0 5 k n b (by omega) h.1 (by show n < pw7 6; omega) (by omega) (by omega)
  · rw [if_neg h, if_neg h, List.append_nil]

theorem iAppB (a d : List Int) (ha : a.length ≤ 10000000000000) (hd : d.length ≤ 10000000000000) (k : Nat) (hk : 6 ≤ k) : impl_AppendBytes.f k a d = some (appB a d) := by
  unfold impl_AppendBytes.f appB
  rw [iAppU a _ (by omega) k hk, Option.bind_some]
  have := uvI_len (d.length : Int)
  rw [if_pos (by simp only [List.length_append]; omega)]

theorem FnExactAppendBytes : laws_FnExactAppendBytes.Pure := by
  intro a b _ _ _ _ _ _
  by_cases h1 : (a.length : Int) > 1048576
  · exact ⟨0, by unfold laws_FnExactAppendBytes.f; rw [if_pos h1]⟩
  · by_cases h2 : (b.length : Int) > 1048576
    · exact ⟨0, by unfold laws_FnExactAppendBytes.f; rw [if_neg h1, if_pos h2]⟩
    · refine ⟨a.length + b.length + 20, ?_⟩
      have hl := appB_len a b
      obtain ⟨y, em⟩ := markByte_from a (by omega) 1 (by omega) (by omega) (a.length + b.length + 20) (by omega)
      obtain ⟨y', em'⟩ := markByte_from b (by omega) (1 + a.length) (by omega) (by omega) (a.length + b.length + 20) (by omega)
      obtain ⟨z, ez, hz⟩ := markByte_some (appB a b) (by omega) (a.length + b.length + 19) (by omega)
      unfold laws_FnExactAppendBytes.f
      rw [if_neg h1, if_neg h2]
      simp only [toByteS_some a (by omega) _ (show a.length < a.length + b.length + 20 by omega), toByteS_some b (by omega) _ (show b.length < a.length + b.length + 20 by omega), Option.bind_some,
        sAppB a b (by omega) (by omega) _ (show 6 ≤ a.length + b.length + 20 by omega), iAppB a b (by omega) (by omega) _ (show 6 ≤ a.length + b.length + 20 by omega),
        eqByteS_some a a (by omega) _ (show a.length < a.length + b.length + 20 by omega), eqByteS_some b b (by omega) _ (show b.length < a.length + b.length + 20 by omega), eqByteS_some (appB a b) (appB a b) (by omega) _ (show (appB a b).length < a.length + b.length + 20 by omega), em, em', decide_true, if_true, Bool.not_true]
      rw [if_neg (by omega)]
      simp only [laws_FnExactAppendBytes.j0, Bool.false_eq_true, if_false, ez, Option.bind_some, hz _ (show (appB a b).length < a.length + b.length + 19 by omega), toByteS_some a (by omega) _ (show a.length < a.length + b.length + 19 by omega), toByteS_some b (by omega) _ (show b.length < a.length + b.length + 19 by omega),
        iAppB a b (by omega) (by omega) _ (show 6 ≤ a.length + b.length + 19 by omega), eqByteS_some (appB a b) (appB a b) (by omega) _ (show (appB a b).length < a.length + b.length + 19 by omega), decide_true, if_true]
      rw [if_neg (by omega), if_neg (by omega)]

end Go.Proofs.Ytobpbnbjdpdflab.Pure
namespace Go.Proofs.Ytobpbnbjdpdflab
/-- The seat's own word, under the name by which the row asks for it. -/
theorem PrintWords.sized_ints {H : Type} {enc : TypeId × Value → H} {P : Program} {W : World} {base : Nat} {spare : Nat → Bool} {held : Bool} {t e : TypeId} {k : IntKind} {a : Option Addr} {len cap : Nat} {d : DataW H} {ps : List MemPlace} {ts : List TypeId} {ds : List (DataW H)} {j : Nat}
    (hsz : (DataW.weightsEach P ts ds).all (· ≤ reachBytes) = true) (ht : ts[j]? = some t) (hd : ds[j]? = some d) (hu : P.underlying t = some (.slice e)) (he : P.underlying e = some (.int k)) (hc : P.cellsOf e = 1) {B : Nat} (hB : P.bytesOf e = B)
    (h : DataW.Trod enc P W base spare held t (.slice a len cap) d ps) : len * B ≤ 140737488351232 := Go.Proofs.YtobpbnbjdpdflabW.PrintWords.sized_ints hsz ht hd hu he hc hB h
end Go.Proofs.Ytobpbnbjdpdflab
