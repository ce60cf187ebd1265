/- FnExactDecrypt holds: for every secret and every byte slice the program's Decrypt and the reference's agree; the slice is not changed, and the result is in memory of its own. No conditions. -/
import Derived.Test.YtobpbnbjdpdflacPFnExactDecryptx3
import Derived.OpenShut
import Derived.Test.YtobpbnbjdpdflacWSized
namespace Go.Proofs.Ytobpbnbjdpdflac.Pure
open Go.RowKit Go.Proofs.Ytobpbnbjdpdflac.PFnExactDecrypt Go.Proofs.YtobpbnbjdpdflacW.PrintWords Go.Proofs.YtobpbnbjdpdflacW.PrintLast
set_option linter.unusedVariables false
set_option linter.unusedSimpArgs false

def idI (x : Int) : Int := x
def b256 (x : Int) : Int := x % 256

theorem w64 {n : Int} (h : -9223372036854775808 ≤ n) (h' : n ≤ 9223372036854775807) : wrap64 n = n := by unfold wrap64; omega
theorem w64_lo (n : Int) : -9223372036854775808 ≤ wrap64 n := by unfold wrap64; omega
theorem w64_hi (n : Int) : wrap64 n ≤ 9223372036854775807 := by unfold wrap64; omega
theorem of_wf {n : Int} (h : (Lit.int .i64 n).wf = true) : -9223372036854775808 ≤ n ∧ n ≤ 9223372036854775807 := bounds_i64 h
theorem of_wf8 {n : Int} (h : (Lit.int .u8 n).wf = true) : 0 ≤ n ∧ n ≤ 255 := bounds_u8 h
theorem and_le (x : Int) (m : Nat) (hm : m < 9223372036854775808) : 0 ≤ bits .and .i64 x (m : Int) ∧ bits .and .i64 x (m : Int) ≤ m := by
  unfold bits
  rw [Go.IntKind.wrap_i64]
  simp only [BitVec.toNat_and]
  have h1 : (BitVec.ofInt IntKind.i64.bits (m : Int)).toNat = m := by
    rw [BitVec.ofInt_natCast, BitVec.toNat_ofNat]
    exact Nat.mod_eq_of_lt (by show m < 2 ^ 64; omega)
  rw [h1]
  have h2 : (BitVec.ofInt IntKind.i64.bits x).toNat &&& m ≤ m := Nat.and_le_right
  omega
theorem and255 (x : Int) : 0 ≤ bits .and .i64 x 255 ∧ bits .and .i64 x 255 ≤ 255 := and_le x 255 (by decide)
theorem tmod_lt {x n : Int} (h0 : 0 ≤ x) (hn : 0 < n) : 0 ≤ Int.tmod x n ∧ Int.tmod x n < n := by
  rw [Int.tmod_eq_emod_of_nonneg h0]
  exact ⟨Int.emod_nonneg _ (by omega), Int.emod_lt_of_pos _ hn⟩

theorem rd_nat (x : List Int) (i : Nat) (h : i < x.length) : rd x (i : Int) = x[i] := by
  unfold rd
  rw [List.getD_eq_getElem?_getD, Int.toNat_natCast, List.getElem?_eq_getElem h]
  rfl
theorem cast_succ (i : Nat) (h : i < 4611686018427387904) : wrap64 ((i : Int) + 1) = ((i + 1 : Nat) : Int) := by
  rw [w64 (by omega) (by omega)]
  rfl
theorem drop_cons {α : Type} (x : List α) (i : Nat) (h : i < x.length) : x.drop i = x[i] :: x.drop (i + 1) := List.drop_eq_getElem_cons h

theorem toByteS_l0 (x : List Int) (hx : x.length ≤ 140737488351232) : ∀ (d k : Nat) (y : List Int) (i : Nat), i + d = x.length → d < k → y.length = x.length → (∀ j : Nat, j < i → y[j]? = x[j]?) → laws_toByteS.l0 k x y (i : Int) = some x := by
  intro d
  induction d with
  | zero =>
    intro k y i hd hk hl hj
    obtain ⟨k, rfl⟩ : ∃ m, k = m + 1 := ⟨k - 1, by omega⟩
    simp only [laws_toByteS.l0]
    rw [if_neg (by omega)]
    congr 1
    apply List.ext_getElem?
    intro j
    by_cases hj' : j < i
    · exact hj j hj'
    · rw [List.getElem?_eq_none (by omega), List.getElem?_eq_none (by omega)]
  | succ d ih =>
    intro k y i hd hk hl hj
    obtain ⟨k, rfl⟩ : ∃ m, k = m + 1 := ⟨k - 1, by omega⟩
    simp only [laws_toByteS.l0]
    rw [if_pos (by omega), if_pos (by omega), if_pos (by omega), cast_succ i (by omega), rd_nat x i (by omega)]
    refine ih k _ (i + 1) (by omega) (by omega) (by simpa using hl) ?_
    intro j hj1
    rw [Int.toNat_natCast, List.getElem?_set]
    by_cases e : i = j
    · subst e
      rw [if_pos rfl, if_pos (by omega), List.getElem?_eq_getElem (by omega)]
    · rw [if_neg e]
      exact hj j (by omega)
theorem toByteS_some (x : List Int) (hx : x.length ≤ 1048576) (k : Nat) (hk : x.length < k) : laws_toByteS.f k x = some x := by
  unfold laws_toByteS.f
  rw [if_pos (by omega), if_pos (by omega)]
  exact toByteS_l0 x (by omega) x.length k _ 0 (by omega) hk (by simp) (by omega)

theorem eqByteS_l0 (x y : List Int) (hx : x.length ≤ 140737488351232) (hl : x.length = y.length) : ∀ (d k i : Nat), i + d = x.length → d < k → laws_eqByteS.l0 k x y (i : Int) = some (decide (x.drop i = y.drop i)) := by
  intro d
  induction d with
  | zero =>
    intro k i hd hk
    obtain ⟨k, rfl⟩ : ∃ m, k = m + 1 := ⟨k - 1, by omega⟩
    simp only [laws_eqByteS.l0]
    rw [if_neg (by omega), List.drop_eq_nil_of_le (by omega), List.drop_eq_nil_of_le (by omega)]
    simp
  | succ d ih =>
    intro k i hd hk
    obtain ⟨k, rfl⟩ : ∃ m, k = m + 1 := ⟨k - 1, by omega⟩
    simp only [laws_eqByteS.l0]
    rw [if_pos (by omega), if_pos (by omega), if_pos (by omega), cast_succ i (by omega), rd_nat x i (by omega), rd_nat y i (by omega), ih k (i + 1) (by omega) (by omega), drop_cons x i (by omega), drop_cons y i (by omega)]
    by_cases e : x[i] = y[i]
    · rw [if_pos e]
      simp only [List.cons.injEq, e, true_and]
    · rw [if_neg e]
      simp only [List.cons.injEq, e, false_and, decide_false]
theorem eqByteS_some (x y : List Int) (hx : x.length ≤ 140737488351232) (k : Nat) (hk : x.length < k) : laws_eqByteS.f k x y = some (decide (x = y)) := by
  unfold laws_eqByteS.f
  by_cases h : x.length = y.length
  · rw [if_pos (by omega)]
    exact eqByteS_l0 x y hx h x.length k 0 (by omega) hk
  · rw [if_neg (by omega)]
    have : x ≠ y := fun e => h (by rw [e])
    simp [this]

/-- The marks from m on. -/
theorem markByte_l0 (n : Nat) (hn : n ≤ 70368744177664) : ∀ (d k i : Nat) (x : List Int) (m : Int), i + d = n → d < k → x.length = n → 0 ≤ m → m ≤ i + 1 → ∃ y, laws_markByteS.l0 k x m (i : Int) = some (m + d, y) ∧ y.length = n ∧
    (∀ j : Nat, j < i → y[j]? = x[j]?) ∧ (∀ j : Nat, i ≤ j → j < n → y[j]? = some (b256 (m + (j - i)))) := by
  intro d
  induction d with
  | zero =>
    intro k i x m hd hk hl h0 h1
    obtain ⟨k, rfl⟩ : ∃ m, k = m + 1 := ⟨k - 1, by omega⟩
    refine ⟨x, ?_, hl, fun _ _ => rfl, fun j a b => by omega⟩
    simp only [laws_markByteS.l0]
    rw [if_neg (by omega)]
    simp
  | succ d ih =>
    intro k i x m hd hk hl h0 h1
    obtain ⟨k, rfl⟩ : ∃ m, k = m + 1 := ⟨k - 1, by omega⟩
    obtain ⟨y, e, hy, h2, h3⟩ := ih k (i + 1) (x.set i (b256 m)) (m + 1) (by omega) (by omega) (by simpa using hl) (by omega) (by omega)
    refine ⟨y, ?_, hy, fun j hj => ?_, fun j a b => ?_⟩
    · simp only [laws_markByteS.l0]
      rw [if_pos (by omega), if_pos (by omega), cast_succ i (by omega), w64 (n := m + 1) (by omega) (by omega), Int.toNat_natCast]
      refine e.trans ?_
      congr 2
      omega
    · rw [h2 j (by omega), List.getElem?_set_ne (by omega)]
    · by_cases ej : j = i
      · subst ej
        rw [h2 j (by omega), List.getElem?_set_self (by omega)]
        congr 2
        omega
      · rw [h3 j (by omega) b]
        congr 2
        omega
theorem heldByte_l0 (n : Nat) (hn : n ≤ 70368744177664) (y : List Int) (hy : y.length = n) (hm : ∀ j : Nat, j < n → y[j]? = some (b256 (1 + j))) : ∀ (d k i : Nat), i + d = n → d < k → laws_heldByteS.l0 k y (1 + i) (i : Int) = some (1 + (n : Int)) := by
  intro d
  induction d with
  | zero =>
    intro k i hd hk
    obtain ⟨k, rfl⟩ : ∃ m, k = m + 1 := ⟨k - 1, by omega⟩
    simp only [laws_heldByteS.l0]
    rw [if_neg (by omega), show i = n by omega]
  | succ d ih =>
    intro k i hd hk
    obtain ⟨k, rfl⟩ : ∃ m, k = m + 1 := ⟨k - 1, by omega⟩
    have e : y[i] = b256 (1 + i) := by
      have := hm i (by omega)
      rw [List.getElem?_eq_getElem (by omega)] at this
      exact Option.some.inj this
    simp only [laws_heldByteS.l0]
    rw [if_pos (by omega), if_pos (by omega), rd_nat y i (by omega), if_pos (by rw [e]; rfl), cast_succ i (by omega), w64 (n := 1 + (i : Int) + 1) (by omega) (by omega), show (1 + (i : Int) + 1) = 1 + ((i + 1 : Nat) : Int) by omega]
    exact ih k (i + 1) (by omega) (by omega)
/-- Marked, a row is held. -/
theorem markByte_some (x : List Int) (hn : x.length ≤ 70368744177664) (k : Nat) (hk : x.length < k) : ∃ y, laws_markByteS.f k x 1 = some (1 + (x.length : Int), y) ∧ ∀ k', x.length < k' → laws_heldByteS.f k' y 1 = some (1 + (x.length : Int)) := by
  obtain ⟨y, e, hy, _, h3⟩ := markByte_l0 x.length hn x.length k 0 x 1 (by omega) hk rfl (by omega) (by omega)
  refine ⟨y, e, fun k' hk' => ?_⟩
  exact heldByte_l0 x.length hn y hy (fun j hj => by rw [h3 j (by omega) hj]; congr 2) x.length k' 0 (by omega) hk'

def inR (x lo hi : Int) : Bool := decide (lo ≤ x) && decide (x ≤ hi)
theorem inR_true {x lo hi : Int} : inR x lo hi = true ↔ lo ≤ x ∧ x ≤ hi := by simp [inR]
theorem inR_false {x lo hi : Int} : inR x lo hi = false ↔ ¬ (lo ≤ x ∧ x ≤ hi) := by simp [inR]

theorem tmod_tmod {p q : Int} (hq : 0 < q) : Int.tmod (Int.tmod p q + q) q = p % q ∧ -q < Int.tmod p q ∧ Int.tmod p q < q := by
  have h1 : -q < Int.tmod p q := by
    rcases Int.le_total 0 p with h | h
    · have := Int.tmod_nonneg q h
      omega
    · have h2 := Int.tmod_lt_of_pos (-p) hq
      rw [Int.neg_tmod] at h2
      omega
  have h2 : Int.tmod p q < q := Int.tmod_lt_of_pos p hq
  refine ⟨?_, h1, h2⟩
  rw [Int.tmod_eq_emod_of_nonneg (by omega), Int.tmod_def, show p - q * p.tdiv q + q = p + q * (1 - p.tdiv q) by rw [Int.mul_sub, Int.mul_one]; omega, Int.add_mul_emod_self_left]
def modI (p q : Int) : Int := if inR q 1 1000000000000 = true then p % q else 0

/-- One step of the hash. -/
def hstep (s v : Int) : Int := (s * 1000003 + modI v 2147483647 + 13) % 2147483647
def hashI (l : List Int) : Int := l.foldl hstep 11
theorem modI_bd (v : Int) : 0 ≤ modI v 2147483647 ∧ modI v 2147483647 < 2147483647 := by
  unfold modI
  rw [if_pos (by decide)]
  omega
theorem hstep_bd (s v : Int) : 0 ≤ hstep s v ∧ hstep s v < 2147483647 := by unfold hstep; omega
theorem hstep_eq {s : Int} (v : Int) (h0 : 0 ≤ s) (h1 : s < 2147483647) : Int.tmod (wrap64 ((wrap64 ((wrap64 (s * 1000003)) + modI v 2147483647)) + 13)) 2147483647 = hstep s v := by
  have hm := modI_bd v
  rw [w64 (n := s * 1000003) (by omega) (by omega), w64 (n := s * 1000003 + modI v 2147483647) (by omega) (by omega), w64 (n := s * 1000003 + modI v 2147483647 + 13) (by omega) (by omega), Int.tmod_eq_emod_of_nonneg (by omega)]
  rfl
theorem foldl_bd (l : List Int) : ∀ (s : Int), 0 ≤ s → s < 2147483647 → 0 ≤ l.foldl hstep s ∧ l.foldl hstep s < 2147483647 := by
  induction l with
  | nil => intro s h0 h1; exact ⟨h0, h1⟩
  | cons v r ih => intro s _ _; exact ih _ (hstep_bd s v).1 (hstep_bd s v).2
theorem hashI_bd (l : List Int) : 0 ≤ hashI l ∧ hashI l < 2147483647 := foldl_bd l 11 (by omega) (by omega)

def keyedI (s : Int) (l : List Int) : Int := hashI ([s] ++ l ++ [s])
theorem keyedI_bd (s : Int) (l : List Int) : 0 ≤ keyedI s l ∧ keyedI s l < 2147483647 := hashI_bd _

/-- The bytes with the key's stream added (encL) or taken away (decL), from place i on. -/
def encL (s : Int) : Nat → List Int → List Int
  | _, [] => []
  | i, x :: r => (x + keyedI s [(i : Int)]) % 256 :: encL s (i + 1) r
def decL (s : Int) : Nat → List Int → List Int
  | _, [] => []
  | i, x :: r => (x - keyedI s [(i : Int)]) % 256 :: decL s (i + 1) r
theorem encL_len (s : Int) : ∀ (l : List Int) (i : Nat), (encL s i l).length = l.length
  | [], _ => rfl
  | _ :: r, i => by simp only [encL, List.length_cons, encL_len s r (i + 1)]
theorem decL_len (s : Int) : ∀ (l : List Int) (i : Nat), (decL s i l).length = l.length
  | [], _ => rfl
  | _ :: r, i => by simp only [decL, List.length_cons, decL_len s r (i + 1)]
theorem encL_byte (s : Int) : ∀ (l : List Int) (i : Nat), ∀ v ∈ encL s i l, 0 ≤ v ∧ v ≤ 255
  | [], _ => by simp [encL]
  | x :: r, i => by
    intro v hv
    simp only [encL, List.mem_cons] at hv
    rcases hv with rfl | hv
    · omega
    · exact encL_byte s r (i + 1) v hv
theorem decL_byte (s : Int) : ∀ (l : List Int) (i : Nat), ∀ v ∈ decL s i l, 0 ≤ v ∧ v ≤ 255
  | [], _ => by simp [decL]
  | x :: r, i => by
    intro v hv
    simp only [decL, List.mem_cons] at hv
    rcases hv with rfl | hv
    · omega
    · exact decL_byte s r (i + 1) v hv
theorem dec_encL (s : Int) : ∀ (l : List Int) (i : Nat), (∀ v ∈ l, 0 ≤ v ∧ v ≤ 255) → decL s i (encL s i l) = l
  | [], _, _ => rfl
  | x :: r, i, h => by
    have hx := h x List.mem_cons_self
    simp only [encL, decL, dec_encL s r (i + 1) (fun v hv => h v (List.mem_cons_of_mem _ hv))]
    congr 1
    omega
theorem enc_decL (s : Int) : ∀ (l : List Int) (i : Nat), (∀ v ∈ l, 0 ≤ v ∧ v ≤ 255) → encL s i (decL s i l) = l
  | [], _, _ => rfl
  | x :: r, i, h => by
    have hx := h x List.mem_cons_self
    simp only [encL, decL, enc_decL s r (i + 1) (fun v hv => h v (List.mem_cons_of_mem _ hv))]
    congr 1
    omega
theorem set_take (y : List Int) (i : Nat) (v : Int) (h : i < y.length) : (y.set i v).take (i + 1) = y.take i ++ [v] ∧ (y.set i v).drop (i + 1) = y.drop (i + 1) := by
  have e : y.set i v = (y.take i ++ [v]) ++ y.drop (i + 1) := by
    rw [List.set_eq_take_append_cons_drop, if_pos h]
    simp
  have hl : (y.take i ++ [v]).length = i + 1 := by simp; omega
  rw [e, ← hl, List.take_left, List.drop_left]
  exact ⟨rfl, rfl⟩

theorem sIn (x lo hi : Int) : spec_l1In.f x lo hi = some (inR x lo hi) := by
  unfold spec_l1In.f inR
  by_cases h : lo ≤ x <;> simp [h]

theorem sMod (p q : Int) : spec_Mod.f p q = some (modI p q) := by
  unfold spec_Mod.f modI
  rw [sIn]
  cases h : inR q 1 1000000000000
  · simp
  · rw [inR_true] at h
    obtain ⟨e, l, u⟩ := tmod_tmod (p := p) (q := q) (by omega)
    simp only [Option.bind_some, if_true]
    rw [if_neg (by omega), w64 (n := Int.tmod p q + q) (by omega) (by omega), e]

theorem sHash_l0 (x : List Int) (hx : x.length ≤ 140737488351232) : ∀ (d k i : Nat) (s : Int), i + d = x.length → d < k → 0 ≤ s → s < 2147483647 → spec_Hash.l0 k x s (i : Int) = some ((x.drop i).foldl hstep s) := by
  intro d
  induction d with
  | zero =>
    intro k i s hd hk _ _
    obtain ⟨k, rfl⟩ : ∃ m, k = m + 1 := ⟨k - 1, by omega⟩
    simp only [spec_Hash.l0]
    rw [if_neg (by omega), List.drop_eq_nil_of_le (by omega)]
    rfl
  | succ d ih =>
    intro k i s hd hk h0 h1
    obtain ⟨k, rfl⟩ : ∃ m, k = m + 1 := ⟨k - 1, by omega⟩
    simp only [spec_Hash.l0]
    rw [if_pos (by omega), if_pos (by omega), sMod, rd_nat x i (by omega), cast_succ i (by omega)]
    simp only [Option.bind_some]
    rw [hstep_eq _ h0 h1, ih k (i + 1) _ (by omega) (by omega) (hstep_bd _ _).1 (hstep_bd _ _).2, drop_cons x i (by omega)]
    rfl
theorem sHash (x : List Int) (hx : x.length ≤ 140737488351232) (k : Nat) (hk : x.length < k) : spec_Hash.f k x = some (hashI x) := sHash_l0 x hx x.length k 0 11 (by omega) hk (by omega) (by omega)

theorem sKeyed (s : Int) (l : List Int) (hl : l.length ≤ 17592186044000) (k : Nat) (hk : l.length + 2 < k) : spec_KeyedHash.f k s l = some (keyedI s l) := by
  unfold spec_KeyedHash.f keyedI
  rw [Option.bind_some, if_pos (by simp only [List.length_cons, List.length_nil]; omega), Option.bind_some, if_pos (by simp only [List.length_append, List.length_cons, List.length_nil]; omega),
    sHash _ (by simp only [List.length_append, List.length_cons, List.length_nil]; omega) _ (by simp only [List.length_append, List.length_cons, List.length_nil]; omega), Option.bind_some]

theorem spec_Decrypt_l0 (s : Int) (x : List Int) (hb : ∀ v ∈ x, 0 ≤ v ∧ v ≤ 255) (hx : x.length ≤ 1048576) : ∀ (d k i : Nat) (o : List Int), i + d = x.length → d + 4 ≤ k → o.length = i → spec_Decrypt.l0 k s x o (i : Int) = some (o ++ decL s i (x.drop i)) := by
  intro d
  induction d with
  | zero =>
    intro k i o hd hk ho
    obtain ⟨k, rfl⟩ : ∃ m, k = m + 1 := ⟨k - 1, by omega⟩
    simp only [spec_Decrypt.l0]
    rw [if_neg (by omega), List.drop_eq_nil_of_le (by omega), decL, List.append_nil]
  | succ d ih =>
    intro k i o hd hk ho
    obtain ⟨k, rfl⟩ : ∃ m, k = m + 1 := ⟨k - 1, by omega⟩
    have hv := hb x[i] (List.getElem_mem (by omega))
    have ht := keyedI_bd s [(i : Int)]
    simp only [spec_Decrypt.l0]
    rw [if_pos (by omega), if_pos (by omega), sKeyed s [(i : Int)] (by simp) k (by simp only [List.length_cons, List.length_nil]; omega), Option.bind_some, rd_nat x i (by omega), cast_succ i (by omega), Int.tmod_eq_emod_of_nonneg ht.1, w64 (n := x[i]) (by omega) (by omega), w64 (n := x[i] - keyedI s [(i : Int)] % 256) (by omega) (by omega),
      sMod, Option.bind_some, show ∀ v : Int, modI v 256 = v % 256 from fun v => by unfold modI; rw [if_pos (by decide)], if_pos (by omega), ih k (i + 1) _ (by omega) (by omega) (by simp [ho]), drop_cons x i (by omega), decL, List.append_assoc]
    rw [show (x[i] - keyedI s [(i : Int)] % 256) % 256 % 256 = (x[i] - keyedI s [(i : Int)]) % 256 by omega]
    rfl
theorem sDecrypt (s : Int) (x : List Int) (hb : ∀ v ∈ x, 0 ≤ v ∧ v ≤ 255) (hx : x.length ≤ 1048576) (k : Nat) (hk : x.length + 4 ≤ k) : spec_Decrypt.f k s x = some (decL s 0 x) := spec_Decrypt_l0 s x hb hx x.length k 0 [] (by omega) hk rfl

theorem iIn (x lo hi : Int) : impl_InRange.f x lo hi = some (inR x lo hi) := by
  unfold impl_InRange.f inR
  by_cases h : lo ≤ x <;> simp [h]

theorem iMod (p q : Int) : impl_Mod.f p q = some (modI p q) := by
  unfold impl_Mod.f modI
  rw [iIn]
  cases h : inR q 1 1000000000000
  · simp
  · rw [inR_true] at h
    obtain ⟨e, l, u⟩ := tmod_tmod (p := p) (q := q) (by omega)
    simp only [Option.bind_some, if_true]
    rw [if_neg (by omega), w64 (n := Int.tmod p q + q) (by omega) (by omega), e]

theorem iHash_l0 (x : List Int) (hx : x.length ≤ 140737488351232) : ∀ (d k i : Nat) (s : Int), i + d = x.length → d < k → 0 ≤ s → s < 2147483647 → impl_Hash.l0 k s x (x.length : Int) (i : Int) = some ((x.drop i).foldl hstep s) := by
  intro d
  induction d with
  | zero =>
    intro k i s hd hk _ _
    obtain ⟨k, rfl⟩ : ∃ m, k = m + 1 := ⟨k - 1, by omega⟩
    simp only [impl_Hash.l0]
    rw [if_neg (by omega), List.drop_eq_nil_of_le (by omega)]
    rfl
  | succ d ih =>
    intro k i s hd hk h0 h1
    obtain ⟨k, rfl⟩ : ∃ m, k = m + 1 := ⟨k - 1, by omega⟩
    simp only [impl_Hash.l0]
    rw [if_pos (by omega), if_pos (by omega), if_pos (by omega), iMod, rd_nat x i (by omega), cast_succ i (by omega)]
    simp only [Option.bind_some]
    rw [hstep_eq _ h0 h1, ih k (i + 1) _ (by omega) (by omega) (hstep_bd _ _).1 (hstep_bd _ _).2, drop_cons x i (by omega)]
    rfl
theorem iHash (x : List Int) (hx : x.length ≤ 140737488351232) (k : Nat) (hk : x.length < k) : impl_Hash.f k x = some (hashI x) := iHash_l0 x hx x.length k 0 11 (by omega) hk (by omega) (by omega)

theorem iKeyed (s : Int) (l : List Int) (hl : l.length ≤ 17592186044000) (k : Nat) (hk : l.length + 2 < k) : impl_KeyedHash.f k s l = some (keyedI s l) := by
  unfold impl_KeyedHash.f keyedI
  rw [if_pos (by omega), iHash _ (by simp only [List.length_append, List.length_cons, List.length_nil]; omega) _ (by simp only [List.length_append, List.length_cons, List.length_nil]; omega)]

theorem impl_Decrypt_l0 (s : Int) (n : Nat) (hx : n ≤ 1048576) : ∀ (d k i : Nat) (y : List Int), y.length = n → i + d = n → d + 4 ≤ k → impl_Decrypt.l0 k s y (n : Int) (i : Int) = some (y.take i ++ decL s i (y.drop i)) := by
  intro d
  induction d with
  | zero =>
    intro k i y hy hd hk
    obtain ⟨k, rfl⟩ : ∃ m, k = m + 1 := ⟨k - 1, by omega⟩
    simp only [impl_Decrypt.l0]
    rw [if_neg (by omega), List.drop_eq_nil_of_le (by omega), decL, List.append_nil, List.take_of_length_le (by omega)]
  | succ d ih =>
    intro k i y hy hd hk
    obtain ⟨k, rfl⟩ : ∃ m, k = m + 1 := ⟨k - 1, by omega⟩
    simp only [impl_Decrypt.l0]
    obtain ⟨h1, h2⟩ := set_take y i ((rd y (i : Int) - keyedI s [(i : Int)] % 256) % 256) (by omega)
    rw [if_pos (by omega), if_pos (by omega), if_pos (by omega), iKeyed s [(i : Int)] (by simp) k (by simp only [List.length_cons, List.length_nil]; omega), Option.bind_some, cast_succ i (by omega), Int.toNat_natCast, ih k (i + 1) _ (by simpa using hy) (by omega) (by omega), h1, h2, drop_cons y i (by omega), decL, rd_nat y i (by omega), List.append_assoc]
    rw [show (y[i] - keyedI s [(i : Int)] % 256) % 256 = (y[i] - keyedI s [(i : Int)]) % 256 by omega]
    rfl
theorem iDecrypt (s : Int) (x : List Int) (hx : x.length ≤ 1048576) (k : Nat) (hk : x.length + 4 ≤ k) : impl_Decrypt.f k s x = some (decL s 0 x) := by
  unfold impl_Decrypt.f slices_Clone_byte_byte.f
  rw [if_pos (by omega), Option.bind_some]
  exact impl_Decrypt_l0 s x.length hx x.length k 0 x rfl (by omega) hk

theorem FnExactDecrypt : laws_FnExactDecrypt.Pure := by
  intro s b _ _ _ hw
  have hb : ∀ v ∈ b, 0 ≤ v ∧ v ≤ 255 := fun v hv => of_wf8 (hw v hv)
  by_cases h1 : (b.length : Int) > 1048576
  · exact ⟨0, by unfold laws_FnExactDecrypt.f; rw [if_pos h1]⟩
  · refine ⟨b.length + 8, ?_⟩
    have hd := decL_len s b 0
    obtain ⟨y, em, hm⟩ := markByte_some b (by omega) (b.length + 8) (by omega)
    obtain ⟨z, ez, hz⟩ := markByte_some (decL s 0 b) (by omega) (b.length + 7) (by omega)
    unfold laws_FnExactDecrypt.f
    rw [if_neg h1]
    simp only [toByteS_some b (by omega) _ (show b.length < b.length + 8 by omega), Option.bind_some, sDecrypt s b hb (by omega) _ (show b.length + 4 ≤ b.length + 8 by omega), iDecrypt s b (by omega) _ (show b.length + 4 ≤ b.length + 8 by omega),
      eqByteS_some (decL s 0 b) (decL s 0 b) (by omega) _ (show (decL s 0 b).length < b.length + 8 by omega), eqByteS_some b b (by omega) _ (show b.length < b.length + 8 by omega), em, decide_true, if_true, Bool.not_true]
    rw [if_neg (by omega)]
    simp only [laws_FnExactDecrypt.j0, Bool.false_eq_true, if_false, ez, Option.bind_some, hz _ (show (decL s 0 b).length < b.length + 7 by omega), toByteS_some b (by omega) _ (show b.length < b.length + 7 by omega),
      iDecrypt s b (by omega) _ (show b.length + 4 ≤ b.length + 7 by omega), eqByteS_some (decL s 0 b) (decL s 0 b) (by omega) _ (show (decL s 0 b).length < b.length + 7 by omega), decide_true, if_true]
    rw [if_neg (by omega), if_neg (by omega)]

end Go.Proofs.Ytobpbnbjdpdflac.Pure
namespace Go.Proofs.Ytobpbnbjdpdflac
/-- The seat's own word, under the name by which the row asks for it. -/
theorem PrintWords.sized_ints {H : Type} {enc : TypeId × Value → H} {P : Program} {W : World} {base : Nat} {spare : Nat → Bool} {held : Bool} {t e : TypeId} {k : IntKind} {a : Option Addr} {len cap : Nat} {d : DataW H} {ps : List MemPlace} {ts : List TypeId} {ds : List (DataW H)} {j : Nat}
    (hsz : (DataW.weightsEach P ts ds).all (· ≤ reachBytes) = true) (ht : ts[j]? = some t) (hd : ds[j]? = some d) (hu : P.underlying t = some (.slice e)) (he : P.underlying e = some (.int k)) (hc : P.cellsOf e = 1) {B : Nat} (hB : P.bytesOf e = B)
    (h : DataW.Trod enc P W base spare held t (.slice a len cap) d ps) : len * B ≤ 140737488351232 := Go.Proofs.YtobpbnbjdpdflacW.PrintWords.sized_ints hsz ht hd hu he hc hB h
end Go.Proofs.Ytobpbnbjdpdflac
