/- FnExactDeriveFromString holds: for every key and every label the program's DeriveFromString and the reference's agree. No conditions. -/
import Derived.Test.YtobpbnbjdpdflabPFnExactDeriveFromStringx2
import Derived.OpenShut
namespace Go.Proofs.Ytobpbnbjdpdflab.Pure
open Go.RowKit Go.Proofs.Ytobpbnbjdpdflab.PFnExactDeriveFromString Go.Proofs.YtobpbnbjdpdflabW.PrintWords Go.Proofs.YtobpbnbjdpdflabW.PrintLast
set_option linter.unusedVariables false
set_option linter.unusedSimpArgs false

theorem w64 {n : Int} (h : -9223372036854775808 ≤ n) (h' : n ≤ 9223372036854775807) : wrap64 n = n := by unfold wrap64; omega
theorem w64_lo (n : Int) : -9223372036854775808 ≤ wrap64 n := by unfold wrap64; omega
theorem w64_hi (n : Int) : wrap64 n ≤ 9223372036854775807 := by unfold wrap64; omega
theorem of_wf {n : Int} (h : (Lit.int .i64 n).wf = true) : -9223372036854775808 ≤ n ∧ n ≤ 9223372036854775807 := bounds_i64 h
theorem of_wf8 {n : Int} (h : (Lit.int .u8 n).wf = true) : 0 ≤ n ∧ n ≤ 255 := bounds_u8 h
theorem and_le (x : Int) (m : Nat) (hm : m < 9223372036854775808) : 0 ≤ bits .and .i64 x (m : Int) ∧ bits .and .i64 x (m : Int) ≤ m := by
  unfold bits
  rw [Go.IntKind.wrap_i64]
  simp only [BitVec.toNat_and]
  have h1 : (BitVec.ofInt IntKind.i64.bits (m : Int)).toNat = m := by
    rw [BitVec.ofInt_natCast, BitVec.toNat_ofNat]
    exact Nat.mod_eq_of_lt (by show m < 2 ^ 64; omega)
  rw [h1]
  have h2 : (BitVec.ofInt IntKind.i64.bits x).toNat &&& m ≤ m := Nat.and_le_right
  omega
theorem and255 (x : Int) : 0 ≤ bits .and .i64 x 255 ∧ bits .and .i64 x 255 ≤ 255 := and_le x 255 (by decide)
theorem tmod_lt {x n : Int} (h0 : 0 ≤ x) (hn : 0 < n) : 0 ≤ Int.tmod x n ∧ Int.tmod x n < n := by
  rw [Int.tmod_eq_emod_of_nonneg h0]
  exact ⟨Int.emod_nonneg _ (by omega), Int.emod_lt_of_pos _ hn⟩

theorem rd_nat (x : List Int) (i : Nat) (h : i < x.length) : rd x (i : Int) = x[i] := by
  unfold rd
  rw [List.getD_eq_getElem?_getD, Int.toNat_natCast, List.getElem?_eq_getElem h]
  rfl
theorem cast_succ (i : Nat) (h : i < 4611686018427387904) : wrap64 ((i : Int) + 1) = ((i + 1 : Nat) : Int) := by
  rw [w64 (by omega) (by omega)]
  rfl
theorem drop_cons {α : Type} (x : List α) (i : Nat) (h : i < x.length) : x.drop i = x[i] :: x.drop (i + 1) := List.drop_eq_getElem_cons h

def inR (x lo hi : Int) : Bool := decide (lo ≤ x) && decide (x ≤ hi)
theorem inR_true {x lo hi : Int} : inR x lo hi = true ↔ lo ≤ x ∧ x ≤ hi := by simp [inR]
theorem inR_false {x lo hi : Int} : inR x lo hi = false ↔ ¬ (lo ≤ x ∧ x ≤ hi) := by simp [inR]

theorem tmod_tmod {p q : Int} (hq : 0 < q) : Int.tmod (Int.tmod p q + q) q = p % q ∧ -q < Int.tmod p q ∧ Int.tmod p q < q := by
  have h1 : -q < Int.tmod p q := by
    rcases Int.le_total 0 p with h | h
    · have := Int.tmod_nonneg q h
      omega
    · have h2 := Int.tmod_lt_of_pos (-p) hq
      rw [Int.neg_tmod] at h2
      omega
  have h2 : Int.tmod p q < q := Int.tmod_lt_of_pos p hq
  refine ⟨?_, h1, h2⟩
  rw [Int.tmod_eq_emod_of_nonneg (by omega), Int.tmod_def, show p - q * p.tdiv q + q = p + q * (1 - p.tdiv q) by rw [Int.mul_sub, Int.mul_one]; omega, Int.add_mul_emod_self_left]
def modI (p q : Int) : Int := if inR q 1 1000000000000 = true then p % q else 0

/-- One step of the hash. -/
def hstep (s v : Int) : Int := (s * 1000003 + modI v 2147483647 + 13) % 2147483647
def hashI (l : List Int) : Int := l.foldl hstep 11
theorem modI_bd (v : Int) : 0 ≤ modI v 2147483647 ∧ modI v 2147483647 < 2147483647 := by
  unfold modI
  rw [if_pos (by decide)]
  omega
theorem hstep_bd (s v : Int) : 0 ≤ hstep s v ∧ hstep s v < 2147483647 := by unfold hstep; omega
theorem hstep_eq {s : Int} (v : Int) (h0 : 0 ≤ s) (h1 : s < 2147483647) : Int.tmod (wrap64 ((wrap64 ((wrap64 (s * 1000003)) + modI v 2147483647)) + 13)) 2147483647 = hstep s v := by
  have hm := modI_bd v
  rw [w64 (n := s * 1000003) (by omega) (by omega), w64 (n := s * 1000003 + modI v 2147483647) (by omega) (by omega), w64 (n := s * 1000003 + modI v 2147483647 + 13) (by omega) (by omega), Int.tmod_eq_emod_of_nonneg (by omega)]
  rfl
theorem foldl_bd (l : List Int) : ∀ (s : Int), 0 ≤ s → s < 2147483647 → 0 ≤ l.foldl hstep s ∧ l.foldl hstep s < 2147483647 := by
  induction l with
  | nil => intro s h0 h1; exact ⟨h0, h1⟩
  | cons v r ih => intro s _ _; exact ih _ (hstep_bd s v).1 (hstep_bd s v).2
theorem hashI_bd (l : List Int) : 0 ≤ hashI l ∧ hashI l < 2147483647 := foldl_bd l 11 (by omega) (by omega)

theorem iIn (x lo hi : Int) : impl_InRange.f x lo hi = some (inR x lo hi) := by
  unfold impl_InRange.f inR
  by_cases h : lo ≤ x <;> simp [h]

theorem iMod (p q : Int) : impl_Mod.f p q = some (modI p q) := by
  unfold impl_Mod.f modI
  rw [iIn]
  cases h : inR q 1 1000000000000
  · simp
  · rw [inR_true] at h
    obtain ⟨e, l, u⟩ := tmod_tmod (p := p) (q := q) (by omega)
    simp only [Option.bind_some, if_true]
    rw [if_neg (by omega), w64 (n := Int.tmod p q + q) (by omega) (by omega), e]

theorem iHash_l0 (x : List Int) (hx : x.length ≤ 140737488351232) : ∀ (d k i : Nat) (s : Int), i + d = x.length → d < k → 0 ≤ s → s < 2147483647 → impl_Hash.l0 k s x (x.length : Int) (i : Int) = some ((x.drop i).foldl hstep s) := by
  intro d
  induction d with
  | zero =>
    intro k i s hd hk _ _
    obtain ⟨k, rfl⟩ : ∃ m, k = m + 1 := ⟨k - 1, by omega⟩
    simp only [impl_Hash.l0]
    rw [if_neg (by omega), List.drop_eq_nil_of_le (by omega)]
    rfl
  | succ d ih =>
    intro k i s hd hk h0 h1
    obtain ⟨k, rfl⟩ : ∃ m, k = m + 1 := ⟨k - 1, by omega⟩
    simp only [impl_Hash.l0]
    rw [if_pos (by omega), if_pos (by omega), if_pos (by omega), iMod, rd_nat x i (by omega), cast_succ i (by omega)]
    simp only [Option.bind_some]
    rw [hstep_eq _ h0 h1, ih k (i + 1) _ (by omega) (by omega) (hstep_bd _ _).1 (hstep_bd _ _).2, drop_cons x i (by omega)]
    rfl
theorem iHash (x : List Int) (hx : x.length ≤ 140737488351232) (k : Nat) (hk : x.length < k) : impl_Hash.f k x = some (hashI x) := iHash_l0 x hx x.length k 0 11 (by omega) hk (by omega) (by omega)

def keyedI (s : Int) (l : List Int) : Int := hashI ([s] ++ l ++ [s])
theorem keyedI_bd (s : Int) (l : List Int) : 0 ≤ keyedI s l ∧ keyedI s l < 2147483647 := hashI_bd _

theorem iKeyed (s : Int) (l : List Int) (hl : l.length ≤ 17592186044000) (k : Nat) (hk : l.length + 2 < k) : impl_KeyedHash.f k s l = some (keyedI s l) := by
  unfold impl_KeyedHash.f keyedI
  rw [if_pos (by omega), iHash _ (by simp only [List.length_append, List.length_cons, List.length_nil]; omega) _ (by simp only [List.length_append, List.length_cons, List.length_nil]; omega)]

theorem iB2I_l0 (x : List Int) (hb : ∀ v ∈ x, 0 ≤ v ∧ v ≤ 255) (hx : x.length ≤ 1048576) : ∀ (d k i : Nat) (o : List Int), i + d = x.length → d < k → o.length ≤ 1 + i → impl_BytesToInts.l0 k o x (x.length : Int) (i : Int) = some (o ++ x.drop i) := by
  intro d
  induction d with
  | zero =>
    intro k i o hd hk _
    obtain ⟨k, rfl⟩ : ∃ m, k = m + 1 := ⟨k - 1, by omega⟩
    simp only [impl_BytesToInts.l0]
    rw [if_neg (by omega), List.drop_eq_nil_of_le (by omega), List.append_nil]
  | succ d ih =>
    intro k i o hd hk ho
    obtain ⟨k, rfl⟩ : ∃ m, k = m + 1 := ⟨k - 1, by omega⟩
    have hv := hb x[i] (List.getElem_mem _)
    simp only [impl_BytesToInts.l0]
    rw [if_pos (by omega), if_pos (by omega), if_pos (by omega), if_pos (by omega), rd_nat x i (by omega), cast_succ i (by omega), w64 (by omega) (by omega), ih k (i + 1) _ (by omega) (by omega) (by simp; omega), drop_cons x i (by omega), List.append_assoc]
    rfl
theorem iB2I (x : List Int) (hb : ∀ v ∈ x, 0 ≤ v ∧ v ≤ 255) (hx : x.length ≤ 1048576) (k : Nat) (hk : x.length < k) : impl_BytesToInts.f k x = some ((x.length : Int) :: x) := iB2I_l0 x hb hx x.length k 0 _ (by omega) hk (by simp)

theorem bytesOf_bd (s : ByteArray) : ∀ v ∈ bytesOf s, 0 ≤ v ∧ v ≤ 255 := by
  intro v hv
  unfold bytesOf at hv
  obtain ⟨b, _, rfl⟩ := List.mem_map.1 hv
  have := b.toNat_lt
  omega

/-- What DeriveFromString gives. -/
def deriveI (k : Int) (s : ByteArray) : Int := if keyedI k ((s.size : Int) :: bytesOf s) > 1 then keyedI k ((s.size : Int) :: bytesOf s) else 1
theorem iDerive (k0 : Int) (s : ByteArray) (hs : s.size ≤ 1048576) (k : Nat) (hk : s.size + 4 ≤ k) : impl_DeriveFromString.f k k0 s = some (deriveI k0 s) := by
  have hl := bytesOf_length s
  unfold impl_DeriveFromString.f deriveI
  rw [if_pos (by omega), iB2I _ (bytesOf_bd s) (by omega) k (by omega), Option.bind_some, iKeyed _ _ (by simp only [List.length_cons]; omega) k (by simp only [List.length_cons]; omega), Option.bind_some, hl]
  unfold impl_orOne.f mx
  congr 1
  split <;> split <;> omega

theorem sIn (x lo hi : Int) : spec_l1In.f x lo hi = some (inR x lo hi) := by
  unfold spec_l1In.f inR
  by_cases h : lo ≤ x <;> simp [h]

theorem sMod (p q : Int) : spec_Mod.f p q = some (modI p q) := by
  unfold spec_Mod.f modI
  rw [sIn]
  cases h : inR q 1 1000000000000
  · simp
  · rw [inR_true] at h
    obtain ⟨e, l, u⟩ := tmod_tmod (p := p) (q := q) (by omega)
    simp only [Option.bind_some, if_true]
    rw [if_neg (by omega), w64 (n := Int.tmod p q + q) (by omega) (by omega), e]

theorem sHash_l0 (x : List Int) (hx : x.length ≤ 140737488351232) : ∀ (d k i : Nat) (s : Int), i + d = x.length → d < k → 0 ≤ s → s < 2147483647 → spec_Hash.l0 k x s (i : Int) = some ((x.drop i).foldl hstep s) := by
  intro d
  induction d with
  | zero =>
    intro k i s hd hk _ _
    obtain ⟨k, rfl⟩ : ∃ m, k = m + 1 := ⟨k - 1, by omega⟩
    simp only [spec_Hash.l0]
    rw [if_neg (by omega), List.drop_eq_nil_of_le (by omega)]
    rfl
  | succ d ih =>
    intro k i s hd hk h0 h1
    obtain ⟨k, rfl⟩ : ∃ m, k = m + 1 := ⟨k - 1, by omega⟩
    simp only [spec_Hash.l0]
    rw [if_pos (by omega), if_pos (by omega), sMod, rd_nat x i (by omega), cast_succ i (by omega)]
    simp only [Option.bind_some]
    rw [hstep_eq _ h0 h1, ih k (i + 1) _ (by omega) (by omega) (hstep_bd _ _).1 (hstep_bd _ _).2, drop_cons x i (by omega)]
    rfl
theorem sHash (x : List Int) (hx : x.length ≤ 140737488351232) (k : Nat) (hk : x.length < k) : spec_Hash.f k x = some (hashI x) := sHash_l0 x hx x.length k 0 11 (by omega) hk (by omega) (by omega)

theorem sKeyed (s : Int) (l : List Int) (hl : l.length ≤ 17592186044000) (k : Nat) (hk : l.length + 2 < k) : spec_KeyedHash.f k s l = some (keyedI s l) := by
  unfold spec_KeyedHash.f keyedI
  rw [Option.bind_some, if_pos (by simp only [List.length_cons, List.length_nil]; omega), Option.bind_some, if_pos (by simp only [List.length_append, List.length_cons, List.length_nil]; omega),
    sHash _ (by simp only [List.length_append, List.length_cons, List.length_nil]; omega) _ (by simp only [List.length_append, List.length_cons, List.length_nil]; omega), Option.bind_some]

theorem sB2I_l0 (x : List Int) (hb : ∀ v ∈ x, 0 ≤ v ∧ v ≤ 255) (hx : x.length ≤ 1048576) : ∀ (d k i : Nat) (o : List Int), i + d = x.length → d < k → o.length ≤ 1 + i → spec_BytesToInts.l0 k x o (i : Int) = some (o ++ x.drop i) := by
  intro d
  induction d with
  | zero =>
    intro k i o hd hk _
    obtain ⟨k, rfl⟩ : ∃ m, k = m + 1 := ⟨k - 1, by omega⟩
    simp only [spec_BytesToInts.l0]
    rw [if_neg (by omega), List.drop_eq_nil_of_le (by omega), List.append_nil]
  | succ d ih =>
    intro k i o hd hk ho
    obtain ⟨k, rfl⟩ : ∃ m, k = m + 1 := ⟨k - 1, by omega⟩
    have hv := hb x[i] (List.getElem_mem _)
    simp only [spec_BytesToInts.l0]
    rw [if_pos (by omega), if_pos (by omega), if_pos (by omega), rd_nat x i (by omega), cast_succ i (by omega), w64 (by omega) (by omega), ih k (i + 1) _ (by omega) (by omega) (by simp; omega), drop_cons x i (by omega), List.append_assoc]
    rfl
theorem sB2I (x : List Int) (hb : ∀ v ∈ x, 0 ≤ v ∧ v ≤ 255) (hx : x.length ≤ 1048576) (k : Nat) (hk : x.length < k) : spec_BytesToInts.f k x = some ((x.length : Int) :: x) := sB2I_l0 x hb hx x.length k 0 _ (by omega) hk (by simp)

theorem sDerive (k0 : Int) (s : ByteArray) (hs : s.size ≤ 1048576) (k : Nat) (hk : s.size + 4 ≤ k) : spec_DeriveFromString.f k k0 s = some (deriveI k0 s) := by
  have hl := bytesOf_length s
  unfold spec_DeriveFromString.f deriveI
  rw [if_pos (by omega), sB2I _ (bytesOf_bd s) (by omega) k (by omega), Option.bind_some, sKeyed _ _ (by simp only [List.length_cons]; omega) k (by simp only [List.length_cons]; omega), Option.bind_some, hl]
  unfold spec_Max.f
  split <;> rfl

theorem FnExactDeriveFromString : laws_FnExactDeriveFromString.Pure := by
  intro k0 s _ _
  refine ⟨s.size + 4, ?_⟩
  unfold laws_FnExactDeriveFromString.f
  by_cases h1 : (s.size : Int) > 1048576
  · rw [if_pos h1]
  · rw [if_neg h1, sDerive k0 s (by omega) _ (Nat.le_refl _), Option.bind_some, iDerive k0 s (by omega) _ (Nat.le_refl _), Option.bind_some, if_pos rfl]

end Go.Proofs.Ytobpbnbjdpdflab.Pure
