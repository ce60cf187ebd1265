/- FnKeyedHash holds: whatever is drawn, KeyedHash is the hash of the values between the keys, lies below the modulus, and is another where one value is another; a derived key is valid. No conditions. -/
import Derived.Test.YtobpbnbjdpdflacPFnKeyedHashx3
import Derived.OpenShut
import Derived.Test.YtobpbnbjdpdflacWSized
namespace Go.Proofs.Ytobpbnbjdpdflac.Pure
open Go.RowKit Go.Proofs.Ytobpbnbjdpdflac.PFnKeyedHash Go.Proofs.YtobpbnbjdpdflacW.PrintWords Go.Proofs.YtobpbnbjdpdflacW.PrintLast
set_option linter.unusedVariables false
set_option linter.unusedSimpArgs false

theorem w64 {n : Int} (h : -9223372036854775808 ≤ n) (h' : n ≤ 9223372036854775807) : wrap64 n = n := by unfold wrap64; omega
theorem w64_lo (n : Int) : -9223372036854775808 ≤ wrap64 n := by unfold wrap64; omega
theorem w64_hi (n : Int) : wrap64 n ≤ 9223372036854775807 := by unfold wrap64; omega
theorem of_wf {n : Int} (h : (Lit.int .i64 n).wf = true) : -9223372036854775808 ≤ n ∧ n ≤ 9223372036854775807 := bounds_i64 h
theorem of_wf8 {n : Int} (h : (Lit.int .u8 n).wf = true) : 0 ≤ n ∧ n ≤ 255 := bounds_u8 h
theorem and_le (x : Int) (m : Nat) (hm : m < 9223372036854775808) : 0 ≤ bits .and .i64 x (m : Int) ∧ bits .and .i64 x (m : Int) ≤ m := by
  unfold bits
  rw [Go.IntKind.wrap_i64]
  simp only [BitVec.toNat_and]
  have h1 : (BitVec.ofInt IntKind.i64.bits (m : Int)).toNat = m := by
    rw [BitVec.ofInt_natCast, BitVec.toNat_ofNat]
    exact Nat.mod_eq_of_lt (by show m < 2 ^ 64; omega)
  rw [h1]
  have h2 : (BitVec.ofInt IntKind.i64.bits x).toNat &&& m ≤ m := Nat.and_le_right
  omega
theorem and255 (x : Int) : 0 ≤ bits .and .i64 x 255 ∧ bits .and .i64 x 255 ≤ 255 := and_le x 255 (by decide)
theorem tmod_lt {x n : Int} (h0 : 0 ≤ x) (hn : 0 < n) : 0 ≤ Int.tmod x n ∧ Int.tmod x n < n := by
  rw [Int.tmod_eq_emod_of_nonneg h0]
  exact ⟨Int.emod_nonneg _ (by omega), Int.emod_lt_of_pos _ hn⟩

/-- A cursor that stands inside its bytes. -/
def Cur (b : List Int) (i : Int) : Prop := 0 ≤ i ∧ i ≤ (b.length : Int) ∧ b.length ≤ 140737488351232
theorem l1New_l0 (l : List Int) (hl : l.length ≤ 140737488351232) : ∀ (d k : Nat) (h i : Int), 0 ≤ i → (l.length : Int) - i ≤ d → d < k → ∃ h', spec_l1New.l0 k l h i = some (l, 0, h') := by
  intro d
  induction d with
  | zero =>
    intro k h i h0 h1 hk
    obtain ⟨k, rfl⟩ : ∃ m, k = m + 1 := ⟨k - 1, by omega⟩
    exact ⟨h, by simp only [spec_l1New.l0]; rw [if_neg (by omega)]⟩
  | succ d ih =>
    intro k h i h0 h1 hk
    obtain ⟨k, rfl⟩ : ∃ m, k = m + 1 := ⟨k - 1, by omega⟩
    by_cases c1 : i < (l.length : Int)
    · by_cases c2 : i < 4000
      · obtain ⟨h', e⟩ := ih k _ (i + 1) (by omega) (by omega) (by omega)
        exact ⟨h', by simp only [spec_l1New.l0]; rw [if_pos c1, if_pos c2, if_pos h0, w64 (n := i + 1) (by omega) (by omega)]; exact e⟩
      · exact ⟨h, by simp only [spec_l1New.l0]; rw [if_pos c1, if_neg c2]⟩
    · exact ⟨h, by simp only [spec_l1New.l0]; rw [if_neg c1]⟩
theorem l1New_l0' (l : List Int) (hl : l.length ≤ 140737488351232) : ∀ (d k : Nat) (h i : Int), 0 ≤ i → i ≤ 4000 → 4000 - i ≤ d → d < k → ∃ h', spec_l1New.l0 k l h i = some (l, 0, h') := by
  intro d
  induction d with
  | zero =>
    intro k h i h0 h9 h1 hk
    obtain ⟨k, rfl⟩ : ∃ m, k = m + 1 := ⟨k - 1, by omega⟩
    by_cases c1 : i < (l.length : Int)
    · exact ⟨h, by simp only [spec_l1New.l0]; rw [if_pos c1, if_neg (by omega)]⟩
    · exact ⟨h, by simp only [spec_l1New.l0]; rw [if_neg c1]⟩
  | succ d ih =>
    intro k h i h0 h9 h1 hk
    obtain ⟨k, rfl⟩ : ∃ m, k = m + 1 := ⟨k - 1, by omega⟩
    by_cases c1 : i < (l.length : Int)
    · by_cases c2 : i < 4000
      · obtain ⟨h', e⟩ := ih k _ (i + 1) (by omega) (by omega) (by omega) (by omega)
        exact ⟨h', by simp only [spec_l1New.l0]; rw [if_pos c1, if_pos c2, if_pos h0, w64 (n := i + 1) (by omega) (by omega)]; exact e⟩
      · exact ⟨h, by simp only [spec_l1New.l0]; rw [if_pos c1, if_neg c2]⟩
    · exact ⟨h, by simp only [spec_l1New.l0]; rw [if_neg c1]⟩
/-- A new cursor stands at the begin; 4001 rounds are enough. -/
theorem l1New_some (l : List Int) (hl : l.length ≤ 140737488351232) (k : Nat) (hk : 4001 ≤ k) : ∃ h, spec_l1New.f k l = some (l, 0, h) ∧ Cur l 0 := by
  obtain ⟨h, e⟩ := l1New_l0' l hl 4000 k (wrap64 (193017 + (l.length : Int))) 0 (by omega) (by omega) (by omega) (by omega)
  exact ⟨h, e, ⟨by omega, by omega, hl⟩⟩
theorem l1Byte_some {b : List Int} {i : Int} (hc : Cur b i) (h : Int) : ∃ x i' h', spec_l1Byte.f b i h = some (x, i', h') ∧ 0 ≤ x ∧ x ≤ 255 ∧ Cur b i' := by
  obtain ⟨h0, h1, hb⟩ := hc
  unfold spec_l1Byte.f
  by_cases c : i < (b.length : Int)
  · rw [if_pos c, if_pos h0, w64 (n := i + 1) (by omega) (by omega)]
    exact ⟨_, _, _, rfl, (and255 _).1, (and255 _).2, by omega, by omega, hb⟩
  · rw [if_neg c]
    exact ⟨_, _, _, rfl, (and255 _).1, (and255 _).2, h0, h1, hb⟩
theorem l1Below_some {b : List Int} {i : Int} (hc : Cur b i) (h n : Int) (hn : 0 < n) : ∃ x i' h', spec_l1Below.f b i h n = some (x, i', h') ∧ 0 ≤ x ∧ x < n ∧ Cur b i' := by
  unfold spec_l1Below.f
  rw [if_neg (by omega)]
  by_cases c : n ≤ 256
  · rw [if_pos c]
    obtain ⟨x, i1, h1, e1, x0, x1, hc1⟩ := l1Byte_some hc h
    rw [e1]; simp only [Option.bind_some]
    rw [if_neg (by omega)]
    exact ⟨_, _, _, rfl, (tmod_lt x0 hn).1, (tmod_lt x0 hn).2, hc1⟩
  · rw [if_neg c]
    obtain ⟨x, i1, h1, e1, x0, x1, hc1⟩ := l1Byte_some hc h
    rw [e1]; simp only [Option.bind_some]
    obtain ⟨y, i2, h2, e2, y0, y1, hc2⟩ := l1Byte_some hc1 h1
    rw [e2]; simp only [Option.bind_some]
    obtain ⟨z, i3, h3, e3, z0, z1, hc3⟩ := l1Byte_some hc2 h2
    rw [e3]; simp only [Option.bind_some]
    rw [if_neg (by omega), w64 (n := x * 65536) (by omega) (by omega), w64 (n := y * 256) (by omega) (by omega), w64 (n := x * 65536 + y * 256) (by omega) (by omega), w64 (n := x * 65536 + y * 256 + z) (by omega) (by omega)]
    exact ⟨_, _, _, rfl, (tmod_lt (by omega) hn).1, (tmod_lt (by omega) hn).2, hc3⟩
theorem l1Below_some0 {b : List Int} {i : Int} (hc : Cur b i) (h n : Int) : ∃ x i' h', spec_l1Below.f b i h n = some (x, i', h') ∧ 0 ≤ x ∧ x ≤ mx 0 n ∧ Cur b i' := by
  by_cases hn : 0 < n
  · obtain ⟨x, i', h', e, x0, x1, hc'⟩ := l1Below_some hc h n hn
    exact ⟨x, i', h', e, x0, by unfold mx; split <;> omega, hc'⟩
  · refine ⟨0, i, h, ?_, by omega, by unfold mx; split <;> omega, hc⟩
    unfold spec_l1Below.f
    rw [if_pos (by omega)]

theorem l1Int_some {b : List Int} {i : Int} (hc : Cur b i) (h : Int) (l : List Int) (hl : 0 < l.length) (P : Int → Prop) (hP : ∀ x ∈ l, P x) : ∃ x i' h', spec_l1Int.f b i h l = some (x, i', h') ∧ P x ∧ Cur b i' := by
  unfold spec_l1Int.f
  obtain ⟨x, i1, h1, e1, x0, x1, hc1⟩ := l1Below_some hc h (l.length : Int) (by omega)
  rw [e1]; simp only [Option.bind_some]
  rw [if_pos x0, if_pos x1]
  refine ⟨_, _, _, rfl, hP _ ?_, hc1⟩
  unfold rd
  rw [List.getD_eq_getElem?_getD, List.getElem?_eq_getElem (show x.toNat < l.length by omega)]
  exact List.getElem_mem _

theorem l1Once_some {b : List Int} {i : Int} (hc : Cur b i) (h n : Int) (hn : 0 < n) : ∃ x i' h', spec_l1Once.f b i h n = some (x, i', h') ∧ Cur b i' := by
  unfold spec_l1Once.f
  obtain ⟨x, i1, h1, e1, x0, x1, hc1⟩ := l1Below_some hc h n hn
  rw [e1]; simp only [Option.bind_some]
  exact ⟨_, _, _, rfl, hc1⟩

theorem l3Word_some {b : List Int} {i : Int} (hc : Cur b i) (h : Int) : ∃ x i' h', spec_l3Word.f b i h = some (x, i', h') ∧ (-1 ≤ x ∧ x ≤ 2147483648) ∧ Cur b i' := by
  unfold spec_l3Word.f
  obtain ⟨x, i1, h1, e1, hc1⟩ := l1Once_some hc h 10 (by omega)
  rw [e1]; simp only [Option.bind_some]
  cases x
  · rw [if_neg (by simp)]
    obtain ⟨x, i2, h2, e2, hc2⟩ := l1Once_some hc1 h1 4 (by omega)
    rw [e2]; simp only [Option.bind_some]
    cases x
    · rw [if_neg (by simp)]
      obtain ⟨x, i3, h3, e3, x0, x1, hc3⟩ := l1Below_some hc2 h2 1000000 (by omega)
      rw [e3]; simp only [Option.bind_some]
      obtain ⟨y, i4, h4, e4, y0, y1, hc4⟩ := l1Below_some hc3 h3 2000 (by omega)
      rw [e4]; simp only [Option.bind_some]
      have hxy : 0 ≤ x * y ∧ x * y ≤ 999999 * 1999 := ⟨Int.mul_nonneg x0 y0, Int.mul_le_mul (by omega) (by omega) y0 (by omega)⟩
      exact ⟨_, _, _, rfl, by rw [w64 (n := x * y) (by omega) (by omega)]; omega, hc4⟩
    · rw [if_pos rfl]
      obtain ⟨y, i3, h3, e3, hy, hc3⟩ := l1Int_some hc2 h2 [0, 1, 2147483646] (by decide) (fun x => -1 ≤ x ∧ x ≤ 2147483648) (by decide)
      rw [e3]; simp only [Option.bind_some]
      exact ⟨_, _, _, rfl, hy, hc3⟩
  · rw [if_pos rfl]
    obtain ⟨y, i3, h3, e3, hy, hc3⟩ := l1Int_some hc1 h1 [(-1), 2147483647, 2147483648] (by decide) (fun x => -1 ≤ x ∧ x ≤ 2147483648) (by decide)
    rw [e3]; simp only [Option.bind_some]
    exact ⟨_, _, _, rfl, hy, hc3⟩

theorem l3Words_l0 (b : List Int) : ∀ (d k : Nat) (o : List Int) (i h : Int), d < k → o.length + d ≤ 1000 → (∀ v ∈ o, -1 ≤ v ∧ v ≤ 2147483648) → Cur b i →
    ∃ o' i' h', spec_l3Words.l0 k o (d : Int) b i h = some (o', i', h') ∧ o'.length = o.length + d ∧ (∀ v ∈ o', -1 ≤ v ∧ v ≤ 2147483648) ∧ Cur b i' := by
  intro d
  induction d with
  | zero =>
    intro k o i h hk ho hv hc
    obtain ⟨k, rfl⟩ : ∃ m, k = m + 1 := ⟨k - 1, by omega⟩
    simp only [spec_l3Words.l0]
    rw [if_neg (by omega)]
    exact ⟨_, _, _, rfl, by simp, hv, hc⟩
  | succ d ih =>
    intro k o i h hk ho hv hc
    obtain ⟨k, rfl⟩ : ∃ m, k = m + 1 := ⟨k - 1, by omega⟩
    simp only [spec_l3Words.l0]
    obtain ⟨x, i1, h1, e1, hx, hc1⟩ := l3Word_some hc h
    rw [if_pos (by omega), e1, Option.bind_some, if_pos (by omega), w64 (by omega) (by omega), show ((d + 1 : Nat) : Int) - 1 = (d : Int) by omega]
    obtain ⟨o', i', h', e, hl, hv', hc'⟩ := ih k (o ++ [x]) i1 h1 (by omega) (by simp; omega) (by
      intro v hv2
      rcases List.mem_append.1 hv2 with hv2 | hv2
      · exact hv v hv2
      · simp only [List.mem_singleton] at hv2
        rw [hv2]
        exact hx) hc1
    exact ⟨o', i', h', e, by rw [hl]; simp; omega, hv', hc'⟩
theorem l3Words_some {b : List Int} {i : Int} (hc : Cur b i) (h : Int) (k : Nat) (hk : 10 ≤ k) : ∃ o i' h', spec_l3Words.f k b i h = some (o, i', h') ∧ o.length ≤ 5 ∧ (∀ v ∈ o, -1 ≤ v ∧ v ≤ 2147483648) ∧ Cur b i' := by
  unfold spec_l3Words.f
  obtain ⟨n, i1, h1, e1, n0, n1, hc1⟩ := l1Below_some hc h 5 (by omega)
  rw [e1, Option.bind_some]
  obtain ⟨o', i', h', e, hl, hv', hc'⟩ := l3Words_l0 b n.toNat k [] i1 h1 (by omega) (by simp; omega) (by simp) hc1
  rw [show ((n.toNat : Nat) : Int) = n by omega] at e
  exact ⟨o', i', h', e, by rw [hl]; simp; omega, hv', hc'⟩

theorem l1Str_some {b : List Int} {i : Int} (hc : Cur b i) (h : Int) (l : List ByteArray) (hl : 0 < l.length) (P : ByteArray → Prop) (hP : ∀ x ∈ l, P x) : ∃ x i' h', spec_l1Str.f b i h l = some (x, i', h') ∧ P x ∧ Cur b i' := by
  unfold spec_l1Str.f
  obtain ⟨x, i1, h1, e1, x0, x1, hc1⟩ := l1Below_some hc h (l.length : Int) (by omega)
  rw [e1, Option.bind_some, if_pos x0, if_pos x1]
  refine ⟨_, _, _, rfl, ?_, hc1⟩
  show P (rdOf ByteArray.empty l x)
  unfold rdOf
  rw [List.getD_eq_getElem?_getD, List.getElem?_eq_getElem (by omega)]
  exact hP _ (List.getElem_mem _)

theorem rd_nat (x : List Int) (i : Nat) (h : i < x.length) : rd x (i : Int) = x[i] := by
  unfold rd
  rw [List.getD_eq_getElem?_getD, Int.toNat_natCast, List.getElem?_eq_getElem h]
  rfl
theorem cast_succ (i : Nat) (h : i < 4611686018427387904) : wrap64 ((i : Int) + 1) = ((i + 1 : Nat) : Int) := by
  rw [w64 (by omega) (by omega)]
  rfl
theorem drop_cons {α : Type} (x : List α) (i : Nat) (h : i < x.length) : x.drop i = x[i] :: x.drop (i + 1) := List.drop_eq_getElem_cons h

def inR (x lo hi : Int) : Bool := decide (lo ≤ x) && decide (x ≤ hi)
theorem inR_true {x lo hi : Int} : inR x lo hi = true ↔ lo ≤ x ∧ x ≤ hi := by simp [inR]
theorem inR_false {x lo hi : Int} : inR x lo hi = false ↔ ¬ (lo ≤ x ∧ x ≤ hi) := by simp [inR]

theorem tmod_tmod {p q : Int} (hq : 0 < q) : Int.tmod (Int.tmod p q + q) q = p % q ∧ -q < Int.tmod p q ∧ Int.tmod p q < q := by
  have h1 : -q < Int.tmod p q := by
    rcases Int.le_total 0 p with h | h
    · have := Int.tmod_nonneg q h
      omega
    · have h2 := Int.tmod_lt_of_pos (-p) hq
      rw [Int.neg_tmod] at h2
      omega
  have h2 : Int.tmod p q < q := Int.tmod_lt_of_pos p hq
  refine ⟨?_, h1, h2⟩
  rw [Int.tmod_eq_emod_of_nonneg (by omega), Int.tmod_def, show p - q * p.tdiv q + q = p + q * (1 - p.tdiv q) by rw [Int.mul_sub, Int.mul_one]; omega, Int.add_mul_emod_self_left]
def modI (p q : Int) : Int := if inR q 1 1000000000000 = true then p % q else 0

/-- One step of the hash. -/
def hstep (s v : Int) : Int := (s * 1000003 + modI v 2147483647 + 13) % 2147483647
def hashI (l : List Int) : Int := l.foldl hstep 11
theorem modI_bd (v : Int) : 0 ≤ modI v 2147483647 ∧ modI v 2147483647 < 2147483647 := by
  unfold modI
  rw [if_pos (by decide)]
  omega
theorem hstep_bd (s v : Int) : 0 ≤ hstep s v ∧ hstep s v < 2147483647 := by unfold hstep; omega
theorem hstep_eq {s : Int} (v : Int) (h0 : 0 ≤ s) (h1 : s < 2147483647) : Int.tmod (wrap64 ((wrap64 ((wrap64 (s * 1000003)) + modI v 2147483647)) + 13)) 2147483647 = hstep s v := by
  have hm := modI_bd v
  rw [w64 (n := s * 1000003) (by omega) (by omega), w64 (n := s * 1000003 + modI v 2147483647) (by omega) (by omega), w64 (n := s * 1000003 + modI v 2147483647 + 13) (by omega) (by omega), Int.tmod_eq_emod_of_nonneg (by omega)]
  rfl
theorem foldl_bd (l : List Int) : ∀ (s : Int), 0 ≤ s → s < 2147483647 → 0 ≤ l.foldl hstep s ∧ l.foldl hstep s < 2147483647 := by
  induction l with
  | nil => intro s h0 h1; exact ⟨h0, h1⟩
  | cons v r ih => intro s _ _; exact ih _ (hstep_bd s v).1 (hstep_bd s v).2
theorem hashI_bd (l : List Int) : 0 ≤ hashI l ∧ hashI l < 2147483647 := foldl_bd l 11 (by omega) (by omega)

theorem iIn (x lo hi : Int) : impl_InRange.f x lo hi = some (inR x lo hi) := by
  unfold impl_InRange.f inR
  by_cases h : lo ≤ x <;> simp [h]

theorem iMod (p q : Int) : impl_Mod.f p q = some (modI p q) := by
  unfold impl_Mod.f modI
  rw [iIn]
  cases h : inR q 1 1000000000000
  · simp
  · rw [inR_true] at h
    obtain ⟨e, l, u⟩ := tmod_tmod (p := p) (q := q) (by omega)
    simp only [Option.bind_some, if_true]
    rw [if_neg (by omega), w64 (n := Int.tmod p q + q) (by omega) (by omega), e]

theorem iHash_l0 (x : List Int) (hx : x.length ≤ 140737488351232) : ∀ (d k i : Nat) (s : Int), i + d = x.length → d < k → 0 ≤ s → s < 2147483647 → impl_Hash.l0 k s x (x.length : Int) (i : Int) = some ((x.drop i).foldl hstep s) := by
  intro d
  induction d with
  | zero =>
    intro k i s hd hk _ _
    obtain ⟨k, rfl⟩ : ∃ m, k = m + 1 := ⟨k - 1, by omega⟩
    simp only [impl_Hash.l0]
    rw [if_neg (by omega), List.drop_eq_nil_of_le (by omega)]
    rfl
  | succ d ih =>
    intro k i s hd hk h0 h1
    obtain ⟨k, rfl⟩ : ∃ m, k = m + 1 := ⟨k - 1, by omega⟩
    simp only [impl_Hash.l0]
    rw [if_pos (by omega), if_pos (by omega), if_pos (by omega), iMod, rd_nat x i (by omega), cast_succ i (by omega)]
    simp only [Option.bind_some]
    rw [hstep_eq _ h0 h1, ih k (i + 1) _ (by omega) (by omega) (hstep_bd _ _).1 (hstep_bd _ _).2, drop_cons x i (by omega)]
    rfl
theorem iHash (x : List Int) (hx : x.length ≤ 140737488351232) (k : Nat) (hk : x.length < k) : impl_Hash.f k x = some (hashI x) := iHash_l0 x hx x.length k 0 11 (by omega) hk (by omega) (by omega)

def keyedI (s : Int) (l : List Int) : Int := hashI ([s] ++ l ++ [s])
theorem keyedI_bd (s : Int) (l : List Int) : 0 ≤ keyedI s l ∧ keyedI s l < 2147483647 := hashI_bd _

theorem iKeyed (s : Int) (l : List Int) (hl : l.length ≤ 17592186044000) (k : Nat) (hk : l.length + 2 < k) : impl_KeyedHash.f k s l = some (keyedI s l) := by
  unfold impl_KeyedHash.f keyedI
  rw [if_pos (by omega), iHash _ (by simp only [List.length_append, List.length_cons, List.length_nil]; omega) _ (by simp only [List.length_append, List.length_cons, List.length_nil]; omega)]

theorem iB2I_l0 (x : List Int) (hb : ∀ v ∈ x, 0 ≤ v ∧ v ≤ 255) (hx : x.length ≤ 1048576) : ∀ (d k i : Nat) (o : List Int), i + d = x.length → d < k → o.length ≤ 1 + i → impl_BytesToInts.l0 k o x (x.length : Int) (i : Int) = some (o ++ x.drop i) := by
  intro d
  induction d with
  | zero =>
    intro k i o hd hk _
    obtain ⟨k, rfl⟩ : ∃ m, k = m + 1 := ⟨k - 1, by omega⟩
    simp only [impl_BytesToInts.l0]
    rw [if_neg (by omega), List.drop_eq_nil_of_le (by omega), List.append_nil]
  | succ d ih =>
    intro k i o hd hk ho
    obtain ⟨k, rfl⟩ : ∃ m, k = m + 1 := ⟨k - 1, by omega⟩
    have hv := hb x[i] (List.getElem_mem _)
    simp only [impl_BytesToInts.l0]
    rw [if_pos (by omega), if_pos (by omega), if_pos (by omega), if_pos (by omega), rd_nat x i (by omega), cast_succ i (by omega), w64 (by omega) (by omega), ih k (i + 1) _ (by omega) (by omega) (by simp; omega), drop_cons x i (by omega), List.append_assoc]
    rfl
theorem iB2I (x : List Int) (hb : ∀ v ∈ x, 0 ≤ v ∧ v ≤ 255) (hx : x.length ≤ 1048576) (k : Nat) (hk : x.length < k) : impl_BytesToInts.f k x = some ((x.length : Int) :: x) := iB2I_l0 x hb hx x.length k 0 _ (by omega) hk (by simp)

theorem bytesOf_bd (s : ByteArray) : ∀ v ∈ bytesOf s, 0 ≤ v ∧ v ≤ 255 := by
  intro v hv
  unfold bytesOf at hv
  obtain ⟨b, _, rfl⟩ := List.mem_map.1 hv
  have := b.toNat_lt
  omega

/-- What DeriveFromString gives. -/
def deriveI (k : Int) (s : ByteArray) : Int := if keyedI k ((s.size : Int) :: bytesOf s) > 1 then keyedI k ((s.size : Int) :: bytesOf s) else 1
theorem iDerive (k0 : Int) (s : ByteArray) (hs : s.size ≤ 1048576) (k : Nat) (hk : s.size + 4 ≤ k) : impl_DeriveFromString.f k k0 s = some (deriveI k0 s) := by
  have hl := bytesOf_length s
  unfold impl_DeriveFromString.f deriveI
  rw [if_pos (by omega), iB2I _ (bytesOf_bd s) (by omega) k (by omega), Option.bind_some, iKeyed _ _ (by simp only [List.length_cons]; omega) k (by simp only [List.length_cons]; omega), Option.bind_some, hl]
  unfold impl_orOne.f mx
  congr 1
  split <;> split <;> omega

theorem gcd_one : Nat.gcd 2147483647 1000003 = 1 := by simp only [Nat.reduceGcd]
theorem natAbs_a : Int.natAbs 2147483647 = 2147483647 := by omega
theorem natAbs_b : Int.natAbs 1000003 = 1000003 := by omega
theorem hstep_inj {s t v : Int} (h0 : 0 ≤ s) (h1 : s < 2147483647) (h2 : 0 ≤ t) (h3 : t < 2147483647) (h : hstep s v = hstep t v) : s = t := by
  have hlt : (s - t).natAbs < 2147483647 := by clear h; omega
  unfold hstep at h
  generalize modI v 2147483647 = m at h
  have hd : (2147483647 : Int) ∣ (s - t) * 1000003 := by
    refine ⟨(s * 1000003 + m + 13) / 2147483647 - (t * 1000003 + m + 13) / 2147483647, ?_⟩
    have e1 := Int.mul_ediv_add_emod (s * 1000003 + m + 13) 2147483647
    have e2 := Int.mul_ediv_add_emod (t * 1000003 + m + 13) 2147483647
    rw [h] at e1
    rw [Int.sub_mul, Int.mul_sub]
    generalize (t * 1000003 + m + 13) % 2147483647 = c at e1 e2
    generalize 2147483647 * ((s * 1000003 + m + 13) / 2147483647) = a at e1 ⊢
    generalize 2147483647 * ((t * 1000003 + m + 13) / 2147483647) = b at e2 ⊢
    generalize s * 1000003 = c1 at e1 ⊢
    generalize t * 1000003 = c2 at e2 ⊢
    omega
  have hn : 2147483647 ∣ (s - t).natAbs * 1000003 := by
    have h5 := Int.natAbs_dvd_natAbs.2 hd
    rw [Int.natAbs_mul, natAbs_a, natAbs_b] at h5
    exact h5
  have hz := Nat.eq_zero_of_dvd_of_lt (Nat.Coprime.dvd_of_dvd_mul_right gcd_one hn) hlt
  clear hd hn h hlt h0 h1 h2 h3
  omega
theorem hstep_val {s v w : Int} (h : hstep s v = hstep s w) : modI v 2147483647 = modI w 2147483647 := by
  have hm := modI_bd v
  have hn := modI_bd w
  unfold hstep at h
  generalize modI v 2147483647 = m at h hm ⊢
  generalize modI w 2147483647 = n at h hn ⊢
  omega
theorem foldl_inj (l : List Int) : ∀ (s t : Int), 0 ≤ s → s < 2147483647 → 0 ≤ t → t < 2147483647 → l.foldl hstep s = l.foldl hstep t → s = t := by
  induction l with
  | nil => intro s t _ _ _ _ h; exact h
  | cons v r ih =>
    intro s t h0 h1 h2 h3 h
    have := ih _ _ (hstep_bd s v).1 (hstep_bd s v).2 (hstep_bd t v).1 (hstep_bd t v).2 h
    exact hstep_inj h0 h1 h2 h3 this
/-- One value of another rest changes the hash. -/
theorem hashI_inj (a b : List Int) (v w : Int) (h : hashI (a ++ v :: b) = hashI (a ++ w :: b)) : modI v 2147483647 = modI w 2147483647 := by
  unfold hashI at h
  rw [List.foldl_append, List.foldl_append, List.foldl_cons, List.foldl_cons] at h
  exact hstep_val (foldl_inj b _ _ (hstep_bd _ _).1 (hstep_bd _ _).2 (hstep_bd _ _).1 (hstep_bd _ _).2 h)

theorem sIn (x lo hi : Int) : spec_l1In.f x lo hi = some (inR x lo hi) := by
  unfold spec_l1In.f inR
  by_cases h : lo ≤ x <;> simp [h]

theorem sMod (p q : Int) : spec_Mod.f p q = some (modI p q) := by
  unfold spec_Mod.f modI
  rw [sIn]
  cases h : inR q 1 1000000000000
  · simp
  · rw [inR_true] at h
    obtain ⟨e, l, u⟩ := tmod_tmod (p := p) (q := q) (by omega)
    simp only [Option.bind_some, if_true]
    rw [if_neg (by omega), w64 (n := Int.tmod p q + q) (by omega) (by omega), e]

theorem lawAt_some (l : List Int) (hb : ∀ v ∈ l, 0 ≤ v ∧ v ≤ 255) (hl : l.length ≤ 1048576) (i : Int) (h0 : 0 ≤ i) (h1 : i ≤ 1000) : ∃ x, laws_at.f l i = some x ∧ 0 ≤ x ∧ x ≤ 255 := by
  unfold laws_at.f
  by_cases c : i < (l.length : Int)
  · rw [if_pos c, if_pos h0]
    have e : rd l i = l[i.toNat] := by
      have := rd_nat l i.toNat (by omega)
      rwa [show ((i.toNat : Nat) : Int) = i by omega] at this
    have hv := hb l[i.toNat] (List.getElem_mem _)
    exact ⟨_, rfl, by rw [e, w64 (by omega) (by omega)]; exact hv.1, by rw [e, w64 (by omega) (by omega)]; exact hv.2⟩
  · rw [if_neg c]
    refine ⟨_, rfl, ?_⟩
    rw [w64 (n := i * 31) (by omega) (by omega), w64 (n := (l.length : Int) * 7) (by omega) (by omega), w64 (n := i * 31 + (l.length : Int) * 7) (by omega) (by omega)]
    have := tmod_lt (x := i * 31 + (l.length : Int) * 7) (n := 256) (by omega) (by omega)
    omega

theorem drawD (l : List Int) (hl : l.length ≤ 1048576) (k : Nat) (hk : 4001 ≤ k) : ∃ s t, spec_DrawDeriveFromString.f k l = some (s, t) ∧ t.size ≤ 100 := by
  unfold spec_DrawDeriveFromString.f
  obtain ⟨h0, e0, hc0⟩ := l1New_some l (by omega) k (by omega)
  rw [e0, Option.bind_some]
  obtain ⟨s, i1, h1, e1, hs, hc1⟩ := l3Word_some hc0 h0
  rw [e1, Option.bind_some]
  obtain ⟨t, i2, h2, e2, ht, hc2⟩ := l1Str_some hc1 h1 [(⟨#[]⟩ : ByteArray), (⟨#[97]⟩ : ByteArray), (⟨#[98]⟩ : ByteArray), (⟨#[97, 98]⟩ : ByteArray), (⟨#[110, 101, 119, 115]⟩ : ByteArray), (⟨#[120]⟩ : ByteArray)] (by decide) (fun x => x.size ≤ 100) (by
    intro x hx
    simp only [List.mem_cons, List.mem_nil_iff, or_false] at hx
    rcases hx with rfl | rfl | rfl | rfl | rfl | rfl <;> decide)
  rw [e2]
  exact ⟨_, _, rfl, ht⟩
theorem validD (k0 : Int) (s : ByteArray) : impl_IsValidKey.f (deriveI k0 s) = some true := by
  have h := keyedI_bd k0 ((s.size : Int) :: bytesOf s)
  unfold impl_IsValidKey.f deriveI
  rw [iIn, Option.bind_some]
  congr 1
  rw [inR_true]
  split <;> omega
theorem FnKeyedHash : laws_FnKeyedHash.Pure := by
  intro l _ hl hw
  have hb : ∀ v ∈ l, 0 ≤ v ∧ v ≤ 255 := fun v hv => of_wf8 (hw v hv)
  refine ⟨5000, ?_⟩
  unfold laws_FnKeyedHash.f laws_big.f
  simp only [Option.bind_some, decide_eq_true_eq]
  by_cases hbig : (l.length : Int) > 1048576
  · rw [if_pos hbig]
  · rw [if_neg hbig]
    obtain ⟨s, x, e, hx, hxb⟩ : ∃ s x, spec_DrawKeyedHash.f 5000 l = some (s, x) ∧ x.length ≤ 5 ∧ (∀ v ∈ x, -1 ≤ v ∧ v ≤ 2147483648) := by
      unfold spec_DrawKeyedHash.f
      obtain ⟨h0, e0, hc0⟩ := l1New_some l (by omega) 5000 (by omega)
      rw [e0, Option.bind_some]
      obtain ⟨s, i1, h1, e1, _, hc1⟩ := l3Word_some hc0 h0
      rw [e1, Option.bind_some]
      obtain ⟨o, i2, h2, e2, ho, hob, hc2⟩ := l3Words_some hc1 h1 5000 (by omega)
      rw [e2]
      exact ⟨_, _, rfl, ho, hob⟩
    have hk := keyedI_bd s x
    have hj : laws_FnKeyedHash.j0 5000 l s x (keyedI s x) false = some true := by
      obtain ⟨s2, t2, e2, ht2⟩ := drawD l (by omega) 4999 (by omega)
      simp only [laws_FnKeyedHash.j0, Bool.false_eq_true, if_false]
      rw [e2]
      simp only [Option.bind_some]
      rw [iDerive s2 t2 (by omega) 4999 (by omega), Option.bind_some, validD, Option.bind_some]
      by_cases c : (x.length : Int) > 0
      · rw [if_pos c, if_pos (by simp; omega)]
        simp only [List.nil_append]
        obtain ⟨y, ey, y0, y1⟩ := lawAt_some l hb (by omega) 0 (by omega) (by omega)
        obtain ⟨z, ez, z0, z1⟩ := lawAt_some l hb (by omega) 1 (by omega) (by omega)
        have ht := tmod_lt (x := y) (n := (x.length : Int)) y0 (by omega)
        rw [ey, Option.bind_some, if_neg (by omega), if_pos (by omega), if_pos (by omega), ez, Option.bind_some, sMod, Option.bind_some]
        obtain ⟨i, hi⟩ : ∃ i : Nat, (i : Int) = Int.tmod y (x.length : Int) := ⟨(Int.tmod y (x.length : Int)).toNat, by omega⟩
        rw [← hi, Int.toNat_natCast, rd_nat x i (by omega)]
        have hv := hxb x[i] (List.getElem_mem _)
        rw [w64 (n := x[i] + 1) (by omega) (by omega), w64 (n := x[i] + 1 + z) (by omega) (by omega), iKeyed s _ (by simp; omega) 4999 (by simp; omega), Option.bind_some, if_neg]
        intro h
        unfold keyedI at h
        have hs : x.set i (modI (x[i] + 1 + z) 2147483647) = x.take i ++ modI (x[i] + 1 + z) 2147483647 :: x.drop (i + 1) := by
          rw [List.set_eq_take_append_cons_drop, if_pos (by omega)]
        have hx' : x = x.take i ++ x[i] :: x.drop (i + 1) := by rw [← drop_cons x i (by omega), List.take_append_drop]
        rw [hs] at h
        have e0 : (s :: x.take i) ++ x[i] :: (x.drop (i + 1) ++ [s]) = [s] ++ (x.take i ++ x[i] :: x.drop (i + 1)) ++ [s] := by simp only [List.cons_append, List.nil_append, List.append_assoc]
        rw [← hx'] at e0
        have e3 : (s :: x.take i) ++ modI (x[i] + 1 + z) 2147483647 :: (x.drop (i + 1) ++ [s]) = [s] ++ (x.take i ++ modI (x[i] + 1 + z) 2147483647 :: x.drop (i + 1)) ++ [s] := by simp only [List.cons_append, List.nil_append, List.append_assoc]
        have h' : hashI ((s :: x.take i) ++ modI (x[i] + 1 + z) 2147483647 :: (x.drop (i + 1) ++ [s])) = hashI ((s :: x.take i) ++ x[i] :: (x.drop (i + 1) ++ [s])) := by rw [e0, e3]; exact h
        have hm := hashI_inj _ _ _ _ h'
        have e1 : ∀ v : Int, modI v 2147483647 = v % 2147483647 := fun v => by unfold modI; rw [if_pos (by decide)]
        rw [e1, e1, e1] at hm
        omega
      · rw [if_neg c]
    rw [e]
    simp only [Option.bind_some]
    rw [iKeyed s x (by omega) 5000 (by omega), Option.bind_some, if_neg (by omega), if_neg (by omega), if_pos (by simp; omega), if_pos (by simp; omega), iHash _ (by simp; omega) 5000 (by simp; omega), Option.bind_some, show (keyedI s x != hashI ([s] ++ x ++ [s])) = false from bne_self_eq_false _]
    exact hj

end Go.Proofs.Ytobpbnbjdpdflac.Pure
namespace Go.Proofs.Ytobpbnbjdpdflac
/-- The seat's own word, under the name by which the row asks for it. -/
theorem PrintWords.sized_ints {H : Type} {enc : TypeId × Value → H} {P : Program} {W : World} {base : Nat} {spare : Nat → Bool} {held : Bool} {t e : TypeId} {k : IntKind} {a : Option Addr} {len cap : Nat} {d : DataW H} {ps : List MemPlace} {ts : List TypeId} {ds : List (DataW H)} {j : Nat}
    (hsz : (DataW.weightsEach P ts ds).all (· ≤ reachBytes) = true) (ht : ts[j]? = some t) (hd : ds[j]? = some d) (hu : P.underlying t = some (.slice e)) (he : P.underlying e = some (.int k)) (hc : P.cellsOf e = 1) {B : Nat} (hB : P.bytesOf e = B)
    (h : DataW.Trod enc P W base spare held t (.slice a len cap) d ps) : len * B ≤ 140737488351232 := Go.Proofs.YtobpbnbjdpdflacW.PrintWords.sized_ints hsz ht hd hu he hc hB h
end Go.Proofs.Ytobpbnbjdpdflac
