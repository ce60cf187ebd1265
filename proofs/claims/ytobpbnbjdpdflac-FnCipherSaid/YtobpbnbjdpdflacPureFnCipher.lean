/- FnCipher holds: whatever is drawn, a text is what its cipher decrypts to, a cipher is what its plain text encrypts to, and a cipher is as long as its text. No conditions. -/
import Derived.Test.YtobpbnbjdpdflacPFnCipherx3
import Derived.OpenShut
import Derived.Test.YtobpbnbjdpdflacWSized
namespace Go.Proofs.Ytobpbnbjdpdflac.Pure
open Go.RowKit Go.Proofs.Ytobpbnbjdpdflac.PFnCipher Go.Proofs.YtobpbnbjdpdflacW.PrintWords Go.Proofs.YtobpbnbjdpdflacW.PrintLast
set_option linter.unusedVariables false
set_option linter.unusedSimpArgs false

theorem w64 {n : Int} (h : -9223372036854775808 ≤ n) (h' : n ≤ 9223372036854775807) : wrap64 n = n := by unfold wrap64; omega
theorem w64_lo (n : Int) : -9223372036854775808 ≤ wrap64 n := by unfold wrap64; omega
theorem w64_hi (n : Int) : wrap64 n ≤ 9223372036854775807 := by unfold wrap64; omega
theorem of_wf {n : Int} (h : (Lit.int .i64 n).wf = true) : -9223372036854775808 ≤ n ∧ n ≤ 9223372036854775807 := bounds_i64 h
theorem of_wf8 {n : Int} (h : (Lit.int .u8 n).wf = true) : 0 ≤ n ∧ n ≤ 255 := bounds_u8 h
theorem and_le (x : Int) (m : Nat) (hm : m < 9223372036854775808) : 0 ≤ bits .and .i64 x (m : Int) ∧ bits .and .i64 x (m : Int) ≤ m := by
  unfold bits
  rw [Go.IntKind.wrap_i64]
  simp only [BitVec.toNat_and]
  have h1 : (BitVec.ofInt IntKind.i64.bits (m : Int)).toNat = m := by
    rw [BitVec.ofInt_natCast, BitVec.toNat_ofNat]
    exact Nat.mod_eq_of_lt (by show m < 2 ^ 64; omega)
  rw [h1]
  have h2 : (BitVec.ofInt IntKind.i64.bits x).toNat &&& m ≤ m := Nat.and_le_right
  omega
theorem and255 (x : Int) : 0 ≤ bits .and .i64 x 255 ∧ bits .and .i64 x 255 ≤ 255 := and_le x 255 (by decide)
theorem tmod_lt {x n : Int} (h0 : 0 ≤ x) (hn : 0 < n) : 0 ≤ Int.tmod x n ∧ Int.tmod x n < n := by
  rw [Int.tmod_eq_emod_of_nonneg h0]
  exact ⟨Int.emod_nonneg _ (by omega), Int.emod_lt_of_pos _ hn⟩

/-- A cursor that stands inside its bytes. -/
def Cur (b : List Int) (i : Int) : Prop := 0 ≤ i ∧ i ≤ (b.length : Int) ∧ b.length ≤ 140737488351232
theorem l1New_l0 (l : List Int) (hl : l.length ≤ 140737488351232) : ∀ (d k : Nat) (h i : Int), 0 ≤ i → (l.length : Int) - i ≤ d → d < k → ∃ h', spec_l1New.l0 k l h i = some (l, 0, h') := by
  intro d
  induction d with
  | zero =>
    intro k h i h0 h1 hk
    obtain ⟨k, rfl⟩ : ∃ m, k = m + 1 := ⟨k - 1, by omega⟩
    exact ⟨h, by simp only [spec_l1New.l0]; rw [if_neg (by omega)]⟩
  | succ d ih =>
    intro k h i h0 h1 hk
    obtain ⟨k, rfl⟩ : ∃ m, k = m + 1 := ⟨k - 1, by omega⟩
    by_cases c1 : i < (l.length : Int)
    · by_cases c2 : i < 4000
      · obtain ⟨h', e⟩ := ih k _ (i + 1) (by omega) (by omega) (by omega)
        exact ⟨h', by simp only [spec_l1New.l0]; rw [if_pos c1, if_pos c2, if_pos h0, w64 (n := i + 1) (by omega) (by omega)]; exact e⟩
      · exact ⟨h, by simp only [spec_l1New.l0]; rw [if_pos c1, if_neg c2]⟩
    · exact ⟨h, by simp only [spec_l1New.l0]; rw [if_neg c1]⟩
theorem l1New_l0' (l : List Int) (hl : l.length ≤ 140737488351232) : ∀ (d k : Nat) (h i : Int), 0 ≤ i → i ≤ 4000 → 4000 - i ≤ d → d < k → ∃ h', spec_l1New.l0 k l h i = some (l, 0, h') := by
  intro d
  induction d with
  | zero =>
    intro k h i h0 h9 h1 hk
    obtain ⟨k, rfl⟩ : ∃ m, k = m + 1 := ⟨k - 1, by omega⟩
    by_cases c1 : i < (l.length : Int)
    · exact ⟨h, by simp only [spec_l1New.l0]; rw [if_pos c1, if_neg (by omega)]⟩
    · exact ⟨h, by simp only [spec_l1New.l0]; rw [if_neg c1]⟩
  | succ d ih =>
    intro k h i h0 h9 h1 hk
    obtain ⟨k, rfl⟩ : ∃ m, k = m + 1 := ⟨k - 1, by omega⟩
    by_cases c1 : i < (l.length : Int)
    · by_cases c2 : i < 4000
      · obtain ⟨h', e⟩ := ih k _ (i + 1) (by omega) (by omega) (by omega) (by omega)
        exact ⟨h', by simp only [spec_l1New.l0]; rw [if_pos c1, if_pos c2, if_pos h0, w64 (n := i + 1) (by omega) (by omega)]; exact e⟩
      · exact ⟨h, by simp only [spec_l1New.l0]; rw [if_pos c1, if_neg c2]⟩
    · exact ⟨h, by simp only [spec_l1New.l0]; rw [if_neg c1]⟩
/-- A new cursor stands at the begin; 4001 rounds are enough. -/
theorem l1New_some (l : List Int) (hl : l.length ≤ 140737488351232) (k : Nat) (hk : 4001 ≤ k) : ∃ h, spec_l1New.f k l = some (l, 0, h) ∧ Cur l 0 := by
  obtain ⟨h, e⟩ := l1New_l0' l hl 4000 k (wrap64 (193017 + (l.length : Int))) 0 (by omega) (by omega) (by omega) (by omega)
  exact ⟨h, e, ⟨by omega, by omega, hl⟩⟩
theorem l1Byte_some {b : List Int} {i : Int} (hc : Cur b i) (h : Int) : ∃ x i' h', spec_l1Byte.f b i h = some (x, i', h') ∧ 0 ≤ x ∧ x ≤ 255 ∧ Cur b i' := by
  obtain ⟨h0, h1, hb⟩ := hc
  unfold spec_l1Byte.f
  by_cases c : i < (b.length : Int)
  · rw [if_pos c, if_pos h0, w64 (n := i + 1) (by omega) (by omega)]
    exact ⟨_, _, _, rfl, (and255 _).1, (and255 _).2, by omega, by omega, hb⟩
  · rw [if_neg c]
    exact ⟨_, _, _, rfl, (and255 _).1, (and255 _).2, h0, h1, hb⟩
theorem l1Below_some {b : List Int} {i : Int} (hc : Cur b i) (h n : Int) (hn : 0 < n) : ∃ x i' h', spec_l1Below.f b i h n = some (x, i', h') ∧ 0 ≤ x ∧ x < n ∧ Cur b i' := by
  unfold spec_l1Below.f
  rw [if_neg (by omega)]
  by_cases c : n ≤ 256
  · rw [if_pos c]
    obtain ⟨x, i1, h1, e1, x0, x1, hc1⟩ := l1Byte_some hc h
    rw [e1]; simp only [Option.bind_some]
    rw [if_neg (by omega)]
    exact ⟨_, _, _, rfl, (tmod_lt x0 hn).1, (tmod_lt x0 hn).2, hc1⟩
  · rw [if_neg c]
    obtain ⟨x, i1, h1, e1, x0, x1, hc1⟩ := l1Byte_some hc h
    rw [e1]; simp only [Option.bind_some]
    obtain ⟨y, i2, h2, e2, y0, y1, hc2⟩ := l1Byte_some hc1 h1
    rw [e2]; simp only [Option.bind_some]
    obtain ⟨z, i3, h3, e3, z0, z1, hc3⟩ := l1Byte_some hc2 h2
    rw [e3]; simp only [Option.bind_some]
    rw [if_neg (by omega), w64 (n := x * 65536) (by omega) (by omega), w64 (n := y * 256) (by omega) (by omega), w64 (n := x * 65536 + y * 256) (by omega) (by omega), w64 (n := x * 65536 + y * 256 + z) (by omega) (by omega)]
    exact ⟨_, _, _, rfl, (tmod_lt (by omega) hn).1, (tmod_lt (by omega) hn).2, hc3⟩
theorem l1Below_some0 {b : List Int} {i : Int} (hc : Cur b i) (h n : Int) : ∃ x i' h', spec_l1Below.f b i h n = some (x, i', h') ∧ 0 ≤ x ∧ x ≤ mx 0 n ∧ Cur b i' := by
  by_cases hn : 0 < n
  · obtain ⟨x, i', h', e, x0, x1, hc'⟩ := l1Below_some hc h n hn
    exact ⟨x, i', h', e, x0, by unfold mx; split <;> omega, hc'⟩
  · refine ⟨0, i, h, ?_, by omega, by unfold mx; split <;> omega, hc⟩
    unfold spec_l1Below.f
    rw [if_pos (by omega)]

theorem l1Bytes_l0 (n : Nat) (hn : n ≤ 1000) (b : List Int) : ∀ (d k j : Nat) (o : List Int) (i h : Int), j + d = n → d < k → o.length = j → (∀ v ∈ o, 0 ≤ v ∧ v ≤ 255) → Cur b i →
    ∃ o' i' h', spec_l1Bytes.l0 k (n : Int) o (j : Int) b i h = some (o', i', h') ∧ o'.length = n ∧ (∀ v ∈ o', 0 ≤ v ∧ v ≤ 255) ∧ Cur b i' := by
  intro d
  induction d with
  | zero =>
    intro k j o i h hd hk ho hb hc
    obtain ⟨k, rfl⟩ : ∃ m, k = m + 1 := ⟨k - 1, by omega⟩
    simp only [spec_l1Bytes.l0]
    rw [if_neg (by omega)]
    exact ⟨_, _, _, rfl, by omega, hb, hc⟩
  | succ d ih =>
    intro k j o i h hd hk ho hb hc
    obtain ⟨k, rfl⟩ : ∃ m, k = m + 1 := ⟨k - 1, by omega⟩
    simp only [spec_l1Bytes.l0]
    obtain ⟨x, i1, h1, e1, x0, x1, hc1⟩ := l1Byte_some hc h
    rw [if_pos (by omega), e1, Option.bind_some, if_pos (by omega), show wrap64 ((j : Int) + 1) = ((j + 1 : Nat) : Int) by rw [w64 (by omega) (by omega)]; rfl]
    refine ih k (j + 1) _ i1 h1 (by omega) (by omega) (by simp [ho]) ?_ hc1
    intro v hv
    rcases List.mem_append.1 hv with hv | hv
    · exact hb v hv
    · simp only [List.mem_singleton] at hv
      omega
theorem l1Bytes_some {b : List Int} {i : Int} (hc : Cur b i) (h n : Int) (h0 : 0 ≤ n) (hn : n ≤ 1000) (k : Nat) (hk : 1001 ≤ k) :
    ∃ o i' h', spec_l1Bytes.f k b i h n = some (o, i', h') ∧ (o.length : Int) = n ∧ (∀ v ∈ o, 0 ≤ v ∧ v ≤ 255) ∧ Cur b i' := by
  obtain ⟨o, i', h', e, ho, hb, hc'⟩ := l1Bytes_l0 n.toNat (by omega) b n.toNat k 0 [] i h (by omega) (by omega) rfl (by simp) hc
  refine ⟨o, i', h', ?_, by omega, hb, hc'⟩
  unfold spec_l1Bytes.f
  rwa [show ((n.toNat : Nat) : Int) = n by omega] at e

theorem l1Int_some {b : List Int} {i : Int} (hc : Cur b i) (h : Int) (l : List Int) (hl : 0 < l.length) (P : Int → Prop) (hP : ∀ x ∈ l, P x) : ∃ x i' h', spec_l1Int.f b i h l = some (x, i', h') ∧ P x ∧ Cur b i' := by
  unfold spec_l1Int.f
  obtain ⟨x, i1, h1, e1, x0, x1, hc1⟩ := l1Below_some hc h (l.length : Int) (by omega)
  rw [e1]; simp only [Option.bind_some]
  rw [if_pos x0, if_pos x1]
  refine ⟨_, _, _, rfl, hP _ ?_, hc1⟩
  unfold rd
  rw [List.getD_eq_getElem?_getD, List.getElem?_eq_getElem (show x.toNat < l.length by omega)]
  exact List.getElem_mem _

theorem l1Once_some {b : List Int} {i : Int} (hc : Cur b i) (h n : Int) (hn : 0 < n) : ∃ x i' h', spec_l1Once.f b i h n = some (x, i', h') ∧ Cur b i' := by
  unfold spec_l1Once.f
  obtain ⟨x, i1, h1, e1, x0, x1, hc1⟩ := l1Below_some hc h n hn
  rw [e1]; simp only [Option.bind_some]
  exact ⟨_, _, _, rfl, hc1⟩

theorem rd_nat (x : List Int) (i : Nat) (h : i < x.length) : rd x (i : Int) = x[i] := by
  unfold rd
  rw [List.getD_eq_getElem?_getD, Int.toNat_natCast, List.getElem?_eq_getElem h]
  rfl
theorem cast_succ (i : Nat) (h : i < 4611686018427387904) : wrap64 ((i : Int) + 1) = ((i + 1 : Nat) : Int) := by
  rw [w64 (by omega) (by omega)]
  rfl
theorem drop_cons {α : Type} (x : List α) (i : Nat) (h : i < x.length) : x.drop i = x[i] :: x.drop (i + 1) := List.drop_eq_getElem_cons h

def inR (x lo hi : Int) : Bool := decide (lo ≤ x) && decide (x ≤ hi)
theorem inR_true {x lo hi : Int} : inR x lo hi = true ↔ lo ≤ x ∧ x ≤ hi := by simp [inR]
theorem inR_false {x lo hi : Int} : inR x lo hi = false ↔ ¬ (lo ≤ x ∧ x ≤ hi) := by simp [inR]

theorem tmod_tmod {p q : Int} (hq : 0 < q) : Int.tmod (Int.tmod p q + q) q = p % q ∧ -q < Int.tmod p q ∧ Int.tmod p q < q := by
  have h1 : -q < Int.tmod p q := by
    rcases Int.le_total 0 p with h | h
    · have := Int.tmod_nonneg q h
      omega
    · have h2 := Int.tmod_lt_of_pos (-p) hq
      rw [Int.neg_tmod] at h2
      omega
  have h2 : Int.tmod p q < q := Int.tmod_lt_of_pos p hq
  refine ⟨?_, h1, h2⟩
  rw [Int.tmod_eq_emod_of_nonneg (by omega), Int.tmod_def, show p - q * p.tdiv q + q = p + q * (1 - p.tdiv q) by rw [Int.mul_sub, Int.mul_one]; omega, Int.add_mul_emod_self_left]
def modI (p q : Int) : Int := if inR q 1 1000000000000 = true then p % q else 0

/-- One step of the hash. -/
def hstep (s v : Int) : Int := (s * 1000003 + modI v 2147483647 + 13) % 2147483647
def hashI (l : List Int) : Int := l.foldl hstep 11
theorem modI_bd (v : Int) : 0 ≤ modI v 2147483647 ∧ modI v 2147483647 < 2147483647 := by
  unfold modI
  rw [if_pos (by decide)]
  omega
theorem hstep_bd (s v : Int) : 0 ≤ hstep s v ∧ hstep s v < 2147483647 := by unfold hstep; omega
theorem hstep_eq {s : Int} (v : Int) (h0 : 0 ≤ s) (h1 : s < 2147483647) : Int.tmod (wrap64 ((wrap64 ((wrap64 (s * 1000003)) + modI v 2147483647)) + 13)) 2147483647 = hstep s v := by
  have hm := modI_bd v
  rw [w64 (n := s * 1000003) (by omega) (by omega), w64 (n := s * 1000003 + modI v 2147483647) (by omega) (by omega), w64 (n := s * 1000003 + modI v 2147483647 + 13) (by omega) (by omega), Int.tmod_eq_emod_of_nonneg (by omega)]
  rfl
theorem foldl_bd (l : List Int) : ∀ (s : Int), 0 ≤ s → s < 2147483647 → 0 ≤ l.foldl hstep s ∧ l.foldl hstep s < 2147483647 := by
  induction l with
  | nil => intro s h0 h1; exact ⟨h0, h1⟩
  | cons v r ih => intro s _ _; exact ih _ (hstep_bd s v).1 (hstep_bd s v).2
theorem hashI_bd (l : List Int) : 0 ≤ hashI l ∧ hashI l < 2147483647 := foldl_bd l 11 (by omega) (by omega)

def keyedI (s : Int) (l : List Int) : Int := hashI ([s] ++ l ++ [s])
theorem keyedI_bd (s : Int) (l : List Int) : 0 ≤ keyedI s l ∧ keyedI s l < 2147483647 := hashI_bd _

/-- The bytes with the key's stream added (encL) or taken away (decL), from place i on. -/
def encL (s : Int) : Nat → List Int → List Int
  | _, [] => []
  | i, x :: r => (x + keyedI s [(i : Int)]) % 256 :: encL s (i + 1) r
def decL (s : Int) : Nat → List Int → List Int
  | _, [] => []
  | i, x :: r => (x - keyedI s [(i : Int)]) % 256 :: decL s (i + 1) r
theorem encL_len (s : Int) : ∀ (l : List Int) (i : Nat), (encL s i l).length = l.length
  | [], _ => rfl
  | _ :: r, i => by simp only [encL, List.length_cons, encL_len s r (i + 1)]
theorem decL_len (s : Int) : ∀ (l : List Int) (i : Nat), (decL s i l).length = l.length
  | [], _ => rfl
  | _ :: r, i => by simp only [decL, List.length_cons, decL_len s r (i + 1)]
theorem encL_byte (s : Int) : ∀ (l : List Int) (i : Nat), ∀ v ∈ encL s i l, 0 ≤ v ∧ v ≤ 255
  | [], _ => by simp [encL]
  | x :: r, i => by
    intro v hv
    simp only [encL, List.mem_cons] at hv
    rcases hv with rfl | hv
    · omega
    · exact encL_byte s r (i + 1) v hv
theorem decL_byte (s : Int) : ∀ (l : List Int) (i : Nat), ∀ v ∈ decL s i l, 0 ≤ v ∧ v ≤ 255
  | [], _ => by simp [decL]
  | x :: r, i => by
    intro v hv
    simp only [decL, List.mem_cons] at hv
    rcases hv with rfl | hv
    · omega
    · exact decL_byte s r (i + 1) v hv
theorem dec_encL (s : Int) : ∀ (l : List Int) (i : Nat), (∀ v ∈ l, 0 ≤ v ∧ v ≤ 255) → decL s i (encL s i l) = l
  | [], _, _ => rfl
  | x :: r, i, h => by
    have hx := h x List.mem_cons_self
    simp only [encL, decL, dec_encL s r (i + 1) (fun v hv => h v (List.mem_cons_of_mem _ hv))]
    congr 1
    omega
theorem enc_decL (s : Int) : ∀ (l : List Int) (i : Nat), (∀ v ∈ l, 0 ≤ v ∧ v ≤ 255) → encL s i (decL s i l) = l
  | [], _, _ => rfl
  | x :: r, i, h => by
    have hx := h x List.mem_cons_self
    simp only [encL, decL, enc_decL s r (i + 1) (fun v hv => h v (List.mem_cons_of_mem _ hv))]
    congr 1
    omega
theorem set_take (y : List Int) (i : Nat) (v : Int) (h : i < y.length) : (y.set i v).take (i + 1) = y.take i ++ [v] ∧ (y.set i v).drop (i + 1) = y.drop (i + 1) := by
  have e : y.set i v = (y.take i ++ [v]) ++ y.drop (i + 1) := by
    rw [List.set_eq_take_append_cons_drop, if_pos h]
    simp
  have hl : (y.take i ++ [v]).length = i + 1 := by simp; omega
  rw [e, ← hl, List.take_left, List.drop_left]
  exact ⟨rfl, rfl⟩

theorem iIn (x lo hi : Int) : impl_InRange.f x lo hi = some (inR x lo hi) := by
  unfold impl_InRange.f inR
  by_cases h : lo ≤ x <;> simp [h]

theorem iMod (p q : Int) : impl_Mod.f p q = some (modI p q) := by
  unfold impl_Mod.f modI
  rw [iIn]
  cases h : inR q 1 1000000000000
  · simp
  · rw [inR_true] at h
    obtain ⟨e, l, u⟩ := tmod_tmod (p := p) (q := q) (by omega)
    simp only [Option.bind_some, if_true]
    rw [if_neg (by omega), w64 (n := Int.tmod p q + q) (by omega) (by omega), e]

theorem iHash_l0 (x : List Int) (hx : x.length ≤ 140737488351232) : ∀ (d k i : Nat) (s : Int), i + d = x.length → d < k → 0 ≤ s → s < 2147483647 → impl_Hash.l0 k s x (x.length : Int) (i : Int) = some ((x.drop i).foldl hstep s) := by
  intro d
  induction d with
  | zero =>
    intro k i s hd hk _ _
    obtain ⟨k, rfl⟩ : ∃ m, k = m + 1 := ⟨k - 1, by omega⟩
    simp only [impl_Hash.l0]
    rw [if_neg (by omega), List.drop_eq_nil_of_le (by omega)]
    rfl
  | succ d ih =>
    intro k i s hd hk h0 h1
    obtain ⟨k, rfl⟩ : ∃ m, k = m + 1 := ⟨k - 1, by omega⟩
    simp only [impl_Hash.l0]
    rw [if_pos (by omega), if_pos (by omega), if_pos (by omega), iMod, rd_nat x i (by omega), cast_succ i (by omega)]
    simp only [Option.bind_some]
    rw [hstep_eq _ h0 h1, ih k (i + 1) _ (by omega) (by omega) (hstep_bd _ _).1 (hstep_bd _ _).2, drop_cons x i (by omega)]
    rfl
theorem iHash (x : List Int) (hx : x.length ≤ 140737488351232) (k : Nat) (hk : x.length < k) : impl_Hash.f k x = some (hashI x) := iHash_l0 x hx x.length k 0 11 (by omega) hk (by omega) (by omega)

theorem iKeyed (s : Int) (l : List Int) (hl : l.length ≤ 17592186044000) (k : Nat) (hk : l.length + 2 < k) : impl_KeyedHash.f k s l = some (keyedI s l) := by
  unfold impl_KeyedHash.f keyedI
  rw [if_pos (by omega), iHash _ (by simp only [List.length_append, List.length_cons, List.length_nil]; omega) _ (by simp only [List.length_append, List.length_cons, List.length_nil]; omega)]

theorem impl_Encrypt_l0 (s : Int) (n : Nat) (hx : n ≤ 1048576) : ∀ (d k i : Nat) (y : List Int), y.length = n → i + d = n → d + 4 ≤ k → impl_Encrypt.l0 k s y (n : Int) (i : Int) = some (y.take i ++ encL s i (y.drop i)) := by
  intro d
  induction d with
  | zero =>
    intro k i y hy hd hk
    obtain ⟨k, rfl⟩ : ∃ m, k = m + 1 := ⟨k - 1, by omega⟩
    simp only [impl_Encrypt.l0]
    rw [if_neg (by omega), List.drop_eq_nil_of_le (by omega), encL, List.append_nil, List.take_of_length_le (by omega)]
  | succ d ih =>
    intro k i y hy hd hk
    obtain ⟨k, rfl⟩ : ∃ m, k = m + 1 := ⟨k - 1, by omega⟩
    simp only [impl_Encrypt.l0]
    obtain ⟨h1, h2⟩ := set_take y i ((rd y (i : Int) + keyedI s [(i : Int)] % 256) % 256) (by omega)
    rw [if_pos (by omega), if_pos (by omega), if_pos (by omega), iKeyed s [(i : Int)] (by simp) k (by simp only [List.length_cons, List.length_nil]; omega), Option.bind_some, cast_succ i (by omega), Int.toNat_natCast, ih k (i + 1) _ (by simpa using hy) (by omega) (by omega), h1, h2, drop_cons y i (by omega), encL, rd_nat y i (by omega), List.append_assoc]
    rw [show (y[i] + keyedI s [(i : Int)] % 256) % 256 = (y[i] + keyedI s [(i : Int)]) % 256 by omega]
    rfl
theorem iEncrypt (s : Int) (x : List Int) (hx : x.length ≤ 1048576) (k : Nat) (hk : x.length + 4 ≤ k) : impl_Encrypt.f k s x = some (encL s 0 x) := by
  unfold impl_Encrypt.f slices_Clone_byte_byte.f
  rw [if_pos (by omega), Option.bind_some]
  exact impl_Encrypt_l0 s x.length hx x.length k 0 x rfl (by omega) hk

theorem impl_Decrypt_l0 (s : Int) (n : Nat) (hx : n ≤ 1048576) : ∀ (d k i : Nat) (y : List Int), y.length = n → i + d = n → d + 4 ≤ k → impl_Decrypt.l0 k s y (n : Int) (i : Int) = some (y.take i ++ decL s i (y.drop i)) := by
  intro d
  induction d with
  | zero =>
    intro k i y hy hd hk
    obtain ⟨k, rfl⟩ : ∃ m, k = m + 1 := ⟨k - 1, by omega⟩
    simp only [impl_Decrypt.l0]
    rw [if_neg (by omega), List.drop_eq_nil_of_le (by omega), decL, List.append_nil, List.take_of_length_le (by omega)]
  | succ d ih =>
    intro k i y hy hd hk
    obtain ⟨k, rfl⟩ : ∃ m, k = m + 1 := ⟨k - 1, by omega⟩
    simp only [impl_Decrypt.l0]
    obtain ⟨h1, h2⟩ := set_take y i ((rd y (i : Int) - keyedI s [(i : Int)] % 256) % 256) (by omega)
    rw [if_pos (by omega), if_pos (by omega), if_pos (by omega), iKeyed s [(i : Int)] (by simp) k (by simp only [List.length_cons, List.length_nil]; omega), Option.bind_some, cast_succ i (by omega), Int.toNat_natCast, ih k (i + 1) _ (by simpa using hy) (by omega) (by omega), h1, h2, drop_cons y i (by omega), decL, rd_nat y i (by omega), List.append_assoc]
    rw [show (y[i] - keyedI s [(i : Int)] % 256) % 256 = (y[i] - keyedI s [(i : Int)]) % 256 by omega]
    rfl
theorem iDecrypt (s : Int) (x : List Int) (hx : x.length ≤ 1048576) (k : Nat) (hk : x.length + 4 ≤ k) : impl_Decrypt.f k s x = some (decL s 0 x) := by
  unfold impl_Decrypt.f slices_Clone_byte_byte.f
  rw [if_pos (by omega), Option.bind_some]
  exact impl_Decrypt_l0 s x.length hx x.length k 0 x rfl (by omega) hk

theorem sameB_l0 (x y : List Int) (hx : x.length ≤ 140737488351232) (hl : x.length = y.length) : ∀ (d k i : Nat), i + d = x.length → d < k → laws_sameBytes.l0 k x y (i : Int) = some (decide (x.drop i = y.drop i)) := by
  intro d
  induction d with
  | zero =>
    intro k i hd hk
    obtain ⟨k, rfl⟩ : ∃ m, k = m + 1 := ⟨k - 1, by omega⟩
    simp only [laws_sameBytes.l0]
    rw [if_neg (by omega), List.drop_eq_nil_of_le (by omega), List.drop_eq_nil_of_le (by omega)]
    simp
  | succ d ih =>
    intro k i hd hk
    obtain ⟨k, rfl⟩ : ∃ m, k = m + 1 := ⟨k - 1, by omega⟩
    simp only [laws_sameBytes.l0]
    rw [if_pos (by omega), if_pos (by omega), if_pos (by omega), cast_succ i (by omega), rd_nat x i (by omega), rd_nat y i (by omega), ih k (i + 1) (by omega) (by omega), drop_cons x i (by omega), drop_cons y i (by omega)]
    by_cases e : x[i] = y[i]
    · rw [if_pos e]
      simp only [List.cons.injEq, e, true_and]
    · rw [if_neg e]
      simp only [List.cons.injEq, e, false_and, decide_false]
theorem sameB_some (x y : List Int) (hx : x.length ≤ 140737488351232) (k : Nat) (hk : x.length < k) : laws_sameBytes.f k x y = some (decide (x = y)) := by
  unfold laws_sameBytes.f
  by_cases h : x.length = y.length
  · rw [if_pos (by omega)]
    exact sameB_l0 x y hx h x.length k 0 (by omega) hk
  · rw [if_neg (by omega)]
    have : x ≠ y := fun e => h (by rw [e])
    simp [this]

theorem l3Word_some {b : List Int} {i : Int} (hc : Cur b i) (h : Int) : ∃ x i' h', spec_l3Word.f b i h = some (x, i', h') ∧ Cur b i' := by
  unfold spec_l3Word.f
  obtain ⟨x, i1, h1, e1, hc1⟩ := l1Once_some hc h 10 (by omega)
  rw [e1]; simp only [Option.bind_some]
  cases x
  · rw [if_neg (by simp)]
    obtain ⟨x, i2, h2, e2, hc2⟩ := l1Once_some hc1 h1 4 (by omega)
    rw [e2]; simp only [Option.bind_some]
    cases x
    · rw [if_neg (by simp)]
      obtain ⟨x, i3, h3, e3, x0, x1, hc3⟩ := l1Below_some hc2 h2 1000000 (by omega)
      rw [e3]; simp only [Option.bind_some]
      obtain ⟨x, i4, h4, e4, x0, x1, hc4⟩ := l1Below_some hc3 h3 2000 (by omega)
      rw [e4]; simp only [Option.bind_some]
      exact ⟨_, _, _, rfl, hc4⟩
    · rw [if_pos rfl]
      obtain ⟨y, i3, h3, e3, hy, hc3⟩ := l1Int_some hc2 h2 [0, 1, 2147483646] (by decide) (fun _ => True) (by simp)
      rw [e3]; simp only [Option.bind_some]
      exact ⟨_, _, _, rfl, hc3⟩
  · rw [if_pos rfl]
    obtain ⟨y, i3, h3, e3, hy, hc3⟩ := l1Int_some hc1 h1 [(-1), 2147483647, 2147483648] (by decide) (fun _ => True) (by simp)
    rw [e3]; simp only [Option.bind_some]
    exact ⟨_, _, _, rfl, hc3⟩
theorem FnCipher : laws_FnCipher.Pure := by
  intro l _ hl hw
  refine ⟨5000, ?_⟩
  unfold laws_FnCipher.f laws_big.f
  simp only [Option.bind_some, decide_eq_true_eq]
  by_cases hbig : (l.length : Int) > 1048576
  · rw [if_pos hbig]
  · rw [if_neg hbig]
    obtain ⟨s, d, e, hd, hdb⟩ : ∃ s d, spec_DrawEncrypt.f 5000 l = some (s, d) ∧ d.length ≤ 10 ∧ (∀ v ∈ d, 0 ≤ v ∧ v ≤ 255) := by
      unfold spec_DrawEncrypt.f
      obtain ⟨h0, e0, hc0⟩ := l1New_some l (by omega) 5000 (by omega)
      rw [e0, Option.bind_some]
      obtain ⟨s, i1, h1, e1, hc1⟩ := l3Word_some hc0 h0
      rw [e1, Option.bind_some]
      obtain ⟨n2, i3, h3, e3, n20, n21, hc3⟩ := l1Below_some hc1 h1 8 (by omega)
      rw [e3, Option.bind_some]
      obtain ⟨o2, i4, h4, e4, ol2, ob2, hc4⟩ := l1Bytes_some hc3 h3 n2 n20 (by omega) 5000 (by omega)
      rw [e4]
      exact ⟨_, _, rfl, by dsimp only; omega, ob2⟩
    have h1 := encL_len s d 0
    have h2 := decL_len s d 0
    rw [e]
    simp only [Option.bind_some]
    rw [iEncrypt s d (by omega) 5000 (by omega), Option.bind_some, iDecrypt s _ (by omega) 5000 (by omega), dec_encL s d 0 hdb, Option.bind_some, sameB_some d d (by omega) 5000 (by omega), Option.bind_some, if_pos (by simp), iDecrypt s d (by omega) 5000 (by omega), Option.bind_some,
      iEncrypt s _ (by omega) 5000 (by omega), enc_decL s d 0 hdb, Option.bind_some, sameB_some d d (by omega) 5000 (by omega), Option.bind_some, if_pos (by simp), Option.bind_some, h1]
    simp

end Go.Proofs.Ytobpbnbjdpdflac.Pure
namespace Go.Proofs.Ytobpbnbjdpdflac
/-- The seat's own word, under the name by which the row asks for it. -/
theorem PrintWords.sized_ints {H : Type} {enc : TypeId × Value → H} {P : Program} {W : World} {base : Nat} {spare : Nat → Bool} {held : Bool} {t e : TypeId} {k : IntKind} {a : Option Addr} {len cap : Nat} {d : DataW H} {ps : List MemPlace} {ts : List TypeId} {ds : List (DataW H)} {j : Nat}
    (hsz : (DataW.weightsEach P ts ds).all (· ≤ reachBytes) = true) (ht : ts[j]? = some t) (hd : ds[j]? = some d) (hu : P.underlying t = some (.slice e)) (he : P.underlying e = some (.int k)) (hc : P.cellsOf e = 1) {B : Nat} (hB : P.bytesOf e = B)
    (h : DataW.Trod enc P W base spare held t (.slice a len cap) d ps) : len * B ≤ 140737488351232 := Go.Proofs.YtobpbnbjdpdflacW.PrintWords.sized_ints hsz ht hd hu he hc hB h
end Go.Proofs.Ytobpbnbjdpdflac
