/- The row of the law FnExactMergeStores: for every input it returns true and leaves its arguments as they were; laid by a program of this session over the kit's print, some functions by hand. Conditions: none beyond each theorem's own. -/
import Derived.Test.YthanecnkknimpaaRows
import Derived.Test.YthanecnkknimpaaPFnExactMergeStoresx11
import Derived.Test.YthanecnkknimpaaPureFnExactMergeStores
import Derived.WalkKit
import Derived.ProofKit
import Derived.OpenShut
import Derived.ShutString
import Derived.ChangeOld
import Derived.Below
import Derived.SizedLaws
import Derived.Lib.SmallJoins
import Derived.Deep.Slices
import Derived.Deep.Fields
import Derived.ChangeSame
import Derived.Test.YthanecnkknimpaaWSized
namespace Go.Proofs.Ythanecnkknimpaa.fnExactMergeStores
open Go.ChangeShapes Go.WideShapes Go.ChangeAt Go.RowKit Go.Joins
open Go.Deep (hone_of oneCellFields)
open Go.ChangeMaps (open_string shut_string)
open Go.Proofs.YthanecnkknimpaaW.PrintWords Go.Proofs.Ythanecnkknimpaa.PFnExactMergeStores
set_option linter.unusedVariables false
set_option linter.unusedSimpArgs false
theorem own : ownKnob Try.prog.godebug = none := by kernel_rfl
theorem laidOut : laidOutB Try.prog = true := by kernel_rfl

section
variable {H : Type} {enc : TypeId × Value → H} {P : Program} {w : World} {base : Nat} {spare : Nat → Bool} {held : Bool}
/-- A slice of structs of one-cell fields, opened at every element and field. -/
theorem open_slice_fields {t e : TypeId} {fs : Array Field} {fuel : Nat} {cs : List Value} {x : DataW H × List MemPlace} (ht : P.underlying t = some (.slice e)) (he : P.underlying e = some (.struct fs))
    (hone : oneCellFields P fs = true) (hC : P.cellsOf e = fs.size) (h : DataW.trod enc P w base spare held fuel t cs = some x) :
    (cs = [.slice none 0 0] ∧ x = (.nil, [])) ∨
    ∃ (a : Addr) (len cap m : Nat) (D : Nat → DataW H), cs = [.slice (some a) len cap] ∧ len ≤ cap ∧ cap ≤ maxLen ∧ len ≤ m ∧
      x.1 = .slice ((List.range len).map D) ((List.range (m - len)).map fun j => D (len + j)) ∧
      ∀ i, i < m → ∃ (n : Nat),
        ∀ (j : Nat) (f : Field), fs[j]? = some f → ∃ (v : Value) (y : DataW H × List MemPlace), w.cell? (a.add (i * fs.size + j)) = some v ∧ DataW.trod enc P w base spare held n f.type [v] = some y := by
  rcases Go.Deep.open_slice ht h with h0 | ⟨a, len, cap, m, n, D, Pl, hcs, hb, hl, hm, hmm, hx, hi⟩
  · exact .inl h0
  · refine .inr ⟨a, len, cap, m, D, hcs, hl, hm, by rw [hmm]; split <;> omega, by rw [hx], fun i him => ?_⟩
    obtain ⟨cs', hc, ht'⟩ := hi i him
    rw [hC] at hc
    obtain ⟨ys, n', hn', hy, hlen, hyl, hf⟩ := DataW.trod_struct he ht'
    obtain ⟨_, hcl, hat⟩ := World.cells?_some hc
    refine ⟨n', fun j f hj => ?_⟩
    obtain ⟨ho, hk⟩ := hone_of hone j f hj
    have hjl : j < fs.size := (Array.getElem?_eq_some_iff.1 hj).1
    have hcell := hat j hjl
    have hv : cs'[j]? = some (cs'[j]'(by omega)) := List.getElem?_eq_getElem (by omega)
    have h1 := hf j f hj
    rw [ho, hk] at h1
    have hone' : (cs'.drop j).take 1 = [cs'[j]'(by omega)] := by
      rw [List.drop_eq_getElem_cons (by omega)]
      rfl
    rw [hone'] at h1
    have hys : ys[j]? = some (ys[j]'(by omega)) := List.getElem?_eq_getElem (by omega)
    refine ⟨_, _, ?_, h1.trans hys⟩
    rw [← Go.Deep.add_add, hcell, hv]
theorem pick_list {α : Type} {R : Nat → α → Prop} : ∀ n, (∀ i, i < n → ∃ x, R i x) → ∃ xs : List α, xs.length = n ∧ ∀ i x, xs[i]? = some x → R i x
  | 0, _ => ⟨[], rfl, fun i x h => by simp at h⟩
  | n + 1, h => by
    obtain ⟨xs, hl, hx⟩ := pick_list n (fun i hi => h i (by omega))
    obtain ⟨y, hy⟩ := h n (by omega)
    refine ⟨xs ++ [y], by simp [hl], fun i x hi => ?_⟩
    rcases Nat.lt_or_ge i xs.length with hlt | hge
    · rw [List.getElem?_append_left hlt] at hi
      exact hx i x hi
    · have hin : i = xs.length := by
        have := (List.getElem?_eq_some_iff.1 hi).1
        simp at this
        omega
      subst hin
      have : y = x := by simpa using hi
      subst this
      rw [hl]
      exact hy
end

section
variable {H : Type} {enc : TypeId × Value → H} {w : World} {base : Nat} {spare : Nat → Bool} {held : Bool}
theorem row_T50 {t : TypeId} {fuel : Nat} {a : Option Addr} {len cap : Nat} {x : DataW H × List MemPlace} (ht : Try.prog.underlying t = some (.slice 50)) (h : DataW.trod enc Try.prog w base spare held fuel t [.slice a len cap] = some x) :
    ∃ xs : List S50, xs.length = len ∧ Kd.C k50 w a len xs ∧ len ≤ cap ∧ (∀ x ∈ xs, (Lit.int .i64 x.f0).wf = true ∧ (Lit.int .i64 x.f1).wf = true ∧ (Lit.int .i64 x.f2).wf = true ∧ (Lit.int .i64 x.f3).wf = true ∧ (Lit.int .i64 x.f4).wf = true ∧ (Lit.int .i64 x.f5).wf = true) := by
  rcases open_slice_fields ht Try.underlying50 (by kernel_rfl) (by kernel_rfl) h with ⟨hcs, _⟩ | ⟨ad, len', cap', m, D, hcs, hl, hm, hlm, _, hi⟩
  · simp at hcs
    obtain ⟨rfl, rfl, rfl⟩ := hcs
    exact ⟨[], rfl, Kd.C_nil _ _, by omega, fun x hx => by simp at hx⟩
  · simp at hcs
    obtain ⟨rfl, rfl, rfl⟩ := hcs
    obtain ⟨xs, hxl, hx⟩ := pick_list (R := fun i (x : S50) => (∀ c u, ([.int .i64 x.f0, .int .i64 x.f1, .int .i64 x.f2, .int .i64 x.f3, .int .i64 x.f4, .int .i64 x.f5] : List Value)[c]? = some u → w.cell? (ad.add (i * 6 + c)) = some u) ∧ ((Lit.int .i64 x.f0).wf = true ∧ (Lit.int .i64 x.f1).wf = true ∧ (Lit.int .i64 x.f2).wf = true ∧ (Lit.int .i64 x.f3).wf = true ∧ (Lit.int .i64 x.f4).wf = true ∧ (Lit.int .i64 x.f5).wf = true)) len (fun i hin => by
      obtain ⟨n, hf⟩ := hi i (by omega)
      obtain ⟨u0, z0, hc0, ht0⟩ := hf 0 _ rfl
      obtain ⟨q0, e0, _, wq0⟩ := DataW.trod_int Try.underlying3 ht0
      simp only [List.cons.injEq, and_true] at e0
      subst e0
      obtain ⟨u1, z1, hc1, ht1⟩ := hf 1 _ rfl
      obtain ⟨q1, e1, _, wq1⟩ := DataW.trod_int Try.underlying3 ht1
      simp only [List.cons.injEq, and_true] at e1
      subst e1
      obtain ⟨u2, z2, hc2, ht2⟩ := hf 2 _ rfl
      obtain ⟨q2, e2, _, wq2⟩ := DataW.trod_int Try.underlying3 ht2
      simp only [List.cons.injEq, and_true] at e2
      subst e2
      obtain ⟨u3, z3, hc3, ht3⟩ := hf 3 _ rfl
      obtain ⟨q3, e3, _, wq3⟩ := DataW.trod_int Try.underlying3 ht3
      simp only [List.cons.injEq, and_true] at e3
      subst e3
      obtain ⟨u4, z4, hc4, ht4⟩ := hf 4 _ rfl
      obtain ⟨q4, e4, _, wq4⟩ := DataW.trod_int Try.underlying3 ht4
      simp only [List.cons.injEq, and_true] at e4
      subst e4
      obtain ⟨u5, z5, hc5, ht5⟩ := hf 5 _ rfl
      obtain ⟨q5, e5, _, wq5⟩ := DataW.trod_int Try.underlying3 ht5
      simp only [List.cons.injEq, and_true] at e5
      subst e5
      refine ⟨⟨q0, q1, q2, q3, q4, q5⟩, fun c u hc => ?_, wq0, wq1, wq2, wq3, wq4, wq5⟩
      rcases c with _ | c
      · simp at hc; subst hc; exact hc0
      rcases c with _ | c
      · simp at hc; subst hc; exact hc1
      rcases c with _ | c
      · simp at hc; subst hc; exact hc2
      rcases c with _ | c
      · simp at hc; subst hc; exact hc3
      rcases c with _ | c
      · simp at hc; subst hc; exact hc4
      rcases c with _ | c
      · simp at hc; subst hc; exact hc5
      simp at hc)
    refine ⟨xs, hxl, ⟨hxl, ?_, fun hp => ⟨ad, rfl, fun j p hj => ⟨[.int .i64 p.f0, .int .i64 p.f1, .int .i64 p.f2, .int .i64 p.f3, .int .i64 p.f4, .int .i64 p.f5], rfl, k50_mk w p, (hx j p hj).1⟩⟩⟩, hl, fun x hmem => ?_⟩
    · unfold maxLen at hm; omega
    · obtain ⟨i, hi', rfl⟩ := List.getElem_of_mem hmem
      exact (hx i _ (List.getElem?_eq_getElem hi')).2
theorem sized_T50 {t : TypeId} {a : Option Addr} {len cap : Nat} {d : DataW H} {ps : List MemPlace} {ts : List TypeId} {ds : List (DataW H)} {j : Nat}
    (hsz : (DataW.weightsEach Try.prog ts ds).all (· ≤ reachBytes) = true) (ht : ts[j]? = some t) (hd : ds[j]? = some d) (hu : Try.prog.underlying t = some (.slice 50))
    (h : DataW.Trod enc Try.prog w base spare held t (.slice a len cap) d ps) : len * 48 ≤ 140737488351232 := by
  obtain ⟨fuel, hf⟩ := h
  rcases open_slice_fields hu Try.underlying50 (by kernel_rfl) (by kernel_rfl) hf with ⟨hcs, _⟩ | ⟨ad, len', cap', m, D, hcs, hl, hm, hlm, hx, _⟩
  · simp [Value.cells] at hcs
    obtain ⟨rfl, rfl, rfl⟩ := hcs
    simp
  · simp [Value.cells] at hcs
    obtain ⟨rfl, rfl, rfl⟩ := hcs
    simp only at hx
    subst hx
    have z := sized_slice hsz ht hd hu
    have hB : Try.prog.bytesOf 50 = 48 := by kernel_rfl
    rw [hB, List.length_map, List.length_range, List.length_map, List.length_range] at z
    have : len * 48 ≤ (len + (m - len)) * 48 := Nat.mul_le_mul_right _ (by omega)
    exact Nat.le_trans this z
end

set_option maxRecDepth 100000 in
theorem lifted (os : Os) (started : os.Started) (H : Type) (enc : TypeId × Value → H) :
    ReturnsInHanded {} Try.checked os 7 .any (Rows.fnExactMergeStoresSpec.pre6 enc Try.prog Try.f7 Rows.fnExactMergeStoresRow.domain false) (Rows.fnExactMergeStoresSpec.post enc Try.prog Try.f7 false true false false) := by
  refine returnsInHanded_of_change_sized (C := Try.checked) own started (by kernel_rfl) Try.func7
    (ChangeSpec.witness6 (enc := enc) (C := Try.checked) false ⟨#[], #[.slice none 0 0, .slice none 0 0], []⟩ 8 (by kernel_rfl) (by kernel_rfl) (by kernel_rfl) (by kernel_rfl)) ?_
  intro W base args ds gs before hval0 hW hcnd hsz0 _
  have hsz : (DataW.weightsEach Try.prog (Try.f7.params.toList ++ Rows.fnExactMergeStoresSpec.plain.varTypes Try.prog) (ds ++ gs)).all (· ≤ reachBytes) = true := hsz0
  have hval : ∀ (j : Nat) t v, Try.f7.params[j]? = some t → args[j]? = some v → Value.okWide Try.prog W .any base t v := hval0
  have hW' := hW
  obtain ⟨p, q, hA0, hV, rfl, hfz, hnd⟩ := hW
  have hA : DataW.TrodAll enc Try.prog W 0 (fun _ => true) true Try.f7.params.toList args.toList ds p := hA0
  rw [Try.params7] at hA hval hsz
  obtain ⟨v0, vs0, d0, ds0, p0, q0, hargs, rfl, rfl, h0, r0⟩ := trodAll_cons hA
  obtain ⟨v1, vs1, d1, ds1, p1, q1, rfl, rfl, rfl, h1, r1⟩ := trodAll_cons r0
  obtain ⟨rfl, rfl, rfl⟩ := trodAll_nil r1
  obtain rfl : args = #[v0, v1] := by cases args; simp_all
  obtain ⟨rfl, rfl⟩ := trodVars_none hV
  have k0 := h0
  have lt0 : ∀ x ∈ p0, x.block < W.heap.size := by obtain ⟨m, hm⟩ := k0; exact DataW.trod_lt m _ _ _ hm
  obtain ⟨a0, len0, cap0, rfl⟩ := okWide_slice Try.underlying37 (hval 0 37 v0 rfl rfl)
  obtain ⟨l0, hl0, hr0, hc0, w0⟩ : ∃ xs : List S50, xs.length = len0 ∧ Kd.C k50 W a0 len0 xs ∧ len0 ≤ cap0 ∧ ∀ x ∈ xs, (Lit.int .i64 x.f0).wf = true ∧ (Lit.int .i64 x.f1).wf = true ∧ (Lit.int .i64 x.f2).wf = true ∧ (Lit.int .i64 x.f3).wf = true ∧ (Lit.int .i64 x.f4).wf = true ∧ (Lit.int .i64 x.f5).wf = true := by
    obtain ⟨fuel, hf⟩ := h0
    exact row_T50 Try.underlying37 (by simpa [Value.cells] using hf)
  have y0 : len0 * 48 ≤ 140737488351232 := sized_T50 hsz (j := 0) (t := 37) rfl rfl Try.underlying37 k0
  subst hl0
  have k1 := h1
  have lt1 : ∀ x ∈ p1, x.block < W.heap.size := by obtain ⟨m, hm⟩ := k1; exact DataW.trod_lt m _ _ _ hm
  obtain ⟨a1, len1, cap1, rfl⟩ := okWide_slice Try.underlying37 (hval 1 37 v1 rfl rfl)
  obtain ⟨l1, hl1, hr1, hc1, w1⟩ : ∃ xs : List S50, xs.length = len1 ∧ Kd.C k50 W a1 len1 xs ∧ len1 ≤ cap1 ∧ ∀ x ∈ xs, (Lit.int .i64 x.f0).wf = true ∧ (Lit.int .i64 x.f1).wf = true ∧ (Lit.int .i64 x.f2).wf = true ∧ (Lit.int .i64 x.f3).wf = true ∧ (Lit.int .i64 x.f4).wf = true ∧ (Lit.int .i64 x.f5).wf = true := by
    obtain ⟨fuel, hf⟩ := h1
    exact row_T50 Try.underlying37 (by simpa [Value.cells] using hf)
  have y1 : len1 * 48 ≤ 140737488351232 := sized_T50 hsz (j := 1) (t := 37) rfl rfl Try.underlying37 k1
  subst hl1
  clear hA0 hval0 hsz0 hsz
  refine (laws_FnExactMergeStores.walk Pure.FnExactMergeStores a0 cap0 l0 a1 cap1 l1 W hr0 hc0 y0 w0 hr1 hc1 y1 w1).mono fun e W' ⟨he, bel⟩ => ?_
  subst he
  exact ⟨_, rfl, _, _, _, [], _, [], hW', trodAll_mk1 (shut_bool Try.underlying4 _), (trodAll_cons_mk (Below.trod laidOut (by kernel_rfl) (of_decide_eq_true (by kernel_rfl)) k0 bel lt0) (trodAll_cons_mk (Below.trod laidOut (by kernel_rfl) (of_decide_eq_true (by kernel_rfl)) k1 bel lt1) trodAll_mk0)), rfl, bel.frame _, fun h => by cases h⟩
theorem over : Rows.fnExactMergeStoresRow.holds Try.pinned (OpenSpec.ofChange Rows.fnExactMergeStoresSpec) :=
  OpenClaim.holds_of_wide 7 Try.f7 rfl rfl rfl rfl rfl rfl rfl ⟨rfl, rfl, rfl, rfl, rfl⟩ rfl rfl rfl rfl rfl (by kernel_rfl) Try.func7 (by kernel_rfl)
    (of_decide_eq_true (by kernel_rfl)) (by unfold Func.isWrapper; first | (rw [if_pos (by decide +kernel)]; kernel_rfl) | (rw [if_neg (by decide +kernel)]; exact ⟨rfl, rfl⟩))
    (fun os started H enc _ => lifted os started H enc)
theorem proved : Rows.FnExactMergeStoresSaid := over
#print axioms proved
end Go.Proofs.Ythanecnkknimpaa.fnExactMergeStores
namespace Go.Proofs.Ythanecnkknimpaa
/-- The row, under a short name, for the claim. -/
theorem fnExactMergeStores_holds : Rows.FnExactMergeStoresSaid := fnExactMergeStores.proved
end Go.Proofs.Ythanecnkknimpaa
