/- What this law reaches, as plain Lean functions, and the proofs that the machine's calls answer what they answer; laid by a program of this session over the kit's print, some functions by hand. Conditions: none beyond each theorem's own. -/
import Derived.Test.YthanecnkknimpaaPFnFoundx0
namespace Go.Proofs.Ythanecnkknimpaa.PFnFound
open Go.RowKit Go.Proofs.YthanecnkknimpaaW.PrintWords Go.Proofs.YthanecnkknimpaaW.PrintLast Go.Proofs.YthanecnkknimpaaW.PrintMore
attribute [local go_sem] max2_int min2_int max_two min_two max_three min_three max_four min_four   -- for this text's walks alone
set_option linter.unusedVariables false
set_option linter.unusedSimpArgs false

/-! ### impl_copyFacts: function 37 -/
def impl_copyFacts.f (l0 : List (S26)) : Option ((List (S26))) := (some (([] : List (S26)) : List (S26))).bind fun y128 => (if y128.length + l0.length < 2932031007402 then (some (y128 ++ l0)) else (none))
set_option maxHeartbeats 8000000 in
set_option maxRecDepth 100000 in
theorem impl_copyFacts.calls (A0 : Option Addr) (c0 : Nat) (l0 : List (S26)) (r : List (S26)) (w : World) (hr0 : Kd.C k26 w A0 l0.length l0) (hc0 : l0.length ≤ c0) (h : impl_copyFacts.f l0 = some r) :
    Calls Try.prog 37 #[.slice A0 l0.length c0] w fun e w' => ∃ v0_ : Value, e = .returned (v0_) ∧ Kd.R k26 26 w' w.heap.size (fun _ => True) v0_ r ∧ Below w.heap.size w w' := by
  have HR0 := Aside0.mk hr0
  have HC0 := Aside0.mk hc0
  clear hr0 hc0
  have HB := Aside0.mk (Below.refl w.heap.size w)
  have H : ((some (([] : List (S26)) : List (S26))).bind fun y128 => (if y128.length + l0.length < 2932031007402 then (some (y128 ++ l0)) else (none))) = some r := h
  clear h
  obtain ⟨y128, hy128⟩ : ∃ y_ : List (S26), y_ = (([] : List (S26))) := ⟨_, rfl⟩
  replace H : (if y128.length + l0.length < 2932031007402 then (some (y128 ++ l0)) else (none)) = some r := by first | (rw [hy128]; with_reducible exact H) | (have H2_ := (Option.bind_some _ _).symm.trans H; rw [hy128]; with_reducible exact H2_) | (have H2_ := (Option.bind_some _ _).symm.trans H; with_reducible exact H2_) | with_reducible exact H | (rw [hy128]; exact H) | exact H
  have Ny128 := Aside0.mk hy128
  clear hy128
  by_cases c2 : y128.length + l0.length < 2932031007402
  · rw [if_pos c2] at H
    have LMc2 := Aside0.mk c2
    clear c2
    obtain ⟨y131, hy131⟩ : ∃ y_ : List (S26), y_ = (y128 ++ l0) := ⟨_, rfl⟩
    replace H : (some y131) = some r := by first | (rw [hy131]; with_reducible exact H) | (have H2_ := (Option.bind_some _ _).symm.trans H; rw [hy131]; with_reducible exact H2_) | (have H2_ := (Option.bind_some _ _).symm.trans H; with_reducible exact H2_) | with_reducible exact H | (rw [hy131]; exact H) | exact H
    have Ny131 := Aside0.mk hy131
    clear hy131
    obtain rfl := Option.some.inj H
    go_enter Try.func37, Try.ntmps37
    go_wp2_with (first | ((with_reducible refine gate_dst (N := 3) rfl ?_); refine Kd.R_lit k26 _ 26 ?hg (N := 3) ?hd (xs := ([] : List (S26))) (inner := []) (ok := fun _ => True) (okp := fun _ => True) ?hr ?hp (fun _ hk => hk) trivial (Below.refl _ _) (Nat.le_refl _) (by simp) ?_; (case hd => rfl); (case hg => rfl); (case hr => first | (go_simp; done) | (go_simp; rfl)); (case hp => exact (Reps.none _ _)); intro v129 w3 ho4 hb hg_ hnew_; clear hg_ hnew_; (first | rw [← Ny128.out] at ho4 | (simp only [Int.reduceToNat] at ho4; rw [← Ny128.out] at ho4)); have n0_ := Aside0.mk (Kd.R_lower ho4 (below_size (by repeat (first | (with_reducible first | exact HB.out | apply below_alloc | apply pw_below_drewN | apply below_drew1) | exact HB.out)))); have n1_ := Aside0.mk (below_step (by repeat (first | (with_reducible first | exact HB.out | apply below_alloc | apply pw_below_drewN | apply below_drew1) | exact HB.out)) hb); clear HB; have HO130 := n0_; have HB := n1_; clear n0_ n1_; clear hb ho4) | ((with_reducible refine gate_builtin (b := .append) (xs := #[.tmp 3, .tmp 4]) rfl ?_); at_builtin; refine Kd.R_append_rows k26 (w0 := w) w.heap.size rfl (.tmp 3) (.tmp 4) 24 26 (.agg #[(.int .i64 0), (.int .i64 0), (.int .i64 0), (.int .i64 0), (.int .i64 0), (.int .i64 0)]) 48 rfl Try.underlying24 info26 rfl (by decide) (by omega) v129 y128 l0 _ _ _ (fun _ => True) (fun _ => False) rfl rfl ?aO ?aR (fun _ _ h => h) (fun _ h => h.elim) ?aF ?aB ?aS ?aL ?_; (case aR => repeat (first | exact (Kd.C_below HR0.out HB.out) | (with_reducible refine Kd.C_alloc ?_ _) | (with_reducible refine Kd.C_drewN ?_ _) | (with_reducible refine Kd.C_drew ?_))); (case aB => exact (by repeat (first | (with_reducible first | exact HB.out | apply below_alloc | apply pw_below_drewN | apply below_drew1) | exact HB.out))); (case aF => exact (fun _ _ => trivial)); (case aO => exact (by (with_reducible repeat (first | apply Kd.R_alloc | apply Kd.R_drewN | apply Kd.R_drew)); exact HO130.out)); (case aS => exact (below_size (by repeat (first | (with_reducible first | exact HB.out | apply below_alloc | apply pw_below_drewN | apply below_drew1) | exact HB.out)))); (case aL => have := LMc2.out; omega); intro v132 w5 ho hb hg hat; rw [← Ny131.out] at ho; have n0_ := Aside0.mk (hb); have n1_ := Aside0.mk (ho); clear HB; clear HO130; have HB := n0_; have HO133 := n1_; clear n0_ n1_; clear ho hb hg hat))
    go_ret
    exact ⟨_, by first | rfl | (simp [errW_none, errW_some] <;> rfl) | (simp [*, errW_none, errW_some] <;> rfl), by (with_reducible repeat (first | apply Kd.R_alloc | apply Kd.R_drewN | apply Kd.R_drew)); exact HO133.out, by repeat (first | (with_reducible first | exact HB.out | apply below_alloc | apply pw_below_drewN | apply below_drew1) | exact HB.out)⟩
  · rw [if_neg c2] at H
    exact absurd H (by simp)

/-! ### impl_Fact_49: function 49, by hand -/
def impl_Fact_49.l0 (pf : S26 → Option Bool) : Nat → List S26 → Int → Option Int
  | 0, _, _ => none
  | k + 1, x0, x8 => if x8 < (x0.length : Int) then (if 0 ≤ x8 then ((pf (rd_T26 x0 x8)).bind fun t => (if t = true then some x8 else impl_Fact_49.l0 pf k x0 (wrap64 (x8 + 1)))) else none) else some (-1)
theorem impl_Fact_49.mono (pf : S26 → Option Bool) : ∀ k, ∀ y0 y1, LeO (impl_Fact_49.l0 pf k y0 y1) (impl_Fact_49.l0 pf (k + 1) y0 y1)
  | 0 => fun _ _ r h => by simp [impl_Fact_49.l0] at h
  | k + 1 => by
    intro y0 y1
    unfold impl_Fact_49.l0
    exact LeO.ite (LeO.ite (LeO.bind (LeO.refl _) (fun _ => LeO.ite (LeO.refl _) (impl_Fact_49.mono pf k _ _))) (LeO.refl _)) (LeO.refl _)
set_option maxHeartbeats 8000000 in
set_option maxRecDepth 100000 in
theorem impl_Fact_49.found (pf : S26 → Option Bool) (g : Nat) (lb : Array Value) (eg : ∀ args w, (callFunc g args).run Try.prog w = .ok (.enter g args) w) (k : Nat) (A0 : Option Addr) (c0 : Nat) (l0 : List S26) (r : Int) (w : World) (hr0 : Kd.C k26 w A0 l0.length l0) (hl0 : l0.length ≤ 140737488355328)
    (hp : ∀ (W : World) (x : S26) (b : Bool), Below w.heap.size w W → pf x = some b → Calls Try.prog g (#[.agg #[.int .i64 (x).f0, .int .i64 (x).f1, .int .i64 (x).f2, .int .i64 (x).f3, .int .i64 (x).f4, .int .i64 (x).f5]] ++ lb) W fun e w' => e = .returned (.bool b) ∧ Below W.heap.size W w') (h : impl_Fact_49.l0 pf k l0 0 = some r) :
    Calls Try.prog 49 #[.slice A0 l0.length c0, .func (.func g) #[] lb] w fun e w' => e = .returned (.int .i64 r) ∧ Below w.heap.size w w' := by
  have hu26 := Try.underlying26
  have HR0 := Aside0.mk hr0
  have HL0 := Aside0.mk hl0
  have HP := Aside0.mk hp
  clear hr0 hp hl0
  have HB := Aside0.mk (Below.refl w.heap.size w)
  have H' := Aside0.mk h
  clear h
  go_enter Try.func49, Try.ntmps49
  go_wp2
  go_loopg [5, 8] k (fun kq _ v8 w' => ∃ (x8_1 : Int), v8 = .int .i64 x8_1 ∧ Aside0 (impl_Fact_49.l0 pf kq l0 x8_1 = some r) ∧ Aside0 (Below w.heap.size w w'))
  case atStart => exact ⟨0, (by first | rfl | (simp; done)), H', ⟨by repeat (first | (with_reducible first | exact HB.out | apply below_alloc | apply pw_below_drewN | apply below_drew1) | exact HB.out)⟩⟩
  case round =>
    clear H' HB
    obtain ⟨x8_1, rfl, HA, HB⟩ := hrel
    cases gk with
    | zero => exact absurd HA.out (by simp [impl_Fact_49.l0])
    | succ k1 =>
      have H := HA.out
      clear HA
      simp only [impl_Fact_49.l0] at H
      by_cases c2 : x8_1 < (l0.length : Int)
      · rw [if_pos c2] at H
        by_cases c3 : 0 ≤ x8_1
        · rw [if_pos c3] at H
          have c2b0 : decide (x8_1 < (l0.length : Int)) = true := decide_eq_true c2
          obtain ⟨ad, e_, h0, h1, h2, h3, h4, h5⟩ := at_T26 HR0.out x8_1 c3 c2
          cases e_
          replace h0 := (HB.out.cell (World.block_lt_of_cell? w _ h0)).trans h0
          replace h1 := (HB.out.cell (World.block_lt_of_cell? w _ h1)).trans h1
          replace h2 := (HB.out.cell (World.block_lt_of_cell? w _ h2)).trans h2
          replace h3 := (HB.out.cell (World.block_lt_of_cell? w _ h3)).trans h3
          replace h4 := (HB.out.cell (World.block_lt_of_cell? w _ h4)).trans h4
          replace h5 := (HB.out.cell (World.block_lt_of_cell? w _ h5)).trans h5
          replace H := Option.bind_eq_some_iff.mp H
          obtain ⟨t, A50, H⟩ := H
          obtain ⟨x, hx⟩ : ∃ x, x = rd_T26 l0 x8_1 := ⟨_, rfl⟩
          rw [← hx] at h0 h1 h2 h3 h4 h5 A50
          clear hx
          have hcall := Aside0.mk (HP.out wr x t HB.out A50)
          clear A50
          have HE := Aside0.mk (show x8_1 + 1 ≤ 140737488355328 by have := HL0.out; omega)
          have p3 := eq_true c3
          have p2 := eq_true c2
          clear c2 c3
          go_wp2_with (first | fail)
          with_reducible refine hcall.out.mono ?_
          rintro e w' ⟨rfl, hb'⟩
          clear hcall HP eg
          cases t with
          | true =>
            have H1 : some x8_1 = some r := by rw [if_pos rfl] at H; exact H
            clear H
            obtain rfl := Option.some.inj H1
            clear H1
            go_wp2
            go_ret
            exact ⟨rfl, below_step HB.out hb'⟩
          | false =>
            have H1 : impl_Fact_49.l0 pf k1 l0 (wrap64 (x8_1 + 1)) = some r := by rw [if_neg (by simp)] at H; exact H
            clear H
            have H' := Aside0.mk H1
            clear H1
            go_wp2
            go_roundg k1
            case measure => omega
            case rel => exact ⟨wrap64 (x8_1 + 1), (by first | rfl | (simp; done) | (simp [*]; done)), H', ⟨below_step HB.out hb'⟩⟩
        · rw [if_neg c3] at H
          exact absurd H (by simp)
      · rw [if_neg c2] at H
        have c2b0 : decide (x8_1 < (l0.length : Int)) = false := decide_eq_false c2
        clear c2
        obtain rfl := Option.some.inj H
        go_wp2
        go_ret
        exact ⟨by first | rfl | (simp; done), by repeat (first | (with_reducible first | exact HB.out | apply below_alloc | apply pw_below_drewN | apply below_drew1) | exact HB.out)⟩

/-! ### impl_Fact_44: function 44, by hand -/
/-! #### own rows of a flat kind as plain cells; copies and cuts of many cells (laid for slices.Insert and slices.DeleteFunc over facts) -/
theorem rows_inner {α : Type} {R : α → List Value → Prop} {enc : α → List Value} {sz : Nat} (hR : ∀ x c, R x c → c = enc x) : ∀ (xs : List α) (cs : List Value), Reps R sz xs cs → cs = xs.flatMap enc
  | [], cs, h => by
    have := h.1
    simpa using this
  | x :: r, cs, h => by
    have h0 := hR _ _ (h.2 0 x rfl)
    rw [Nat.zero_mul, List.drop_zero] at h0
    have ht : Reps R sz r (cs.drop sz) := ⟨by rw [List.length_drop, h.1, List.length_cons, Nat.succ_mul, Nat.add_sub_cancel], fun j p hj => by
      have := h.2 (j + 1) p (by simpa using hj)
      rw [List.drop_drop, Nat.add_comm sz, ← Nat.succ_mul]
      exact this⟩
    have h1 := rows_inner hR r _ ht
    rw [List.flatMap_cons, ← h0, ← h1, List.take_append_drop]
theorem rows_reps {α : Type} {R : α → List Value → Prop} {enc : α → List Value} {sz : Nat} (hR : ∀ x, R x (enc x)) (hl : ∀ x, (enc x).length = sz) : ∀ (xs : List α), Reps R sz xs (xs.flatMap enc)
  | [] => Reps.none _ _
  | x :: r => Reps.front (hR x) (hl x) (rows_reps hR hl r) rfl
theorem rows_len {α : Type} {enc : α → List Value} {sz : Nat} (hl : ∀ x, (enc x).length = sz) : ∀ (xs : List α), (xs.flatMap enc).length = xs.length * sz
  | [] => by simp
  | x :: r => by rw [List.flatMap_cons, List.length_append, hl, rows_len hl r, List.length_cons, Nat.succ_mul, Nat.add_comm]
theorem rows_take {α : Type} {enc : α → List Value} {sz : Nat} (hl : ∀ x, (enc x).length = sz) : ∀ (xs : List α) (i : Nat), (xs.flatMap enc).take (i * sz) = (xs.take i).flatMap enc
  | [], i => by simp
  | x :: r, 0 => by simp
  | x :: r, i + 1 => by
    rw [List.flatMap_cons, List.take_succ_cons, List.flatMap_cons, ← rows_take hl r i, Nat.succ_mul, Nat.add_comm (i * sz), ← hl x, List.take_append, List.take_of_length_le (by omega), Nat.add_sub_cancel_left]
theorem rows_drop {α : Type} {enc : α → List Value} {sz : Nat} (hl : ∀ x, (enc x).length = sz) : ∀ (xs : List α) (i : Nat), (xs.flatMap enc).drop (i * sz) = (xs.drop i).flatMap enc
  | [], i => by simp
  | x :: r, 0 => by simp
  | x :: r, i + 1 => by
    rw [List.flatMap_cons, List.drop_succ_cons, ← rows_drop hl r i, Nat.succ_mul, Nat.add_comm (i * sz), ← hl x, List.drop_append, List.drop_of_length_le (by omega), Nat.add_sub_cancel_left, List.nil_append]
theorem flat_own {α : Type} {d : Kd α} {enc : α → List Value} (hf : ∀ {w : World} {base : Nat} {ok : Nat → Prop} {x : α} {cs : List Value}, d.M w base ok x cs → cs = enc x) {e base : Nat} {ok : Nat → Prop} {w : World} {v : Value} {xs : List α} (h : d.R e w base ok v xs) : w.ownsRow base e d.sz v xs.length (xs.flatMap enc) := by
  obtain ⟨h0, inner, ho, hr⟩ := h
  rwa [rows_inner (fun _ _ h => hf h) xs inner hr] at ho
theorem own_flat {α : Type} {d : Kd α} {enc : α → List Value} (hm : ∀ (w : World) (base : Nat) (ok : Nat → Prop) (x : α), d.M w base ok x (enc x)) (hl : ∀ x, (enc x).length = d.sz) {e base : Nat} {ok : Nat → Prop} {w : World} {v : Value} {xs : List α} (ho : w.ownsRow base e d.sz v xs.length (xs.flatMap enc)) (h0 : ∀ k, v.ownBlock = some k → ok k) : d.R e w base ok v xs :=
  ⟨h0, _, ho, rows_reps (fun x => hm _ _ _ x) hl xs⟩
theorem own_opened {w : World} {base sz g n c : Nat} {e : TypeId} {cs : List Value} (h : w.ownsRow base e sz (.slice (some ⟨g, 0, none⟩) n c) n cs) : ∃ cur, w.heap[g]? = some (.cells cur e (0, 0)) ∧ base ≤ g ∧ n ≤ c ∧ c ≤ maxLen ∧ cur.size = c * sz ∧ cur.toList.take (n * sz) = cs := by
  rcases h.2 with ⟨h2, _⟩ | ⟨g', cap, cur, he, hb, hh, hn, hm, hs, ht⟩
  · cases h2
  · injection he with h1 h2 h3
    injection h1 with h1
    injection h1 with h1
    subst h1 h3
    exact ⟨cur, hh, hb, hn, hm, hs, ht⟩
/-- Cells behind the elements have been written: the row is as it was. -/
theorem own_beyond {w : World} {base sz g n c o : Nat} {e : TypeId} {cs vs : List Value} (h : w.ownsRow base e sz (.slice (some ⟨g, 0, none⟩) n c) n cs) (ho : n * sz ≤ o) (hc : o + vs.length ≤ c * sz) : (w.setCells g o vs).ownsRow base e sz (.slice (some ⟨g, 0, none⟩) n c) n cs := by
  obtain ⟨cur, hh, hb, hn, hm, hs, ht⟩ := own_opened h
  obtain ⟨cur', h3, h4, h5⟩ := setCells_row vs o w cur hh (by omega)
  refine ⟨h.1, .inr ⟨g, c, cur', rfl, hb, h3, hn, hm, by rw [h4, hs], ?_⟩⟩
  rw [h5, List.append_assoc, List.take_append_of_le_length (by rw [List.length_take, Array.length_toList]; omega), List.take_take, Nat.min_eq_left ho, ht]
/-- One element put in at i: what stood from i on has been moved up by one, then the element written. -/
theorem own_put_in {α : Type} {enc : α → List Value} {w : World} {base sz g n c i : Nat} {e : TypeId} {xs : List α} {f : α} (hl : ∀ x, (enc x).length = sz) (hn : xs.length = n) (h : w.ownsRow base e sz (.slice (some ⟨g, 0, none⟩) n c) n (xs.flatMap enc)) (hi : i ≤ n) (hr : n + 1 ≤ c) :
    ((w.setCells g ((i + 1) * sz) ((xs.drop i).flatMap enc)).setCells g (i * sz) (enc f)).ownsRow base e sz (.slice (some ⟨g, 0, none⟩) (n + 1) c) (n + 1) ((xs.take i ++ f :: xs.drop i).flatMap enc) := by
  obtain ⟨cur, hh, hb, _, hm, hs, ht⟩ := own_opened h
  have e1 : ((xs.drop i).flatMap enc).length = (n - i) * sz := by rw [rows_len hl, List.length_drop, hn]
  have e2 : (i + 1) * sz + (n - i) * sz = (n + 1) * sz := by rw [← Nat.add_mul]; congr 1; omega
  have e3 : (n + 1) * sz ≤ c * sz := Nat.mul_le_mul_right _ hr
  have e4 : i * sz + sz = (i + 1) * sz := by rw [Nat.succ_mul]
  have e5 : i * sz ≤ n * sz := Nat.mul_le_mul_right _ hi
  obtain ⟨cur1, h3, h4, h5⟩ := setCells_row ((xs.drop i).flatMap enc) ((i + 1) * sz) w cur hh (by omega)
  obtain ⟨cur2, h6, h7, h8⟩ := setCells_row (enc f) (i * sz) (w.setCells g ((i + 1) * sz) ((xs.drop i).flatMap enc)) cur1 h3 (by rw [hl]; omega)
  refine ⟨by rw [rows_len hl]; congr 1; simp [hn]; omega, .inr ⟨g, c, cur2, rfl, hb, h6, hr, hm, by rw [h7, h4, hs], ?_⟩⟩
  have k1 : cur1.toList.take (i * sz) = (xs.take i).flatMap enc := by
    rw [h5, List.append_assoc, List.take_append_of_le_length (by rw [List.length_take, Array.length_toList]; omega), List.take_take, Nat.min_eq_left (by omega), ← rows_take hl, ← ht, List.take_take, Nat.min_eq_left e5]
  have k2 : cur1.toList.drop (i * sz + (enc f).length) = (xs.drop i).flatMap enc ++ cur.toList.drop ((i + 1) * sz + ((xs.drop i).flatMap enc).length) := by
    rw [h5, hl, e4, List.append_assoc, List.drop_append_of_le_length (by rw [List.length_take, Array.length_toList]; omega), List.drop_of_length_le (by rw [List.length_take]; omega), List.nil_append]
  rw [h8, k1, k2, List.flatMap_append, List.flatMap_cons, ← List.append_assoc, ← List.append_assoc]
  refine List.take_left' ?_
  rw [List.length_append, List.length_append, rows_len hl, hl, e1, List.length_take, hn, Nat.min_eq_left hi]
  omega
/-- A new block, what stood ahead of i laid in it: the element written at i, what stood from i on behind it. -/
theorem own_put_new {α : Type} {enc : α → List Value} {w : World} {base sz g n c i : Nat} {e : TypeId} {cur : Array Value} {xs : List α} {f : α} (hl : ∀ x, (enc x).length = sz) (hn : xs.length = n) (hh : w.heap[g]? = some (.cells cur e (0, 0))) (hb : base ≤ g) (hm : c ≤ maxLen) (hs : cur.size = c * sz) (ht : cur.toList.take (i * sz) = (xs.take i).flatMap enc) (hi : i ≤ n) (hr : n + 1 ≤ c) :
    ((w.setCells g (i * sz) (enc f)).setCells g ((i + 1) * sz) ((xs.drop i).flatMap enc)).ownsRow base e sz (.slice (some ⟨g, 0, none⟩) (n + 1) c) (n + 1) ((xs.take i ++ f :: xs.drop i).flatMap enc) := by
  have e1 : ((xs.drop i).flatMap enc).length = (n - i) * sz := by rw [rows_len hl, List.length_drop, hn]
  have e2 : (i + 1) * sz + (n - i) * sz = (n + 1) * sz := by rw [← Nat.add_mul]; congr 1; omega
  have e3 : (n + 1) * sz ≤ c * sz := Nat.mul_le_mul_right _ hr
  have e4 : i * sz + sz = (i + 1) * sz := by rw [Nat.succ_mul]
  have e5 : (i + 1) * sz ≤ (n + 1) * sz := Nat.mul_le_mul_right _ (by omega)
  obtain ⟨cur1, h3, h4, h5⟩ := setCells_row (enc f) (i * sz) w cur hh (by rw [hl]; omega)
  obtain ⟨cur2, h6, h7, h8⟩ := setCells_row ((xs.drop i).flatMap enc) ((i + 1) * sz) (w.setCells g (i * sz) (enc f)) cur1 h3 (by omega)
  refine ⟨by rw [rows_len hl]; congr 1; simp [hn]; omega, .inr ⟨g, c, cur2, rfl, hb, h6, hr, hm, by rw [h7, h4, hs], ?_⟩⟩
  have k1 : cur1.toList.take ((i + 1) * sz) = (xs.take i).flatMap enc ++ enc f := by
    rw [h5, ht, List.take_left']
    rw [List.length_append, rows_len hl, hl, List.length_take, hn, Nat.min_eq_left hi, e4]
  rw [h8, k1, List.flatMap_append, List.flatMap_cons, ← List.append_assoc]
  refine List.take_left' ?_
  rw [List.length_append, List.length_append, rows_len hl, hl, e1, List.length_take, hn, Nat.min_eq_left hi]
  omega
theorem run_copy_many {P : Program} (w : World) (dT sT ty elem : TypeId) (sz b o dLen dCap : Nat) (a : Addr) (sLen sCap m : Nat) (cs : List Value)
    (hu : P.underlying dT = some (.slice elem)) (hs : (P.info? elem).map (·.size) = some sz) (hm : m = Nat.min sLen dLen) (hl : cs.length = m * sz)
    (hsrc : ∀ j v, cs[j]? = some v → w.cell? (a.add j) = some v) (hc : ∀ j, j < cs.length → (w.cell? ⟨b, o + j, none⟩).isSome = true) (hf : ∀ j, j < cs.length → w.frozen? ⟨b, o + j, none⟩ = false) (h1 : ∀ v ∈ cs, v.oneCell' = true) :
    (Builtin.copy_ #[dT, sT] ty #[.slice (some ⟨b, o, none⟩) dLen dCap, .slice (some a) sLen sCap]).run P w = .ok (goInt m) (w.setCells b o cs) := by
  have hl' := run_loadCells_list (P := P) w a cs hsrc
  have hst := run_storeCells_cells (P := P) b o cs 0 w (by simpa using hc) (by simpa using hf) h1
  cases hq : P.info? elem with
  | none => simp [hq] at hs
  | some i =>
    have hi : i.size = sz := by simpa [hq] using hs
    simp [Builtin.copy_, run_underlying hu, Builtin.lenOf, Builtin.firstCells, sizeOf, typeInfo, hq, hi, ← hm, ← hl, hl', hst]
theorem run_clear_many {P : Program} (w : World) (t e ty : TypeId) (z : Value) (ht : P.underlying t = some (.slice e)) (hv : ∀ w, (zeroValue e).run P w = .ok z w) (b o n c : Nat) (hn : 0 < n) (zs : List Value) (hz : (Builtin.zeroCells z.cells n).toList = zs)
    (hc : ∀ j, j < zs.length → (w.cell? ⟨b, o + j, none⟩).isSome = true) (hf : ∀ j, j < zs.length → w.frozen? ⟨b, o + j, none⟩ = false) (h1 : ∀ v ∈ zs, v.oneCell' = true) :
    (Builtin.clear_ #[t] ty #[.slice (some ⟨b, o, none⟩) n c]).run P w = .ok (.tuple #[]) (w.setCells b o zs) := by
  have hst := run_storeCells_cells (P := P) b o zs 0 w (by simpa using hc) (by simpa using hf) h1
  simp only [Nat.add_zero] at hst
  obtain ⟨m, rfl⟩ : ∃ m, n = m + 1 := ⟨n - 1, by omega⟩
  simp [Builtin.clear_, run_underlying ht, hv, hz, hst]
theorem grown_setCells (w : World) (g o : Nat) (vs : List Value) : w.grownBy (w.setCells g o vs) (some g) := by
  obtain ⟨s1, s2, s3, s4⟩ := setCells_same g vs o w
  exact ⟨s1, s2, s3, by rw [s4]; exact Nat.le_refl _, fun k _ hk => setCells_far vs _ k (fun he => hk (by rw [he]))⟩
/-- The zero cells of n structs of six whole numbers. -/
theorem zeros6 (n : Nat) : (Builtin.zeroCells (Value.agg #[.int .i64 0, .int .i64 0, .int .i64 0, .int .i64 0, .int .i64 0, .int .i64 0]).cells n).toList = List.replicate (n * 6) (.int .i64 0) := by
  rw [List.eq_replicate_iff]
  refine ⟨by simp [Builtin.zeroCells, Value.cells], fun b hb => ?_⟩
  simp only [Builtin.zeroCells, Value.cells, Array.toList_map, List.mem_map] at hb
  obtain ⟨i, _, rfl⟩ := hb
  show (#[Value.int .i64 0, .int .i64 0, .int .i64 0, .int .i64 0, .int .i64 0, .int .i64 0] : Array Value)[i % 6]! = _
  obtain h | h | h | h | h | h : i % 6 = 0 ∨ i % 6 = 1 ∨ i % 6 = 2 ∨ i % 6 = 3 ∨ i % 6 = 4 ∨ i % 6 = 5 := by omega
  all_goals (rw [h]; rfl)

theorem impl_Fact_44.enc_len (x : S26) : (([.int .i64 x.f0, .int .i64 x.f1, .int .i64 x.f2, .int .i64 x.f3, .int .i64 x.f4, .int .i64 x.f5] : List Value)).length = 6 := rfl
theorem impl_Fact_44.first (pd : S26 → Bool) (xs : List S26) (hx : xs.length ≤ 140737488355328) : ∀ (d k i : Nat), i + d = xs.length → d < k → (∀ x ∈ xs.take i, pd x = false) → ∃ r, impl_Fact_49.l0 (fun x => some (pd x)) k xs (i : Int) = some r ∧ ((r = -1 ∧ ∀ x ∈ xs, pd x = false) ∨ ∃ m : Nat, r = (m : Int) ∧ m < xs.length ∧ (∀ x ∈ xs.take m, pd x = false) ∧ pd (rd_T26 xs (m : Int)) = true) := by
  intro d
  induction d with
  | zero =>
    intro k i hd hk ha
    obtain ⟨k, rfl⟩ : ∃ m, k = m + 1 := ⟨k - 1, by omega⟩
    refine ⟨-1, by simp only [impl_Fact_49.l0]; rw [if_neg (by omega)], .inl ⟨rfl, ?_⟩⟩
    rw [List.take_of_length_le (by omega)] at ha
    exact ha
  | succ d ih =>
    intro k i hd hk ha
    obtain ⟨k, rfl⟩ : ∃ m, k = m + 1 := ⟨k - 1, by omega⟩
    simp only [impl_Fact_49.l0]
    rw [if_pos (by omega), if_pos (by omega), Option.bind_some]
    cases hp : pd (rd_T26 xs (i : Int)) with
    | true => exact ⟨(i : Int), by rw [if_pos rfl], .inr ⟨i, rfl, by omega, ha, hp⟩⟩
    | false =>
      rw [if_neg (by simp), show wrap64 ((i : Int) + 1) = ((i + 1 : Nat) : Int) by unfold wrap64; omega]
      refine ih k (i + 1) (by omega) (by omega) ?_
      intro x hx
      rw [List.take_succ_eq_append_getElem (by omega), List.mem_append, List.mem_singleton] at hx
      rcases hx with hx | rfl
      · exact ha x hx
      · have e : rd_T26 xs (i : Int) = xs[i] := by
          unfold rd_T26
          rw [List.getD_eq_getElem?_getD, Int.toNat_natCast, List.getElem?_eq_getElem (by omega)]
          rfl
        rw [← e]
        exact hp
/-- The row while DeleteFunc goes: its first i elements are those kept of the first j; from j on it is as it was. -/
structure impl_Fact_44.Inv (q : S26 → Bool) (xs ys : List S26) (i j : Int) (kq : Nat) : Prop where
  h0 : 0 ≤ i
  lt : i < j
  le : j ≤ (xs.length : Int)
  ms : (xs.length : Int) - j ≤ (kq : Int)
  sz : ys.length = xs.length
  lo : ys.take i.toNat = (xs.take j.toNat).filter q
  hi : ys.drop j.toNat = xs.drop j.toNat
theorem impl_Fact_44.Inv.read {q : S26 → Bool} {xs ys : List S26} {i j : Int} {kq : Nat} (h : impl_Fact_44.Inv q xs ys i j kq) : rd_T26 ys j = rd_T26 xs j := by
  have := congrArg (fun l => l.getD 0 z26) h.hi
  simpa [List.getD_eq_getElem?_getD, List.getElem?_drop, rd_T26] using this
theorem impl_Fact_44.Inv.keep {q : S26 → Bool} {xs ys : List S26} {i j : Int} {kq : Nat} (h : impl_Fact_44.Inv q xs ys i j (kq + 1)) (hj : j < (xs.length : Int)) (hq : q (rd_T26 ys j) = true) : impl_Fact_44.Inv q xs (ys.set i.toNat (rd_T26 ys j)) (i + 1) (j + 1) kq := by
  have h0 := h.h0; have hlt := h.lt; have hsz := h.sz; have hms := h.ms
  refine ⟨by omega, by omega, by omega, by omega, by rw [List.length_set]; exact hsz, ?_, ?_⟩
  · have e1 : (i + 1).toNat = i.toNat + 1 := by omega
    have e2 : (j + 1).toNat = j.toNat + 1 := by omega
    have e3 : rd_T26 xs j = xs[j.toNat]'(by omega) := by
      unfold rd_T26
      rw [List.getD_eq_getElem?_getD, List.getElem?_eq_getElem (by omega)]
      rfl
    rw [e1, e2, List.take_succ_eq_append_getElem (by rw [List.length_set]; omega), List.getElem_set_self, List.take_succ_eq_append_getElem (i := j.toNat) (by omega), List.filter_append, ← h.lo, ← e3, ← h.read]
    rw [List.filter_cons_of_pos hq, List.filter_nil]
    congr 1
    apply List.ext_getElem?
    intro m
    rw [List.getElem?_take, List.getElem?_take]
    split
    · rw [List.getElem?_set_ne (by omega)]
    · rfl
  · have e2 : (j + 1).toNat = j.toNat + 1 := by omega
    rw [List.drop_set_of_lt (by omega), e2, ← List.drop_drop, ← List.drop_drop, h.hi]
theorem impl_Fact_44.Inv.skip {q : S26 → Bool} {xs ys : List S26} {i j : Int} {kq : Nat} (h : impl_Fact_44.Inv q xs ys i j (kq + 1)) (hj : j < (xs.length : Int)) (hq : q (rd_T26 ys j) = false) : impl_Fact_44.Inv q xs ys i (j + 1) kq := by
  have h0 := h.h0; have hlt := h.lt; have hsz := h.sz; have hms := h.ms
  refine ⟨by omega, by omega, by omega, by omega, hsz, ?_, ?_⟩
  · have e2 : (j + 1).toNat = j.toNat + 1 := by omega
    have e3 : rd_T26 xs j = xs[j.toNat]'(by omega) := by
      unfold rd_T26
      rw [List.getD_eq_getElem?_getD, List.getElem?_eq_getElem (by omega)]
      rfl
    rw [e2, List.take_succ_eq_append_getElem (i := j.toNat) (by omega), List.filter_append, ← h.lo, ← e3, ← h.read, List.filter_cons_of_neg (by rw [hq]; simp), List.filter_nil, List.append_nil]
  · have e2 : (j + 1).toNat = j.toNat + 1 := by omega
    rw [e2, ← List.drop_drop, ← List.drop_drop, h.hi]
theorem impl_Fact_44.cut_lo {P : Program} {t e : TypeId} {sz : Nat} (ht : P.underlying t = some (.slice e)) (hs : (P.info? e).map (·.size) = some sz) (g n c : Nat) (i : Int) (h0 : 0 ≤ i) (h1 : i ≤ (n : Int)) (hc : ¬ c = i.toNat) :
    ∀ W : World, (Instr.slice t (.slice (some ⟨g, 0, none⟩) n c) (some (.int .i64 i)) none none).run P W = .ok (.slice (some ⟨g, i.toNat * sz, none⟩) (n - i.toNat) (c - i.toNat)) W := by
  intro W
  obtain ⟨q, hq, rfl⟩ := Option.map_eq_some_iff.1 hs
  have hel : P.elem t = e := by simp [Program.elem, ht]
  have hu : P.underlying t = some (.slice (P.elem t)) := by rw [hel]; exact ht
  rw [run_slice_l W t (some ⟨g, 0, none⟩) n c hu .i64 i h0 h1, hel]
  simp [sizeOf, typeInfo, hq, sliced, Result.andThen, hc, Addr.add]
  first | done | exact fun h => h.symm
theorem impl_Fact_44.cut_hi {P : Program} {t e : TypeId} {sz : Nat} (ht : P.underlying t = some (.slice e)) (hs : (P.info? e).map (·.size) = some sz) (g n c : Nat) (i : Int) (h0 : 0 ≤ i) (h1 : i ≤ (n : Int)) (hc : n ≤ c) :
    ∀ W : World, (Instr.slice t (.slice (some ⟨g, 0, none⟩) n c) none (some (.int .i64 i)) none).run P W = .ok (.slice (some ⟨g, 0, none⟩) i.toNat c) W := by
  intro W
  obtain ⟨q, hq, rfl⟩ := Option.map_eq_some_iff.1 hs
  have hel : P.elem t = e := by simp [Program.elem, ht]
  have hu : P.underlying t = some (.slice (P.elem t)) := by rw [hel]; exact ht
  rw [run_slice_h W t (some ⟨g, 0, none⟩) n c hu .i64 i h0 (by omega), hel]
  simp [sizeOf, typeInfo, hq, sliced, Result.andThen, Addr.add]
set_option maxHeartbeats 8000000 in
set_option maxRecDepth 100000 in
theorem impl_Fact_44.cut (pd : S26 → Bool) (g : Nat) (lb : Array Value) (eg : ∀ args w, (callFunc g args).run Try.prog w = .ok (.enter g args) w) (v : Value) (xs : List S26) (w : World) (base : Nat) (hb0 : base ≤ w.heap.size) (ho : Kd.R k26 26 w base (fun _ => True) v xs) (hl0 : xs.length ≤ 140737488355328)
    (hp : ∀ (W : World) (x : S26), Below base w W → Calls Try.prog g (#[.agg #[.int .i64 (x).f0, .int .i64 (x).f1, .int .i64 (x).f2, .int .i64 (x).f3, .int .i64 (x).f4, .int .i64 (x).f5]] ++ lb) W fun e w' => e = .returned (.bool (pd x)) ∧ Below W.heap.size W w') :
    Calls Try.prog 44 #[v, .func (.func g) #[] lb] w fun e w' => ∃ v0, e = .returned v0 ∧ Kd.R k26 26 w' base (fun _ => True) v0 (xs.filter fun x => !pd x) ∧ Below base w w' := by
  have hu26 := Try.underlying26
  obtain ⟨A, c, rfl, hlc, hC⟩ := Kd.R_reads ho
  have low : ∀ {W : World}, Below w.heap.size w W → Below base w W := fun k => ⟨k.os, k.tape, k.output, k.size, fun i hi => k.block i (Nat.lt_of_lt_of_le hi hb0)⟩
  obtain ⟨r, hr, hfound⟩ := impl_Fact_44.first pd xs hl0 xs.length (xs.length + 1) 0 (by omega) (by omega) (by simp)
  have hIF := Aside0.mk (impl_Fact_49.found (fun x => some (pd x)) g lb eg (xs.length + 1) A c xs r w hC hl0 (fun W x b hb hx => by
    obtain rfl := Option.some.inj hx
    exact hp W x (low hb)) hr)
  clear hr hC
  have HP := Aside0.mk hp
  have HO0 := Aside0.mk ho
  clear hp ho
  have HL := Aside0.mk hl0
  clear hl0
  have HB0 := Aside0.mk hb0
  clear hb0
  have LOW := Aside0.mk @low
  clear low
  rcases hfound with ⟨rfl, hall⟩ | ⟨m, rfl, hm, hall, hpm⟩
  · -- nothing is struck
    have he : (xs.filter fun x => !pd x) = xs := List.filter_eq_self.2 (fun x hx => by rw [hall x hx]; rfl)
    rw [he]
    clear hall he
    go_enter Try.func44, Try.ntmps44
    go_wp2_with (first | fail)
    with_reducible refine hIF.out.mono ?_
    rintro e w' ⟨rfl, hb⟩
    have HB := Aside0.mk (LOW.out hb)
    have HO := Aside0.mk (Kd.R_below HO0.out hb)
    clear hb hIF HP HO0 eg
    go_wp2
    go_ret
    exact ⟨_, rfl, by (with_reducible repeat (first | apply Kd.R_alloc | apply Kd.R_drewN | apply Kd.R_drew)); exact HO.out, by repeat (first | (with_reducible first | exact HB.out | apply below_alloc | apply pw_below_drewN | apply below_drew1) | exact HB.out)⟩
  · obtain ⟨g0, c0, hv, hg0, hg1, cells, hcells⟩ := Kd.R_form HO0.out (by omega)
    injection hv with hA _ hc0
    subst hA hc0
    clear cells hcells
    have HI := Aside0.mk (show impl_Fact_44.Inv (fun x => !pd x) xs xs (m : Int) ((m : Int) + 1) xs.length from ⟨by omega, by omega, by omega, by omega, rfl, by
      have e1 : ((m : Int) + 1).toNat = m + 1 := by omega
      have e3 : rd_T26 xs (m : Int) = xs[m] := by
        unfold rd_T26
        rw [List.getD_eq_getElem?_getD, Int.toNat_natCast, List.getElem?_eq_getElem hm]
        rfl
      rw [e1, Int.toNat_natCast, List.take_succ_eq_append_getElem hm, List.filter_append, ← e3, List.filter_cons_of_neg (by rw [hpm]; simp), List.filter_nil, List.append_nil]
      exact (List.filter_eq_self.2 (fun x hx => by rw [hall x hx]; rfl)).symm, rfl⟩)
    clear hall hpm
    have HG := Aside0.mk (And.intro hg0 hg1)
    clear hg0 hg1 
    have hm1 : ((m : Int) == -1) = false := beq_eq_false_iff_ne.2 (by omega)
    have hm2 : wrap64 ((m : Int) + 1) = (m : Int) + 1 := by have := HL.out; unfold wrap64; omega
    have HM := Aside0.mk hm
    clear hm
    go_enter Try.func44, Try.ntmps44
    go_wp2_with (first | fail)
    with_reducible refine hIF.out.mono ?_
    rintro e w1 ⟨rfl, hb⟩
    have HB := Aside0.mk (LOW.out hb)
    have HO := Aside0.mk (Kd.R_below HO0.out hb)
    clear hb hIF HO0
    go_wp2
    go_loopg [5, 6, 7] xs.length (fun kq v5 v6 v7 w' => ∃ (x5 x6 : Int) (ys : List S26), v5 = .int .i64 x5 ∧ v6 = .int .i64 x6 ∧ Aside0 (impl_Fact_44.Inv (fun x => !pd x) xs ys x5 x6 kq) ∧ Aside0 (Kd.R k26 26 w' base (fun _ => True) (.slice (some ⟨g0, 0, none⟩) xs.length c) ys) ∧ Aside0 (Below base w w'))
    case atStart => exact ⟨(m : Int), (m : Int) + 1, xs, rfl, (by first | rfl | (simp [*]; done)), HI, ⟨by (with_reducible repeat (first | apply Kd.R_alloc | apply Kd.R_drewN | apply Kd.R_drew)); exact HO.out⟩, ⟨by repeat (first | (with_reducible first | exact HB.out | apply below_alloc | apply pw_below_drewN | apply below_drew1) | exact HB.out)⟩⟩
    case round =>
      clear HI HO HB hm1 hm2 HM
      obtain ⟨x5, x6, ys, rfl, rfl, HI, HO, HB⟩ := hrel
      by_cases cj : x6 < (xs.length : Int)
      · cases gk with
        | zero => exact absurd HI.out.ms (by omega)
        | succ k1 =>
          have b2 : decide (x6 < (xs.length : Int)) = true := decide_eq_true cj
          have q0 : 0 ≤ x6 := by have := HI.out.h0; have := HI.out.lt; omega
          obtain ⟨ce, hcl, hM, hcc, hfr⟩ := Kd.R_elem HO.out z26 x6 q0 cj
          obtain rfl := k26_openM hM
          have hx0 : wr.cell? ⟨g0, (x6 : Int).toNat * 6, none⟩ = some (.int .i64 ((rd_T26 ys x6).f0)) := hcc 0 _ rfl
          have hx1 : wr.cell? ⟨g0, (x6 : Int).toNat * 6 + 1, none⟩ = some (.int .i64 ((rd_T26 ys x6).f1)) := hcc 1 _ rfl
          have hx2 : wr.cell? ⟨g0, (x6 : Int).toNat * 6 + 2, none⟩ = some (.int .i64 ((rd_T26 ys x6).f2)) := hcc 2 _ rfl
          have hx3 : wr.cell? ⟨g0, (x6 : Int).toNat * 6 + 3, none⟩ = some (.int .i64 ((rd_T26 ys x6).f3)) := hcc 3 _ rfl
          have hx4 : wr.cell? ⟨g0, (x6 : Int).toNat * 6 + 4, none⟩ = some (.int .i64 ((rd_T26 ys x6).f4)) := hcc 4 _ rfl
          have hx5 : wr.cell? ⟨g0, (x6 : Int).toNat * 6 + 5, none⟩ = some (.int .i64 ((rd_T26 ys x6).f5)) := hcc 5 _ rfl
          clear hcl hM hcc hfr
          have E6 := Aside0.mk (show x6 + 1 ≤ 140737488355328 by have := HL.out; omega)
          obtain ⟨x, hx⟩ : ∃ x, x = rd_T26 ys x6 := ⟨_, rfl⟩
          rw [← hx] at hx0 hx1 hx2 hx3 hx4 hx5
          have HX := Aside0.mk hx
          clear hx
          have CJ := Aside0.mk cj
          have p0 := eq_true q0
          have p1 := eq_true cj
          clear cj q0
          go_wp2_with (first | fail)
          with_reducible refine (HP.out _ x (HB.out.alloc (Nat.le_trans HB0.out HB.out.size) _)).mono ?_
          rintro e w3 ⟨rfl, hb3⟩
          have HBn := Aside0.mk (below_then (HB.out.alloc (Nat.le_trans HB0.out HB.out.size) _) (by simp; exact Nat.le_succ_of_le (Nat.le_trans HB0.out HB.out.size)) hb3)
          have HOn := Aside0.mk (Kd.R_below (Kd.R_alloc HO.out _) hb3)
          obtain ⟨B, hB⟩ : ∃ B, B = wr.heap.size := ⟨_, rfl⟩
          have hv0 : w3.cell? ⟨wr.heap.size, 0, none⟩ = some (.int .i64 x.f0) := (hb3.cell (by simp)).trans (by go_simp; done)
          have hv1 : w3.cell? ⟨wr.heap.size, 1, none⟩ = some (.int .i64 x.f1) := (hb3.cell (by simp)).trans (by go_simp; done)
          have hv2 : w3.cell? ⟨wr.heap.size, 2, none⟩ = some (.int .i64 x.f2) := (hb3.cell (by simp)).trans (by go_simp; done)
          have hv3 : w3.cell? ⟨wr.heap.size, 3, none⟩ = some (.int .i64 x.f3) := (hb3.cell (by simp)).trans (by go_simp; done)
          have hv4 : w3.cell? ⟨wr.heap.size, 4, none⟩ = some (.int .i64 x.f4) := (hb3.cell (by simp)).trans (by go_simp; done)
          have hv5 : w3.cell? ⟨wr.heap.size, 5, none⟩ = some (.int .i64 x.f5) := (hb3.cell (by simp)).trans (by go_simp; done)
          rw [← hB] at hv0 hv1 hv2 hv3 hv4 hv5
          rw [← hB]
          clear hB hb3 HB HO hx0 hx1 hx2 hx3 hx4 hx5
          have z6 : wrap64 (x6 + 1) = x6 + 1 := by have := E6.out; have := HI.out.h0; have := HI.out.lt; unfold wrap64; omega
          have Z6 := Aside0.mk z6
          clear z6
          cases hq : pd x with
          | true =>
            go_wp2
            go_roundg k1
            case measure => omega
            case rel => exact ⟨x5, wrap64 (x6 + 1), ys, rfl, (by first | rfl | (simp [*]; done)), ⟨by rw [Z6.out]; exact HI.out.skip CJ.out (by rw [← HX.out, hq]; rfl)⟩, HOn, HBn⟩
          | false =>
            have q5 : 0 ≤ x5 := HI.out.h0
            have r5 : x5 < (xs.length : Int) := by have := HI.out.lt; have := CJ.out; omega
            obtain ⟨ce', hcl', hM', hcc', hfr'⟩ := Kd.R_elem HOn.out z26 x5 q5 r5
            have HP5 := Aside0.mk (Kd.R_seg HOn.out x5 q5 r5 (seg := [.int .i64 x.f0, .int .i64 x.f1, .int .i64 x.f2, .int .i64 x.f3, .int .i64 x.f4, .int .i64 x.f5]) (j := 0) hcl' hcc' (show 6 ≤ 6 from by decide) (x' := x) (by obtain rfl := k26_openM hM'; exact k26_mkM _ _ _ x) (fun _ hk => hk))
            obtain rfl := k26_openM hM'
            have hx0 := hcc' 0 _ rfl; have hf0 := hfr' 0
            simp only [show (k26).sz = 6 from rfl, Nat.mul_one, Nat.add_zero] at hx0 hf0
            have hx1 := hcc' 1 _ rfl; have hf1 := hfr' 1
            simp only [show (k26).sz = 6 from rfl, Nat.mul_one, Nat.add_zero] at hx1 hf1
            have hx2 := hcc' 2 _ rfl; have hf2 := hfr' 2
            simp only [show (k26).sz = 6 from rfl, Nat.mul_one, Nat.add_zero] at hx2 hf2
            have hx3 := hcc' 3 _ rfl; have hf3 := hfr' 3
            simp only [show (k26).sz = 6 from rfl, Nat.mul_one, Nat.add_zero] at hx3 hf3
            have hx4 := hcc' 4 _ rfl; have hf4 := hfr' 4
            simp only [show (k26).sz = 6 from rfl, Nat.mul_one, Nat.add_zero] at hx4 hf4
            have hx5 := hcc' 5 _ rfl; have hf5 := hfr' 5
            simp only [show (k26).sz = 6 from rfl, Nat.mul_one, Nat.add_zero] at hx5 hf5
            clear hcc' hfr' hcl' hM'
            have z5 : wrap64 (x5 + 1) = x5 + 1 := by have := E6.out; have := HI.out.h0; have := HI.out.lt; unfold wrap64; omega
            have Z5 := Aside0.mk z5
            clear z5
            replace q5 := eq_true q5
            replace r5 := eq_true r5
            go_wp2
            go_roundg k1
            case measure => omega
            case rel =>
              refine ⟨wrap64 (x5 + 1), wrap64 (x6 + 1), ys.set x5.toNat x, (by first | rfl | (simp [*]; done)), (by first | rfl | (simp [*]; done)), ⟨?_⟩, ⟨?_⟩, ⟨?_⟩⟩
              · rw [Z6.out, Z5.out, HX.out]
                exact HI.out.keep CJ.out (by rw [← HX.out, hq]; rfl)
              · exact HP5.out.1
              · exact HBn.out.grown HP5.out.2 (Nat.le_trans HB0.out HBn.out.size) (fun k hk => by injection hk with hk; rw [← hk]; exact HG.out.1)
      · have hs6 : (Try.prog.info? 26).map (·.size) = some 6 := by kernel_rfl
        have hzv : ∀ w, (zeroValue 26).run Try.prog w = .ok (.agg #[(.int .i64 0), (.int .i64 0), (.int .i64 0), (.int .i64 0), (.int .i64 0), (.int .i64 0)]) w := by
          obtain ⟨i0, hi, hz⟩ := Option.map_eq_some_iff.1 info26
          simp only [Prod.mk.injEq] at hz
          intro w
          simp [zeroValue, typeInfo, hi, hz.1]
        have b2 : decide (x6 < (xs.length : Int)) = false := decide_eq_false cj
        have h0 := HI.out.h0; have hlt := HI.out.lt; have hle := HI.out.le
        have hsz := HI.out.sz
        have i0 : x5.toNat < xs.length := by omega
        have e6 : x6.toNat = xs.length := by omega
        have HR0 := Kd.R_take HO.out (m := x5.toNat) (by omega)
        have hl : (ys.take x5.toNat).length = x5.toNat := by rw [List.length_take]; omega
        have HW := flat_own (d := k26) (enc := fun x => [.int .i64 x.f0, .int .i64 x.f1, .int .i64 x.f2, .int .i64 x.f3, .int .i64 x.f4, .int .i64 x.f5]) (fun h => k26_openM h) HO.out
        obtain ⟨cur, hh, hbg, hn, hcm, hcs, htk⟩ := own_opened (n := xs.length) (by rw [← hsz]; rw [← hsz] at HW; exact HW)
        have HT := flat_own (d := k26) (enc := fun x => [.int .i64 x.f0, .int .i64 x.f1, .int .i64 x.f2, .int .i64 x.f3, .int .i64 x.f4, .int .i64 x.f5]) (fun h => k26_openM h) HR0
        rw [hl] at HT
        have hcs6 : cur.size = c * 6 := hcs
        have hcl : ∀ ty, (Builtin.clear_ #[24] ty #[.slice (some ⟨g0, x5.toNat * 6, none⟩) (xs.length - x5.toNat) (c - x5.toNat)]).run Try.prog wr = .ok (.tuple #[]) (wr.setCells g0 (x5.toNat * 6) (List.replicate ((xs.length - x5.toNat) * 6) (.int .i64 0))) := fun ty =>
          run_clear_many wr 24 26 ty _ Try.underlying24 hzv g0 (x5.toNat * 6) _ _ (by omega) _ (zeros6 _)
            (fun j hj => by rw [List.length_replicate] at hj; rw [cell_of_row wr g0 _ cur 26 (0, 0) hh, Array.getElem?_eq_getElem (by omega)]; rfl) (fun j _ => blk_frozen hh _) (fun v hv => by rw [List.eq_of_mem_replicate hv]; rfl)
        have HE := Aside0.mk (own_flat (d := k26) (enc := fun x => [.int .i64 x.f0, .int .i64 x.f1, .int .i64 x.f2, .int .i64 x.f3, .int .i64 x.f4, .int .i64 x.f5]) (fun _ _ _ x => k26_mkM _ _ _ x) (fun _ => rfl) (ok := fun _ => True) (v := .slice (some ⟨g0, 0, none⟩) x5.toNat c) (xs := ys.take x5.toNat)
          (by rw [hl]; exact own_beyond (o := x5.toNat * 6) (vs := List.replicate ((xs.length - x5.toNat) * 6) (.int .i64 0)) HT (Nat.le_refl _) (by rw [List.length_replicate]; show _ ≤ c * 6; omega)) (fun _ _ => trivial))
        have HBe := Aside0.mk (HB.out.grown (grown_setCells wr g0 (x5.toNat * 6) (List.replicate ((xs.length - x5.toNat) * 6) (.int .i64 0))) (Nat.le_trans HB0.out HB.out.size) (fun k hk => by injection hk with hk; rw [← hk]; exact HG.out.1))
        have hlo := impl_Fact_44.cut_lo (P := Try.prog) Try.underlying24 hs6 g0 xs.length c x5 h0 (by omega) (by omega)
        have hhi := impl_Fact_44.cut_hi (P := Try.prog) Try.underlying24 hs6 g0 xs.length c x5 h0 (by omega) (by omega)
        have EQ := Aside0.mk (show ys.take x5.toNat = xs.filter (fun x => !pd x) by have := HI.out.lo; rwa [e6, List.take_of_length_le (Nat.le_refl _)] at this)
        clear hs6 hzv h0 hlt hle hsz i0 e6 HR0 hl HW hh hbg hn hcm hcs htk HT hcs6 cj HI HO HB HP eg
        go_wp2
        go_ret
        exact ⟨_, rfl, by rw [← EQ.out]; exact HE.out, HBe.out⟩

/-! ### impl_DropPast: function 20, by hand -/
set_option maxHeartbeats 8000000 in
set_option maxRecDepth 100000 in
theorem impl_DropPast.pred (a1 : Int) (B0 : Nat) (x : S26) (W : World) (h0 : W.cell? ⟨B0, 0, none⟩ = some (.int .i64 a1)) :
    Calls Try.prog 45 #[.agg #[.int .i64 (x).f0, .int .i64 (x).f1, .int .i64 (x).f2, .int .i64 (x).f3, .int .i64 (x).f4, .int .i64 (x).f5], .pointer (some ⟨B0, 0, none⟩)] W fun e w' => e = .returned (.bool (decide (x.f5 < a1))) ∧ Below W.heap.size W w' := by
  have hu26 := Try.underlying26
  have HB := Aside0.mk (Below.refl W.heap.size W)
  have g0 : ∀ o, (W.alloc o).cell? ⟨B0, 0, none⟩ = some (.int .i64 a1) := fun o => Lib.cell?_alloc_some o h0
  obtain ⟨x0, x1, x2, x3, x4, x5⟩ := x
  simp only
  go_enter Try.func45, Try.ntmps45
  go_wp2
  go_ret
  exact ⟨by first | rfl | (simp; done), by repeat (first | (with_reducible first | exact HB.out | apply below_alloc | apply pw_below_drewN | apply below_drew1) | exact HB.out)⟩
def impl_DropPast.f (l0 : List S26) (a1 : Int) : Option (List S26) := (impl_copyFacts.f l0).bind fun y => if y.length ≤ 140737488355328 then some (y.filter fun x => !decide (x.f5 < a1)) else none
set_option maxHeartbeats 8000000 in
set_option maxRecDepth 100000 in
theorem impl_DropPast.calls (A0 : Option Addr) (c0 : Nat) (l0 : List S26) (a1 : Int) (r : List S26) (w : World) (hr0 : Kd.C k26 w A0 l0.length l0) (hc0 : l0.length ≤ c0) (h : impl_DropPast.f l0 a1 = some r) :
    Calls Try.prog 20 #[.slice A0 l0.length c0, .int .i64 a1] w fun e w' => ∃ v0_ : Value, e = .returned v0_ ∧ Kd.R k26 26 w' w.heap.size (fun _ => True) v0_ r ∧ Below w.heap.size w w' := by
  have HR0 := Aside0.mk hr0
  have HC0 := Aside0.mk hc0
  clear hr0 hc0
  have HB := Aside0.mk (Below.refl w.heap.size w)
  obtain ⟨y, A8, H⟩ := Option.bind_eq_some_iff.mp h
  clear h
  by_cases c : y.length ≤ 140737488355328
  · rw [if_pos c] at H
    obtain rfl := Option.some.inj H
    clear H
    have LM := Aside0.mk c
    have A8' := Aside0.mk A8
    clear c A8
    have eg : ∀ args w, (callFunc 45 args).run Try.prog w = .ok (.enter 45 args) w := enters_of Try.func45 (by kernel_rfl) rfl
    have EG := Aside0.mk eg
    clear eg
    go_enter Try.func20, Try.ntmps20
    go_wp2_with (first | fail)
    with_reducible refine (impl_copyFacts.calls A0 c0 l0 y _ ?r0 HC0.out A8'.out).mono ?_
    case r0 => repeat (first | exact HR0.out | (with_reducible refine Kd.C_alloc ?_ _) | (with_reducible refine Kd.C_drewN ?_ _) | (with_reducible refine Kd.C_drew ?_))
    rintro e w2 ⟨v, rfl, ho, hb⟩
    have hnow : w2.cell? ⟨w.heap.size, 0, none⟩ = some (.int .i64 a1) := (hb.cell (by simp)).trans (by go_simp; done)
    have HN := Aside0.mk hnow
    have hsz := hb.size
    rw [show ∀ o, (w.alloc o).heap.size = w.heap.size + 1 from fun o => by simp] at ho hsz
    have HO := Aside0.mk ho
    have HZ := Aside0.mk hsz
    have n1_ := Aside0.mk (below_step (by repeat (first | (with_reducible first | exact HB.out | apply below_alloc | apply pw_below_drewN | apply below_drew1) | exact HB.out)) hb)
    clear HB
    have HB := n1_
    clear n1_ hb ho hnow hsz
    go_wp2_with (first | fail)
    with_reducible refine (impl_Fact_44.cut (fun x => decide (x.f5 < a1)) 45 #[.pointer (some ⟨w.heap.size, 0, none⟩)] EG.out v y _ (w.heap.size + 1) HZ.out HO.out LM.out ?p).mono ?_
    case p =>
      intro W x hb
      exact impl_DropPast.pred a1 _ x W ((hb.cell (by simp)).trans HN.out)
    rintro e w4 ⟨v4, rfl, ho4, hb4⟩
    have HO4 := Aside0.mk (Kd.R_lower ho4 (Nat.le_succ _))
    have HB4 := Aside0.mk (HB.out.trans ⟨hb4.os, hb4.tape, hb4.output, hb4.size, fun i hi => hb4.block i (Nat.lt_succ_of_lt hi)⟩)
    clear HB HO HN HZ ho4 hb4
    go_wp2
    go_ret
    exact ⟨_, rfl, HO4.out, HB4.out⟩
  · rw [if_neg c] at H
    exact absurd H (by simp)

/-- A state of type 72 at block g of W; what its slices lead to came in by w0. -/
def IsS72 (w0 W : World) (g : Nat) (f0 : List Int) (f1 : Int) (f2 : Int) : Prop := ∃ A0 c0, W.heap[g]? = some (.cells #[.slice A0 f0.length c0, .int .i64 f1, .int .i64 f2] 72 (0, 0)) ∧ w0.heap.size ≤ g ∧ Kd.C (Kd.int .u8) w0 A0 f0.length f0
theorem IsS72.grown {w0 W : World} {g : Nat} {f0 : List Int} {f1 : Int} {f2 : Int} {W1 : World} {row : Option Nat} (h : IsS72 w0 W g f0 f1 f2) (hw : W.grownBy W1 row) (hne : some g ≠ row) : IsS72 w0 W1 g f0 f1 f2 := by
  obtain ⟨A0, c0, hb, hg, hr0⟩ := h
  exact ⟨A0, c0, blk_grown hb hw hne, hg, hr0⟩
theorem IsS72.own_neN {w0 W : World} {g : Nat} {f0 : List Int} {f1 : Int} {f2 : Int} {α : Type} {d : Kd α} {e : Nat} {base : Nat} {ok : Nat → Prop} {v : Value} {xs : List α} (h : IsS72 w0 W g f0 f1 f2) (ho : Kd.N d e W base ok v xs) (ht : e ≠ 72) : some g ≠ v.ownBlock := by
  obtain ⟨A0, c0, hb, hg, hr0⟩ := h
  exact Kd.N_ne ho hb ht
theorem IsS72.fresh {w0 W : World} {g : Nat} {f0 : List Int} {f1 : Int} {f2 : Int} (h : IsS72 w0 W g f0 f1 f2) : ∀ k, W.heap.size ≤ k → k ≠ g := by
  obtain ⟨A0, c0, hb, hg, hr0⟩ := h
  exact Kd.freshB hb
theorem IsS72.kept {w0 W : World} {g : Nat} {f0 : List Int} {f1 : Int} {f2 : Int} {W1 : World} {S : Nat → Prop} (h : IsS72 w0 W g f0 f1 f2) (hk : Kept W W1 S) (hne : ¬ S g) : IsS72 w0 W1 g f0 f1 f2 := by
  obtain ⟨A0, c0, hb, hg, hr0⟩ := h
  exact ⟨A0, c0, blk_kept hb hk hne, hg, hr0⟩
theorem IsS72.below {w0 W : World} {g : Nat} {f0 : List Int} {f1 : Int} {f2 : Int} {W1 : World} (h : IsS72 w0 W g f0 f1 f2) (hw : Below W.heap.size W W1) : IsS72 w0 W1 g f0 f1 f2 := h.grown (grown_of_below hw none) (by simp)
theorem IsS72.alloc {w0 W : World} {g : Nat} {f0 : List Int} {f1 : Int} {f2 : Int} (h : IsS72 w0 W g f0 f1 f2) (o : Obj) : IsS72 w0 (W.alloc o) g f0 f1 f2 := h.below (below_alloc (Below.refl _ _) o)
theorem IsS72.drewN {w0 W : World} {g : Nat} {f0 : List Int} {f1 : Int} {f2 : Int} (h : IsS72 w0 W g f0 f1 f2) (m : Nat) : IsS72 w0 (W.drewN m) g f0 f1 f2 := h
theorem IsS72.drew {w0 W : World} {g : Nat} {f0 : List Int} {f1 : Int} {f2 : Int} (h : IsS72 w0 W g f0 f1 f2) : IsS72 w0 W.drew g f0 f1 f2 := h
theorem IsS72.at_ {w0 W : World} {g : Nat} {f0 : List Int} {f1 : Int} {f2 : Int} {w' : World} {m : Nat} (hq : W.drewN m = w') (h : IsS72 w0 W g f0 f1 f2) : IsS72 w0 w' g f0 f1 f2 := by subst hq; exact IsS72.drewN h m
theorem IsS72.apart {w0 W : World} {g : Nat} {f0 : List Int} {f1 : Int} {f2 : Int} {α : Type} {d : Kd α} {e : Nat} {base : Nat} {ok : Nat → Prop} {v : Value} {xs : List α} (h : IsS72 w0 W g f0 f1 f2) (ho : d.R e W base ok v xs) (ht : ∀ q, q ∈ e :: d.E → q ≠ 72) : d.R e W base (fun k => ok k ∧ k ≠ g) v xs := by
  obtain ⟨A0, c0, hb, hg, hr0⟩ := h
  exact Kd.R_types ho hb ht
theorem IsS72.own_ne {w0 W : World} {g : Nat} {f0 : List Int} {f1 : Int} {f2 : Int} {α : Type} {d : Kd α} {e : Nat} {base : Nat} {ok : Nat → Prop} {v : Value} {xs : List α} (h : IsS72 w0 W g f0 f1 f2) (ho : d.R e W base ok v xs) (ht : e ≠ 72) : some g ≠ v.ownBlock := by
  obtain ⟨A0, c0, hb, hg, hr0⟩ := h
  exact Kd.R_ne ho hb ht
theorem IsS72.apartQ {w0 W : World} {g : Nat} {f0 : List Int} {f1 : Int} {f2 : Int} {α : Type} {d : Kd α} {e : Nat} {base : Nat} {ok : Nat → Prop} {v : Value} {xs : List α} (h : IsS72 w0 W g f0 f1 f2) (ho : d.Q e W base ok v xs) (ht : ∀ q, q ∈ e :: d.E → q ≠ 72) : d.Q e W base (fun k => ok k ∧ k ≠ g) v xs := by
  obtain ⟨A0, c0, hb, hg, hr0⟩ := h
  exact Kd.Q_types ho hb ht
theorem IsS72.own_neQ {w0 W : World} {g : Nat} {f0 : List Int} {f1 : Int} {f2 : Int} {α : Type} {d : Kd α} {e : Nat} {base : Nat} {ok : Nat → Prop} {v : Value} {xs : List α} (h : IsS72 w0 W g f0 f1 f2) (ho : d.Q e W base ok v xs) (ht : e ≠ 72) : some g ≠ v.ownBlock := by
  obtain ⟨A0, c0, hb, hg, hr0⟩ := h
  exact Kd.Q_ne ho hb ht
theorem IsS72.apartS {w0 W : World} {g : Nat} {f0 : List Int} {f1 : Int} {f2 : Int} {α : Type} {d : Kd α} {e : Nat} {base : Nat} {ok : Nat → Prop} {v : Value} {xs : List α} (h : IsS72 w0 W g f0 f1 f2) (ho : d.S e W base ok v xs) (ht : ∀ q, q ∈ e :: d.E → q ≠ 72) : d.S e W base (fun k => ok k ∧ k ≠ g) v xs := by
  obtain ⟨A0, c0, hb, hg, hr0⟩ := h
  exact Kd.S_types ho hb ht
theorem IsS72.own_neS {w0 W : World} {g : Nat} {f0 : List Int} {f1 : Int} {f2 : Int} {α : Type} {d : Kd α} {e : Nat} {base : Nat} {ok : Nat → Prop} {v : Value} {xs : List α} (h : IsS72 w0 W g f0 f1 f2) (ho : d.S e W base ok v xs) (ht : e ≠ 72) : some g ≠ v.ownBlock := by
  obtain ⟨A0, c0, hb, hg, hr0⟩ := h
  exact Kd.S_ne ho hb ht
theorem IsS72.lt {w0 W : World} {g : Nat} {f0 : List Int} {f1 : Int} {f2 : Int} (h : IsS72 w0 W g f0 f1 f2) : g < W.heap.size := by
  obtain ⟨A0, c0, hb, hg, hr0⟩ := h
  exact blk_lt hb
theorem IsS72.ge {w0 W : World} {g : Nat} {f0 : List Int} {f1 : Int} {f2 : Int} (h : IsS72 w0 W g f0 f1 f2) : w0.heap.size ≤ g := by
  obtain ⟨A0, c0, hb, hg, hr0⟩ := h
  exact hg
theorem IsS72.ne_blk {w0 W : World} {g : Nat} {f0 : List Int} {f1 : Int} {f2 : Int} {a : Nat} {cs : Array Value} {t : TypeId} {fr : Nat × Nat} (h : IsS72 w0 W g f0 f1 f2) (hb2 : W.heap[a]? = some (.cells cs t fr)) (ht : t ≠ 72) : g ≠ a := by
  obtain ⟨A0, c0, hb, hg, hr0⟩ := h
  rintro rfl
  rw [hb] at hb2
  injection hb2 with hb2
  injection hb2 with _ ht2
  exact ht ht2.symm
theorem IsS72.far {w0 W : World} {g : Nat} {f0 : List Int} {f1 : Int} {f2 : Int} {p : Addr} (h : IsS72 w0 W g f0 f1 f2) (hne : g ≠ p.block) (u : Value) : IsS72 w0 (W.setCell p u) g f0 f1 f2 := by
  obtain ⟨A0, c0, hb, hg, hr0⟩ := h
  exact ⟨A0, c0, blk_far hb hne u, hg, hr0⟩
theorem cellS72_0 {W : World} {g : Nat} {A0 : Option Addr} {c0 : Nat} {f0 : List Int} {f1 : Int} {f2 : Int} (h : W.heap[g]? = some (.cells #[.slice A0 f0.length c0, .int .i64 f1, .int .i64 f2] 72 (0, 0))) : W.cell? ⟨g, 0, none⟩ = some (.slice A0 f0.length c0) := (blk_cell h 0).trans rfl
theorem cellS72_1 {W : World} {g : Nat} {A0 : Option Addr} {c0 : Nat} {f0 : List Int} {f1 : Int} {f2 : Int} (h : W.heap[g]? = some (.cells #[.slice A0 f0.length c0, .int .i64 f1, .int .i64 f2] 72 (0, 0))) : W.cell? ⟨g, 1, none⟩ = some (.int .i64 f1) := (blk_cell h 1).trans rfl
theorem IsS72.set_1 {w0 W : World} {g : Nat} {f0 : List Int} {f1 : Int} {f2 : Int} (h : IsS72 w0 W g f0 f1 f2) (x : Int) : IsS72 w0 (W.setCell ⟨g, 1, none⟩ (.int .i64 x)) g f0 x f2 := by
  obtain ⟨A0, c0, hb, hg, hr0⟩ := h
  exact ⟨A0, c0, by simpa using blk_set hb 1 (.int .i64 x), hg, hr0⟩
theorem cellS72_2 {W : World} {g : Nat} {A0 : Option Addr} {c0 : Nat} {f0 : List Int} {f1 : Int} {f2 : Int} (h : W.heap[g]? = some (.cells #[.slice A0 f0.length c0, .int .i64 f1, .int .i64 f2] 72 (0, 0))) : W.cell? ⟨g, 2, none⟩ = some (.int .i64 f2) := (blk_cell h 2).trans rfl
theorem IsS72.set_2 {w0 W : World} {g : Nat} {f0 : List Int} {f1 : Int} {f2 : Int} (h : IsS72 w0 W g f0 f1 f2) (x : Int) : IsS72 w0 (W.setCell ⟨g, 2, none⟩ (.int .i64 x)) g f0 f1 x := by
  obtain ⟨A0, c0, hb, hg, hr0⟩ := h
  exact ⟨A0, c0, by simpa using blk_set hb 2 (.int .i64 x), hg, hr0⟩
theorem IsS72.new (w0 W : World) (A0 : Option Addr) (c0 : Nat) (f0 : List Int) (f1 : Int) (f2 : Int) (hB : Below w0.heap.size w0 W) (hr0 : Kd.C (Kd.int .u8) w0 A0 f0.length f0) : IsS72 w0 (W.alloc (.cells #[.slice A0 f0.length c0, .int .i64 f1, .int .i64 f2] 72)) W.heap.size f0 f1 f2 := ⟨A0, c0, by simpa using heap_alloc_new W _, hB.size, hr0⟩
/-! ### spec_l1New: function 32, by hand -/
def spec_l1New.l0 : Nat → List Int → Int → Int → Option (List Int × Int × Int)
  | 0, _, _, _ => none
  | k + 1, x0, x3, x4 => if x4 < (x0.length : Int) then (if x4 < 4000 then (if 0 ≤ x4 then (spec_l1New.l0 k x0 (Go.bits .and .i64 (wrap64 ((wrap64 ((wrap64 (x3 * 137)) + (wrap64 (rd x0 x4)))) + 11)) 1073741823) (wrap64 (x4 + 1))) else (none)) else (some (x0, 0, x3))) else (some (x0, 0, x3))
def spec_l1New.f (k : Nat) (l0 : List Int) : Option (List Int × Int × Int) := spec_l1New.l0 k l0 (wrap64 (193017 + (l0.length : Int))) 0
theorem spec_l1New.mono_l : ∀ k, (∀ y0 y1 y2, LeO (spec_l1New.l0 k y0 y1 y2) (spec_l1New.l0 (k + 1) y0 y1 y2))
  | 0 => fun _ _ _ r h => by simp [spec_l1New.l0] at h
  | k + 1 => by
    have ih0 := spec_l1New.mono_l k
    · intro y0 y1 y2
      unfold spec_l1New.l0
      repeat' first
      | (with_reducible exact ih0 _ _ _)
      | (with_reducible exact LeO.refl _)
      | (with_reducible exact LeO.none _)
      | (with_reducible refine LeO.ite ?_ ?_)
      | (with_reducible refine LeO.bind ?_ (fun _ => ?_))
      | exact ih0 _ _ _
      | exact LeO.none _
      | refine LeO.ite ?_ ?_
      | refine LeO.bind ?_ (fun _ => ?_)
theorem spec_l1New.mono : ∀ a0 k, LeO (spec_l1New.f k a0) (spec_l1New.f (k + 1) a0) := by
  intro a0 k
  have ih0 := spec_l1New.mono_l k
  unfold spec_l1New.f
  repeat' first
      | (with_reducible exact ih0 _ _ _)
      | (with_reducible exact LeO.refl _)
      | (with_reducible exact LeO.none _)
      | (with_reducible refine LeO.ite ?_ ?_)
      | (with_reducible refine LeO.bind ?_ (fun _ => ?_))
      | exact ih0 _ _ _
      | exact LeO.none _
      | refine LeO.ite ?_ ?_
      | refine LeO.bind ?_ (fun _ => ?_)
set_option maxHeartbeats 8000000 in
set_option maxRecDepth 100000 in
theorem spec_l1New.calls (k : Nat) (A0 : Option Addr) (c0 : Nat) (l0 : List Int) (r1 : List Int) (r2 : Int) (r3 : Int) (w0 w : World) (hB : Below w0.heap.size w0 w) (hr0 : Kd.C (Kd.int .u8) w0 A0 l0.length l0) (hc0 : l0.length ≤ c0) (h : spec_l1New.f k l0 = some (r1, r2, r3)) :
    Calls Try.prog 32 #[.slice A0 l0.length c0] w fun e w' => ∃ g_ : Nat, e = .returned (.pointer (some ⟨g_, 0, none⟩)) ∧ IsS72 w0 w' g_ r1 r2 r3 ∧ Below w0.heap.size w0 w' ∧ Below w.heap.size w w' := by
  have hu72 := Try.underlying72
  have HR0 := Aside0.mk hr0
  have HC0 := Aside0.mk hc0
  clear hr0 hc0
  have HBW := Aside0.mk (Below.refl w.heap.size w)
  have HW0 := Aside0.mk hB.size
  have HB := Aside0.mk hB
  clear hB
  have H : (spec_l1New.l0 k l0 (wrap64 (193017 + (l0.length : Int))) 0) = some (r1, r2, r3) := h
  clear h
  have H' := Aside0.mk H
  clear H
  go_enter Try.func32, Try.ntmps32
  go_wp2
  go_loopg [3, 4] k (fun kq v3 v4 w' => ∃ (x3_1 : Int) (x4_1 : Int), v3 = .int .i64 x3_1 ∧ v4 = .int .i64 x4_1 ∧ Aside0 (spec_l1New.l0 kq l0 x3_1 x4_1 = some (r1, r2, r3)) ∧ Aside0 (kq ≤ k) ∧ Aside0 (Below w0.heap.size w0 w') ∧ Aside0 (Below w.heap.size w w'))
  case atStart => exact ⟨(wrap64 (193017 + (l0.length : Int))), (0), (by first | rfl | (simp; done) | (simp [*]; done)), (by first | rfl | (simp; done) | (simp [*]; done)), H', ⟨Nat.le_refl _⟩, ⟨by repeat (first | (with_reducible first | exact HB.out | apply below_alloc | apply pw_below_drewN | apply below_drew1) | exact HB.out)⟩, ⟨by repeat (first | (with_reducible first | exact HBW.out | apply below_alloc | apply pw_below_drewN | apply below_drew1) | exact HBW.out)⟩⟩
  case round =>
    clear H'
    clear HBW
    obtain ⟨x3_1, x4_1, rfl, rfl, HA, HK1, HB, HBW⟩ := hrel
    cases gk with
    | zero => exact absurd HA.out (by simp [spec_l1New.l0])
    | succ k1 =>
      have H := HA.out
      clear HA
      simp only [spec_l1New.l0] at H
      by_cases c2 : x4_1 < (l0.length : Int)
      · rw [if_pos c2] at H
        have c2b0 : decide (x4_1 < (l0.length : Int)) = true := decide_eq_true c2
        clear c2
        by_cases c3 : x4_1 < 4000
        · rw [if_pos c3] at H
          have c3b0 : decide (x4_1 < 4000) = true := decide_eq_true c3
          clear c3
          by_cases c4 : 0 ≤ x4_1
          · rw [if_pos c4] at H
            have c4b0 : decide (0 ≤ x4_1) = true := decide_eq_true c4
            clear c4
            have H' := Aside0.mk H
            clear H
            have p101 : 0 ≤ (x4_1 : Int) := of_decide_eq_true (by first | (with_reducible assumption) | assumption)
            have q101 : x4_1 < (l0.length : Int) := of_decide_eq_true (by first | (with_reducible assumption) | assumption)
            obtain ⟨ad101, e101, hx101_0⟩ := Kd.at_int HR0.out x4_1 p101 q101
            cases e101
            replace hx101_0 := pw_cell_below HB.out hx101_0
            replace p101 := eq_true p101
            replace q101 := eq_true q101
            go_wp2
            go_roundg k1
            case measure => have := HK1.out; omega
            case rel => exact ⟨(Go.bits .and .i64 (wrap64 ((wrap64 ((wrap64 (x3_1 * 137)) + (wrap64 (rd l0 x4_1)))) + 11)) 1073741823), (wrap64 (x4_1 + 1)), (by first | rfl | (simp; done) | (simp [*]; done)), (by first | rfl | (simp; done) | (simp [*]; done)), H', ⟨by have := HK1.out; omega⟩, ⟨by repeat (first | (with_reducible first | exact HB.out | apply below_alloc | apply pw_below_drewN | apply below_drew1) | exact HB.out)⟩, ⟨by repeat (first | (with_reducible first | exact HBW.out | apply below_alloc | apply pw_below_drewN | apply below_drew1) | exact HBW.out)⟩⟩
          · rw [if_neg c4] at H
            exact absurd H (by simp)
        · rw [if_neg c3] at H
          have c3b0 : decide (x4_1 < 4000) = false := decide_eq_false c3
          clear c3
          simp only [Option.some.injEq, Prod.mk.injEq] at H
          obtain ⟨rfl, rfl, rfl⟩ := H
          go_wp2_with (first | ((with_reducible refine gate_dst (N := 31) rfl ?_); refine box_event ?hg (N := 31) ?hd (cs := #[.slice A0 l0.length c0, .int .i64 0, .int .i64 x3_1]) (t := 72) ?hr ?_; (case hd => rfl); (case hg => rfl); (case hr => first | (go_simp; done) | (go_simp; rfl)); intro gb102 hg w5 hbox hb; have n0_ := Aside0.mk (below_step HBW.out hb); have n1_ := Aside0.mk (below_step (by repeat (first | (with_reducible first | exact HB.out | apply below_alloc | apply pw_below_drewN | apply below_drew1) | exact HB.out)) hb); have n2_ := Aside0.mk (hbox); have n3_ := Aside0.mk ((by rw [hg]; exact (below_size (by repeat (first | (with_reducible first | exact HBW.out | apply below_alloc | apply pw_below_drewN | apply below_drew1) | exact HBW.out))) : w.heap.size ≤ gb102)); have n4_ := Aside0.mk ((Nat.le_trans HW0.out (by rw [hg]; exact (below_size (by repeat (first | (with_reducible first | exact HBW.out | apply below_alloc | apply pw_below_drewN | apply below_drew1) | exact HBW.out))) : w.heap.size ≤ gb102) : w0.heap.size ≤ gb102)); clear HBW; clear HB; have HBW := n0_; have HB := n1_; have BK102 := n2_; have GW102 := n3_; have GE102 := n4_; clear n0_ n1_ n2_ n3_ n4_; clear hb hbox hg))
          go_ret
          exact ⟨_, rfl, (show IsS72 w0 _ gb102 l0 0 x3_1 from ⟨_, _, by (with_reducible repeat (first | refine blk_drewN ?_ _ | refine blk_drew ?_ | refine blk_alloc ?_ _)); exact BK102.out, GE102.out, HR0.out⟩), by repeat (first | (with_reducible first | exact HB.out | apply below_alloc | apply pw_below_drewN | apply below_drew1 | refine below_set ?_ GE102.out) | exact HB.out), by repeat (first | (with_reducible first | exact HBW.out | apply below_alloc | apply pw_below_drewN | apply below_drew1 | refine below_set ?_ GW102.out) | exact HBW.out)⟩
      · rw [if_neg c2] at H
        have c2b0 : decide (x4_1 < (l0.length : Int)) = false := decide_eq_false c2
        clear c2
        simp only [Option.some.injEq, Prod.mk.injEq] at H
        obtain ⟨rfl, rfl, rfl⟩ := H
        go_wp2_with (first | ((with_reducible refine gate_dst (N := 31) rfl ?_); refine box_event ?hg (N := 31) ?hd (cs := #[.slice A0 l0.length c0, .int .i64 0, .int .i64 x3_1]) (t := 72) ?hr ?_; (case hd => rfl); (case hg => rfl); (case hr => first | (go_simp; done) | (go_simp; rfl)); intro gb103 hg w6 hbox hb; have n0_ := Aside0.mk (below_step HBW.out hb); have n1_ := Aside0.mk (below_step (by repeat (first | (with_reducible first | exact HB.out | apply below_alloc | apply pw_below_drewN | apply below_drew1) | exact HB.out)) hb); have n2_ := Aside0.mk (hbox); have n3_ := Aside0.mk ((by rw [hg]; exact (below_size (by repeat (first | (with_reducible first | exact HBW.out | apply below_alloc | apply pw_below_drewN | apply below_drew1) | exact HBW.out))) : w.heap.size ≤ gb103)); have n4_ := Aside0.mk ((Nat.le_trans HW0.out (by rw [hg]; exact (below_size (by repeat (first | (with_reducible first | exact HBW.out | apply below_alloc | apply pw_below_drewN | apply below_drew1) | exact HBW.out))) : w.heap.size ≤ gb103) : w0.heap.size ≤ gb103)); clear HBW; clear HB; have HBW := n0_; have HB := n1_; have BK103 := n2_; have GW103 := n3_; have GE103 := n4_; clear n0_ n1_ n2_ n3_ n4_; clear hb hbox hg))
        go_ret
        exact ⟨_, rfl, (show IsS72 w0 _ gb103 l0 0 x3_1 from ⟨_, _, by (with_reducible repeat (first | refine blk_drewN ?_ _ | refine blk_drew ?_ | refine blk_alloc ?_ _)); exact BK103.out, GE103.out, HR0.out⟩), by repeat (first | (with_reducible first | exact HB.out | apply below_alloc | apply pw_below_drewN | apply below_drew1 | refine below_set ?_ GE103.out) | exact HB.out), by repeat (first | (with_reducible first | exact HBW.out | apply below_alloc | apply pw_below_drewN | apply below_drew1 | refine below_set ?_ GW103.out) | exact HBW.out)⟩

/-! ### spec_l1In: function 68 -/
def spec_l1In.f (a0 : Int) (a1 : Int) (a2 : Int) : Option (Bool) := if a0 ≥ a1 then (some (decide (a0 ≤ a2))) else (some false)
set_option maxHeartbeats 8000000 in
set_option maxRecDepth 100000 in
theorem spec_l1In.calls (a0 : Int) (a1 : Int) (a2 : Int) (r : Bool) (w : World) (h : spec_l1In.f a0 a1 a2 = some r) :
    Calls Try.prog 68 #[.int .i64 a0, .int .i64 a1, .int .i64 a2] w fun e w' => e = .returned (.bool r) ∧ Drawn0 w w' := by
  have H : (if a0 ≥ a1 then (some (decide (a0 ≤ a2))) else (some false)) = some r := h
  clear h
  by_cases c4 : a0 ≥ a1
  · rw [if_pos c4] at H
    have c4b0 : decide (a1 ≤ a0) = true := decide_eq_true c4
    clear c4
    obtain rfl := Option.some.inj H
    go_enter Try.func68, Try.ntmps68
    go_wp2
    go_ret
    exact ⟨by first | rfl | (simp; done) | (simp [*]; done), by repeat (first | exact Drawn0.refl _ | apply Drawn0.step)⟩
  · rw [if_neg c4] at H
    have c4b0 : decide (a1 ≤ a0) = false := decide_eq_false c4
    clear c4
    obtain rfl := Option.some.inj H
    go_enter Try.func68, Try.ntmps68
    go_wp2
    go_ret
    exact ⟨by first | rfl | (simp; done) | (simp [*]; done), by repeat (first | exact Drawn0.refl _ | apply Drawn0.step)⟩

/-! ### spec_IsName: function 72 -/
def spec_IsName.f (a0 : Int) : Option (Bool) := (spec_l1In.f a0 10 49).bind fun t134 => (some t134)
set_option maxHeartbeats 8000000 in
set_option maxRecDepth 100000 in
theorem spec_IsName.calls (a0 : Int) (r : Bool) (w : World) (h : spec_IsName.f a0 = some r) :
    Calls Try.prog 72 #[.int .i64 a0] w fun e w' => e = .returned (.bool r) ∧ Drawn0 w w' := by
  have H : ((spec_l1In.f a0 10 49).bind fun t134 => (some t134)) = some r := h
  clear h
  replace H := Option.bind_eq_some_iff.mp H
  obtain ⟨t134, A20, H⟩ := H
  replace H : (some t134) = some r := H
  have A2 := Aside0.mk A20
  clear A20
  obtain rfl := Option.some.inj H
  go_enter Try.func72, Try.ntmps72
  go_wp2_with (first | ((with_reducible refine gate_callee (f := 68) rfl ?_); refine goesL_ (some 4) rfl rfl Try.func68 (by kernel_rfl) rfl #[.int .i64 a0, .int .i64 10, .int .i64 49] rfl (by (try simp only [List.map_toArray, List.map_cons, List.map_nil]); first | done | rfl | (simp only [List.length_drop, List.length_take]; rfl)) ?_; (with_reducible refine (spec_l1In.calls a0 10 49 t134 _ A2.out).mono ?_); rintro e w' ⟨rfl, ⟨nd, rfl⟩⟩; refine ⟨_, rfl, ?_⟩))
  go_ret
  exact ⟨by first | rfl | (simp; done) | (simp [*]; done), by repeat (first | exact Drawn0.refl _ | apply Drawn0.step)⟩

/-! ### spec_HasKind: function 67 -/
def spec_HasKind.f (a0 : Int) (a1 : Int) : Option (Bool) := (spec_IsName.f a0).bind fun t135 => (if t135 = true then (some ((wrap64 (Int.tdiv a0 10)) == a1)) else (some false))
set_option maxHeartbeats 8000000 in
set_option maxRecDepth 100000 in
theorem spec_HasKind.calls (a0 : Int) (a1 : Int) (r : Bool) (w : World) (h : spec_HasKind.f a0 a1 = some r) :
    Calls Try.prog 67 #[.int .i64 a0, .int .i64 a1] w fun e w' => e = .returned (.bool r) ∧ Drawn0 w w' := by
  have H : ((spec_IsName.f a0).bind fun t135 => (if t135 = true then (some ((wrap64 (Int.tdiv a0 10)) == a1)) else (some false))) = some r := h
  clear h
  replace H := Option.bind_eq_some_iff.mp H
  obtain ⟨t135, A30, H⟩ := H
  replace H : (if t135 = true then (some ((wrap64 (Int.tdiv a0 10)) == a1)) else (some false)) = some r := H
  have A3 := Aside0.mk A30
  clear A30
  by_cases c4 : t135 = true
  · subst c4
    have H1 : (some ((wrap64 (Int.tdiv a0 10)) == a1)) = some r := by rw [if_pos rfl] at H; exact H
    clear H
    have H := H1
    clear H1
    obtain rfl := Option.some.inj H
    go_enter Try.func67, Try.ntmps67
    go_wp2_with (first | ((with_reducible refine gate_callee (f := 72) rfl ?_); refine goesL_ (some 6) rfl rfl Try.func72 (by kernel_rfl) rfl #[.int .i64 a0] rfl (by (try simp only [List.map_toArray, List.map_cons, List.map_nil]); first | done | rfl | (simp only [List.length_drop, List.length_take]; rfl)) ?_; (with_reducible refine (spec_IsName.calls a0 true _ A3.out).mono ?_); rintro e w' ⟨rfl, ⟨nd, rfl⟩⟩; refine ⟨_, rfl, ?_⟩))
    go_ret
    exact ⟨by first | rfl | (simp; done) | (simp [*]; done), by repeat (first | exact Drawn0.refl _ | apply Drawn0.step)⟩
  · replace c4 := Bool.eq_false_iff.mpr c4
    subst c4
    have H1 : (some false) = some r := by rw [if_neg (show ¬ (false = true) by decide)] at H; exact H
    clear H
    have H := H1
    clear H1
    obtain rfl := Option.some.inj H
    go_enter Try.func67, Try.ntmps67
    go_wp2_with (first | ((with_reducible refine gate_callee (f := 72) rfl ?_); refine goesL_ (some 6) rfl rfl Try.func72 (by kernel_rfl) rfl #[.int .i64 a0] rfl (by (try simp only [List.map_toArray, List.map_cons, List.map_nil]); first | done | rfl | (simp only [List.length_drop, List.length_take]; rfl)) ?_; (with_reducible refine (spec_IsName.calls a0 false _ A3.out).mono ?_); rintro e w' ⟨rfl, ⟨nd, rfl⟩⟩; refine ⟨_, rfl, ?_⟩))
    go_ret
    exact ⟨by first | rfl | (simp; done) | (simp [*]; done), by repeat (first | exact Drawn0.refl _ | apply Drawn0.step)⟩

/-! ### spec_IsTime: function 69 -/
def spec_IsTime.f (a0 : Int) : Option (Bool) := (spec_l1In.f a0 0 10000).bind fun t136 => (some t136)
set_option maxHeartbeats 8000000 in
set_option maxRecDepth 100000 in
theorem spec_IsTime.calls (a0 : Int) (r : Bool) (w : World) (h : spec_IsTime.f a0 = some r) :
    Calls Try.prog 69 #[.int .i64 a0] w fun e w' => e = .returned (.bool r) ∧ Drawn0 w w' := by
  have H : ((spec_l1In.f a0 0 10000).bind fun t136 => (some t136)) = some r := h
  clear h
  replace H := Option.bind_eq_some_iff.mp H
  obtain ⟨t136, A20, H⟩ := H
  replace H : (some t136) = some r := H
  have A2 := Aside0.mk A20
  clear A20
  obtain rfl := Option.some.inj H
  go_enter Try.func69, Try.ntmps69
  go_wp2_with (first | ((with_reducible refine gate_callee (f := 68) rfl ?_); refine goesL_ (some 4) rfl rfl Try.func68 (by kernel_rfl) rfl #[.int .i64 a0, .int .i64 0, .int .i64 10000] rfl (by (try simp only [List.map_toArray, List.map_cons, List.map_nil]); first | done | rfl | (simp only [List.length_drop, List.length_take]; rfl)) ?_; (with_reducible refine (spec_l1In.calls a0 0 10000 t136 _ A2.out).mono ?_); rintro e w' ⟨rfl, ⟨nd, rfl⟩⟩; refine ⟨_, rfl, ?_⟩))
  go_ret
  exact ⟨by first | rfl | (simp; done) | (simp [*]; done), by repeat (first | exact Drawn0.refl _ | apply Drawn0.step)⟩

end Go.Proofs.Ythanecnkknimpaa.PFnFound
