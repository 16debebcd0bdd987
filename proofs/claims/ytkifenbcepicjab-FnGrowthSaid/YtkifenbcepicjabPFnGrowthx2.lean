/- What is proved here: each Go function that is named below answers, and leaves memory, as the theorem of its name says; no condition beyond those that each theorem states. Laid by this session's own program (wip/driver.py) over the kit's print. -/
import Derived.Test.YtkifenbcepicjabPFnGrowthx0
namespace Go.Proofs.Ytkifenbcepicjab.PFnGrowth
open Go.RowKit Go.Proofs.YtkifenbcepicjabW.PrintWords Go.Proofs.YtkifenbcepicjabW.PrintLast Go.Proofs.YtkifenbcepicjabW.PrintMore
attribute [local go_sem] max2_int min2_int max_two min_two max_three min_three max_four min_four   -- for this text's walks alone
set_option linter.unusedVariables false
set_option linter.unusedSimpArgs false

/-! ### impl_store_grow: function 88 (by hand) -/
section
attribute [-go_sem] max2_int min2_int max_two min_two max_three min_three max_four min_four
/-- The state's block, the rule's block, and that all else of w0 lies as it did. -/
structure impl_store_grow.GX_ (w0 : World) (g b : Nat) (L C M K num den add : Int) (W : World) : Prop where
  st : W.heap[g]? = some (.cells #[.int .i64 L, .int .i64 C, .int .i64 M, .int .i64 K] 110 (0, 0))
  ru : W.heap[b]? = some (.cells #[.int .i64 num, .int .i64 den, .int .i64 add] 60 (0, 0))
  gr : w0.grownBy W (some g)
  ne : b ≠ g
section
variable {w0 W : World} {g b : Nat} {L C M K num den add : Int}
theorem impl_store_grow.GX_.drewN (h : impl_store_grow.GX_ w0 g b L C M K num den add W) (n : Nat) : impl_store_grow.GX_ w0 g b L C M K num den add (W.drewN n) := ⟨h.st, h.ru, ⟨h.gr.os, h.gr.tape, h.gr.output, h.gr.size, h.gr.block⟩, h.ne⟩
theorem impl_store_grow.GX_.drew (h : impl_store_grow.GX_ w0 g b L C M K num den add W) : impl_store_grow.GX_ w0 g b L C M K num den add W.drew := ⟨h.st, h.ru, ⟨h.gr.os, h.gr.tape, h.gr.output, h.gr.size, h.gr.block⟩, h.ne⟩
theorem impl_store_grow.GX_.gset (h : impl_store_grow.GX_ w0 g b L C M K num den add W) (i : Nat) (u : Value) : w0.grownBy (W.setCell ⟨g, i, none⟩ u) (some g) :=
  ⟨h.gr.os, h.gr.tape, h.gr.output, by rw [World.size_setCell]; exact h.gr.size, fun k hk hn => (Below.heap_setCell W ⟨g, i, none⟩ u k (fun e => hn (by rw [e]))).trans (h.gr.block k hk hn)⟩
theorem impl_store_grow.GX_.set0 (h : impl_store_grow.GX_ w0 g b L C M K num den add W) (x : Int) : impl_store_grow.GX_ w0 g b x C M K num den add (W.setCell ⟨g, 0, none⟩ (.int .i64 x)) := ⟨blk_put h.st 0 _ rfl, blk_far h.ru h.ne _, h.gset _ _, h.ne⟩
theorem impl_store_grow.GX_.set1 (h : impl_store_grow.GX_ w0 g b L C M K num den add W) (x : Int) : impl_store_grow.GX_ w0 g b L x M K num den add (W.setCell ⟨g, 1, none⟩ (.int .i64 x)) := ⟨blk_put h.st 1 _ rfl, blk_far h.ru h.ne _, h.gset _ _, h.ne⟩
theorem impl_store_grow.GX_.set2 (h : impl_store_grow.GX_ w0 g b L C M K num den add W) (x : Int) : impl_store_grow.GX_ w0 g b L C x K num den add (W.setCell ⟨g, 2, none⟩ (.int .i64 x)) := ⟨blk_put h.st 2 _ rfl, blk_far h.ru h.ne _, h.gset _ _, h.ne⟩
theorem impl_store_grow.GX_.set3 (h : impl_store_grow.GX_ w0 g b L C M K num den add W) (x : Int) : impl_store_grow.GX_ w0 g b L C M x num den add (W.setCell ⟨g, 3, none⟩ (.int .i64 x)) := ⟨blk_put h.st 3 _ rfl, blk_far h.ru h.ne _, h.gset _ _, h.ne⟩
theorem impl_store_grow.GX_.cells (h : impl_store_grow.GX_ w0 g b L C M K num den add W) : W.cell? ⟨g, 0, none⟩ = some (.int .i64 L) ∧ W.cell? ⟨g, 1, none⟩ = some (.int .i64 C) ∧ W.cell? ⟨g, 2, none⟩ = some (.int .i64 M) ∧ W.cell? ⟨g, 3, none⟩ = some (.int .i64 K) :=
  ⟨(blk_cell h.st 0).trans rfl, (blk_cell h.st 1).trans rfl, (blk_cell h.st 2).trans rfl, (blk_cell h.st 3).trans rfl⟩
theorem impl_store_grow.GX_.free (h : impl_store_grow.GX_ w0 g b L C M K num den add W) (i : Nat) : W.frozen? ⟨g, i, none⟩ = false := blk_frozen h.st i
theorem impl_store_grow.GX_.rule (h : impl_store_grow.GX_ w0 g b L C M K num den add W) : W.cell? ⟨b, 0, none⟩ = some (.int .i64 num) ∧ W.cell? ⟨b, 1, none⟩ = some (.int .i64 den) ∧ W.cell? ⟨b, 2, none⟩ = some (.int .i64 add) :=
  ⟨(blk_cell h.ru 0).trans rfl, (blk_cell h.ru 1).trans rfl, (blk_cell h.ru 2).trans rfl⟩
end

/-- What grow comes to: does it fit, and the state. -/
def impl_store_grow.capF (num den add L C n : Int) : Int := if (if C * num / den + add < L + n then L + n else C * num / den + add) < C + 1 then C + 1 else (if C * num / den + add < L + n then L + n else C * num / den + add)
def impl_store_grow.growF (num den add L C M K n : Int) : Bool × Int × Int × Int × Int :=
  if L + n > C then (decide (0 ≤ impl_store_grow.capF num den add L C n) && decide (impl_store_grow.capF num den add L C n ≤ 1000000), L + n, impl_store_grow.capF num den add L C n, M + 1, K + n + L)
  else (decide (0 ≤ C) && decide (C ≤ 1000000), L + n, C, M, K + n)
set_option maxHeartbeats 1000000 in
set_option maxRecDepth 100000 in
theorem impl_store_grow.g1 (g : Nat) (num den add L C M K n : Int) (w : World) (hb : w.heap[g]? = some (.cells #[.int .i64 L, .int .i64 C, .int .i64 M, .int .i64 K] 110 (0, 0)))
   (hn0 : 0 ≤ n) (hn1 : n ≤ 1000000) (hL0 : 0 ≤ L) (hL1 : L ≤ C) (hC : C ≤ 1000000) (hK0 : 0 ≤ K) (hK1 : K ≤ 1000000000000) (hM0 : 0 ≤ M) (hM1 : M ≤ 1000000000000)
   (hnum0 : 1 ≤ num) (hnum1 : num ≤ 8) (hden0 : 1 ≤ den) (hden1 : den ≤ num) (hadd0 : 0 ≤ add) (hadd1 : add ≤ 64)
   (hin : ∀ x w, Calls Try.prog 87 #[.int .i64 x] w fun e w' => e = .returned (.bool (decide (0 ≤ x) && decide (x ≤ 1000000))) ∧ w = w') :
    Calls Try.prog 88 #[.pointer (some ⟨g, 0, none⟩), .agg #[.int .i64 num, .int .i64 den, .int .i64 add], .int .i64 n] w fun e w' => e = .returned (.bool (impl_store_grow.growF num den add L C M K n).1) ∧ w'.heap[g]? = some (.cells #[.int .i64 (impl_store_grow.growF num den add L C M K n).2.1, .int .i64 (impl_store_grow.growF num den add L C M K n).2.2.1, .int .i64 (impl_store_grow.growF num den add L C M K n).2.2.2.1, .int .i64 (impl_store_grow.growF num den add L C M K n).2.2.2.2] 110 (0, 0)) ∧ w.grownBy w' (some g) := by
  have hi1 := hin n
  rw [decide_eq_true hn0, decide_eq_true hn1] at hi1
  have HIN := Lib.hid hin
  have HI1 := Lib.hid hi1
  have hlt := blk_lt hb
  obtain ⟨W, hW⟩ : ∃ W, W = w.alloc (.cells #[.int .i64 num, .int .i64 den, .int .i64 add] 60) := ⟨_, rfl⟩
  have HS : Hid (impl_store_grow.GX_ w g w.heap.size L C M K num den add W) := by subst hW; exact ⟨blk_alloc hb _, blk_new _ _, grown_of_below (below_alloc (Below.refl _ _) _) _, Nat.ne_of_gt hlt⟩
  obtain ⟨B, hB⟩ : ∃ B, B = w.heap.size := ⟨_, rfl⟩
  clear hin hi1 hb hlt
  go_enter Try.func88, Try.ntmps88
  go_upto_region 1 with (fail)
  rw [← hW, ← hB]
  rw [← hB] at HS
  clear hW hB
  have c3 := HS.out.cells.2.2.2
  have f3 := HS.out.free 3
  go_upto_region 4 with (go_at_call 87; refine (HI1.out _).mono ?_; rintro e w1 ⟨rfl, rfl⟩)
  replace HS := Lib.hid (HS.out.set3 (K + n))
  generalize W.setCell ⟨g, 3, none⟩ (.int .i64 (K + n)) = W1 at HS ⊢
  clear c3 f3
  have c := HS.out.cells
  have c0 := c.1
  have c1 := c.2.1
  clear c
  by_cases hgt : L + n > C
  · have hg : decide (L + n > C) = true := decide_eq_true hgt
    go_quiet (fail)
    replace HS := Lib.hid (HS.out.drewN nq)
    generalize W1.drewN nq = W2 at HS ⊢
    clear c0 c1 nq
    go_upto_region 5 with (fail)
    have c0 := HS.out.cells.1
    have c3 := HS.out.cells.2.2.2
    have f3 := HS.out.free 3
    go_still_tail 11, (by kernel_rfl)
    change wpList _ _ _ _ _ W2.drew
    go_upto_region 6 with (fail)
    replace HS := Lib.hid (HS.out.set3 (K + n + L)).drew
    generalize (W2.setCell ⟨g, 3, none⟩ (.int .i64 (K + n + L))).drew = W3 at HS ⊢
    clear c0 c3 f3
    have c2 := HS.out.cells.2.2.1
    have f2 := HS.out.free 2
    go_upto_region 7 with (fail)
    replace HS := Lib.hid (HS.out.set2 (M + 1))
    generalize W3.setCell ⟨g, 2, none⟩ (.int .i64 (M + 1)) = W4 at HS ⊢
    clear c2 f2
    have c0 := HS.out.cells.1
    have c1 := HS.out.cells.2.1
    have f1 := HS.out.free 1
    have r0 := HS.out.rule.1
    have r1 := HS.out.rule.2.1
    have r2 := HS.out.rule.2.2
    have hp0 : 0 ≤ C * num := Int.mul_nonneg (by omega) (by omega)
    have hp1 : C * num ≤ 8000000 := by
      have h1 : C * num ≤ 1000000 * num := Int.mul_le_mul_of_nonneg_right hC (by omega)
      omega
    have hq0 : 0 ≤ C * num / den := Int.ediv_nonneg hp0 (by omega)
    have hq1 : C * num / den ≤ 8000000 := Int.le_trans (Int.ediv_le_self _ hp0) hp1
    have e1 : IntKind.i64.wrap (C * num) = C * num := by rw [IntKind.wrap_i64]; omega
    have e2 : IntKind.i64.wrap ((C * num).tdiv den) = C * num / den := IntWalk.i64_quo _ _ ⟨hp0, by omega, hden0⟩
    have e3 : IntKind.i64.wrap (C * num / den + add) = C * num / den + add := by rw [IntKind.wrap_i64]; omega
    have e4 : IntKind.i64.wrap (L + n) = L + n := by rw [IntKind.wrap_i64]; omega
    have e5 : IntKind.i64.wrap (C + 1) = C + 1 := by rw [IntKind.wrap_i64]; omega
    have ez : (den == 0) = false := by simp; omega
    have ez2 : ¬ den = 0 := by omega
    obtain ⟨m, HM⟩ : ∃ m, Hid (m = impl_store_grow.capF num den add L C n) := ⟨_, rfl⟩
    have hmx : ∀ w, (Builtin.max_ #[3, 3, 3] 3 #[.int .i64 (C * num / den + add), .int .i64 (L + n), .int .i64 (C + 1)]).run Try.prog w = .ok (.int .i64 m) w := by
      intro w
      rw [HM.out, impl_store_grow.capF, max_three]
      simp only [max2_int, Sem.run_bind, Sem.run_pure, Result.andThen]
    go_still_tail 28, (by kernel_rfl)
    change wpList _ _ _ _ _ W4.drew
    go_upto_region 8 with (fail)
    replace HS := Lib.hid (HS.out.set1 m).drew
    generalize (W4.setCell ⟨g, 1, none⟩ (.int .i64 m)).drew = W5 at HS ⊢
    have HF : Hid (impl_store_grow.growF num den add L C M K n = (decide (0 ≤ m) && decide (m ≤ 1000000), L + n, m, M + 1, K + n + L)) := by
      rw [HM.out]
      exact if_pos hgt
    have hm0 : -100 ≤ m := by
      have := HM.out
      unfold impl_store_grow.capF at this
      split at this <;> omega
    clear c0 c1 f1 r0 r1 r2 hp0 hp1 hq0 hq1 e1 e2 e3 e4 e5 ez ez2 hmx
    have c0 := HS.out.cells.1
    have c1 := HS.out.cells.2.1
    have f0 := HS.out.free 0
    go_upto_region 9 with (fail)
    replace HS := Lib.hid (HS.out.set0 (L + n))
    generalize W5.setCell ⟨g, 0, none⟩ (.int .i64 (L + n)) = W6 at HS ⊢
    clear c0 c1 f0
    have c1 := HS.out.cells.2.1
    go_wp2_with (go_at_call 87; refine (HIN.out _ _).mono ?_; rintro e w2 ⟨rfl, rfl⟩)
    go_ret
    exact ⟨by rw [HF.out]; first | rfl | (show Ending.returned (.bool (decide (0 ≤ C))) = _; rw [decide_eq_true hC, Bool.and_true]), by rw [HF.out]; exact HS.out.st, HS.out.gr⟩
  · have hg : decide (L + n > C) = false := decide_eq_false hgt
    go_quiet (fail)
    replace HS := Lib.hid (HS.out.drewN nq)
    generalize W1.drewN nq = W2 at HS ⊢
    clear c0 c1 nq
    go_upto_region 8 with (fail)
    have HF : Hid (impl_store_grow.growF num den add L C M K n = (decide (0 ≤ C) && decide (C ≤ 1000000), L + n, C, M, K + n)) := if_neg hgt
    have c0 := HS.out.cells.1
    have c1 := HS.out.cells.2.1
    have f0 := HS.out.free 0
    go_upto_region 9 with (fail)
    replace HS := Lib.hid (HS.out.set0 (L + n))
    generalize W2.setCell ⟨g, 0, none⟩ (.int .i64 (L + n)) = W6 at HS ⊢
    clear c0 c1 f0
    have c1 := HS.out.cells.2.1
    go_wp2_with (go_at_call 87; refine (HIN.out _ _).mono ?_; rintro e w2 ⟨rfl, rfl⟩)
    go_ret
    exact ⟨by rw [HF.out]; first | rfl | (show Ending.returned (.bool (decide (0 ≤ C))) = _; rw [decide_eq_true hC, Bool.and_true]), by rw [HF.out]; exact HS.out.st, HS.out.gr⟩
set_option maxHeartbeats 1000000 in
set_option maxRecDepth 100000 in
theorem impl_store_grow.g2 (g : Nat) (num den add n : Int) (w : World) (hn : ¬ (0 ≤ n ∧ n ≤ 1000000))
   (hin : ∀ x w, Calls Try.prog 87 #[.int .i64 x] w fun e w' => e = .returned (.bool (decide (0 ≤ x) && decide (x ≤ 1000000))) ∧ w = w') :
    Calls Try.prog 88 #[.pointer (some ⟨g, 0, none⟩), .agg #[.int .i64 num, .int .i64 den, .int .i64 add], .int .i64 n] w fun e w' => e = .returned (.bool false) ∧ Below w.heap.size w w' := by
  have hi1 := hin n
  rw [show (decide (0 ≤ n) && decide (n ≤ 1000000)) = false from by rw [← Bool.decide_and]; exact decide_eq_false hn] at hi1
  have HI1 := Lib.hid hi1
  clear hin hi1 hn
  go_enter Try.func88, Try.ntmps88
  go_wp2_with (go_at_call 87; refine (HI1.out _).mono ?_; rintro e w1 ⟨rfl, rfl⟩)
  go_ret
  exact ⟨rfl, below_alloc (Below.refl _ _) _⟩
theorem impl_store_grow.wi (n lo hi : Int) (w : World) : Calls Try.prog 86 #[.int .i64 n, .int .i64 lo, .int .i64 hi] w fun e w' => e = .returned (.bool (decide (lo ≤ n) && decide (n ≤ hi))) ∧ w = w' := by
  go_enter Try.func86, Try.ntmps86
  by_cases h1 : lo ≤ n <;> by_cases h2 : n ≤ hi
  all_goals
    go_wp2
    go_ret
    first | exact ⟨rfl, rfl⟩ | exact ⟨by simp [h1, h2], rfl⟩
set_option maxHeartbeats 1000000 in
set_option maxRecDepth 100000 in
theorem impl_store_grow.ig (n : Int) (w : World) : Calls Try.prog 87 #[.int .i64 n] w fun e w' => e = .returned (.bool (decide (0 ≤ n) && decide (n ≤ 1000000))) ∧ w = w' := by
  have HW := Lib.hid (impl_store_grow.wi n 0 1000000)
  go_enter Try.func87, Try.ntmps87
  go_wp2_with (go_at_call 86; refine (HW.out _).mono ?_; rintro e w1 ⟨rfl, rfl⟩)
  go_ret
  exact ⟨rfl, rfl⟩
/-- Is a rule valid? -/
def impl_store_grow.ruleB (num den add : Int) : Bool := (decide (1 ≤ num) && decide (num ≤ 8)) && ((decide (1 ≤ den) && decide (den ≤ num)) && (decide (0 ≤ add) && decide (add ≤ 64)))
set_option maxHeartbeats 1000000 in
set_option maxRecDepth 100000 in
theorem impl_store_grow.gr (num den add : Int) (w : World) : Calls Try.prog 43 #[.agg #[.int .i64 num, .int .i64 den, .int .i64 add]] w fun e w' => e = .returned (.bool (impl_store_grow.ruleB num den add)) ∧ Below w.heap.size w w' := by
  have h1 := impl_store_grow.wi num 1 8
  have h2 := impl_store_grow.wi den 1 num
  have h3 := impl_store_grow.wi add 0 64
  obtain ⟨x, HX⟩ : ∃ x, Hid (x = (decide (1 ≤ num) && decide (num ≤ 8))) := ⟨_, rfl⟩
  obtain ⟨y, HY⟩ : ∃ x, Hid (x = (decide (1 ≤ den) && decide (den ≤ num))) := ⟨_, rfl⟩
  obtain ⟨z, HZ⟩ : ∃ x, Hid (x = (decide (0 ≤ add) && decide (add ≤ 64))) := ⟨_, rfl⟩
  have HF : Hid (impl_store_grow.ruleB num den add = (x && (y && z))) := by rw [HX.out, HY.out, HZ.out]; rfl
  rw [← HX.out] at h1
  rw [← HY.out] at h2
  rw [← HZ.out] at h3
  have H1 := Lib.hid h1
  have H2 := Lib.hid h2
  have H3 := Lib.hid h3
  clear h1 h2 h3 HX HY HZ
  cases x <;> cases y
  all_goals
    go_enter Try.func43, Try.ntmps43
    go_wp2_with (first | (go_at_call 86; (with_reducible refine (H1.out _).mono ?_); rintro e w1 ⟨rfl, rfl⟩) | (go_at_call 86; (with_reducible refine (H2.out _).mono ?_); rintro e w1 ⟨rfl, rfl⟩) | (go_at_call 86; (with_reducible refine (H3.out _).mono ?_); rintro e w1 ⟨rfl, rfl⟩))
    go_ret
    exact ⟨by rw [HF.out]; rfl, below_alloc (Below.refl _ _) _⟩
theorem impl_store_grow.rule_of {num den add : Int} (h : impl_store_grow.ruleB num den add = true) : 1 ≤ num ∧ num ≤ 8 ∧ 1 ≤ den ∧ den ≤ num ∧ 0 ≤ add ∧ add ≤ 64 := by
  simp only [impl_store_grow.ruleB, Bool.and_eq_true, decide_eq_true_eq] at h
  omega
theorem impl_store_grow.grow_in {num den add L C M K n x : Int} (h : (impl_store_grow.growF num den add L C M K n).1 = true) (hn : 0 ≤ n) (hn1 : n ≤ 1000000) (h1 : 0 ≤ L) (h2 : L ≤ C) (h3 : C ≤ 1000000) (h4 : 0 ≤ K) (h5 : K ≤ 3000000 * x) (h6 : 0 ≤ M) (h7 : M ≤ x) :
    0 ≤ (impl_store_grow.growF num den add L C M K n).2.1 ∧ (impl_store_grow.growF num den add L C M K n).2.1 ≤ (impl_store_grow.growF num den add L C M K n).2.2.1 ∧ (impl_store_grow.growF num den add L C M K n).2.2.1 ≤ 1000000 ∧ 0 ≤ (impl_store_grow.growF num den add L C M K n).2.2.2.2 ∧ (impl_store_grow.growF num den add L C M K n).2.2.2.2 ≤ 3000000 * (x + 1) ∧ 0 ≤ (impl_store_grow.growF num den add L C M K n).2.2.2.1 ∧ (impl_store_grow.growF num den add L C M K n).2.2.2.1 ≤ x + 1 := by
  unfold impl_store_grow.growF at h ⊢
  by_cases h0 : L + n > C
  · rw [if_pos h0] at h ⊢
    simp only [Bool.and_eq_true, decide_eq_true_eq] at h
    dsimp only
    have hc : L + n ≤ impl_store_grow.capF num den add L C n := by unfold impl_store_grow.capF; split <;> split at * <;> omega
    omega
  · rw [if_neg h0]
    dsimp only
    omega
abbrev impl_store_grow.St := Int × Int × Int × Int
abbrev impl_store_grow.cs (s : Int × Int × Int × Int) : Array Value := #[.int .i64 s.1, .int .i64 s.2.1, .int .i64 s.2.2.1, .int .i64 s.2.2.2]
/-- A change: does it fit, and the state. -/
def impl_store_grow.stepF (num den add : Int) (s : Int × Int × Int × Int) (n : Int) : Bool × Int × Int × Int × Int := if 0 ≤ n ∧ n ≤ 1000000 then impl_store_grow.growF num den add s.1 s.2.1 s.2.2.1 s.2.2.2 n else (false, s)
/-- What a state keeps to. -/
structure impl_store_grow.Ok (s : Int × Int × Int × Int) (x : Int) : Prop where
  l0 : 0 ≤ s.1
  lc : s.1 ≤ s.2.1
  c1 : s.2.1 ≤ 1000000
  k0 : 0 ≤ s.2.2.2
  k1 : s.2.2.2 ≤ 3000000 * x
  m0 : 0 ≤ s.2.2.1
  m1 : s.2.2.1 ≤ x
theorem impl_store_grow.ok_step {num den add n x : Int} {s : Int × Int × Int × Int} (h : (impl_store_grow.stepF num den add s n).1 = true) (hs : impl_store_grow.Ok s x) : impl_store_grow.Ok (impl_store_grow.stepF num den add s n).2 (x + 1) := by
  unfold impl_store_grow.stepF at h ⊢
  by_cases hn : 0 ≤ n ∧ n ≤ 1000000
  · rw [if_pos hn] at h ⊢
    obtain ⟨h1, h2, h3, h4, h5, h6, h7⟩ := impl_store_grow.grow_in h hn.1 hn.2 hs.l0 hs.lc hs.c1 hs.k0 hs.k1 hs.m0 hs.m1
    exact ⟨h1, h2, h3, h4, h5, h6, h7⟩
  · rw [if_neg hn] at h; cases h
/-- A change of a store among facts. -/
theorem impl_store_grow.run (num den add n : Int) (s : Int × Int × Int × Int) (g i : Nat) (w0 w : World) (Ps : List Lv.Fact) (hI : Lv.Inv w0 w Ps) (hi : Ps[i]? = some (Lv.boxF g (impl_store_grow.cs s) 110)) (hru : impl_store_grow.ruleB num den add = true) (x : Int) (hs : impl_store_grow.Ok s x) (hx : x ≤ 300000) :
    Calls Try.prog 88 #[.pointer (some ⟨g, 0, none⟩), .agg #[.int .i64 num, .int .i64 den, .int .i64 add], .int .i64 n] w fun e w' => e = .returned (.bool (impl_store_grow.stepF num den add s n).1) ∧ Lv.Inv w0 w' (Ps.set i (Lv.boxF g (impl_store_grow.cs (impl_store_grow.stepF num den add s n).2) 110)) := by
  obtain ⟨r1, r2, r3, r4, r5, r6⟩ := impl_store_grow.rule_of hru
  have hk := hs.k1
  have hm := hs.m1
  unfold impl_store_grow.stepF
  by_cases hn : 0 ≤ n ∧ n ≤ 1000000
  · rw [if_pos hn]
    refine (impl_store_grow.g1 g num den add s.1 s.2.1 s.2.2.1 s.2.2.2 n w (hI.blk i hi) hn.1 hn.2 hs.l0 hs.lc hs.c1 hs.k0 (by omega) hs.m0 (by omega) r1 r2 r3 r4 r5 r6 impl_store_grow.ig).mono ?_
    rintro e w' ⟨rfl, hb, hg⟩
    refine ⟨rfl, ?_⟩
    obtain ⟨S, hS, hf, hw⟩ := hI.write i hi
    have hSg : S g := (hf.now).1
    exact hw w' _ (hI.bel.trans ⟨hg.os, hg.tape, hg.output, hg.size, fun k hk => hg.block k (Nat.lt_of_lt_of_le hk hI.bel.size) (fun e => by injection e with e; have := (hS g hSg).1; omega)⟩) (Kept.of_grown hg (Kept.refl w S) (fun k hk => .inl (by injection hk with hk; rw [← hk]; exact hSg))) (Lv.foot_box hSg hb)
  · rw [if_neg hn]
    refine (impl_store_grow.g2 g num den add n w hn impl_store_grow.ig).mono ?_
    rintro e w' ⟨rfl, hb⟩
    refine ⟨rfl, ?_⟩
    have hse : Ps.set i (Lv.boxF g (impl_store_grow.cs s) 110) = Ps := by
      obtain ⟨h1, h2⟩ := List.getElem?_eq_some_iff.1 hi
      rw [← h2, List.set_getElem_self]
    rw [hse]
    exact hI.below hb
end

/-! ### impl_appends: function 76 (by hand) -/
/-- The states behind the changes of a list, if all fit. -/
def impl_appends.visF (num den add : Int) : List Int → Int × Int × Int × Int → Option (List (Int × Int × Int × Int))
  | [], _ => some []
  | n :: r, s => if (impl_store_grow.stepF num den add s n).1 = true then (impl_appends.visF num den add r (impl_store_grow.stepF num den add s n).2).map ((impl_store_grow.stepF num den add s n).2 :: ·) else none
def impl_appends.allF (num den add : Int) (l : List Int) : Option (List (Int × Int × Int × Int)) := if impl_store_grow.ruleB num den add = true then (if l.length ≤ 40 then impl_appends.visF num den add l (0, 0, 0, 0) else none) else none
/-- The last state. -/
def impl_appends.lastF (o : Option (List (Int × Int × Int × Int))) : Int × Int × Int × Int := match o with | some ys => ys.getLastD (0, 0, 0, 0) | none => (0, 0, 0, 0)
set_option maxHeartbeats 4000000 in
set_option maxRecDepth 100000 in
theorem impl_appends.run (a0_0 a0_1 a0_2 : Int) (A1 : Option Addr) (c1 : Nat) (l1 : List Int) (fid : Nat) (lb : Array Value) (w0 w : World) (Vs : List (Int × Int × Int × Int) → Value → List Lv.Fact) (E : List Lv.Fact) (v : Value) (eg : ∀ args w, (callFunc fid args).run Try.prog w = .ok (.enter fid args) w)
    (hv : ∀ (acc : List (Int × Int × Int × Int)) (s : Int × Int × Int × Int) (v : Value) (E : List Lv.Fact) (W : World), impl_store_grow.Ok s 40 → acc.length ≤ 40 → Lv.Inv w0 W (Vs acc v ++ E) → Calls Try.prog fid (#[.agg (impl_store_grow.cs s)] ++ lb) W fun e W' => e = .returned (.tuple #[]) ∧ ∃ v', Lv.Inv w0 W' (Vs (acc ++ [s]) v' ++ E))
    (hI : Lv.Inv w0 w (Vs [] v ++ E)) (hr1 : Kd.C (Kd.int .i64) w0 A1 l1.length l1) :
    Calls Try.prog 76 #[.agg #[.int .i64 a0_0, .int .i64 a0_1, .int .i64 a0_2], .slice A1 l1.length c1, .func (.func fid) #[] lb] w fun e w' => e = .returned (.tuple #[.agg (impl_store_grow.cs (impl_appends.lastF (impl_appends.allF a0_0 a0_1 a0_2 l1))), .bool (impl_appends.allF a0_0 a0_1 a0_2 l1).isSome]) ∧ ∃ acc v', Lv.Inv w0 w' (Vs acc v' ++ E) ∧ ∀ ys, impl_appends.allF a0_0 a0_1 a0_2 l1 = some ys → acc = ys := by
  have HR1 := Lib.hid hr1
  have HV := Lib.hid hv
  have EG := Lib.hid eg
  obtain ⟨n, hn⟩ : ∃ n, n = l1.length := ⟨_, rfl⟩
  have HN := Lib.hid hn
  obtain ⟨gb, hgb⟩ : ∃ g, g = w.heap.size := ⟨_, rfl⟩
  obtain ⟨gR, hgR⟩ : ∃ g, g = w.heap.size + 1 := ⟨_, rfl⟩
  obtain ⟨W0, hW⟩ : ∃ W, W = (w.alloc (.cells #[.int .i64 a0_0, .int .i64 a0_1, .int .i64 a0_2] 60)).alloc (.cells #[.int .i64 0, .int .i64 0, .int .i64 0, .int .i64 0] 110) := ⟨_, rfl⟩
  have HI : Hid (Lv.Inv w0 W0 (Lv.boxF gR #[.int .i64 0, .int .i64 0, .int .i64 0, .int .i64 0] 110 :: Lv.boxF gb #[.int .i64 a0_0, .int .i64 a0_1, .int .i64 a0_2] 60 :: (Vs [] v ++ E))) := by
    subst hW hgb hgR
    have := (hI.box #[.int .i64 a0_0, .int .i64 a0_1, .int .i64 a0_2] 60).box #[.int .i64 0, .int .i64 0, .int .i64 0, .int .i64 0] 110
    exact Lib.hid (by simpa using this)
  rw [← hn]
  clear hr1 hv eg hn hI
  go_enter Try.func76, Try.ntmps76
  go_upto_region 1 with (fail)
  rw [← hW, ← hgR, ← hgb]
  clear hW hgb hgR
  refine Fl.startW [.take 0, .one 1, .one 2] (by decide) HI.out ?_
  refine Fl.take (some 11) (v := .agg #[.int .i64 0, .int .i64 0, .int .i64 0, .int .i64 0]) rfl rfl (Or.inl ⟨by rfl, fun _ _ => by first | rfl | (go_simp; done) | (go_simp; rfl) | (go_simp; simp only [i64_w])⟩) ?_
  simp only [Act.put, Fl.z1, Fl.z2, Fl.z3]
  refine Fl.var (N := 8) (cs := #[.int .i64 0, .int .i64 0, .int .i64 0, .int .i64 0]) (t := 110) ⟨_, rfl, rfl, fun _ => rfl, fun e w => by first | (go_simp; done) | (go_simp; rfl)⟩ (fun gS => ?_)
  simp only [Act.put, Fl.z1, Fl.z2, Fl.z3]
  refine Fl.store 0 #[.int .i64 0, .int .i64 0, .int .i64 0, .int .i64 0] rfl rfl rfl rfl _ _ _ rfl rfl rfl (by rfl) rfl (by kernel_rfl) (by simp [Value.oneCell']) ?_
  refine Fl.stopW (fun W hi => ?_)
  replace HI := Lib.hid hi
  clear hi
  by_cases hru : impl_store_grow.ruleB a0_0 a0_1 a0_2 = true
  · have HRU := Lib.hid hru
    have HGR := Lib.hid (impl_store_grow.gr a0_0 a0_1 a0_2)
    rw [hru] at HGR
    by_cases h40 : n ≤ 40
    · have H40 := Lib.hid h40
      have HA : Hid (impl_appends.allF a0_0 a0_1 a0_2 l1 = impl_appends.visF a0_0 a0_1 a0_2 l1 (0, 0, 0, 0)) := Lib.hid (by unfold impl_appends.allF; rw [if_pos hru, if_pos (HN.out ▸ h40)])
      clear hru h40
      go_upto_region 2 with (fail)
      refine Fl.startL [.take 0, .one 1, .take 2, .take 3, .take 4, .take 5, .take 6, .take 7] (by decide) HI.out ?_
      refine Fl.take (some 12) (v := .agg #[.int .i64 a0_0, .int .i64 a0_1, .int .i64 a0_2]) rfl rfl (Fl.ld 2 rfl (by rfl) _ _ rfl rfl Try.underlying60 rfl (by kernel_rfl)) ?_
      simp only [Act.put, Fl.z1, Fl.z2, Fl.z3]
      refine Fl.call (some 13) Try.func43 (by kernel_rfl) rfl #[.agg #[.int .i64 a0_0, .int .i64 a0_1, .int .i64 a0_2]] rfl rfl rfl (by rfl) rfl (fun E2 W2 hE2 hi => ?_)
      refine (HGR.out W2).mono ?_
      rintro e W' ⟨rfl, hb⟩
      refine Fl.keep (v := .bool true) hi hb ?_
      clear hi hb hE2
      simp only [Act.put, Fl.z1, Fl.z2, Fl.z3]
      refine Fl.take (some 14) (v := .bool false) rfl rfl (Or.inl ⟨by rfl, fun _ _ => by rfl⟩) ?_
      simp only [Act.put, Fl.z1, Fl.z2, Fl.z3]
      refine Fl.take (some 15) (v := .bool false) rfl rfl (Or.inl ⟨by rfl, fun _ _ => by rfl⟩) ?_
      simp only [Act.put, Fl.z1, Fl.z2, Fl.z3]
      refine Fl.take (some 16) (v := .slice A1 n c1) rfl rfl (Or.inl ⟨by rfl, fun _ _ => by rfl⟩) ?_
      simp only [Act.put, Fl.z1, Fl.z2, Fl.z3]
      refine Fl.take (some 17) (v := .int .i64 (n : Int)) rfl rfl (Or.inl ⟨by rfl, fun _ _ => by first | rfl | (go_simp; done) | (go_simp; rfl) | (go_simp; omega)⟩) ?_
      simp only [Act.put, Fl.z1, Fl.z2, Fl.z3]
      refine Fl.take (some 18) (v := .bool false) rfl rfl (Or.inl ⟨by rfl, fun _ _ => by have h_ := eq_false (show ¬ (n : Int) > 40 from by have := H40.out; omega); first | (go_simp; done) | (go_simp; rfl) | (go_simp; omega)⟩) ?_
      simp only [Act.put, Fl.z1, Fl.z2, Fl.z3]
      refine Fl.take (some 19) (v := .bool false) rfl rfl (Or.inl ⟨by rfl, fun _ _ => by rfl⟩) ?_
      simp only [Act.put, Fl.z1, Fl.z2, Fl.z3]
      refine Fl.stop (fun W hi => ?_)
      replace HI := Lib.hid hi
      clear hi
      go_upto_region 4 with (fail)
      refine Fl.startL [.take 0, .take 1, .take 2] (by decide) HI.out ?_
      refine Fl.take (some 21) (v := .slice A1 n c1) rfl rfl (Or.inl ⟨by rfl, fun _ _ => by rfl⟩) ?_
      simp only [Act.put, Fl.z1, Fl.z2, Fl.z3]
      refine Fl.take (some 22) (v := .int .i64 (n : Int)) rfl rfl (Or.inl ⟨by rfl, fun _ _ => by first | rfl | (go_simp; done) | (go_simp; rfl) | (go_simp; omega)⟩) ?_
      simp only [Act.put, Fl.z1, Fl.z2, Fl.z3]
      refine Fl.take (some 23) (v := .int .i64 0) rfl rfl (Or.inl ⟨by rfl, fun _ _ => by rfl⟩) ?_
      simp only [Act.put, Fl.z1, Fl.z2, Fl.z3]
      refine Fl.stop (fun W hi => ?_)
      replace HI := Lib.hid hi
      clear hi
      clear HGR
      go_wp2
      go_loopg [10, 23] n (fun gg _ s23 wr => ∃ (i : Nat) (acc : List (Int × Int × Int × Int)) (s : Int × Int × Int × Int) (v : Value), s23 = .int .i64 (i : Int) ∧ Hid (i ≤ n ∧ n - i ≤ gg ∧ acc.length = i) ∧ Hid (impl_store_grow.Ok s i) ∧ Hid (impl_appends.allF a0_0 a0_1 a0_2 l1 = (impl_appends.visF a0_0 a0_1 a0_2 (l1.drop i) s).map (fun ys => acc ++ ys) ∧ s = acc.getLastD (0, 0, 0, 0)) ∧ Hid (Lv.Inv w0 wr (Lv.boxF gS (impl_store_grow.cs s) 110 :: Lv.boxF gR #[.int .i64 0, .int .i64 0, .int .i64 0, .int .i64 0] 110 :: Lv.boxF gb #[.int .i64 a0_0, .int .i64 a0_1, .int .i64 a0_2] 60 :: (Vs acc v ++ E))))
      case atStart => exact ⟨0, [], (0, 0, 0, 0), v, rfl, Lib.hid (by simp), Lib.hid ⟨by decide, by decide, by decide, by decide, by decide, by decide, by decide⟩, Lib.hid ⟨by rw [HA.out, List.drop_zero]; cases impl_appends.visF a0_0 a0_1 a0_2 l1 (0, 0, 0, 0) <;> rfl, rfl⟩, HI⟩
      case round =>
        clear HI HA
        obtain ⟨i, acc, s, v, rfl, HK, HOK, HG, HI⟩ := hrel
        by_cases hlt : i < n
        · obtain ⟨b, o, hA, hrow⟩ := Lx.row_cells (d := Kd.int .i64) (f := fun x : Int => [.int .i64 x]) (fun _ _ _ h => h) (fun _ => by simp) HR1.out (by have := HN.out; omega)
          obtain ⟨x, hx⟩ : ∃ x, l1[i]? = some x := ⟨_, List.getElem?_eq_getElem (by have := HN.out; omega)⟩
          have HCx : Hid (w0.cell? ⟨b, o + i, none⟩ = some (.int .i64 x)) := Lib.hid (by have h := hrow i x hx 0 (.int .i64 x) rfl; have hs : (Kd.int .i64).sz = 1 := rfl; rw [hs, Nat.mul_one, Nat.add_zero] at h; exact h)
          obtain ⟨hxl, hxe⟩ := List.getElem?_eq_some_iff.1 hx
          have hg := HG.out.1
          rw [List.drop_eq_getElem_cons hxl, hxe, impl_appends.visF] at hg
          obtain ⟨q, hq⟩ : ∃ q, q = impl_store_grow.stepF a0_0 a0_1 a0_2 s x := ⟨_, rfl⟩
          rw [← hq] at hg
          have HQ := Lib.hid hq.symm
          have HO2 := HOK.out
          have HL := Lib.hid HG.out.2
          obtain ⟨bq, s2⟩ := q
          have HG2 := Lib.hid hg
          clear hg hq hx hxl hxe hrow HG HO2
          subst hA
          have k0 : (0 : Int) ≤ (i : Int) := by omega
          have k1 : (i : Int) < (n : Int) := by omega
          have k3 : ((n : Int)).toNat ≤ 1048576 := by have := H40.out; omega
          go_upto_region 6 with (fail)
          refine Fl.startL [.take 0, .take 1, .take 2] (by decide) HI.out ?_
          refine Fl.take (some 25) (v := .pointer (some ⟨b, o + i, none⟩)) rfl rfl (Or.inl ⟨by rfl, fun _ _ => by first | rfl | (go_simp; done) | (go_simp; rfl) | (go_simp; omega)⟩) ?_
          simp only [Act.put, Fl.z1, Fl.z2, Fl.z3]
          refine Fl.take (some 26) (v := .int .i64 x) rfl rfl (Fl.yieldsIf_load_cell (by rfl) _ _ rfl b (o + i) rfl (fun W1 hW1 => pw_cell_below hW1.bel HCx.out) Try.underlying3 rfl) ?_
          simp only [Act.put, Fl.z1, Fl.z2, Fl.z3]
          refine Fl.take (some 10) (v := .int .i64 x) rfl rfl (Or.inl ⟨by rfl, fun _ _ => by rfl⟩) ?_
          simp only [Act.put, Fl.z1, Fl.z2, Fl.z3]
          refine Fl.stop (fun W hi => ?_)
          replace HI := Lib.hid hi
          clear hi
          cases bq with
          | false =>
            go_upto_region 7 with (fail)
            refine Fl.startW [.one 0, .take 1, .one 2, .take 3] (by decide) HI.out ?_
            refine Fl.ldF (some 27) 2 rfl rfl rfl (by rfl) _ _ rfl rfl Try.underlying60 rfl (by kernel_rfl) ?_
            simp only [Act.put, Fl.z1, Fl.z2, Fl.z3]
            refine Fl.take (some 28) (v := .int .i64 x) rfl rfl (Or.inl ⟨by rfl, fun _ _ => by rfl⟩) ?_
            simp only [Act.put, Fl.z1, Fl.z2, Fl.z3]
            refine Fl.call (some 29) Try.func88 (by kernel_rfl) rfl #[.pointer (some ⟨gS, 0, none⟩), .agg #[.int .i64 a0_0, .int .i64 a0_1, .int .i64 a0_2], .int .i64 x] rfl rfl rfl (by rfl) rfl (fun E2 W hE2 hi => ?_)
            have hc_ := impl_store_grow.run a0_0 a0_1 a0_2 x s gS 0 _ W _ hi rfl HRU.out _ HOK.out (by have := HK.out; have := H40.out; omega)
            rw [HQ.out] at hc_
            refine hc_.mono ?_
            rintro e W' ⟨rfl, hi2⟩
            refine Fl.keepI (F := []) (v := .bool false) (F' := Lv.boxF gS (impl_store_grow.cs s2) 110 :: Lv.boxF gR #[.int .i64 0, .int .i64 0, .int .i64 0, .int .i64 0] 110 :: Lv.boxF gb #[.int .i64 a0_0, .int .i64 a0_1, .int .i64 a0_2] 60 :: (Vs acc v ++ E)) hi2 ?_
            clear hi hi2 hE2 hc_
            simp only [Act.put, Fl.z1, Fl.z2, Fl.z3]
            refine Fl.take (some 30) (v := .bool true) rfl rfl (Or.inl ⟨by rfl, fun _ _ => by rfl⟩) ?_
            simp only [Act.put, Fl.z1, Fl.z2, Fl.z3]
            refine Fl.stopW (fun W hi => ?_)
            replace HI := Lib.hid hi
            clear hi
            have HA : Hid (impl_appends.allF a0_0 a0_1 a0_2 l1 = none) := Lib.hid (by rw [HG2.out, if_neg (by simp)]; rfl)
            go_upto_region 8 with (fail)
            refine Fl.startW [.take 0, .one 1, .take 2] (by decide) HI.out ?_
            refine Fl.take (some 31) (v := .agg #[.int .i64 0, .int .i64 0, .int .i64 0, .int .i64 0]) rfl rfl (Or.inl ⟨by rfl, fun _ _ => by first | rfl | (go_simp; done) | (go_simp; rfl) | (go_simp; simp only [i64_w])⟩) ?_
            simp only [Act.put, Fl.z1, Fl.z2, Fl.z3]
            refine Fl.store 1 #[.int .i64 0, .int .i64 0, .int .i64 0, .int .i64 0] rfl rfl rfl rfl _ _ _ rfl rfl rfl (by rfl) rfl (by kernel_rfl) (by simp [Value.oneCell']) ?_
            refine Fl.take (some 7) (v := .bool false) rfl rfl (Or.inl ⟨by rfl, fun _ _ => by rfl⟩) ?_
            simp only [Act.put, Fl.z1, Fl.z2, Fl.z3]
            refine Fl.stopW (fun W hi => ?_)
            replace HI := Lib.hid hi
            clear hi
            go_wp2
            refine bodyPost_ret (v := .tuple #[.agg #[.int .i64 0, .int .i64 0, .int .i64 0, .int .i64 0], .bool false]) (results_list (rs := [.cell 6 110, .tmp 7]) rfl (by simp) (.cell _ _ _ (0, 0) _ rfl (HI.out.blk 1 rfl) Try.underlying110 rfl (by kernel_rfl) (.tmp .nil))) rfl ?_
            rw [HA.out]
            first | exact ⟨_, _, HI.out.tail.tail.tail, fun ys h => by cases h⟩ | exact ⟨rfl, _, _, HI.out.tail.tail.tail, fun ys h => by cases h⟩ | exact ⟨rfl, _, ⟨_, HI.out.tail.tail.tail⟩, fun ys h => by cases h⟩
          | true =>
            go_upto_region 7 with (fail)
            refine Fl.startW [.one 0, .take 1, .one 2, .take 3] (by decide) HI.out ?_
            refine Fl.ldF (some 27) 2 rfl rfl rfl (by rfl) _ _ rfl rfl Try.underlying60 rfl (by kernel_rfl) ?_
            simp only [Act.put, Fl.z1, Fl.z2, Fl.z3]
            refine Fl.take (some 28) (v := .int .i64 x) rfl rfl (Or.inl ⟨by rfl, fun _ _ => by rfl⟩) ?_
            simp only [Act.put, Fl.z1, Fl.z2, Fl.z3]
            refine Fl.call (some 29) Try.func88 (by kernel_rfl) rfl #[.pointer (some ⟨gS, 0, none⟩), .agg #[.int .i64 a0_0, .int .i64 a0_1, .int .i64 a0_2], .int .i64 x] rfl rfl rfl (by rfl) rfl (fun E2 W hE2 hi => ?_)
            have hc_ := impl_store_grow.run a0_0 a0_1 a0_2 x s gS 0 _ W _ hi rfl HRU.out _ HOK.out (by have := HK.out; have := H40.out; omega)
            rw [HQ.out] at hc_
            refine hc_.mono ?_
            rintro e W' ⟨rfl, hi2⟩
            refine Fl.keepI (F := []) (v := .bool true) (F' := Lv.boxF gS (impl_store_grow.cs s2) 110 :: Lv.boxF gR #[.int .i64 0, .int .i64 0, .int .i64 0, .int .i64 0] 110 :: Lv.boxF gb #[.int .i64 a0_0, .int .i64 a0_1, .int .i64 a0_2] 60 :: (Vs acc v ++ E)) hi2 ?_
            clear hi hi2 hE2 hc_
            simp only [Act.put, Fl.z1, Fl.z2, Fl.z3]
            refine Fl.take (some 30) (v := .bool false) rfl rfl (Or.inl ⟨by rfl, fun _ _ => by rfl⟩) ?_
            simp only [Act.put, Fl.z1, Fl.z2, Fl.z3]
            refine Fl.stopW (fun W hi => ?_)
            replace HI := Lib.hid hi
            clear hi
            have HO3 : Hid (impl_store_grow.Ok s2 ((i + 1 : Nat) : Int)) := Lib.hid (by have := impl_store_grow.ok_step (n := x) (num := a0_0) (den := a0_1) (add := a0_2) (by rw [HQ.out]) HOK.out; rw [HQ.out] at this; exact this)
            go_upto_region 9 with (fail)
            refine Fl.startW [.take 0, .one 1, .one 2] (by decide) HI.out ?_
            refine Fl.take (some 32) (v := .func (.func fid) #[] lb) rfl rfl (Or.inl ⟨by rfl, fun _ _ => by rfl⟩) ?_
            simp only [Act.put, Fl.z1, Fl.z2, Fl.z3]
            refine Fl.ldF (some 33) 0 rfl rfl rfl (by rfl) _ _ rfl rfl Try.underlying110 rfl (by kernel_rfl) ?_
            simp only [Act.put, Fl.z1, Fl.z2, Fl.z3]
            refine Fl.callL (some 34) lb EG.out #[.agg (impl_store_grow.cs s2)] rfl rfl rfl rfl (by rfl) rfl (fun E2 W hE2 hi => ?_)
            have hj : Lv.Inv w0 W (Vs acc v ++ ([Lv.boxF gS (impl_store_grow.cs s2) 110, Lv.boxF gR #[.int .i64 0, .int .i64 0, .int .i64 0, .int .i64 0] 110, Lv.boxF gb #[.int .i64 a0_0, .int .i64 a0_1, .int .i64 a0_2] 60] ++ (E ++ E2))) := Fl.inv_perm (Ps := [Lv.boxF gS (impl_store_grow.cs s2) 110, Lv.boxF gR #[.int .i64 0, .int .i64 0, .int .i64 0, .int .i64 0] 110, Lv.boxF gb #[.int .i64 a0_0, .int .i64 a0_1, .int .i64 a0_2] 60] ++ (Vs acc v ++ (E ++ E2))) (by rw [← List.append_assoc (Vs acc v)]; exact hi) (List.perm_append_comm_assoc _ _ _)
            refine (HV.out acc s2 v _ W (by have h := HO3.out; have := HK.out; have := H40.out; exact ⟨h.l0, h.lc, h.c1, h.k0, by have := h.k1; omega, h.m0, by have := h.m1; omega⟩) (by have := HK.out; have := H40.out; omega) hj).mono ?_
            rintro e W' ⟨rfl, v2, hi2⟩
            refine Fl.keepI (F := []) (v := .tuple #[]) (F' := Lv.boxF gS (impl_store_grow.cs s2) 110 :: Lv.boxF gR #[.int .i64 0, .int .i64 0, .int .i64 0, .int .i64 0] 110 :: Lv.boxF gb #[.int .i64 a0_0, .int .i64 a0_1, .int .i64 a0_2] 60 :: (Vs (acc ++ [s2]) v2 ++ E)) (by have := Fl.inv_perm hi2 (List.perm_append_comm_assoc _ _ _); rw [← List.append_assoc (Vs (acc ++ [s2]) v2)] at this; exact this) ?_
            clear hi hj hi2 hE2
            simp only [Act.put, Fl.z1, Fl.z2, Fl.z3]
            refine Fl.stopW (fun W hi => ?_)
            replace HI := Lib.hid hi
            clear hi
            go_wp2
            go_roundg (n - (i + 1))
            case measure => have := HK.out; omega
            case rel => exact ⟨i + 1, acc ++ [s2], s2, v2, by go_num, Lib.hid (by have := HK.out; simp; omega), HO3, Lib.hid ⟨by rw [HG2.out]; cases hvv : impl_appends.visF a0_0 a0_1 a0_2 (l1.drop (i + 1)) s2 <;> simp, by simp⟩, HI⟩
        · have hd : l1.drop i = [] := List.drop_eq_nil_of_le (by have := HN.out; omega)
          have HA : Hid (impl_appends.allF a0_0 a0_1 a0_2 l1 = some acc) := Lib.hid (by rw [HG.out.1, hd]; simp [impl_appends.visF])
          have HS : Hid (impl_appends.lastF (some acc) = s) := Lib.hid HG.out.2.symm
          clear hd HG
          go_upto_region 11 with (fail)
          refine Fl.startW [.one 0, .one 1, .take 2] (by decide) HI.out ?_
          refine Fl.ldF (some 36) 0 rfl rfl rfl (by rfl) _ _ rfl rfl Try.underlying110 rfl (by kernel_rfl) ?_
          simp only [Act.put, Fl.z1, Fl.z2, Fl.z3]
          refine Fl.store 1 (impl_store_grow.cs s) rfl rfl rfl rfl _ _ _ rfl rfl rfl (by rfl) rfl (by kernel_rfl) (by simp [Value.oneCell']) ?_
          refine Fl.take (some 7) (v := .bool true) rfl rfl (Or.inl ⟨by rfl, fun _ _ => by rfl⟩) ?_
          simp only [Act.put, Fl.z1, Fl.z2, Fl.z3]
          refine Fl.stopW (fun W hi => ?_)
          replace HI := Lib.hid hi
          clear hi
          go_wp2
          refine bodyPost_ret (v := .tuple #[.agg (impl_store_grow.cs s), .bool true]) (results_list (rs := [.cell 6 110, .tmp 7]) rfl (by simp) (.cell _ _ _ (0, 0) _ rfl (HI.out.blk 1 rfl) Try.underlying110 rfl (by kernel_rfl) (.tmp .nil))) rfl ?_
          rw [HA.out, HS.out]
          first | exact ⟨rfl, _, ⟨_, HI.out.tail.tail.tail⟩, fun ys h => Option.some.inj h⟩ | exact ⟨_, _, HI.out.tail.tail.tail, fun ys h => Option.some.inj h⟩ | exact ⟨rfl, _, _, HI.out.tail.tail.tail, fun ys h => Option.some.inj h⟩
    · have H40 := Lib.hid h40
      have HA : Hid (impl_appends.allF a0_0 a0_1 a0_2 l1 = none) := Lib.hid (by unfold impl_appends.allF; rw [if_pos hru, if_neg (HN.out ▸ h40)])
      clear hru h40
      go_upto_region 2 with (fail)
      refine Fl.startL [.take 0, .one 1, .take 2, .take 3, .take 4, .take 5, .take 6, .take 7] (by decide) HI.out ?_
      refine Fl.take (some 12) (v := .agg #[.int .i64 a0_0, .int .i64 a0_1, .int .i64 a0_2]) rfl rfl (Fl.ld 2 rfl (by rfl) _ _ rfl rfl Try.underlying60 rfl (by kernel_rfl)) ?_
      simp only [Act.put, Fl.z1, Fl.z2, Fl.z3]
      refine Fl.call (some 13) Try.func43 (by kernel_rfl) rfl #[.agg #[.int .i64 a0_0, .int .i64 a0_1, .int .i64 a0_2]] rfl rfl rfl (by rfl) rfl (fun E2 W2 hE2 hi => ?_)
      refine (HGR.out W2).mono ?_
      rintro e W' ⟨rfl, hb⟩
      refine Fl.keep (v := .bool true) hi hb ?_
      clear hi hb hE2
      simp only [Act.put, Fl.z1, Fl.z2, Fl.z3]
      refine Fl.take (some 14) (v := .bool false) rfl rfl (Or.inl ⟨by rfl, fun _ _ => by rfl⟩) ?_
      simp only [Act.put, Fl.z1, Fl.z2, Fl.z3]
      refine Fl.take (some 15) (v := .bool false) rfl rfl (Or.inl ⟨by rfl, fun _ _ => by rfl⟩) ?_
      simp only [Act.put, Fl.z1, Fl.z2, Fl.z3]
      refine Fl.take (some 16) (v := .slice A1 n c1) rfl rfl (Or.inl ⟨by rfl, fun _ _ => by rfl⟩) ?_
      simp only [Act.put, Fl.z1, Fl.z2, Fl.z3]
      refine Fl.take (some 17) (v := .int .i64 (n : Int)) rfl rfl (Or.inl ⟨by rfl, fun _ _ => by first | rfl | (go_simp; done) | (go_simp; rfl) | (go_simp; omega)⟩) ?_
      simp only [Act.put, Fl.z1, Fl.z2, Fl.z3]
      refine Fl.take (some 18) (v := .bool true) rfl rfl (Or.inl ⟨by rfl, fun _ _ => by have h_ := eq_true (show (n : Int) > 40 from by have := H40.out; omega); first | (go_simp; done) | (go_simp; rfl) | (go_simp; omega)⟩) ?_
      simp only [Act.put, Fl.z1, Fl.z2, Fl.z3]
      refine Fl.take (some 19) (v := .bool true) rfl rfl (Or.inl ⟨by rfl, fun _ _ => by rfl⟩) ?_
      simp only [Act.put, Fl.z1, Fl.z2, Fl.z3]
      refine Fl.stop (fun W hi => ?_)
      replace HI := Lib.hid hi
      clear hi
      go_upto_region 3 with (fail)
      refine Fl.startW [.take 0, .one 1, .take 2] (by decide) HI.out ?_
      refine Fl.take (some 20) (v := .agg #[.int .i64 0, .int .i64 0, .int .i64 0, .int .i64 0]) rfl rfl (Or.inl ⟨by rfl, fun _ _ => by first | rfl | (go_simp; done) | (go_simp; rfl) | (go_simp; simp only [i64_w])⟩) ?_
      simp only [Act.put, Fl.z1, Fl.z2, Fl.z3]
      refine Fl.store 1 #[.int .i64 0, .int .i64 0, .int .i64 0, .int .i64 0] rfl rfl rfl rfl _ _ _ rfl rfl rfl (by rfl) rfl (by kernel_rfl) (by simp [Value.oneCell']) ?_
      refine Fl.take (some 7) (v := .bool false) rfl rfl (Or.inl ⟨by rfl, fun _ _ => by rfl⟩) ?_
      simp only [Act.put, Fl.z1, Fl.z2, Fl.z3]
      refine Fl.stopW (fun W hi => ?_)
      replace HI := Lib.hid hi
      clear hi
      go_wp2
      refine bodyPost_ret (v := .tuple #[.agg #[.int .i64 0, .int .i64 0, .int .i64 0, .int .i64 0], .bool false]) (results_list (rs := [.cell 6 110, .tmp 7]) rfl (by simp) (.cell _ _ _ (0, 0) _ rfl (HI.out.blk 1 rfl) Try.underlying110 rfl (by kernel_rfl) (.tmp .nil))) rfl ?_
      rw [HA.out]
      first | exact ⟨_, _, HI.out.tail.tail.tail, fun ys h => by cases h⟩ | exact ⟨rfl, _, _, HI.out.tail.tail.tail, fun ys h => by cases h⟩ | exact ⟨rfl, _, ⟨_, HI.out.tail.tail.tail⟩, fun ys h => by cases h⟩
  · have HA : Hid (impl_appends.allF a0_0 a0_1 a0_2 l1 = none) := Lib.hid (by unfold impl_appends.allF; rw [if_neg hru])
    have HGR := Lib.hid (impl_store_grow.gr a0_0 a0_1 a0_2)
    rw [show impl_store_grow.ruleB a0_0 a0_1 a0_2 = false from Bool.eq_false_iff.mpr hru] at HGR
    clear hru
    go_upto_region 2 with (fail)
    refine Fl.startL [.take 0, .one 1, .take 2, .take 3, .take 4, .take 5, .take 6, .take 7] (by decide) HI.out ?_
    refine Fl.take (some 12) (v := .agg #[.int .i64 a0_0, .int .i64 a0_1, .int .i64 a0_2]) rfl rfl (Fl.ld 2 rfl (by rfl) _ _ rfl rfl Try.underlying60 rfl (by kernel_rfl)) ?_
    simp only [Act.put, Fl.z1, Fl.z2, Fl.z3]
    refine Fl.call (some 13) Try.func43 (by kernel_rfl) rfl #[.agg #[.int .i64 a0_0, .int .i64 a0_1, .int .i64 a0_2]] rfl rfl rfl (by rfl) rfl (fun E2 W2 hE2 hi => ?_)
    refine (HGR.out W2).mono ?_
    rintro e W' ⟨rfl, hb⟩
    refine Fl.keep (v := .bool false) hi hb ?_
    clear hi hb hE2
    simp only [Act.put, Fl.z1, Fl.z2, Fl.z3]
    refine Fl.take (some 14) (v := .bool true) rfl rfl (Or.inl ⟨by rfl, fun _ _ => by rfl⟩) ?_
    simp only [Act.put, Fl.z1, Fl.z2, Fl.z3]
    refine Fl.take (some 15) (v := .bool true) rfl rfl (Or.inl ⟨by rfl, fun _ _ => by rfl⟩) ?_
    simp only [Act.put, Fl.z1, Fl.z2, Fl.z3]
    refine Fl.take (some 16) (v := undef) rfl rfl (Or.inr ⟨by rfl, rfl⟩) ?_
    simp only [Act.put, Fl.z1, Fl.z2, Fl.z3]
    refine Fl.take (some 17) (v := undef) rfl rfl (Or.inr ⟨by rfl, rfl⟩) ?_
    simp only [Act.put, Fl.z1, Fl.z2, Fl.z3]
    refine Fl.take (some 18) (v := undef) rfl rfl (Or.inr ⟨by rfl, rfl⟩) ?_
    simp only [Act.put, Fl.z1, Fl.z2, Fl.z3]
    refine Fl.take (some 19) (v := .bool true) rfl rfl (Or.inl ⟨by rfl, fun _ _ => by rfl⟩) ?_
    simp only [Act.put, Fl.z1, Fl.z2, Fl.z3]
    refine Fl.stop (fun W hi => ?_)
    replace HI := Lib.hid hi
    clear hi
    go_upto_region 3 with (fail)
    refine Fl.startW [.take 0, .one 1, .take 2] (by decide) HI.out ?_
    refine Fl.take (some 20) (v := .agg #[.int .i64 0, .int .i64 0, .int .i64 0, .int .i64 0]) rfl rfl (Or.inl ⟨by rfl, fun _ _ => by first | rfl | (go_simp; done) | (go_simp; rfl) | (go_simp; simp only [i64_w])⟩) ?_
    simp only [Act.put, Fl.z1, Fl.z2, Fl.z3]
    refine Fl.store 1 #[.int .i64 0, .int .i64 0, .int .i64 0, .int .i64 0] rfl rfl rfl rfl _ _ _ rfl rfl rfl (by rfl) rfl (by kernel_rfl) (by simp [Value.oneCell']) ?_
    refine Fl.take (some 7) (v := .bool false) rfl rfl (Or.inl ⟨by rfl, fun _ _ => by rfl⟩) ?_
    simp only [Act.put, Fl.z1, Fl.z2, Fl.z3]
    refine Fl.stopW (fun W hi => ?_)
    replace HI := Lib.hid hi
    clear hi
    go_wp2
    refine bodyPost_ret (v := .tuple #[.agg #[.int .i64 0, .int .i64 0, .int .i64 0, .int .i64 0], .bool false]) (results_list (rs := [.cell 6 110, .tmp 7]) rfl (by simp) (.cell _ _ _ (0, 0) _ rfl (HI.out.blk 1 rfl) Try.underlying110 rfl (by kernel_rfl) (.tmp .nil))) rfl ?_
    rw [HA.out]
    first | exact ⟨_, _, HI.out.tail.tail.tail, fun ys h => by cases h⟩ | exact ⟨rfl, _, _, HI.out.tail.tail.tail, fun ys h => by cases h⟩ | exact ⟨rfl, _, ⟨_, HI.out.tail.tail.tail⟩, fun ys h => by cases h⟩

/-! ### impl_CapsOf: function 27 (by hand) -/
def impl_CapsOf.f (a0_0 a0_1 a0_2 : Int) (l1 : List Int) : Option (List Int × Bool) := some (match impl_appends.allF a0_0 a0_1 a0_2 l1 with | some ys => (ys.map (fun s => s.2.1), true) | none => ([], false))
set_option maxHeartbeats 4000000 in
set_option maxRecDepth 100000 in
theorem impl_CapsOf.clos (go : Nat) (acc : List (Int × Int × Int × Int)) (s : Int × Int × Int × Int) (v : Value) (w0 W : World) (E : List Lv.Fact) (hl : acc.length ≤ 40) (hI : Lv.Inv w0 W (Lv.boxF go #[v] 27 :: Lv.rowF (Kd.int .i64) 3 w0.heap.size (v) (acc.map (fun s : Int × Int × Int × Int => s.2.1)) :: E)) :
    Calls Try.prog 77 #[.agg (impl_store_grow.cs s), .pointer (some ⟨go, 0, none⟩)] W fun e w' => e = .returned (.tuple #[]) ∧ ∃ v', Lv.Inv w0 w' (Lv.boxF go #[v'] 27 :: Lv.rowF (Kd.int .i64) 3 w0.heap.size (v') ((acc ++ [s]).map (fun s => s.2.1)) :: E) := by
  have HL := Lib.hid hl
  have he : (acc ++ [s]).map (fun s => s.2.1) = acc.map (fun s => s.2.1) ++ [s.2.1] := by simp
  have HE := Lib.hid he
  have hln : (acc.map (fun s => s.2.1)).length ≤ 40 := by rw [List.length_map]; exact hl
  generalize (acc ++ [s]).map (fun s => s.2.1) = ys at he HE ⊢
  generalize acc.map (fun s => s.2.1) = xs at he HE hI hln ⊢
  obtain ⟨s1, s2, s3, s4⟩ := s
  dsimp only at he HE
  have HLN := Lib.hid hln
  obtain ⟨gs, hgs⟩ : ∃ g, g = W.heap.size := ⟨_, rfl⟩
  obtain ⟨W0, hW⟩ : ∃ W1, W1 = W.alloc (.cells #[.int .i64 s1, .int .i64 s2, .int .i64 s3, .int .i64 s4] 110) := ⟨_, rfl⟩
  have HI : Hid (Lv.Inv w0 W0 (Lv.rowF (Kd.int .i64) 3 w0.heap.size (v) (xs) :: Lv.boxF gs #[.int .i64 s1, .int .i64 s2, .int .i64 s3, .int .i64 s4] 110 :: Lv.boxF go #[v] 27 :: E)) := by
    subst hW hgs
    exact Lib.hid ((hI.box #[.int .i64 s1, .int .i64 s2, .int .i64 s3, .int .i64 s4] 110).front 2 rfl)
  clear he hl hI hln
  go_enter Try.func77, Try.ntmps77
  go_upto_region 1 with (fail)
  rw [← hW, ← hgs]
  clear hW hgs
  refine Fl.startW [.one 0, .take 1, .one 2, .one 3, .one 4, .one 5] (by decide) HI.out ?_
  refine Fl.ldXc (some 3) 2 0 rfl rfl rfl (by rfl) _ _ rfl rfl rfl Try.underlying27 rfl ?_
  simp only [Act.put, Fl.z1, Fl.z2, Fl.z3]
  refine Fl.take (some 4) (v := .pointer (some ⟨gs, 1, none⟩)) rfl rfl (Or.inl ⟨by rfl, fun _ _ => by first | rfl | (go_simp; done) | (go_simp; rfl) | (go_simp; omega)⟩) ?_
  simp only [Act.put, Fl.z1, Fl.z2, Fl.z3]
  refine Fl.ldXc (some 5) 1 1 rfl rfl rfl (by rfl) _ _ rfl rfl rfl Try.underlying3 rfl ?_
  simp only [Act.put, Fl.z1, Fl.z2, Fl.z3]
  refine Fl.lit (N := 6) (cs := #[.int .i64 s2]) (t := 3) (n := 1) rfl rfl (by rfl) (fun w => by first | (go_simp; done) | (go_simp; rfl)) (fun b1 => ?_)
  simp only [Act.put, Fl.z1, Fl.z2, Fl.z3]
  refine Fl.app1 (N := 7) rfl rfl (by rfl) rfl Try.underlying27 (by kernel_rfl) rfl rfl (by have := HLN.out; omega) (fun A2 c2 hv => ?_) (fun A2 c2 => ?_)
  · simp only [Act.put, Fl.z1, Fl.z2, Fl.z3]
    refine Fl.storeC 3 0 (.slice A2 (xs.length + 1) c2) rfl rfl rfl rfl _ _ _ rfl rfl rfl (by rfl) (by simp) (by kernel_rfl) rfl rfl ?_
    refine Fl.stopW (fun W hi => ?_)
    replace HI := Lib.hid hi
    clear hi
    obtain rfl := HE.out
    go_wp2
    first | (exact bodyPost_ret (results_none rfl _ _ _) rfl ⟨rfl, _, (Lv.Inv.front (Lv.Inv.omit (Lv.Inv.omit HI.out 1 rfl) 1 rfl) 1 rfl)⟩) | exact ⟨rfl, _, results_none rfl _ _ _, rfl, _, (Lv.Inv.front (Lv.Inv.omit (Lv.Inv.omit HI.out 1 rfl) 1 rfl) 1 rfl)⟩
  · simp only [Act.put, Fl.z1, Fl.z2, Fl.z3]
    refine Fl.storeC 4 0 (.slice A2 (xs.length + 1) c2) rfl rfl rfl rfl _ _ _ rfl rfl rfl (by rfl) (by simp) (by kernel_rfl) rfl rfl ?_
    refine Fl.stopW (fun W hi => ?_)
    replace HI := Lib.hid hi
    clear hi
    obtain rfl := HE.out
    go_wp2
    first | (exact bodyPost_ret (results_none rfl _ _ _) rfl ⟨rfl, _, (Lv.Inv.front (Lv.Inv.omit (Lv.Inv.omit (Lv.Inv.omit HI.out 1 rfl) 1 rfl) 1 rfl) 1 rfl)⟩) | exact ⟨rfl, _, results_none rfl _ _ _, rfl, _, (Lv.Inv.front (Lv.Inv.omit (Lv.Inv.omit (Lv.Inv.omit HI.out 1 rfl) 1 rfl) 1 rfl) 1 rfl)⟩
set_option maxHeartbeats 4000000 in
set_option maxRecDepth 100000 in
theorem impl_CapsOf.calls (a0_0 a0_1 a0_2 : Int) (A1 : Option Addr) (c1 : Nat) (l1 : List Int) (r1 : List Int) (r2 : Bool) (w : World) (hr1 : Kd.C (Kd.int .i64) w A1 l1.length l1) (hc1 : l1.length ≤ c1) (h : impl_CapsOf.f a0_0 a0_1 a0_2 l1 = some (r1, r2)) :
    Calls Try.prog 27 #[.agg #[.int .i64 a0_0, .int .i64 a0_1, .int .i64 a0_2], .slice A1 l1.length c1] w fun e w' => ∃ v0_ : Value, e = .returned (.tuple #[v0_, .bool r2]) ∧ Kd.R (Kd.int .i64) 3 w' w.heap.size (fun _ => True) v0_ r1 ∧ Below w.heap.size w w' := by
  have HR1 := Lib.hid hr1
  obtain ⟨n, hn⟩ : ∃ n, n = l1.length := ⟨_, rfl⟩
  have HN := Lib.hid hn
  obtain ⟨sl, hsl⟩ : ∃ s, s = impl_appends.lastF (impl_appends.allF a0_0 a0_1 a0_2 l1) := ⟨_, rfl⟩
  obtain ⟨q, hq⟩ : ∃ q, q = (impl_appends.allF a0_0 a0_1 a0_2 l1).isSome := ⟨_, rfl⟩
  have HSL := Lib.hid hsl
  have HQQ := Lib.hid hq
  have HH := Lib.hid h
  rw [← hn]
  clear h hsl hq hr1 hc1 hn
  have EG := Lib.hid (show ∀ args w, (callFunc 77 args).run Try.prog w = .ok (.enter 77 args) w from Opn.entered Try.func77 (by kernel_rfl) rfl)
  obtain ⟨gb, hgb⟩ : ∃ g, g = w.heap.size := ⟨_, rfl⟩
  obtain ⟨W0, hW⟩ : ∃ W, W = w.alloc (.cells #[.int .i64 a0_0, .int .i64 a0_1, .int .i64 a0_2] 60) := ⟨_, rfl⟩
  have HI : Hid (Lv.Inv w W0 [Lv.boxF gb #[.int .i64 a0_0, .int .i64 a0_1, .int .i64 a0_2] 60]) := by
    subst hW hgb
    exact Lib.hid ((Lv.Inv.refl w).box #[.int .i64 a0_0, .int .i64 a0_1, .int .i64 a0_2] 60)
  go_enter Try.func27, Try.ntmps27
  go_upto_region 1 with (fail)
  rw [← hW, ← hgb]
  clear hW hgb
  refine Fl.startW [.one 0, .one 1, .one 2] (by decide) HI.out ?_
  refine Fl.lit (N := 9) (cs := #[]) (t := 3) (n := 0) rfl rfl (by rfl) (fun w => by first | (go_simp; done) | (go_simp; rfl)) (fun gr => ?_)
  simp only [Act.put, Fl.z1, Fl.z2, Fl.z3]
  refine Fl.var (N := 6) (cs := #[.slice none 0 0]) (t := 27) ⟨_, rfl, rfl, fun _ => rfl, fun e w => by first | (go_simp; done) | (go_simp; rfl)⟩ (fun go => ?_)
  simp only [Act.put, Fl.z1, Fl.z2, Fl.z3]
  refine Fl.storeC 0 0 (.slice (some ⟨gr, 0, none⟩) 0 0) rfl rfl rfl rfl _ _ _ rfl rfl rfl (by rfl) (by simp) (by kernel_rfl) rfl rfl ?_
  refine Fl.stopW (fun W hi => ?_)
  replace HI := Lib.hid hi
  clear hi
  replace HI := Lib.hid ((Lx.int_re (xs := []) (n := 0) (cap := 0) (HI.out.front 1 rfl) rfl (Nat.le_refl _) (Nat.zero_le _) rfl (fun i x hx => by simp at hx)).front 1 rfl)
  go_upto_region 2 with (fail)
  refine Fl.startW [.one 0, .take 1, .take 2, .one 3, .take 4, .take 5, .take 6, .one 7, .one 8, .take 9] (by decide) HI.out ?_
  refine Fl.ldF (some 11) 2 rfl rfl rfl (by rfl) _ _ rfl rfl Try.underlying60 rfl (by kernel_rfl) ?_
  simp only [Act.put, Fl.z1, Fl.z2, Fl.z3]
  refine Fl.take (some 12) (v := .slice A1 n c1) rfl rfl (Or.inl ⟨by rfl, fun _ _ => by rfl⟩) ?_
  simp only [Act.put, Fl.z1, Fl.z2, Fl.z3]
  refine Fl.take (some 13) (v := .func (.func 77) #[] #[.pointer (some ⟨go, 0, none⟩)]) rfl rfl (Or.inl ⟨by rfl, fun _ _ => by first | rfl | (go_simp; done) | (go_simp; rfl) | (go_simp; simp only [i64_w])⟩) ?_
  simp only [Act.put, Fl.z1, Fl.z2, Fl.z3]
  refine Fl.call (some 14) Try.func76 (by kernel_rfl) rfl #[.agg #[.int .i64 a0_0, .int .i64 a0_1, .int .i64 a0_2], .slice A1 n c1, .func (.func 77) #[] #[.pointer (some ⟨go, 0, none⟩)]] rfl rfl rfl (by rfl) rfl (fun E2 W2 hE2 hi => ?_)
  have hc_ := impl_appends.run a0_0 a0_1 a0_2 A1 c1 l1 77 #[.pointer (some ⟨go, 0, none⟩)] w W2 (fun acc v => [Lv.boxF go #[v] 27, Lv.rowF (Kd.int .i64) 3 w.heap.size (v) (acc.map (fun s : Int × Int × Int × Int => s.2.1))]) (Lv.boxF gb #[.int .i64 a0_0, .int .i64 a0_1, .int .i64 a0_2] 60 :: E2) (.slice (some ⟨gr, 0, none⟩) 0 0) EG.out (fun acc s v E W hs hl hj => impl_CapsOf.clos go acc s v w W E hl hj) hi HR1.out
  rw [← HN.out, ← HSL.out, ← HQQ.out] at hc_
  refine hc_.mono ?_
  rintro e W' ⟨rfl, acc, v2, hi2, hac⟩
  have HAC := Lib.hid hac
  refine Fl.keepI (F := []) (v := .tuple #[.agg (impl_store_grow.cs sl), .bool q]) (F' := [Lv.boxF go #[v2] 27, Lv.rowF (Kd.int .i64) 3 w.heap.size (v2) (acc.map (fun s : Int × Int × Int × Int => s.2.1)), Lv.boxF gb #[.int .i64 a0_0, .int .i64 a0_1, .int .i64 a0_2] 60]) hi2 ?_
  clear hi hi2 hE2 hc_ hac
  simp only [Act.put, Fl.z1, Fl.z2, Fl.z3]
  refine Fl.take (some 10) (v := .tuple #[.agg (impl_store_grow.cs sl), .bool q]) rfl rfl (Or.inl ⟨by rfl, fun _ _ => by rfl⟩) ?_
  simp only [Act.put, Fl.z1, Fl.z2, Fl.z3]
  refine Fl.take (some 15) (v := .agg (impl_store_grow.cs sl)) rfl rfl (Or.inl ⟨by rfl, fun _ _ => by rfl⟩) ?_
  simp only [Act.put, Fl.z1, Fl.z2, Fl.z3]
  refine Fl.take (some 16) (v := .bool q) rfl rfl (Or.inl ⟨by rfl, fun _ _ => by rfl⟩) ?_
  simp only [Act.put, Fl.z1, Fl.z2, Fl.z3]
  refine Fl.var (N := 7) (cs := #[.int .i64 0, .int .i64 0, .int .i64 0, .int .i64 0]) (t := 110) ⟨_, rfl, rfl, fun _ => rfl, fun e w => by first | (go_simp; done) | (go_simp; rfl)⟩ (fun gs => ?_)
  simp only [Act.put, Fl.z1, Fl.z2, Fl.z3]
  refine Fl.store 0 (impl_store_grow.cs sl) rfl rfl rfl rfl _ _ _ rfl rfl rfl (by rfl) rfl (by kernel_rfl) (by simp [Value.oneCell']) ?_
  refine Fl.take (some 8) (v := .bool q) rfl rfl (Or.inl ⟨by rfl, fun _ _ => by rfl⟩) ?_
  simp only [Act.put, Fl.z1, Fl.z2, Fl.z3]
  refine Fl.stopW (fun W hi => ?_)
  replace HI := Lib.hid hi
  clear hi
  cases q with
  | false =>
    have hn2 : impl_appends.allF a0_0 a0_1 a0_2 l1 = none := by cases h2 : impl_appends.allF a0_0 a0_1 a0_2 l1 with | none => rfl | some ys => have h3 := HQQ.out; rw [h2] at h3; cases h3
    have h := HH.out
    unfold impl_CapsOf.f at h
    rw [hn2] at h
    obtain ⟨rfl, rfl⟩ := Prod.mk.inj (Option.some.inj h)
    clear h HH hn2
    go_upto_region 3 with (fail)
    refine Fl.startL [.take 0, .take 1] (by decide) HI.out ?_
    refine Fl.take (some 17) (v := .bool false) rfl rfl (Or.inl ⟨by rfl, fun _ _ => by rfl⟩) ?_
    simp only [Act.put, Fl.z1, Fl.z2, Fl.z3]
    refine Fl.take (some 18) (v := .bool true) rfl rfl (Or.inl ⟨by rfl, fun _ _ => by rfl⟩) ?_
    simp only [Act.put, Fl.z1, Fl.z2, Fl.z3]
    refine Fl.stop (fun W hi => ?_)
    replace HI := Lib.hid hi
    clear hi
    go_wp2
    go_ret2
    exact ⟨_, rfl, Kd.R_nil _ _ _ _ _, HI.out.bel⟩
  | true =>
    obtain ⟨ys, hys⟩ : ∃ ys, impl_appends.allF a0_0 a0_1 a0_2 l1 = some ys := by cases h2 : impl_appends.allF a0_0 a0_1 a0_2 l1 with | some ys => exact ⟨ys, rfl⟩ | none => have h3 := HQQ.out; rw [h2] at h3; cases h3
    obtain rfl := HAC.out ys hys
    have h := HH.out
    unfold impl_CapsOf.f at h
    rw [hys] at h
    obtain ⟨rfl, rfl⟩ := Prod.mk.inj (Option.some.inj h)
    clear h HH hys HAC
    go_upto_region 3 with (fail)
    refine Fl.startL [.take 0, .take 1] (by decide) HI.out ?_
    refine Fl.take (some 17) (v := .bool true) rfl rfl (Or.inl ⟨by rfl, fun _ _ => by rfl⟩) ?_
    simp only [Act.put, Fl.z1, Fl.z2, Fl.z3]
    refine Fl.take (some 18) (v := .bool false) rfl rfl (Or.inl ⟨by rfl, fun _ _ => by rfl⟩) ?_
    simp only [Act.put, Fl.z1, Fl.z2, Fl.z3]
    refine Fl.stop (fun W hi => ?_)
    replace HI := Lib.hid hi
    clear hi
    go_upto_region 5 with (fail)
    refine Fl.startL [.take 0, .take 1, .take 2] (by decide) HI.out ?_
    refine Fl.take (some 19) (v := v2) rfl rfl (Fl.ldc 1 0 rfl (by rfl) _ _ rfl rfl rfl Try.underlying27 rfl) ?_
    simp only [Act.put, Fl.z1, Fl.z2, Fl.z3]
    refine Fl.take (some 4) (v := v2) rfl rfl (Or.inl ⟨by rfl, fun _ _ => by rfl⟩) ?_
    simp only [Act.put, Fl.z1, Fl.z2, Fl.z3]
    refine Fl.take (some 5) (v := .bool true) rfl rfl (Or.inl ⟨by rfl, fun _ _ => by rfl⟩) ?_
    simp only [Act.put, Fl.z1, Fl.z2, Fl.z3]
    refine Fl.stop (fun W hi => ?_)
    replace HI := Lib.hid hi
    clear hi
    go_wp2
    go_ret2
    obtain ⟨S, _, hR⟩ := HI.out.get 2 rfl
    exact ⟨_, rfl, Kd.R_mono hR (fun _ _ => trivial), HI.out.bel⟩

open Go.Proofs.Ytkifenbcepicjab.Cp
/-! ### spec_l1In: function 92 -/
def spec_l1In.f (a0 : Int) (a1 : Int) (a2 : Int) : Option (Bool) := if a0 ≥ a1 then (some (decide (a0 ≤ a2))) else (some false)
set_option maxHeartbeats 8000000 in
set_option maxRecDepth 100000 in
theorem spec_l1In.calls (a0 : Int) (a1 : Int) (a2 : Int) (r : Bool) (w : World) (h : spec_l1In.f a0 a1 a2 = some r) :
  Calls Try.prog 92 #[.int .i64 a0, .int .i64 a1, .int .i64 a2] w fun e w' => e = .returned (.bool r) ∧ Drawn0 w w' := by
 have H : (if a0 ≥ a1 then (some (decide (a0 ≤ a2))) else (some false)) = some r := h
 clear h
 by_cases c4 : a0 ≥ a1
 ·rw [if_pos c4] at H
  have c4b0 : decide (a1 ≤ a0) = true := decide_eq_true c4
  clear c4
  obtain rfl := Option.some.inj H
  go_enter Try.func92, Try.ntmps92
  go_wp2
  go_ret
  exact ⟨zfs, by repeat (first | exact Drawn0.refl _ | apply Drawn0.step)⟩
 ·rw [if_neg c4] at H
  have c4b0 : decide (a1 ≤ a0) = false := decide_eq_false c4
  clear c4
  obtain rfl := Option.some.inj H
  go_enter Try.func92, Try.ntmps92
  go_wp2
  go_ret
  exact ⟨zfs, by repeat (first | exact Drawn0.refl _ | apply Drawn0.step)⟩

open Go.Proofs.Ytkifenbcepicjab.Cp
/-! ### spec_l4Rule: function 85 -/
def spec_l4Rule.f (a0_0 : Int) (a0_1 : Int) (a0_2 : Int) : Option (Bool) := (spec_l1In.f a0_1 1 8).bind fun t183 => (if t183 = true then ((spec_l1In.f a0_0 a0_1 8).bind fun t184 => (if t184 = true then ((spec_l1In.f a0_2 0 64).bind fun t185 => (some t185)) else (some false))) else (some false))
set_option maxHeartbeats 8000000 in
set_option maxRecDepth 100000 in
theorem spec_l4Rule.calls (a0_0 : Int) (a0_1 : Int) (a0_2 : Int) (r : Bool) (w : World) (h : spec_l4Rule.f a0_0 a0_1 a0_2 = some r) :
  Calls Try.prog 85 #[.agg #[.int .i64 a0_0, .int .i64 a0_1, .int .i64 a0_2]] w fun e w' => e = .returned (.bool r) ∧ Below w.heap.size w w' := by
 have hu60 := Try.underlying60
 have HB := Aside0.mk (Below.refl w.heap.size w)
 have H : ((spec_l1In.f a0_1 1 8).bind fun t183 => (if t183 = true then ((spec_l1In.f a0_0 a0_1 8).bind fun t184 => (if t184 = true then ((spec_l1In.f a0_2 0 64).bind fun t185 => (some t185)) else (some false))) else (some false))) = some r := h
 clear h
 replace H := Option.bind_eq_some_iff.mp H
 obtain ⟨t183, A20, H⟩ := H
 replace H : (if t183 = true then ((spec_l1In.f a0_0 a0_1 8).bind fun t184 => (if t184 = true then ((spec_l1In.f a0_2 0 64).bind fun t185 => (some t185)) else (some false))) else (some false)) = some r := H
 have A2 := Aside0.mk A20
 clear A20
 by_cases c3 : t183 = true
 ·subst c3
  have H1 : ((spec_l1In.f a0_0 a0_1 8).bind fun t184 => (if t184 = true then ((spec_l1In.f a0_2 0 64).bind fun t185 => (some t185)) else (some false))) = some r := by rw [if_pos rfl] at H; exact H
  clear H
  have H := H1
  clear H1
  replace H := Option.bind_eq_some_iff.mp H
  obtain ⟨t184, A40, H⟩ := H
  replace H : (if t184 = true then ((spec_l1In.f a0_2 0 64).bind fun t185 => (some t185)) else (some false)) = some r := H
  have A4 := Aside0.mk A40
  clear A40
  by_cases c5 : t184 = true
  ·subst c5
   have H1 : ((spec_l1In.f a0_2 0 64).bind fun t185 => (some t185)) = some r := by rw [if_pos rfl] at H; exact H
   clear H
   have H := H1
   clear H1
   replace H := Option.bind_eq_some_iff.mp H
   obtain ⟨t185, A60, H⟩ := H
   replace H : (some t185) = some r := H
   have A6 := Aside0.mk A60
   clear A60
   obtain rfl := Option.some.inj H
   go_enter Try.func85, Try.ntmps85
   go_wp2_with (first | ((with_reducible refine gate_dst (N := 1) rfl ?_); refine box_event ?hg (N := 1) ?hd (cs := #[.int .i64 a0_0, .int .i64 a0_1, .int .i64 a0_2]) (t := 60) ?hr ?_; (case hd => rfl); (case hg => rfl); (case hr => first | (go_simp; done) | (go_simp; rfl)); intro gb182 hg w7 hbox hb; have BK182 := Aside0.mk (hbox); have GW182 := zge HB hg; have GE182 := zge HB hg; replace HB := zhs HB hb; clear hb hbox hg; have hcz8_0 := zc0 BK182 0 rfl; have hcz8_1 := zc0 BK182 1 rfl; have hcz8_2 := zc0 BK182 2 rfl; have hfz8_0 := blk_frozen BK182.out 0; have hfz8_1 := blk_frozen BK182.out 1; have hfz8_2 := blk_frozen BK182.out 2) | ((with_reducible refine gate_callee (f := 92) rfl ?_); refine goesL_ (some 5) rfl rfl Try.func92 (by kernel_rfl) rfl #[.int .i64 a0_1, .int .i64 1, .int .i64 8] rfl (by (try simp only [zq1, zq2, zq3]); first | done | rfl | (simp only [List.length_drop, List.length_take]; rfl)) ?_; (with_reducible refine (spec_l1In.calls a0_1 1 8 true _ A2.out).mono ?_); rintro e w' ⟨rfl, ⟨nd, rfl⟩⟩; refine ⟨_, rfl, ?_⟩) | (go_at_call 92; (with_reducible refine (spec_l1In.calls a0_0 a0_1 8 true _ A4.out).mono ?_); rintro e w' ⟨rfl, ⟨nd, rfl⟩⟩) | (go_at_call 92; (with_reducible refine (spec_l1In.calls a0_2 0 64 t185 _ A6.out).mono ?_); rintro e w' ⟨rfl, ⟨nd, rfl⟩⟩))
   go_ret
   exact ⟨zfr, by repeat (first | exact zh0 HB | refine below_set ?_ GE182.out)⟩
  ·replace c5 := Bool.eq_false_iff.mpr c5
   subst c5
   have H1 : (some false) = some r := by rw [if_neg (show ¬ (false = true) by decide)] at H; exact H
   clear H
   have H := H1
   clear H1
   obtain rfl := Option.some.inj H
   go_enter Try.func85, Try.ntmps85
   go_wp2_with (first | ((with_reducible refine gate_dst (N := 1) rfl ?_); refine box_event ?hg (N := 1) ?hd (cs := #[.int .i64 a0_0, .int .i64 a0_1, .int .i64 a0_2]) (t := 60) ?hr ?_; (case hd => rfl); (case hg => rfl); (case hr => first | (go_simp; done) | (go_simp; rfl)); intro gb182 hg w9 hbox hb; have BK182 := Aside0.mk (hbox); have GW182 := zge HB hg; have GE182 := zge HB hg; replace HB := zhs HB hb; clear hb hbox hg; have hcz10_0 := zc0 BK182 0 rfl; have hcz10_1 := zc0 BK182 1 rfl; have hcz10_2 := zc0 BK182 2 rfl; have hfz10_0 := blk_frozen BK182.out 0; have hfz10_1 := blk_frozen BK182.out 1; have hfz10_2 := blk_frozen BK182.out 2) | ((with_reducible refine gate_callee (f := 92) rfl ?_); refine goesL_ (some 5) rfl rfl Try.func92 (by kernel_rfl) rfl #[.int .i64 a0_1, .int .i64 1, .int .i64 8] rfl (by (try simp only [zq1, zq2, zq3]); first | done | rfl | (simp only [List.length_drop, List.length_take]; rfl)) ?_; (with_reducible refine (spec_l1In.calls a0_1 1 8 true _ A2.out).mono ?_); rintro e w' ⟨rfl, ⟨nd, rfl⟩⟩; refine ⟨_, rfl, ?_⟩) | (go_at_call 92; (with_reducible refine (spec_l1In.calls a0_0 a0_1 8 false _ A4.out).mono ?_); rintro e w' ⟨rfl, ⟨nd, rfl⟩⟩))
   go_ret
   exact ⟨zfr, by repeat (first | exact zh0 HB | refine below_set ?_ GE182.out)⟩
 ·replace c3 := Bool.eq_false_iff.mpr c3
  subst c3
  have H1 : (some false) = some r := by rw [if_neg (show ¬ (false = true) by decide)] at H; exact H
  clear H
  have H := H1
  clear H1
  obtain rfl := Option.some.inj H
  go_enter Try.func85, Try.ntmps85
  go_wp2_with (first | ((with_reducible refine gate_dst (N := 1) rfl ?_); refine box_event ?hg (N := 1) ?hd (cs := #[.int .i64 a0_0, .int .i64 a0_1, .int .i64 a0_2]) (t := 60) ?hr ?_; (case hd => rfl); (case hg => rfl); (case hr => first | (go_simp; done) | (go_simp; rfl)); intro gb182 hg w11 hbox hb; have BK182 := Aside0.mk (hbox); have GW182 := zge HB hg; have GE182 := zge HB hg; replace HB := zhs HB hb; clear hb hbox hg; have hcz12_0 := zc0 BK182 0 rfl; have hcz12_1 := zc0 BK182 1 rfl; have hcz12_2 := zc0 BK182 2 rfl; have hfz12_0 := blk_frozen BK182.out 0; have hfz12_1 := blk_frozen BK182.out 1; have hfz12_2 := blk_frozen BK182.out 2) | ((with_reducible refine gate_callee (f := 92) rfl ?_); refine goesL_ (some 5) rfl rfl Try.func92 (by kernel_rfl) rfl #[.int .i64 a0_1, .int .i64 1, .int .i64 8] rfl (by (try simp only [zq1, zq2, zq3]); first | done | rfl | (simp only [List.length_drop, List.length_take]; rfl)) ?_; (with_reducible refine (spec_l1In.calls a0_1 1 8 false _ A2.out).mono ?_); rintro e w' ⟨rfl, ⟨nd, rfl⟩⟩; refine ⟨_, rfl, ?_⟩))
  go_ret
  exact ⟨zfr, by repeat (first | exact zh0 HB | refine below_set ?_ GE182.out)⟩

open Go.Proofs.Ytkifenbcepicjab.Cp
/-! ### spec_l1Own: function 109 -/
def spec_l1Own.f (l0 : List Int) : Option (List Int) := (some (([] : List Int) : List Int)).bind fun y186 => (if y186.length + l0.length < 17592186044416 then (some (y186 ++ l0)) else (none))
set_option maxHeartbeats 8000000 in
set_option maxRecDepth 100000 in
theorem spec_l1Own.calls (A0 : Option Addr) (c0 : Nat) (l0 : List Int) (r : List Int) (w : World) (hr0 : Kd.C (Kd.int .i64) w A0 l0.length l0) (hc0 : l0.length ≤ c0) (h : spec_l1Own.f l0 = some r) :
  Calls Try.prog 109 #[.slice A0 l0.length c0] w fun e w' => ∃ v0_ : Value, e = .returned (v0_) ∧ Kd.R (Kd.int .i64) 3 w' w.heap.size (fun _ => True) v0_ r ∧ Below w.heap.size w w' := by
 have HR0 := Aside0.mk hr0
 have HC0 := Aside0.mk hc0
 clear hr0 hc0
 have HB := Aside0.mk (Below.refl w.heap.size w)
 have H : ((some (([] : List Int) : List Int)).bind fun y186 => (if y186.length + l0.length < 17592186044416 then (some (y186 ++ l0)) else (none))) = some r := h
 clear h
 obtain ⟨y186, hy186⟩ : ∃ y_ : List Int, y_ = (([] : List Int)) := ⟨_, rfl⟩
 replace H : (if y186.length + l0.length < 17592186044416 then (some (y186 ++ l0)) else (none)) = some r := by first | (rw [hy186]; with_reducible exact H) | (have H2_ := (Option.bind_some _ _).symm.trans H; rw [hy186]; with_reducible exact H2_) | (have H2_ := (Option.bind_some _ _).symm.trans H; with_reducible exact H2_) | with_reducible exact H | (rw [hy186]; exact H) | exact H
 have Ny186 := Aside0.mk hy186
 clear hy186
 by_cases c2 : y186.length + l0.length < 17592186044416
 ·rw [if_pos c2] at H
  have LMc2 := Aside0.mk c2
  clear c2
  obtain ⟨y189, hy189⟩ : ∃ y_ : List Int, y_ = (y186 ++ l0) := ⟨_, rfl⟩
  replace H : (some y189) = some r := by first | (rw [hy189]; with_reducible exact H) | (have H2_ := (Option.bind_some _ _).symm.trans H; rw [hy189]; with_reducible exact H2_) | (have H2_ := (Option.bind_some _ _).symm.trans H; with_reducible exact H2_) | with_reducible exact H | (rw [hy189]; exact H) | exact H
  have Ny189 := Aside0.mk hy189
  clear hy189
  obtain rfl := Option.some.inj H
  go_enter Try.func109, Try.ntmps109
  go_wp2_with (first | ((with_reducible refine gate_dst (N := 3) rfl ?_); refine Kd.R_lit (Kd.int .i64) _ 3 ?hg (N := 3) ?hd (xs := ([] : List Int)) (inner := []) (ok := fun _ => True) (okp := fun _ => True) ?hr ?hp (fun _ hk => hk) trivial (Below.refl _ _) (Nat.le_refl _) (by simp) ?_; (case hd => rfl); (case hg => rfl); (case hr => first | (go_simp; done) | (go_simp; rfl)); (case hp => exact (Reps.none _ _)); intro v187 w3 ho4 hb hg_ hnew_; clear hg_ hnew_; (first | rw [← Ny186.out] at ho4 | (simp only [Int.reduceToNat] at ho4; rw [← Ny186.out] at ho4)); have HO188 := Aside0.mk (Kd.R_lower ho4 (below_size (zh0 HB))); replace HB := zhs HB hb; clear hb ho4) | ((with_reducible refine gate_builtin (b := .append) (xs := #[.tmp 3, .tmp 4]) rfl ?_); at_builtin; refine Kd.R_append_rows (Kd.int .i64) (w0 := w) w.heap.size rfl (.tmp 3) (.tmp 4) 27 3 (.int .i64 0) 8 rfl Try.underlying27 info3 rfl (by decide) (by omega) v187 y186 l0 _ _ _ (fun _ => True) (fun _ => False) rfl rfl ?aO ?aR (fun _ _ h => h) (fun _ h => h.elim) ?aF ?aB ?aS ?aL ?_; (case aR => exact Kd.C_below HR0.out (zh0 HB)); (case aB => exact (zh0 HB)); (case aF => exact (fun _ _ => trivial)); (case aO => exact (zr0 HO188)); (case aS => exact (below_size (zh0 HB))); (case aL => have := LMc2.out; omega); intro v190 w5 ho hb hg hat; rw [← Ny189.out] at ho; have n0_ := Aside0.mk (hb); have n1_ := Aside0.mk (ho); clear HB; clear HO188; have HB := n0_; have HO191 := n1_; clear n0_ n1_; clear ho hb hg hat))
  go_ret
  exact ⟨_, by first | rfl | (simp <;> rfl) | (simp [*] <;> rfl), (by first | exact zr0 HO191 | exact Kd.R_mono (zr0 HO191) (fun _ _ => trivial)), by repeat (first | exact zh0 HB)⟩
 ·rw [if_neg c2] at H
  exact absurd H (by simp)

open Go.Proofs.Ytkifenbcepicjab.Cp
/-! ### spec_l4Size: function 89 -/
def spec_l4Size.f (a0 : Int) : Option (Bool) := (spec_l1In.f a0 0 1000000).bind fun t192 => (some t192)
set_option maxHeartbeats 8000000 in
set_option maxRecDepth 100000 in
theorem spec_l4Size.calls (a0 : Int) (r : Bool) (w : World) (h : spec_l4Size.f a0 = some r) :
  Calls Try.prog 89 #[.int .i64 a0] w fun e w' => e = .returned (.bool r) ∧ Drawn0 w w' := by
 have H : ((spec_l1In.f a0 0 1000000).bind fun t192 => (some t192)) = some r := h
 clear h
 replace H := Option.bind_eq_some_iff.mp H
 obtain ⟨t192, A20, H⟩ := H
 replace H : (some t192) = some r := H
 have A2 := Aside0.mk A20
 clear A20
 obtain rfl := Option.some.inj H
 go_enter Try.func89, Try.ntmps89
 go_wp2_with (first | ((with_reducible refine gate_callee (f := 92) rfl ?_); refine goesL_ (some 4) rfl rfl Try.func92 (by kernel_rfl) rfl #[.int .i64 a0, .int .i64 0, .int .i64 1000000] rfl (by (try simp only [zq1, zq2, zq3]); first | done | rfl | (simp only [List.length_drop, List.length_take]; rfl)) ?_; (with_reducible refine (spec_l1In.calls a0 0 1000000 t192 _ A2.out).mono ?_); rintro e w' ⟨rfl, ⟨nd, rfl⟩⟩; refine ⟨_, rfl, ?_⟩))
 go_ret
 exact ⟨zfs, by repeat (first | exact Drawn0.refl _ | apply Drawn0.step)⟩

open Go.Proofs.Ytkifenbcepicjab.Cp
/-! ### spec_l1Most: function 94 -/
def spec_l1Most.f (a0 : Int) (a1 : Int) : Option (Int) := if a0 > a1 then (some a0) else (some a1)
set_option maxHeartbeats 8000000 in
set_option maxRecDepth 100000 in
theorem spec_l1Most.calls (a0 : Int) (a1 : Int) (r : Int) (w : World) (h : spec_l1Most.f a0 a1 = some r) :
  Calls Try.prog 94 #[.int .i64 a0, .int .i64 a1] w fun e w' => e = .returned (.int .i64 r) ∧ Drawn0 w w' := by
 have H : (if a0 > a1 then (some a0) else (some a1)) = some r := h
 clear h
 by_cases c3 : a0 > a1
 ·rw [if_pos c3] at H
  have c3b0 : decide (a1 < a0) = true := decide_eq_true c3
  clear c3
  obtain rfl := Option.some.inj H
  go_enter Try.func94, Try.ntmps94
  go_wp2
  go_ret
  exact ⟨zfs, by repeat (first | exact Drawn0.refl _ | apply Drawn0.step)⟩
 ·rw [if_neg c3] at H
  have c3b0 : decide (a1 < a0) = false := decide_eq_false c3
  clear c3
  obtain rfl := Option.some.inj H
  go_enter Try.func94, Try.ntmps94
  go_wp2
  go_ret
  exact ⟨zfs, by repeat (first | exact Drawn0.refl _ | apply Drawn0.step)⟩

open Go.Proofs.Ytkifenbcepicjab.Cp
/-! ### spec_l4Next: function 90 -/
def spec_l4Next.f (a0_0 : Int) (a0_1 : Int) (a0_2 : Int) (a1 : Int) (a2 : Int) (a3 : Int) : Option (Int) := if (wrap64 (a1 + a3)) ≤ a2 then (some a2) else (if a0_1 = 0 then (none) else ((spec_l1Most.f (wrap64 ((wrap64 (Int.tdiv (wrap64 (a2 * a0_0)) a0_1)) + a0_2)) (wrap64 (a1 + a3))).bind fun t194 => ((spec_l1Most.f t194 (wrap64 (a2 + 1))).bind fun t195 => (some t195))))
set_option maxHeartbeats 8000000 in
set_option maxRecDepth 100000 in
theorem spec_l4Next.calls (a0_0 : Int) (a0_1 : Int) (a0_2 : Int) (a1 : Int) (a2 : Int) (a3 : Int) (r : Int) (w : World) (h : spec_l4Next.f a0_0 a0_1 a0_2 a1 a2 a3 = some r) :
  Calls Try.prog 90 #[.agg #[.int .i64 a0_0, .int .i64 a0_1, .int .i64 a0_2], .int .i64 a1, .int .i64 a2, .int .i64 a3] w fun e w' => e = .returned (.int .i64 r) ∧ Below w.heap.size w w' := by
 have hu60 := Try.underlying60
 have HB := Aside0.mk (Below.refl w.heap.size w)
 have H : (if (wrap64 (a1 + a3)) ≤ a2 then (some a2) else (if a0_1 = 0 then (none) else ((spec_l1Most.f (wrap64 ((wrap64 (Int.tdiv (wrap64 (a2 * a0_0)) a0_1)) + a0_2)) (wrap64 (a1 + a3))).bind fun t194 => ((spec_l1Most.f t194 (wrap64 (a2 + 1))).bind fun t195 => (some t195))))) = some r := h
 clear h
 by_cases c5 : (wrap64 (a1 + a3)) ≤ a2
 ·rw [if_pos c5] at H
  have c5b0 : decide ((wrap64 (a1 + a3)) ≤ a2) = true := decide_eq_true c5
  clear c5
  obtain rfl := Option.some.inj H
  go_enter Try.func90, Try.ntmps90
  go_wp2_with (first | ((with_reducible refine gate_dst (N := 4) rfl ?_); refine box_event ?hg (N := 4) ?hd (cs := #[.int .i64 a0_0, .int .i64 a0_1, .int .i64 a0_2]) (t := 60) ?hr ?_; (case hd => rfl); (case hg => rfl); (case hr => first | (go_simp; done) | (go_simp; rfl)); intro gb193 hg w6 hbox hb; have BK193 := Aside0.mk (hbox); have GW193 := zge HB hg; have GE193 := zge HB hg; replace HB := zhs HB hb; clear hb hbox hg))
  repeat (go_quiet (first | ((with_reducible refine gate_dst (N := 4) rfl ?_); refine box_event ?hg (N := 4) ?hd (cs := #[.int .i64 a0_0, .int .i64 a0_1, .int .i64 a0_2]) (t := 60) ?hr ?_; (case hd => rfl); (case hg => rfl); (case hr => first | (go_simp; done) | (go_simp; rfl)); intro gb193 hg w6 hbox hb; have BK193 := Aside0.mk (hbox); have GW193 := zge HB hg; have GE193 := zge HB hg; replace HB := zhs HB hb; clear hb hbox hg)); try go_wp2_with (first | ((with_reducible refine gate_dst (N := 4) rfl ?_); refine box_event ?hg (N := 4) ?hd (cs := #[.int .i64 a0_0, .int .i64 a0_1, .int .i64 a0_2]) (t := 60) ?hr ?_; (case hd => rfl); (case hg => rfl); (case hr => first | (go_simp; done) | (go_simp; rfl)); intro gb193 hg w6 hbox hb; have BK193 := Aside0.mk (hbox); have GW193 := zge HB hg; have GE193 := zge HB hg; replace HB := zhs HB hb; clear hb hbox hg)))
  go_ret
  exact ⟨zfr, by repeat (first | exact zh0 HB | refine below_set ?_ GE193.out)⟩
 ·rw [if_neg c5] at H
  have c5b0 : decide ((wrap64 (a1 + a3)) ≤ a2) = false := decide_eq_false c5
  clear c5
  by_cases c7 : a0_1 = 0
  ·rw [if_pos c7] at H
   exact absurd H (by simp)
  ·rw [if_neg c7] at H
   have c7b0 : (a0_1 == 0) = false := beq_eq_false_iff_ne.mpr c7
   have c7b1 : (a0_1 != 0) = true := bne_iff_ne.mpr c7
   replace H := Option.bind_eq_some_iff.mp H
   obtain ⟨t194, A80, H⟩ := H
   replace H : ((spec_l1Most.f t194 (wrap64 (a2 + 1))).bind fun t195 => (some t195)) = some r := H
   have A8 := Aside0.mk A80
   clear A80
   replace H := Option.bind_eq_some_iff.mp H
   obtain ⟨t195, A90, H⟩ := H
   replace H : (some t195) = some r := H
   have A9 := Aside0.mk A90
   clear A90
   obtain rfl := Option.some.inj H
   go_enter Try.func90, Try.ntmps90
   go_wp2_with (first | ((with_reducible refine gate_dst (N := 4) rfl ?_); refine box_event ?hg (N := 4) ?hd (cs := #[.int .i64 a0_0, .int .i64 a0_1, .int .i64 a0_2]) (t := 60) ?hr ?_; (case hd => rfl); (case hg => rfl); (case hr => first | (go_simp; done) | (go_simp; rfl)); intro gb193 hg w10 hbox hb; have BK193 := Aside0.mk (hbox); have GW193 := zge HB hg; have GE193 := zge HB hg; replace HB := zhs HB hb; clear hb hbox hg; have hcz11_0 := zc0 BK193 0 rfl; have hcz11_1 := zc0 BK193 1 rfl; have hcz11_2 := zc0 BK193 2 rfl; have hfz11_0 := blk_frozen BK193.out 0; have hfz11_1 := blk_frozen BK193.out 1; have hfz11_2 := blk_frozen BK193.out 2) | (go_at_call 94; (with_reducible refine (spec_l1Most.calls (wrap64 ((wrap64 (Int.tdiv (wrap64 (a2 * a0_0)) a0_1)) + a0_2)) (wrap64 (a1 + a3)) t194 _ A8.out).mono ?_); rintro e w' ⟨rfl, ⟨nd, rfl⟩⟩; (try first | exact ⟨rfl, _, World.drewN_drewN _ _ _⟩ | exact ⟨rfl, _, Eq.trans (World.drewN_drewN _ _ _) (congrArg (World.drewN _) (Nat.add_assoc _ _ _))⟩)) | (go_at_call 94; (with_reducible refine (spec_l1Most.calls t194 (wrap64 (a2 + 1)) t195 _ A9.out).mono ?_); rintro e w' ⟨rfl, ⟨nd, rfl⟩⟩; (try first | exact ⟨rfl, _, World.drewN_drewN _ _ _⟩ | exact ⟨rfl, _, Eq.trans (World.drewN_drewN _ _ _) (congrArg (World.drewN _) (Nat.add_assoc _ _ _))⟩)))
   repeat (go_quiet (first | ((with_reducible refine gate_dst (N := 4) rfl ?_); refine box_event ?hg (N := 4) ?hd (cs := #[.int .i64 a0_0, .int .i64 a0_1, .int .i64 a0_2]) (t := 60) ?hr ?_; (case hd => rfl); (case hg => rfl); (case hr => first | (go_simp; done) | (go_simp; rfl)); intro gb193 hg w10 hbox hb; have BK193 := Aside0.mk (hbox); have GW193 := zge HB hg; have GE193 := zge HB hg; replace HB := zhs HB hb; clear hb hbox hg; have hcz11_0 := zc0 BK193 0 rfl; have hcz11_1 := zc0 BK193 1 rfl; have hcz11_2 := zc0 BK193 2 rfl; have hfz11_0 := blk_frozen BK193.out 0; have hfz11_1 := blk_frozen BK193.out 1; have hfz11_2 := blk_frozen BK193.out 2) | (go_at_call 94; (with_reducible refine (spec_l1Most.calls (wrap64 ((wrap64 (Int.tdiv (wrap64 (a2 * a0_0)) a0_1)) + a0_2)) (wrap64 (a1 + a3)) t194 _ A8.out).mono ?_); rintro e w' ⟨rfl, ⟨nd, rfl⟩⟩; (try first | exact ⟨rfl, _, World.drewN_drewN _ _ _⟩ | exact ⟨rfl, _, Eq.trans (World.drewN_drewN _ _ _) (congrArg (World.drewN _) (Nat.add_assoc _ _ _))⟩)) | (go_at_call 94; (with_reducible refine (spec_l1Most.calls t194 (wrap64 (a2 + 1)) t195 _ A9.out).mono ?_); rintro e w' ⟨rfl, ⟨nd, rfl⟩⟩; (try first | exact ⟨rfl, _, World.drewN_drewN _ _ _⟩ | exact ⟨rfl, _, Eq.trans (World.drewN_drewN _ _ _) (congrArg (World.drewN _) (Nat.add_assoc _ _ _))⟩))); try go_wp2_with (first | ((with_reducible refine gate_dst (N := 4) rfl ?_); refine box_event ?hg (N := 4) ?hd (cs := #[.int .i64 a0_0, .int .i64 a0_1, .int .i64 a0_2]) (t := 60) ?hr ?_; (case hd => rfl); (case hg => rfl); (case hr => first | (go_simp; done) | (go_simp; rfl)); intro gb193 hg w10 hbox hb; have BK193 := Aside0.mk (hbox); have GW193 := zge HB hg; have GE193 := zge HB hg; replace HB := zhs HB hb; clear hb hbox hg; have hcz11_0 := zc0 BK193 0 rfl; have hcz11_1 := zc0 BK193 1 rfl; have hcz11_2 := zc0 BK193 2 rfl; have hfz11_0 := blk_frozen BK193.out 0; have hfz11_1 := blk_frozen BK193.out 1; have hfz11_2 := blk_frozen BK193.out 2) | (go_at_call 94; (with_reducible refine (spec_l1Most.calls (wrap64 ((wrap64 (Int.tdiv (wrap64 (a2 * a0_0)) a0_1)) + a0_2)) (wrap64 (a1 + a3)) t194 _ A8.out).mono ?_); rintro e w' ⟨rfl, ⟨nd, rfl⟩⟩; (try first | exact ⟨rfl, _, World.drewN_drewN _ _ _⟩ | exact ⟨rfl, _, Eq.trans (World.drewN_drewN _ _ _) (congrArg (World.drewN _) (Nat.add_assoc _ _ _))⟩)) | (go_at_call 94; (with_reducible refine (spec_l1Most.calls t194 (wrap64 (a2 + 1)) t195 _ A9.out).mono ?_); rintro e w' ⟨rfl, ⟨nd, rfl⟩⟩; (try first | exact ⟨rfl, _, World.drewN_drewN _ _ _⟩ | exact ⟨rfl, _, Eq.trans (World.drewN_drewN _ _ _) (congrArg (World.drewN _) (Nat.add_assoc _ _ _))⟩))))
   go_ret
   exact ⟨zfr, by repeat (first | exact zh0 HB | refine below_set ?_ GE193.out)⟩

end Go.Proofs.Ytkifenbcepicjab.PFnGrowth
