/- What is proved here: the plain statement of the law FnExactShrinkCaps, over numbers and lists. No condition beyond those that it states. -/
import Derived.Test.YtdojnaghcfhadaaQFnExactShrinkCaps
import Derived.Test.YtdojnaghcfhadaaTk
namespace Go.Proofs.Ytdojnaghcfhadaa.Pure
open Go.RowKit Go.Proofs.Ytdojnaghcfhadaa.PFnExactShrinkCaps Go.Proofs.YtdojnaghcfhadaaW.PrintWords Go.Proofs.YtdojnaghcfhadaaW.PrintMore Go.Proofs.Ytdojnaghcfhadaa.Tk Go.Proofs.Ytdojnaghcfhadaa.Opn
set_option linter.unusedVariables false
set_option linter.unusedSimpArgs false
/-- Each array has 1 to 64 bytes. -/
def Sizes (m : List (List Int)) : Prop := ∀ a ∈ m, 1 ≤ a.length ∧ a.length ≤ 64
instance (m : List (List Int)) : Decidable (Sizes m) := by unfold Sizes; exact inferInstance
theorem Sizes.nil : Sizes [] := fun a ha => by simp at ha
theorem Sizes.cons {a : List Int} {m : List (List Int)} (h : (1 : Int) ≤ (a.length : Int) ∧ (a.length : Int) ≤ 64) (k : Sizes m) : Sizes (a :: m) := fun b hb => by
  rcases List.mem_cons.1 hb with rfl | hb
  · omega
  · exact k b hb
theorem Sizes.head {a : List Int} {m : List (List Int)} (k : Sizes (a :: m)) : (1 : Int) ≤ (a.length : Int) ∧ (a.length : Int) ≤ 64 := by
  have := k a List.mem_cons_self
  omega
theorem Sizes.tail {a : List Int} {m : List (List Int)} (k : Sizes (a :: m)) : Sizes m := fun b hb => k b (List.mem_cons_of_mem _ hb)
/-- A valid memory. -/
def MemOK (m : List (List Int)) : Prop := m.length ≤ 16 ∧ Sizes m
instance (m : List (List Int)) : Decidable (MemOK m) := by unfold MemOK; exact inferInstance
/-- The bytes of array a. -/
def arr_ (m : List (List Int)) (a : Int) : List Int := m.getD a.toNat []
/-- A window on a valid memory. -/
def WinOK (m : List (List Int)) (a s l c : Int) : Prop := MemOK m ∧ 0 ≤ a ∧ a < (m.length : Int) ∧ 0 ≤ s ∧ 0 ≤ l ∧ l ≤ c ∧ s + c ≤ ((arr_ m a).length : Int)
instance (m : List (List Int)) (a s l c : Int) : Decidable (WinOK m a s l c) := by unfold WinOK; exact inferInstance
/-- What the law's guard lets by. -/
def Small (m : List (List Int)) : Prop := m.length ≤ 1048576 ∧ ∀ a ∈ m, a.length ≤ 1048576
theorem arr_mem {m : List (List Int)} {a : Int} (h0 : 0 ≤ a) (h1 : a < (m.length : Int)) : arr_ m a ∈ m := by
  unfold arr_
  rw [getD_lt m [] (by omega : a.toNat < m.length)]
  exact List.getElem_mem _
theorem arr_size {m : List (List Int)} (hm : MemOK m) {a : Int} (h0 : 0 ≤ a) (h1 : a < (m.length : Int)) : 1 ≤ (arr_ m a).length ∧ (arr_ m a).length ≤ 64 := hm.2 _ (arr_mem h0 h1)
theorem MemOK.small {m : List (List Int)} (hm : MemOK m) : Small m := ⟨by have := hm.1; omega, fun a ha => by have := hm.2 a ha; omega⟩
theorem WinOK.bounds {m : List (List Int)} {a s l c : Int} (h : WinOK m a s l c) : MemOK m ∧ 0 ≤ a ∧ a < 16 ∧ a < (m.length : Int) ∧ 0 ≤ s ∧ s ≤ 64 ∧ 0 ≤ l ∧ l ≤ c ∧ c ≤ 64 ∧ s + c ≤ ((arr_ m a).length : Int) ∧ ((arr_ m a).length : Int) ≤ 64 := by
  obtain ⟨hm, h0, h1, h2, h3, h4, h5⟩ := h
  have := arr_size hm h0 h1
  have := hm.1
  refine ⟨hm, h0, by omega, h1, h2, by omega, h3, h4, by omega, h5, by omega⟩
theorem dec_false {p : Prop} [Decidable p] (h : ¬ p) : some false = some (decide p) := by rw [decide_eq_false h]
theorem spec_l1In_eq (a b c : Int) : spec_l1In.f a b c = some (decide (b ≤ a ∧ a ≤ c)) := by
  unfold spec_l1In.f
  by_cases h : a ≥ b
  · rw [if_pos h]
    congr 1
    exact decide_eq_decide.mpr ⟨fun x => ⟨h, x⟩, fun x => x.2⟩
  · rw [if_neg h]
    exact dec_false (fun x => h x.1)
theorem spec_l1Most_eq (a b : Int) : spec_l1Most.f a b = some (if a < b then b else a) := by
  unfold spec_l1Most.f
  by_cases h : a > b
  · rw [if_pos h, if_neg (by omega)]
  · rw [if_neg h]
    by_cases h2 : a < b
    · rw [if_pos h2]
    · rw [if_neg h2]
      congr 1
      omega
theorem spec_l4Size_eq (n : Int) : spec_l4Size.f n = some (decide (0 ≤ n) && decide (n ≤ 1000000)) := by
  unfold spec_l4Size.f
  rw [spec_l1In_eq, ← Bool.decide_and]
  rfl
theorem spec_l4Rule_eq (num den add : Int) : spec_l4Rule.f num den add = some (impl_changed.ruleB num den add) := by
  unfold spec_l4Rule.f
  rw [spec_l1In_eq]
  simp only [Option.bind_some]
  by_cases h1 : 1 ≤ den ∧ den ≤ 8
  · rw [if_pos (decide_eq_true h1), spec_l1In_eq]
    simp only [Option.bind_some]
    by_cases h2 : den ≤ num ∧ num ≤ 8
    · rw [if_pos (decide_eq_true h2), spec_l1In_eq]
      simp only [Option.bind_some]
      congr 1
      rw [Bool.eq_iff_iff]
      simp only [impl_changed.ruleB, Bool.and_eq_true, decide_eq_true_eq, Bool.false_eq_true]
      omega
    · rw [if_neg (by rw [decide_eq_false h2]; decide)]
      refine congrArg some (Eq.symm (Bool.eq_false_iff.2 fun h => ?_))
      simp only [impl_changed.ruleB, Bool.and_eq_true, decide_eq_true_eq] at h
      omega
  · rw [if_neg (by rw [decide_eq_false h1]; decide)]
    refine congrArg some (Eq.symm (Bool.eq_false_iff.2 fun h => ?_))
    simp only [impl_changed.ruleB, Bool.and_eq_true, decide_eq_true_eq] at h
    omega
theorem spec_l4Next_eq {num den add L C n : Int} (hr : impl_changed.ruleB num den add = true) (h1 : 0 ≤ L) (h2 : L ≤ C) (h3 : C ≤ 1000000) (hn0 : 0 ≤ n) (hn1 : n ≤ 1000000) :
    spec_l4Next.f num den add L C n = some (if L + n > C then impl_changed.capF num den add L C n else C) := by
  obtain ⟨r1, r2, r3, r4, r5, r6⟩ := impl_changed.rule_of hr
  unfold spec_l4Next.f
  rw [wid (n := L + n) (by omega) (by omega)]
  by_cases h : L + n ≤ C
  · rw [if_pos h, if_neg (by omega)]
  · have hp0 : 0 ≤ C * num := Int.mul_nonneg (by omega) (by omega)
    have hp1 : C * num ≤ 8000000 := by
      have h1 : C * num ≤ 1000000 * num := Int.mul_le_mul_of_nonneg_right h3 (by omega)
      omega
    have hq0 : 0 ≤ C * num / den := Int.ediv_nonneg hp0 (by omega)
    have hq1 : C * num / den ≤ 8000000 := Int.le_trans (Int.ediv_le_self _ hp0) hp1
    rw [if_neg h, if_neg (by omega), wid (n := C * num) (by omega) (by omega), Int.tdiv_eq_ediv_of_nonneg hp0, wid (n := C * num / den) (by omega) (by omega), wid (n := C * num / den + add) (by omega) (by omega), wid (n := C + 1) (by omega) (by omega), spec_l1Most_eq]
    simp only [Option.bind_some]
    rw [spec_l1Most_eq, if_pos (show L + n > C by omega)]
    rfl
theorem capF_ge (num den add L C n : Int) : L + n ≤ impl_changed.capF num den add L C n ∧ C + 1 ≤ impl_changed.capF num den add L C n := by
  unfold impl_changed.capF
  split <;> split at * <;> omega
/-- An append, by the reference: possible. -/
theorem spec_l4Do_grow {num den add L C M K n s : Int} (hr : impl_changed.ruleB num den add = true) (h1 : 0 ≤ L) (h2 : L ≤ C) (h3 : C ≤ 1000000) (h4 : 0 ≤ K) (h5 : K ≤ 1000000000000) (hn0 : 0 ≤ n) (hn1 : n ≤ 1000000) (hg : (impl_changed.growF num den add L C M K n).1 = true) (l : List Int) (Ms W : Int) :
    ∃ M' W', Ev (fun k => spec_l4Do.f k num den add s l Ms K W L C n) (l, M', (impl_changed.growF num den add L C M K n).2.2.2.2, W', (impl_changed.growF num den add L C M K n).2.1, (impl_changed.growF num den add L C M K n).2.2.1, true) := by
  have hL : L + n ≤ 1000000 := by
    unfold impl_changed.growF at hg
    by_cases h : L + n > C
    · rw [if_pos h] at hg
      simp only [Bool.and_eq_true, decide_eq_true_eq] at hg
      have := capF_ge num den add L C n
      omega
    · omega
  by_cases h : L + n > C
  · apply Exists.intro; apply Exists.intro
    have hc : (decide (0 ≤ impl_changed.capF num den add L C n) && decide (impl_changed.capF num den add L C n ≤ 1000000)) = true := by
      unfold impl_changed.growF at hg
      rw [if_pos h] at hg
      simpa using hg
    have hcc := capF_ge num den add L C n
    simp only [spec_l4Do.f]
    refine ev_pos (by omega) ?_
    rw [spec_l4Size_eq, decide_eq_true hn0, decide_eq_true hn1]
    refine ev_some (ev_pos (by simp) ?_)
    rw [wid (n := L + n) (by omega) (by omega), spec_l4Size_eq, decide_eq_true (show 0 ≤ L + n by omega), decide_eq_true hL]
    refine ev_some (ev_succ ?_)
    simp only [spec_l4Do.j0]
    refine ev_neg (by decide) ?_
    rw [spec_l4Next_eq hr h1 h2 h3 hn0 hn1, if_pos h]
    refine ev_some (ev_pos (by omega) ?_)
    rw [spec_l1Most_eq]
    refine ev_some ?_
    rw [spec_l4Size_eq]
    refine ev_some ?_
    unfold impl_changed.growF
    rw [if_pos h, wid (n := K + L) (by omega) (by omega), wid (n := L + n) (by omega) (by omega), wid (n := K + L + n) (by omega) (by omega)]
    simp only []
    rw [show K + L + n = K + n + L by omega]
    refine ev_eq (Ev.now _) ?_
    simp only [Bool.and_eq_true] at hc
    rw [hc.1, hc.2]
    rfl
  · apply Exists.intro; apply Exists.intro
    simp only [spec_l4Do.f]
    refine ev_pos (by omega) ?_
    rw [spec_l4Size_eq, decide_eq_true hn0, decide_eq_true hn1]
    refine ev_some (ev_pos (by simp) ?_)
    rw [wid (n := L + n) (by omega) (by omega), spec_l4Size_eq, decide_eq_true (show 0 ≤ L + n by omega), decide_eq_true hL]
    refine ev_some (ev_succ ?_)
    simp only [spec_l4Do.j0]
    refine ev_neg (by decide) ?_
    rw [spec_l4Next_eq hr h1 h2 h3 hn0 hn1, if_neg h]
    refine ev_some (ev_neg (by omega) ?_)
    rw [spec_l1Most_eq]
    refine ev_some ?_
    rw [spec_l4Size_eq]
    refine ev_some ?_
    unfold impl_changed.growF
    rw [if_neg h, wid (n := L + n) (by omega) (by omega), wid (n := K + n) (by omega) (by omega), decide_eq_true (show 0 ≤ C by omega), decide_eq_true h3]
    exact Ev.now _
/-- An append, by the reference: not possible. -/
theorem spec_l4Do_over {num den add L C M K n s : Int} (hr : impl_changed.ruleB num den add = true) (h1 : 0 ≤ L) (h2 : L ≤ C) (h3 : C ≤ 1000000) (h4 : 0 ≤ K) (h5 : K ≤ 1000000000000) (hn0 : 0 ≤ n) (hg : ¬ (n ≤ 1000000 ∧ (impl_changed.growF num den add L C M K n).1 = true)) (l : List Int) (Ms W : Int) :
    ∃ t : List Int × Int × Int × Int × Int × Int × Bool, Ev (fun k => spec_l4Do.f k num den add s l Ms K W L C n) t ∧ t.2.2.2.2.2.2 = false := by
  by_cases hn1 : n ≤ 1000000
  · have hgf : (impl_changed.growF num den add L C M K n).1 = false := by
      cases h : (impl_changed.growF num den add L C M K n).1 with
      | false => rfl
      | true => exact absurd ⟨hn1, h⟩ hg
    have h : L + n > C := by
      rcases Int.lt_or_le C (L + n) with h | h
      · exact h
      · unfold impl_changed.growF at hgf
        rw [if_neg (by omega), decide_eq_true (show 0 ≤ C by omega), decide_eq_true h3] at hgf
        exact absurd hgf (by simp)
    have hc : (decide (0 ≤ impl_changed.capF num den add L C n) && decide (impl_changed.capF num den add L C n ≤ 1000000)) = false := by
      unfold impl_changed.growF at hgf
      rw [if_pos h] at hgf
      exact hgf
    by_cases hL : L + n ≤ 1000000
    · refine ⟨(l, wrap64 (Ms + 1), wrap64 (wrap64 (K + L) + n), (if W < wrap64 (impl_changed.capF num den add L C n - wrap64 (L + n)) then wrap64 (impl_changed.capF num den add L C n - wrap64 (L + n)) else W), wrap64 (L + n), impl_changed.capF num den add L C n, false), ?_, rfl⟩
      simp only [spec_l4Do.f]
      refine ev_pos (by omega) ?_
      rw [spec_l4Size_eq, decide_eq_true hn0, decide_eq_true hn1]
      refine ev_some (ev_pos (by simp) ?_)
      rw [wid (n := L + n) (by omega) (by omega), spec_l4Size_eq, decide_eq_true (show 0 ≤ L + n by omega), decide_eq_true hL]
      refine ev_some (ev_succ ?_)
      simp only [spec_l4Do.j0]
      refine ev_neg (by decide) ?_
      have hcc := capF_ge num den add L C n
      rw [spec_l4Next_eq hr h1 h2 h3 hn0 hn1, if_pos h]
      refine ev_some (ev_pos (by omega) ?_)
      rw [spec_l1Most_eq]
      refine ev_some ?_
      rw [spec_l4Size_eq, hc, wid (n := L + n) (by omega) (by omega)]
      exact Ev.now _
    · refine ⟨(l, Ms, K, W, L, C, false), ?_, rfl⟩
      simp only [spec_l4Do.f]
      refine ev_pos (by omega) ?_
      rw [spec_l4Size_eq, decide_eq_true hn0, decide_eq_true hn1]
      refine ev_some (ev_pos (by simp) ?_)
      rw [wid (n := L + n) (by omega) (by omega), spec_l4Size_eq, decide_eq_false hL, Bool.and_false]
      refine ev_some (ev_succ ?_)
      simp only [spec_l4Do.j0]
      exact ev_pos (by simp) (Ev.now _)
  · refine ⟨(l, Ms, K, W, L, C, false), ?_, rfl⟩
    simp only [spec_l4Do.f]
    refine ev_pos (by omega) ?_
    rw [spec_l4Size_eq, decide_eq_false hn1, Bool.and_false]
    refine ev_some (ev_neg (by decide) (ev_succ ?_))
    simp only [spec_l4Do.j0]
    exact ev_pos (by simp) (Ev.now _)
/-- A change that takes bytes away, by the reference: possible. -/
theorem spec_l4Do_less {num den add b L C M K n : Int} (hb0 : 2 ≤ b) (hb1 : b ≤ 8) (h1 : 0 ≤ L) (h2 : L ≤ C) (h3 : C ≤ 1000000) (h4 : 0 ≤ K) (h5 : K ≤ 1000000000000) (hn0 : n < 0) (hn1 : 0 ≤ L + n) (l : List Int) (Ms W : Int) :
    ∃ M' W', Ev (fun k => spec_l4Do.f k num den add b l Ms K W L C n) (l, M', (impl_changed.shrinkF b L C M K (-n)).2.2.2.2, W', (impl_changed.shrinkF b L C M K (-n)).2.1, (impl_changed.shrinkF b L C M K (-n)).2.2.1, true) := by
  have hp0 : 0 ≤ b * (L + n) := Int.mul_nonneg (by omega) (by omega)
  have hp1 : b * (L + n) ≤ 8000000 := by
    have h1 : b * (L + n) ≤ 8 * (L + n) := Int.mul_le_mul_of_nonneg_right hb1 (by omega)
    omega
  have hs : ¬ (-n > L) := by omega
  have he : L - -n = L + n := by omega
  by_cases hc : b * (L + n) ≤ C ∧ 2 ≤ C
  · have hd0 : 0 ≤ C / 2 := by omega
    apply Exists.intro; apply Exists.intro
    simp only [spec_l4Do.f]
    refine ev_neg (by omega) (ev_neg (by omega) ?_)
    rw [wid (n := L + n) (by omega) (by omega), decide_eq_false (show ¬ L + n < 0 by omega)]
    refine ev_succ ?_
    simp only [spec_l4Do.j1]
    refine ev_neg (by decide) ?_
    rw [wid (n := L + n) (by omega) (by omega), wid (n := b * (L + n)) (by omega) (by omega)]
    refine ev_pos (by omega) (ev_succ ?_)
    simp only [spec_l4Do.j2]
    refine ev_pos (decide_eq_true (by omega)) ?_
    rw [Int.tdiv_eq_ediv_of_nonneg (by omega), wid (n := C / 2) (by omega) (by omega), spec_l1Most_eq]
    refine ev_some ?_
    rw [spec_l1Most_eq]
    refine ev_some ?_
    rw [spec_l4Size_eq, wid (n := K + (L + n)) (by omega) (by omega)]
    refine ev_some ?_
    unfold impl_changed.shrinkF
    rw [if_neg hs, he, if_pos hc]
    refine ev_eq (Ev.now _) ?_
    rw [← Bool.decide_and, decide_eq_true (by split <;> omega)]
  · apply Exists.intro; apply Exists.intro
    simp only [spec_l4Do.f]
    refine ev_neg (by omega) (ev_neg (by omega) ?_)
    rw [wid (n := L + n) (by omega) (by omega), decide_eq_false (show ¬ L + n < 0 by omega)]
    refine ev_succ ?_
    simp only [spec_l4Do.j1]
    refine ev_neg (by decide) ?_
    rw [wid (n := L + n) (by omega) (by omega), wid (n := b * (L + n)) (by omega) (by omega)]
    unfold impl_changed.shrinkF
    rw [if_neg hs, he, if_neg hc]
    have hfin : Ev (fun k => spec_l4Do.j2 k false l Ms K W (L + n) C) (l, Ms, K, (if W < wrap64 (C - (L + n)) then wrap64 (C - (L + n)) else W), L + n, C, true) := by
      refine ev_succ ?_
      simp only [spec_l4Do.j2]
      refine ev_neg (by decide) ?_
      rw [spec_l1Most_eq]
      refine ev_some ?_
      rw [spec_l4Size_eq, decide_eq_true (show 0 ≤ C by omega), decide_eq_true h3]
      exact Ev.now _
    by_cases h8 : b * (L + n) ≤ C
    · refine ev_pos (by omega) ?_
      rw [decide_eq_false (show ¬ C > 1 by omega)]
      exact hfin
    · exact ev_neg (by omega) hfin
theorem spec_l4Do_under {num den add b L C K n : Int} (hb0 : 2 ≤ b) (h1 : 0 ≤ L) (h3 : L ≤ 1000000) (hn0 : n < 0) (hn1 : L + n < 0) (hn : -9223372036854775808 ≤ n) (l : List Int) (Ms W : Int) :
    ∃ t : List Int × Int × Int × Int × Int × Int × Bool, Ev (fun k => spec_l4Do.f k num den add b l Ms K W L C n) t ∧ t.2.2.2.2.2.2 = false := by
  refine ⟨(l, Ms, K, W, L, C, false), ?_, rfl⟩
  simp only [spec_l4Do.f]
  refine ev_neg (by omega) (ev_neg (by omega) ?_)
  rw [wid (n := L + n) (by omega) (by omega), decide_eq_true hn1]
  refine ev_succ ?_
  simp only [spec_l4Do.j1]
  exact ev_pos (by simp) (Ev.now _)
theorem shrink_yes {b L C M K n : Int} (hn1 : 0 ≤ L + n) : (impl_changed.shrinkF b L C M K (-n)).1 = true := by
  unfold impl_changed.shrinkF
  rw [if_neg (by omega)]
  split <;> rfl
theorem shrink_no {b L C M K n : Int} (hn1 : L + n < 0) : (impl_changed.shrinkF b L C M K (-n)).1 = false := by
  unfold impl_changed.shrinkF
  rw [if_pos (by omega)]
theorem spec_l1Own_eq (l : List Int) (hl : l.length < 17592186044416) : spec_l1Own.f l = some l := by
  unfold spec_l1Own.f
  simp only [Option.bind_some]
  rw [if_pos (by simpa using hl), List.nil_append]
theorem spec_l4All_l0 {num den add b : Int} (hr : impl_changed.ruleB num den add = true) (hb0 : 2 ≤ b) (hb1 : b ≤ 8) (l2 : List Int) (hl : ∀ x ∈ l2, I64 x) (h40 : l2.length ≤ 40) : ∀ (d i : Nat) (L C M K Ms W : Int) (out : List Int), i + d = l2.length → 0 ≤ L → L ≤ C → C ≤ 1000000 → 0 ≤ K → K ≤ 3000000 * i → 0 ≤ M → M ≤ i → out.length = i →
    ∃ m w L' C', Ev (fun k => spec_l4All.l0 k b l2 (i : Int) num den add out Ms K W L C) ((impl_changed.runF num den add b (l2.drop i) L C M K out).1, m, (impl_changed.runF num den add b (l2.drop i) L C M K out).2.1, w, L', C', (impl_changed.runF num den add b (l2.drop i) L C M K out).2.2) := by
  intro d
  induction d with
  | zero =>
    intro i L C M K Ms W out hi h1 h2 h3 h4 h5 h6 h7 ho
    rw [List.drop_eq_nil_of_le (by omega)]
    refine ⟨Ms, W, L, C, ev_end (fun k => ?_)⟩
    simp only [spec_l4All.l0]
    rw [if_neg (by omega)]
    rfl
  | succ d ih =>
    intro i L C M K Ms W out hi h1 h2 h3 h4 h5 h6 h7 ho
    have hlt : i < l2.length := by omega
    have hx := hl _ (List.getElem_mem hlt)
    rw [List.drop_eq_getElem_cons hlt, impl_changed.runF]
    have hrd : rd l2 (i : Int) = l2[i] := rd_lt l2 hlt
    generalize l2[i] = n at *
    -- the step that fails
    have fails : (∃ t : List Int × Int × Int × Int × Int × Int × Bool, Ev (fun k => spec_l4Do.f k num den add b out Ms K W L C n) t ∧ t.2.2.2.2.2.2 = false) → ∃ m w L' C', Ev (fun k => spec_l4All.l0 k b l2 (i : Int) num den add out Ms K W L C) (([] : List Int), m, (0 : Int), w, L', C', false) := by
      rintro ⟨t, ht, hf⟩
      refine ⟨0, 0, 0, 0, ev_succ ?_⟩
      simp only [spec_l4All.l0]
      refine ev_pos (by omega) (ev_pos (by omega) ?_)
      rw [hrd]
      exact ev_bind ht (ev_neg (by rw [hf]; decide) (Ev.now _))
    have goes : ∀ M2 W2 K2 L2 C2, Ev (fun k => spec_l4Do.f k num den add b out Ms K W L C n) (out, M2, K2, W2, L2, C2, true) → ∀ r, (∃ m w L' C', Ev (fun k => spec_l4All.l0 k b l2 ((i + 1 : Nat) : Int) num den add (out ++ [C2]) M2 K2 W2 L2 C2) (r.1, m, r.2.1, w, L', C', r.2.2)) → ∃ m w L' C', Ev (fun k => spec_l4All.l0 k b l2 (i : Int) num den add out Ms K W L C) ((r : List Int × Int × Bool).1, m, r.2.1, w, L', C', r.2.2) := by
      rintro M2 W2 K2 L2 C2 he r ⟨m, w, L', C', h⟩
      refine ⟨m, w, L', C', ev_succ ?_⟩
      simp only [spec_l4All.l0]
      refine ev_pos (by omega) (ev_pos (by omega) ?_)
      rw [hrd]
      refine ev_bind he (ev_pos (by simp) ?_)
      rw [spec_l1Own_eq out (by omega)]
      simp only [Option.bind_some]
      refine ev_pos (by simp; omega) ?_
      rw [wsucc (by omega)]
      exact h
    by_cases hm : -1000000 ≤ n
    · rw [if_pos hm]
      by_cases hneg : n < 0
      · rw [if_pos hneg]
        by_cases hu : 0 ≤ L + n
        · rw [if_pos (shrink_yes hu)]
          obtain ⟨M2, W2, he⟩ := spec_l4Do_less (M := M) hb0 hb1 h1 h2 h3 h4 (by omega) hneg hu out Ms W (num := num) (den := den) (add := add)
          have hin := impl_changed.shrink_in (x := (i : Int)) (shrink_yes (b := b) (C := C) (M := M) (K := K) hu) (by omega) h1 h2 h3 h4 h5 h6 h7
          exact goes _ _ _ _ _ he _ (ih (i + 1) _ _ _ _ _ _ _ (by omega) hin.1 hin.2.1 hin.2.2.1 hin.2.2.2.1 (by have := hin.2.2.2.2.1; omega) hin.2.2.2.2.2.1 (by have := hin.2.2.2.2.2.2; omega) (by simp; omega))
        · rw [if_neg (by rw [shrink_no (by omega)]; decide)]
          exact fails (spec_l4Do_under hb0 h1 (by omega) hneg (by omega) (by omega) out Ms W)
      · rw [if_neg hneg]
        by_cases hbig : n ≤ 1000000
        · rw [if_pos hbig]
          by_cases hg : (impl_changed.growF num den add L C M K n).1 = true
          · rw [if_pos hg]
            obtain ⟨M2, W2, he⟩ := spec_l4Do_grow (s := b) hr h1 h2 h3 h4 (by omega) (by omega) hbig hg out Ms W
            have hin := impl_changed.grow_in (x := (i : Int)) hg (by omega) hbig h1 h2 h3 h4 h5 h6 h7
            exact goes _ _ _ _ _ he _ (ih (i + 1) _ _ _ _ _ _ _ (by omega) hin.1 hin.2.1 hin.2.2.1 hin.2.2.2.1 (by have := hin.2.2.2.2.1; omega) hin.2.2.2.2.2.1 (by have := hin.2.2.2.2.2.2; omega) (by simp; omega))
          · rw [if_neg hg]
            exact fails (spec_l4Do_over (M := M) hr h1 h2 h3 h4 (by omega) (by omega) (fun h => hg h.2) out Ms W)
        · rw [if_neg hbig]
          exact fails (spec_l4Do_over (M := M) hr h1 h2 h3 h4 (by omega) (by omega) (fun h => hbig h.1) out Ms W)
    · rw [if_neg hm]
      exact fails (spec_l4Do_under hb0 h1 (by omega) (by omega) (by omega) hx.1 out Ms W)
theorem spec_l4Shrink_ev (num den add b : Int) (l2 : List Int) (hl : ∀ x ∈ l2, I64 x) :
    ∃ m w L' C', Ev (fun k => spec_l4Shrink.f k num den add b l2) ((impl_changed.chF num den add b l2).1, m, (impl_changed.chF num den add b l2).2.1, w, L', C', (impl_changed.chF num den add b l2).2.2) := by
  unfold impl_changed.chF
  by_cases hby : 2 ≤ b ∧ b ≤ 8
  · have hall : ∃ m w L' C', Ev (fun k => spec_l4All.f k num den add b l2) ((impl_changed.chF num den add b l2).1, m, (impl_changed.chF num den add b l2).2.1, w, L', C', (impl_changed.chF num den add b l2).2.2) := by
      unfold impl_changed.chF
      by_cases hru : impl_changed.ruleB num den add = true
      · rw [if_pos hru, if_pos hby]
        by_cases h40 : l2.length ≤ 40
        · rw [if_pos h40]
          obtain ⟨m, w, L', C', h⟩ := spec_l4All_l0 hru hby.1 hby.2 l2 hl h40 l2.length 0 0 0 0 0 0 0 [] (by omega) (by omega) (by omega) (by omega) (by omega) (by omega) (by omega) (by omega) rfl
          refine ⟨m, w, L', C', ?_⟩
          simp only [spec_l4All.f, Option.bind_some]
          rw [spec_l4Rule_eq, hru]
          refine ev_some (ev_pos (by simp) (ev_succ ?_))
          simp only [spec_l4All.j0]
          exact ev_neg (by rw [decide_eq_false (by omega)]; decide) h
        · rw [if_neg h40]
          refine ⟨0, 0, 0, 0, ?_⟩
          simp only [spec_l4All.f, Option.bind_some]
          rw [spec_l4Rule_eq, hru]
          refine ev_some (ev_pos (by simp) (ev_succ ?_))
          simp only [spec_l4All.j0]
          exact ev_pos (decide_eq_true (by omega)) (Ev.now _)
      · rw [if_neg hru]
        refine ⟨0, 0, 0, 0, ?_⟩
        simp only [spec_l4All.f, Option.bind_some]
        rw [spec_l4Rule_eq, Bool.eq_false_iff.2 hru]
        refine ev_some (ev_neg (by decide) (ev_succ ?_))
        simp only [spec_l4All.j0]
        exact ev_pos (by simp) (Ev.now _)
    obtain ⟨m, w, L', C', h⟩ := hall
    refine ⟨m, w, L', C', ?_⟩
    unfold impl_changed.chF at h
    simp only [spec_l4Shrink.f]
    rw [spec_l1In_eq, decide_eq_true hby]
    exact ev_some (ev_pos (by simp) (ev_bind h (Ev.now _)))
  · rw [if_neg hby]
    refine ⟨0, 0, 0, 0, ?_⟩
    simp only [spec_l4Shrink.f]
    rw [spec_l1In_eq, decide_eq_false hby]
    refine ev_some (ev_neg (by decide) (ev_eq (Ev.now _) ?_))
    split <;> rfl
theorem laws_toIntS_l0 (l : List Int) (hl : l.length ≤ 35184372088832) (x : List Int) (hx : x.length = l.length) : ∀ (d i : Nat), i + d = l.length → Ev (fun k => laws_toIntS.l0 k l (over l x i) (i : Int)) l := by
  intro d
  induction d with
  | zero =>
    intro i hi
    have e : over l x i = l := by rw [show i = l.length by omega]; exact over_all l x hx
    rw [e]
    refine ev_end (fun k => ?_)
    simp only [laws_toIntS.l0]
    rw [if_neg (by omega)]
  | succ d ih =>
    intro i hi
    refine Ev.step (fun k => ?_) (ih (i + 1) (by omega))
    simp only [laws_toIntS.l0]
    rw [if_pos (by omega), if_pos (by omega), if_pos (by rw [over_length l x i hx (by omega)]; omega), Int.toNat_natCast, rd_lt l (by omega : i < l.length), over_set l x i hx (by omega), wsucc (by omega)]
theorem laws_toIntS_ev (l : List Int) (hl : l.length ≤ 35184372088832) : Ev (fun k => laws_toIntS.f k l) l := by
  simp only [laws_toIntS.f]
  refine ev_pos (by omega) (ev_pos (by simpa using hl) ?_)
  have h := laws_toIntS_l0 l hl (List.replicate l.length 0) (by simp) l.length 0 (by omega)
  rw [over_zero] at h
  simpa using h
theorem laws_eqIntS_l0 (a b : List Int) (hl : a.length = b.length) (hb : a.length ≤ 281474976710656) : ∀ (d i : Nat), i + d = a.length → Ev (fun k => laws_eqIntS.l0 k a b (i : Int)) (decide (a.drop i = b.drop i)) := by
  intro d
  induction d with
  | zero =>
    intro i hi
    have e1 : a.drop i = [] := List.drop_eq_nil_of_le (by omega)
    have e2 : b.drop i = [] := List.drop_eq_nil_of_le (by omega)
    rw [e1, e2]
    refine ev_end (fun k => ?_)
    simp only [laws_eqIntS.l0]
    rw [if_neg (by omega)]
    rfl
  | succ d ih =>
    intro i hi
    have ha : i < a.length := by omega
    have hb2 : i < b.length := by omega
    rw [List.drop_eq_getElem_cons ha, List.drop_eq_getElem_cons hb2]
    by_cases h : a[i] = b[i]
    · refine ev_eq (Ev.step (fun k => ?_) (ih (i + 1) (by omega))) ?_
      · simp only [laws_eqIntS.l0]
        rw [if_pos (by omega), if_pos (by omega), if_pos (by omega), rd_lt a ha, rd_lt b hb2, if_pos h, wsucc (by omega)]
      · rw [h]; exact decide_eq_decide.mpr ⟨fun e => by rw [e], fun e => (List.cons.inj e).2⟩
    · refine ev_eq (ev_end (r := false) (fun k => ?_)) (decide_eq_false (fun e => h (List.cons.inj e).1)).symm
      simp only [laws_eqIntS.l0]
      rw [if_pos (by omega), if_pos (by omega), if_pos (by omega), rd_lt a ha, rd_lt b hb2, if_neg h]
theorem laws_eqIntS_ev (a b : List Int) (hb : a.length ≤ 281474976710656) : Ev (fun k => laws_eqIntS.f k a b) (decide (a = b)) := by
  simp only [laws_eqIntS.f]
  by_cases h : a.length = b.length
  · refine ev_pos (by omega) ?_
    have := laws_eqIntS_l0 a b h hb a.length 0 (by omega)
    simpa using this
  · refine ev_neg (by omega) ?_
    have : ¬ a = b := fun e => h (by rw [e])
    rw [decide_eq_false this]
    exact Ev.now _
/-- The marks k, k + 1, .. -/
def imarks (k : Int) : Nat → List Int
  | 0 => []
  | n + 1 => k :: imarks (k + 1) n
theorem imarks_length (k : Int) (n : Nat) : (imarks k n).length = n := by
  induction n generalizing k with
  | zero => rfl
  | succ n ih => simp [imarks, ih]
theorem imarks_get (n : Nat) : ∀ (k : Int) (i : Nat) (h : i < (imarks k n).length), (imarks k n)[i] = k + i := by
  induction n with
  | zero => intro k i h; simp [imarks] at h
  | succ n ih =>
    intro k i h
    cases i with
    | zero => simp [imarks]
    | succ i =>
      have := ih (k + 1) i (by simp [imarks_length] at h ⊢; omega)
      simp only [imarks, List.getElem_cons_succ, this]
      omega
theorem laws_markIntS_l0 (n : Nat) (hn : n ≤ 281474976710656) : ∀ (d i : Nat) (x : List Int) (k0 : Int), i + d = n → x.length = n → 0 ≤ k0 → k0 + d ≤ 4611686018427387904 → Ev (fun k => laws_markIntS.l0 k x k0 (i : Int)) (k0 + d, x.take i ++ imarks k0 d) := by
  intro d
  induction d with
  | zero =>
    intro i x k0 hi hx h0 h1
    refine ev_eq (ev_end (r := (k0, x)) (fun k => ?_)) ?_
    · simp only [laws_markIntS.l0]
      rw [if_neg (by omega)]
    · rw [List.take_of_length_le (by omega)]
      simp [imarks]
  | succ d ih =>
    intro i x k0 hi hx h0 h1
    refine ev_eq (Ev.step (fun k => ?_) (ih (i + 1) (x.set i k0) (k0 + 1) (by omega) (by simpa using hx) (by omega) (by omega))) ?_
    · simp only [laws_markIntS.l0]
      rw [if_pos (by omega), if_pos (by omega), Int.toNat_natCast, wid (n := k0 + 1) (by omega) (by omega), wsucc (by omega)]
    · refine Prod.ext ?_ ?_
      · simp; omega
      · show (x.set i k0).take (i + 1) ++ imarks (k0 + 1) d = x.take i ++ imarks k0 (d + 1)
        rw [List.take_succ_eq_append_getElem (by simp; omega)]
        simp [imarks, List.take_set]
        exact List.set_eq_of_length_le (by rw [List.length_take]; omega)
theorem laws_markIntS_ev (x : List Int) (k0 : Int) (hn : x.length ≤ 281474976710656) (h0 : 0 ≤ k0) (h1 : k0 + x.length ≤ 4611686018427387904) : Ev (fun k => laws_markIntS.f k x k0) (k0 + x.length, imarks k0 x.length) := by
  simp only [laws_markIntS.f]
  have := laws_markIntS_l0 x.length hn x.length 0 x k0 (by omega) rfl h0 h1
  simpa using this
theorem laws_heldIntS_l0 (k1 : Int) (n : Nat) (hn : n ≤ 281474976710656) (h0 : 0 ≤ k1) (h1 : k1 + n ≤ 4611686018427387904) : ∀ (d i : Nat), i + d = n → Ev (fun k => laws_heldIntS.l0 k (imarks k1 n) (k1 + i) (i : Int)) (k1 + n) := by
  intro d
  induction d with
  | zero =>
    intro i hi
    refine ev_eq (ev_end (r := k1 + i) (fun k => ?_)) (by omega)
    simp only [laws_heldIntS.l0]
    rw [imarks_length, if_neg (by omega)]
  | succ d ih =>
    intro i hi
    refine Ev.step (fun k => ?_) (ih (i + 1) (by omega))
    simp only [laws_heldIntS.l0]
    rw [imarks_length, if_pos (by omega), if_pos (by omega), rd_lt _ (by rw [imarks_length]; omega), imarks_get, if_pos rfl, wid (n := k1 + i + 1) (by omega) (by omega), wsucc (by omega)]
    congr 1
    omega
theorem laws_heldIntS_ev (k1 : Int) (n : Nat) (hn : n ≤ 281474976710656) (h0 : 0 ≤ k1) (h1 : k1 + n ≤ 4611686018427387904) : Ev (fun k => laws_heldIntS.f k (imarks k1 n) k1) (k1 + n) := by
  simp only [laws_heldIntS.f]
  have := laws_heldIntS_l0 k1 n hn h0 h1 n 0 (by omega)
  simpa using this
theorem runF_length (num den add b : Int) : ∀ (l : List Int) (L C M K : Int) (out : List Int), (impl_changed.runF num den add b l L C M K out).1.length ≤ out.length + l.length
  | [], L, C, M, K, out => by simp [impl_changed.runF]
  | n :: l, L, C, M, K, out => by
    have ih := fun L C M K out => runF_length num den add b l L C M K out
    rw [impl_changed.runF]
    have z : ([] : List Int).length ≤ out.length + (n :: l).length := Nat.zero_le _
    have s : ∀ L C M K x, (impl_changed.runF num den add b l L C M K (out ++ [x])).1.length ≤ out.length + (n :: l).length := fun L C M K x => by
      have := ih L C M K (out ++ [x])
      simp only [List.length_append, List.length_cons, List.length_nil] at this ⊢
      omega
    split
    · split
      · split
        · exact s _ _ _ _ _
        · exact z
      · split
        · split
          · exact s _ _ _ _ _
          · exact z
        · exact z
    · exact z
theorem chF_length (num den add b : Int) (l : List Int) : (impl_changed.chF num den add b l).1.length ≤ 40 := by
  unfold impl_changed.chF
  split
  · split
    · split
      · rename_i h
        have := runF_length num den add b l 0 0 0 0 []
        simp only [List.length_nil] at this
        omega
      · exact Nat.zero_le _
    · exact Nat.zero_le _
  · exact Nat.zero_le _
theorem FnExactShrinkCaps : laws_FnExactShrinkCaps.Pure := by
  intro num den add b l _ _ _ _ hl
  refine Ev.rounds ?_
  simp only [laws_FnExactShrinkCaps.f]
  by_cases h : (l.length : Int) > 1048576
  · exact ev_pos h (Ev.now _)
  refine ev_neg h ?_
  have t := laws_toIntS_ev l (by omega)
  obtain ⟨m, w, L', C', hs⟩ := spec_l4Shrink_ev num den add b l hl.2
  have fl := chF_length num den add b l
  have sp : Ev (fun k => spec_ShrinkCaps.f k num den add b l) ((impl_changed.chF num den add b l).1, (impl_changed.chF num den add b l).2.2) := by
    simp only [spec_ShrinkCaps.f]
    exact ev_bind hs (Ev.now _)
  have im : impl_ShrinkCaps.f num den add b l = some ((impl_changed.chF num den add b l).1, (impl_changed.chF num den add b l).2.2) := rfl
  have eq : Ev (fun k => laws_eqIntS.f k l l) true := ev_eq (laws_eqIntS_ev l l (by omega)) (by simp)
  generalize (impl_changed.chF num den add b l).1 = g at *
  generalize (impl_changed.chF num den add b l).2.2 = z at *
  have eg : Ev (fun k => laws_eqIntS.f k g g) true := ev_eq (laws_eqIntS_ev g g (by omega)) (by simp)
  have ml := laws_markIntS_ev l 1 (by omega) (by omega) (by omega)
  have mg := laws_markIntS_ev g 1 (by omega) (by omega) (by omega)
  have he := laws_heldIntS_ev 1 g.length (by omega) (by omega) (by omega)
  have bb : ¬ (z != z) = true := by simp
  refine ev_some ?_
  refine ev_bind t ?_
  refine ev_bind sp ?_
  refine ev_bind t ?_
  refine ev_some ?_
  refine ev_bind (ev_now (fun _ => im)) ?_
  refine ev_bind eg ?_
  refine ev_pos rfl ?_
  refine ev_neg bb ?_
  refine ev_bind t ?_
  refine ev_bind eq ?_
  refine ev_pos rfl ?_
  refine ev_bind ml ?_
  refine ev_neg (by simp only []; omega) ?_
  refine ev_bind eg ?_
  refine ev_pos rfl ?_
  refine ev_bind mg ?_
  refine ev_bind he ?_
  refine ev_neg (by omega) ?_
  refine ev_pos rfl ?_
  refine ev_some ?_
  refine ev_bind t ?_
  refine ev_bind (ev_now (fun _ => im)) ?_
  refine ev_bind eg ?_
  refine ev_pos rfl ?_
  refine ev_neg bb ?_
  refine ev_bind he ?_
  refine ev_neg (by omega) ?_
  exact ev_pos rfl (Ev.now _)
end Go.Proofs.Ytdojnaghcfhadaa.Pure
