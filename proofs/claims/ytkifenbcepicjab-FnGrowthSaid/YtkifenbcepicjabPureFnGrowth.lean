/- What is proved here: the plain statement of the law FnGrowth, over numbers and lists. No condition beyond those that it states. -/
import Derived.Test.YtkifenbcepicjabQFnGrowth
import Derived.Test.YtkifenbcepicjabTk
namespace Go.Proofs.Ytkifenbcepicjab.Pure
open Go.RowKit Go.Proofs.Ytkifenbcepicjab.PFnGrowth Go.Proofs.YtkifenbcepicjabW.PrintWords Go.Proofs.YtkifenbcepicjabW.PrintMore Go.Proofs.Ytkifenbcepicjab.Tk Go.Proofs.Ytkifenbcepicjab.Opn
set_option linter.unusedVariables false
set_option linter.unusedSimpArgs false
def Sizes (m : List (List Int)) : Prop := ∀ a ∈ m, 1 ≤ a.length ∧ a.length ≤ 64
instance (m : List (List Int)) : Decidable (Sizes m) := by unfold Sizes; exact inferInstance
theorem Sizes.nil : Sizes [] := fun a ha => by simp at ha
theorem Sizes.cons {a : List Int} {m : List (List Int)} (h : (1 : Int) ≤ (a.length : Int) ∧ (a.length : Int) ≤ 64) (k : Sizes m) : Sizes (a :: m) := fun b hb => by
 rcases List.mem_cons.1 hb with rfl | hb
 ·omega
 ·exact k b hb
theorem Sizes.head {a : List Int} {m : List (List Int)} (k : Sizes (a :: m)) : (1 : Int) ≤ (a.length : Int) ∧ (a.length : Int) ≤ 64 := by
 have := k a List.mem_cons_self
 omega
theorem Sizes.tail {a : List Int} {m : List (List Int)} (k : Sizes (a :: m)) : Sizes m := fun b hb => k b (List.mem_cons_of_mem _ hb)
def MemOK (m : List (List Int)) : Prop := m.length ≤ 16 ∧ Sizes m
instance (m : List (List Int)) : Decidable (MemOK m) := by unfold MemOK; exact inferInstance
def arr_ (m : List (List Int)) (a : Int) : List Int := m.getD a.toNat []
def WinOK (m : List (List Int)) (a s l c : Int) : Prop := MemOK m ∧ 0 ≤ a ∧ a < (m.length : Int) ∧ 0 ≤ s ∧ 0 ≤ l ∧ l ≤ c ∧ s + c ≤ ((arr_ m a).length : Int)
instance (m : List (List Int)) (a s l c : Int) : Decidable (WinOK m a s l c) := by unfold WinOK; exact inferInstance
def Small (m : List (List Int)) : Prop := m.length ≤ 1048576 ∧ ∀ a ∈ m, a.length ≤ 1048576
theorem arr_mem {m : List (List Int)} {a : Int} (h0 : 0 ≤ a) (h1 : a < (m.length : Int)) : arr_ m a ∈ m := by
 unfold arr_
 rw [getD_lt m [] (by omega : a.toNat < m.length)]
 exact List.getElem_mem _
theorem arr_size {m : List (List Int)} (hm : MemOK m) {a : Int} (h0 : 0 ≤ a) (h1 : a < (m.length : Int)) : 1 ≤ (arr_ m a).length ∧ (arr_ m a).length ≤ 64 := hm.2 _ (arr_mem h0 h1)
theorem MemOK.small {m : List (List Int)} (hm : MemOK m) : Small m := ⟨by have := hm.1; omega, fun a ha => by have := hm.2 a ha; omega⟩
theorem WinOK.bounds {m : List (List Int)} {a s l c : Int} (h : WinOK m a s l c) : MemOK m ∧ 0 ≤ a ∧ a < 16 ∧ a < (m.length : Int) ∧ 0 ≤ s ∧ s ≤ 64 ∧ 0 ≤ l ∧ l ≤ c ∧ c ≤ 64 ∧ s + c ≤ ((arr_ m a).length : Int) ∧ ((arr_ m a).length : Int) ≤ 64 := by
 obtain ⟨hm, h0, h1, h2, h3, h4, h5⟩ := h
 have := arr_size hm h0 h1
 have := hm.1
 refine ⟨hm, h0, by omega, h1, h2, by omega, h3, h4, by omega, h5, by omega⟩
theorem dec_false {p : Prop} [Decidable p] (h : ¬ p) : some false = some (decide p) := by rw [decide_eq_false h]
theorem spec_l1In_eq (a b c : Int) : spec_l1In.f a b c = some (decide (b ≤ a ∧ a ≤ c)) := by
 unfold spec_l1In.f
 by_cases h : a ≥ b
 ·rw [if_pos h]
  congr 1
  exact decide_eq_decide.mpr ⟨fun x => ⟨h, x⟩, fun x => x.2⟩
 ·rw [if_neg h]
  exact dec_false (fun x => h x.1)
theorem spec_l1Most_eq (a b : Int) : spec_l1Most.f a b = some (if a < b then b else a) := by
 unfold spec_l1Most.f
 by_cases h : a > b
 ·rw [if_pos h, if_neg (by omega)]
 ·rw [if_neg h]
  by_cases h2 : a < b
  ·rw [if_pos h2]
  ·rw [if_neg h2]
   congr 1
   omega
theorem spec_l4Size_eq (n : Int) : spec_l4Size.f n = some (decide (0 ≤ n) && decide (n ≤ 1000000)) := by
 unfold spec_l4Size.f
 rw [spec_l1In_eq, ← Bool.decide_and]
 rfl
theorem spec_l4Rule_eq (num den add : Int) : spec_l4Rule.f num den add = some (impl_store_grow.ruleB num den add) := by
 unfold spec_l4Rule.f
 rw [spec_l1In_eq]
 simp only [Option.bind_some]
 by_cases h1 : 1 ≤ den ∧ den ≤ 8
 ·rw [if_pos (decide_eq_true h1), spec_l1In_eq]
  simp only [Option.bind_some]
  by_cases h2 : den ≤ num ∧ num ≤ 8
  ·rw [if_pos (decide_eq_true h2), spec_l1In_eq]
   simp only [Option.bind_some]
   congr 1
   rw [Bool.eq_iff_iff]
   simp only [impl_store_grow.ruleB, Bool.and_eq_true, decide_eq_true_eq, Bool.false_eq_true]
   omega
  ·rw [if_neg (by rw [decide_eq_false h2]; decide)]
   refine congrArg some (Eq.symm (Bool.eq_false_iff.2 fun h => ?_))
   simp only [impl_store_grow.ruleB, Bool.and_eq_true, decide_eq_true_eq] at h
   omega
 ·rw [if_neg (by rw [decide_eq_false h1]; decide)]
  refine congrArg some (Eq.symm (Bool.eq_false_iff.2 fun h => ?_))
  simp only [impl_store_grow.ruleB, Bool.and_eq_true, decide_eq_true_eq] at h
  omega
theorem spec_l4Next_eq {num den add L C n : Int} (hr : impl_store_grow.ruleB num den add = true) (h1 : 0 ≤ L) (h2 : L ≤ C) (h3 : C ≤ 1000000) (hn0 : 0 ≤ n) (hn1 : n ≤ 1000000) :
  spec_l4Next.f num den add L C n = some (if L + n > C then impl_store_grow.capF num den add L C n else C) := by
 obtain ⟨r1, r2, r3, r4, r5, r6⟩ := impl_store_grow.rule_of hr
 unfold spec_l4Next.f
 rw [wid (n := L + n) (by omega) (by omega)]
 by_cases h : L + n ≤ C
 ·rw [if_pos h, if_neg (by omega)]
 ·have hp0 : 0 ≤ C * num := Int.mul_nonneg (by omega) (by omega)
  have hp1 : C * num ≤ 8000000 := by
   have h1 : C * num ≤ 1000000 * num := Int.mul_le_mul_of_nonneg_right h3 (by omega)
   omega
  have hq0 : 0 ≤ C * num / den := Int.ediv_nonneg hp0 (by omega)
  have hq1 : C * num / den ≤ 8000000 := Int.le_trans (Int.ediv_le_self _ hp0) hp1
  rw [if_neg h, if_neg (by omega), wid (n := C * num) (by omega) (by omega), Int.tdiv_eq_ediv_of_nonneg hp0, wid (n := C * num / den) (by omega) (by omega), wid (n := C * num / den + add) (by omega) (by omega), wid (n := C + 1) (by omega) (by omega), spec_l1Most_eq]
  simp only [Option.bind_some]
  rw [spec_l1Most_eq, if_pos (show L + n > C by omega)]
  rfl
theorem capF_ge (num den add L C n : Int) : L + n ≤ impl_store_grow.capF num den add L C n ∧ C + 1 ≤ impl_store_grow.capF num den add L C n := by
 unfold impl_store_grow.capF
 split <;> split at * <;> omega
theorem spec_l4Do_over {num den add L C M K n s : Int} (hr : impl_store_grow.ruleB num den add = true) (h1 : 0 ≤ L) (h2 : L ≤ C) (h3 : C ≤ 1000000) (h4 : 0 ≤ K) (h5 : K ≤ 1000000000000) (hn0 : 0 ≤ n) (hg : ¬ (n ≤ 1000000 ∧ (impl_store_grow.growF num den add L C M K n).1 = true)) (l : List Int) (Ms W : Int) :
  ∃ t : List Int × Int × Int × Int × Int × Int × Bool, Ev (fun k => spec_l4Do.f k num den add s l Ms K W L C n) t ∧ t.2.2.2.2.2.2 = false := by
 by_cases hn1 : n ≤ 1000000
 ·have hgf : (impl_store_grow.growF num den add L C M K n).1 = false := by
   cases h : (impl_store_grow.growF num den add L C M K n).1 with
   | false => rfl
   | true => exact absurd ⟨hn1, h⟩ hg
  have h : L + n > C := by
   rcases Int.lt_or_le C (L + n) with h | h
   ·exact h
   ·unfold impl_store_grow.growF at hgf
    rw [if_neg (by omega), decide_eq_true (show 0 ≤ C by omega), decide_eq_true h3] at hgf
    exact absurd hgf (by simp)
  have hc : (decide (0 ≤ impl_store_grow.capF num den add L C n) && decide (impl_store_grow.capF num den add L C n ≤ 1000000)) = false := by
   unfold impl_store_grow.growF at hgf
   rw [if_pos h] at hgf
   exact hgf
  by_cases hL : L + n ≤ 1000000
  ·refine ⟨(l, wrap64 (Ms + 1), wrap64 (wrap64 (K + L) + n), (if W < wrap64 (impl_store_grow.capF num den add L C n - wrap64 (L + n)) then wrap64 (impl_store_grow.capF num den add L C n - wrap64 (L + n)) else W), wrap64 (L + n), impl_store_grow.capF num den add L C n, false), ?_, rfl⟩
   simp only [spec_l4Do.f]
   refine ev_pos (by omega) ?_
   rw [spec_l4Size_eq, decide_eq_true hn0, decide_eq_true hn1]
   refine ev_some (ev_pos (by simp) ?_)
   rw [wid (n := L + n) (by omega) (by omega), spec_l4Size_eq, decide_eq_true (show 0 ≤ L + n by omega), decide_eq_true hL]
   refine ev_some (ev_succ ?_)
   simp only [spec_l4Do.j0]
   refine ev_neg (by decide) ?_
   have hcc := capF_ge num den add L C n
   rw [spec_l4Next_eq hr h1 h2 h3 hn0 hn1, if_pos h]
   refine ev_some (ev_pos (by omega) ?_)
   rw [spec_l1Most_eq]
   refine ev_some ?_
   rw [spec_l4Size_eq, hc, wid (n := L + n) (by omega) (by omega)]
   exact Ev.now _
  ·refine ⟨(l, Ms, K, W, L, C, false), ?_, rfl⟩
   simp only [spec_l4Do.f]
   refine ev_pos (by omega) ?_
   rw [spec_l4Size_eq, decide_eq_true hn0, decide_eq_true hn1]
   refine ev_some (ev_pos (by simp) ?_)
   rw [wid (n := L + n) (by omega) (by omega), spec_l4Size_eq, decide_eq_false hL, Bool.and_false]
   refine ev_some (ev_succ ?_)
   simp only [spec_l4Do.j0]
   exact ev_pos (by simp) (Ev.now _)
 ·refine ⟨(l, Ms, K, W, L, C, false), ?_, rfl⟩
  simp only [spec_l4Do.f]
  refine ev_pos (by omega) ?_
  rw [spec_l4Size_eq, decide_eq_false hn1, Bool.and_false]
  refine ev_some (ev_neg (by decide) (ev_succ ?_))
  simp only [spec_l4Do.j0]
  exact ev_pos (by simp) (Ev.now _)
theorem spec_l1Own_eq (l : List Int) (hl : l.length < 17592186044416) : spec_l1Own.f l = some l := by
 unfold spec_l1Own.f
 simp only [Option.bind_some]
 rw [if_pos (by simpa using hl), List.nil_append]
theorem step_facts {num den add L C M K n x : Int} (hs : impl_store_grow.Ok (L, C, M, K) x) (hg : (impl_store_grow.stepF num den add (L, C, M, K) n).1 = true) :
  ∃ C' M' K', impl_store_grow.stepF num den add (L, C, M, K) n = (true, L + n, C', M', K') ∧ (0 ≤ n ∧ n ≤ 1000000) ∧ (impl_store_grow.growF num den add L C M K n).1 = true ∧ L + n ≤ C' ∧ C' ≤ 1000000 ∧ ((L + n > C ∧ C' = impl_store_grow.capF num den add L C n ∧ C < C' ∧ M' = M + 1 ∧ K' = K + n + L) ∨ (¬ L + n > C ∧ C' = C ∧ M' = M ∧ K' = K + n)) := by
 have h1 := hs.l0
 have h2 := hs.lc
 have h3 := hs.c1
 dsimp only at h1 h2 h3
 unfold impl_store_grow.stepF at hg ⊢
 by_cases hn : 0 ≤ n ∧ n ≤ 1000000
 ·rw [if_pos hn] at hg ⊢
  dsimp only at hg ⊢
  have hgg := hg
  unfold impl_store_grow.growF at hg ⊢
  by_cases h : L + n > C
  ·rw [if_pos h] at hg ⊢
   have hcc := capF_ge num den add L C n
   have hg2 := hg
   simp only [Bool.and_eq_true, decide_eq_true_eq] at hg2
   exact ⟨_, _, _, by rw [show (decide (0 ≤ impl_store_grow.capF num den add L C n) && decide (impl_store_grow.capF num den add L C n ≤ 1000000)) = true from hg], hn, hg, hcc.1, hg2.2, .inl ⟨h, rfl, by omega, rfl, rfl⟩⟩
  ·rw [if_neg h] at hg ⊢
   exact ⟨_, _, _, by rw [show (decide (0 ≤ C) && decide (C ≤ 1000000)) = true from hg], hn, hg, by omega, h3, .inr ⟨h, rfl, rfl, rfl⟩⟩
 ·rw [if_neg hn] at hg; cases hg
theorem gDo_ok {num den add L C M K n x C' M' K' : Int} (hr : impl_store_grow.ruleB num den add = true) (hs : impl_store_grow.Ok (L, C, M, K) x) (hx : x ≤ 300000) (hst : impl_store_grow.stepF num den add (L, C, M, K) n = (true, L + n, C', M', K')) (l : List Int) (W : Int) :
  Ev (fun k => spec_l4Do.f k num den add 0 l M K W L C n) (l, M', K', (if W < C' - (L + n) then C' - (L + n) else W), L + n, C', true) := by
 obtain ⟨C2, M2, K2, hst2, ⟨hn0, hn1⟩, hgr, hlc, hc1, hcase⟩ := step_facts (num := num) (den := den) (add := add) (n := n) hs (by rw [hst])
 rw [hst] at hst2
 simp only [Prod.mk.injEq, true_and] at hst2
 obtain ⟨rfl, rfl, rfl⟩ := hst2
 have h1 := hs.l0
 have h2 := hs.lc
 have h3 := hs.c1
 have h4 := hs.k0
 have h5 := hs.k1
 have h6 := hs.m0
 have h7 := hs.m1
 dsimp only at h1 h2 h3 h4 h5 h6 h7
 have hL : L + n ≤ 1000000 := by omega
 rcases hcase with ⟨h, hcap, hlt, rfl, rfl⟩ | ⟨h, rfl, rfl, rfl⟩
 ·simp only [spec_l4Do.f]
  refine ev_pos (by omega) ?_
  rw [spec_l4Size_eq, decide_eq_true hn0, decide_eq_true hn1]
  refine ev_some (ev_pos (by simp) ?_)
  rw [wid (n := L + n) (by omega) (by omega), spec_l4Size_eq, decide_eq_true (show 0 ≤ L + n by omega), decide_eq_true hL]
  refine ev_some (ev_succ ?_)
  simp only [spec_l4Do.j0]
  refine ev_neg (by decide) ?_
  rw [spec_l4Next_eq hr h1 h2 h3 hn0 hn1, if_pos h, ← hcap]
  refine ev_some (ev_pos (by omega) ?_)
  rw [spec_l1Most_eq]
  refine ev_some ?_
  rw [spec_l4Size_eq]
  refine ev_some ?_
  rw [wid (n := K + L) (by omega) (by omega), wid (n := L + n) (by omega) (by omega), wid (n := K + L + n) (by omega) (by omega), wid (n := M + 1) (by omega) (by omega), wid (n := C' - (L + n)) (by omega) (by omega)]
  rw [show K + L + n = K + n + L by omega, decide_eq_true (show 0 ≤ C' by omega), decide_eq_true hc1]
  exact Ev.now _
 ·simp only [spec_l4Do.f]
  refine ev_pos (by omega) ?_
  rw [spec_l4Size_eq, decide_eq_true hn0, decide_eq_true hn1]
  refine ev_some (ev_pos (by simp) ?_)
  rw [wid (n := L + n) (by omega) (by omega), spec_l4Size_eq, decide_eq_true (show 0 ≤ L + n by omega), decide_eq_true hL]
  refine ev_some (ev_succ ?_)
  simp only [spec_l4Do.j0]
  refine ev_neg (by decide) ?_
  rw [spec_l4Next_eq hr h1 h2 h3 hn0 hn1, if_neg h]
  refine ev_some (ev_neg (by omega) ?_)
  rw [spec_l1Most_eq]
  refine ev_some ?_
  rw [spec_l4Size_eq]
  refine ev_some ?_
  rw [wid (n := L + n) (by omega) (by omega), wid (n := K + n) (by omega) (by omega), wid (n := C' - (L + n)) (by omega) (by omega), decide_eq_true (show 0 ≤ C' by omega), decide_eq_true h3]
  exact Ev.now _
theorem gDo_bad {num den add L C M K n x : Int} (hr : impl_store_grow.ruleB num den add = true) (hs : impl_store_grow.Ok (L, C, M, K) x) (hx : x ≤ 300000) (hst : ¬ (impl_store_grow.stepF num den add (L, C, M, K) n).1 = true) (l : List Int) (W : Int) :
  ∃ t : List Int × Int × Int × Int × Int × Int × Bool, Ev (fun k => spec_l4Do.f k num den add 0 l M K W L C n) t ∧ t.2.2.2.2.2.2 = false := by
 have h5 := hs.k1
 dsimp only at h5
 by_cases hn : 0 ≤ n
 ·refine spec_l4Do_over (M := M) hr hs.l0 hs.lc hs.c1 hs.k0 (by dsimp only; omega) hn (fun hh => hst ?_) l M W
  unfold impl_store_grow.stepF
  rw [if_pos ⟨hn, hh.1⟩]
  exact hh.2
 ·refine ⟨(l, M, K, W, L, C, false), ?_, rfl⟩
  simp only [spec_l4Do.f]
  refine ev_neg (by omega) (ev_pos (by simp) (ev_succ ?_))
  simp only [spec_l4Do.j1]
  exact ev_pos (by simp) (Ev.now _)
def foldW (W : Int) (ys : List (Int × Int × Int × Int)) : Int := ys.foldl (fun m s => if m < s.2.1 - s.1 then s.2.1 - s.1 else m) W
def runV (W : Int) (out : List Int) (s : Int × Int × Int × Int) (o : Option (List (Int × Int × Int × Int))) : List Int × Int × Int × Int × Int × Int × Bool := match o with
 | some ys => (out ++ ys.map (fun s => s.2.1), (ys.getLastD s).2.2.1, (ys.getLastD s).2.2.2, foldW W ys, (ys.getLastD s).1, (ys.getLastD s).2.1, true)
 | none => ([], 0, 0, 0, 0, 0, false)
theorem gAll_l0 {num den add : Int} (hr : impl_store_grow.ruleB num den add = true) (l2 : List Int) (h40 : l2.length ≤ 40) : ∀ (d i : Nat) (s : Int × Int × Int × Int) (W : Int) (out : List Int), i + d = l2.length → impl_store_grow.Ok s i → out.length = i →
  Ev (fun k => spec_l4All.l0 k 0 l2 (i : Int) num den add out s.2.2.1 s.2.2.2 W s.1 s.2.1) (runV W out s (impl_appends.visF num den add (l2.drop i) s)) := by
 intro d
 induction d with
 | zero =>
  intro i s W out hi hs ho
  rw [List.drop_eq_nil_of_le (by omega)]
  refine ev_end (fun k => ?_)
  simp only [spec_l4All.l0]
  rw [if_neg (by omega)]
  simp [impl_appends.visF, runV, foldW]
 | succ d ih =>
  intro i s W out hi hs ho
  have hlt : i < l2.length := by omega
  rw [List.drop_eq_getElem_cons hlt, impl_appends.visF]
  have hrd : rd l2 (i : Int) = l2[i] := rd_lt l2 hlt
  generalize l2[i] = n at *
  obtain ⟨L, C, M, K⟩ := s
  by_cases hst : (impl_store_grow.stepF num den add (L, C, M, K) n).1 = true
  ·rw [if_pos hst]
   obtain ⟨C', M', K', h0, _, _, _, _, _⟩ := step_facts hs hst
   have hok := impl_store_grow.ok_step hst hs
   rw [h0] at hok ⊢
   dsimp only at hok ⊢
   have h := ih (i + 1) (L + n, C', M', K') (if W < C' - (L + n) then C' - (L + n) else W) (out ++ [C']) (by omega) (by rw [show ((i + 1 : Nat) : Int) = (i : Int) + 1 by omega]; exact hok) (by simp; omega)
   refine ev_succ ?_
   simp only [spec_l4All.l0]
   refine ev_pos (by omega) (ev_pos (by omega) ?_)
   rw [hrd]
   refine ev_bind (gDo_ok hr hs (by omega) h0 out W) (ev_pos (by simp) ?_)
   rw [spec_l1Own_eq out (by omega)]
   simp only [Option.bind_some]
   refine ev_pos (by simp; omega) ?_
   rw [wsucc (by omega)]
   refine ev_eq h ?_
   cases impl_appends.visF num den add (l2.drop (i + 1)) (L + n, C', M', K') with
   | none => rfl
   | some ys =>
    simp only [runV, foldW, Option.map_some, List.map_cons, List.foldl_cons, List.getLastD_cons, List.append_assoc, List.singleton_append]
  ·rw [if_neg hst]
   obtain ⟨t, ht, hf⟩ := gDo_bad (x := (i : Int)) hr hs (by omega) hst out W
   refine ev_succ ?_
   simp only [spec_l4All.l0]
   refine ev_pos (by omega) (ev_pos (by omega) ?_)
   rw [hrd]
   exact ev_bind ht (ev_neg (by rw [hf]; decide) (Ev.now _))
theorem ok_zero : impl_store_grow.Ok (0, 0, 0, 0) ((0 : Nat) : Int) := ⟨by decide, by decide, by decide, by decide, by decide, by decide, by decide⟩
theorem gAll_ev (num den add : Int) (l2 : List Int) : Ev (fun k => spec_l4All.f k num den add 0 l2) (runV 0 [] (0, 0, 0, 0) (impl_appends.allF num den add l2)) := by
 unfold impl_appends.allF
 simp only [spec_l4All.f, Option.bind_some]
 rw [spec_l4Rule_eq]
 by_cases hru : impl_store_grow.ruleB num den add = true
 ·rw [if_pos hru, hru]
  refine ev_some (ev_pos (by simp) (ev_succ ?_))
  simp only [spec_l4All.j0]
  by_cases h40 : l2.length ≤ 40
  ·rw [if_pos h40]
   exact ev_neg (by rw [decide_eq_false (by omega)]; decide) (gAll_l0 hru l2 h40 l2.length 0 (0, 0, 0, 0) 0 [] (by omega) ok_zero rfl)
  ·rw [if_neg h40]
   exact ev_pos (decide_eq_true (by omega)) (Ev.now _)
 ·rw [if_neg hru, Bool.eq_false_iff.2 hru]
  refine ev_some (ev_neg (by decide) (ev_succ ?_))
  simp only [spec_l4All.j0]
  exact ev_pos (by simp) (Ev.now _)
theorem impl_within_eq (a b c : Int) : impl_within.f a b c = some (decide (b ≤ a ∧ a ≤ c)) := by
 unfold impl_within.f
 by_cases h : a ≥ b
 ·rw [if_pos h]
  congr 1
  exact decide_eq_decide.mpr ⟨fun x => ⟨h, x⟩, fun x => x.2⟩
 ·rw [if_neg h]
  exact dec_false (fun x => h x.1)
theorem gSin_l0 {num den add : Int} (hr : impl_store_grow.ruleB num den add = true) (n : Nat) (hn : n ≤ 2000) : ∀ (d i : Nat) (s : Int × Int × Int × Int) (W : Int), i + d = n → impl_store_grow.Ok s i → s.1 = (i : Int) → s.2.1 ≤ 16100 →
  ∃ W', Ev (fun k => spec_l4Singles.l0 k (n : Int) (i : Int) num den add [] s.2.2.1 s.2.2.2 W s.1 s.2.1) ([], (impl_singles.sinF num den add d s).2.2.1, (impl_singles.sinF num den add d s).2.2.2, W', (impl_singles.sinF num den add d s).1, (impl_singles.sinF num den add d s).2.1, true) := by
 intro d
 induction d with
 | zero =>
  intro i s W hi hs hl hc
  refine ⟨W, ev_end (fun k => ?_)⟩
  simp only [spec_l4Singles.l0]
  rw [if_neg (by omega)]
  rfl
 | succ d ih =>
  intro i s W hi hs hl hc
  have ho := impl_singles.one hr hl (by omega) hs.lc hc
  obtain ⟨L, C, M, K⟩ := s
  obtain ⟨C', M', K', h0, _, _, _, _, _⟩ := step_facts hs ho.1
  have hok := impl_store_grow.ok_step ho.1 hs
  rw [h0] at hok ho
  dsimp only at hok ho
  obtain ⟨W', h⟩ := ih (i + 1) (L + 1, C', M', K') (if W < C' - (L + 1) then C' - (L + 1) else W) (by omega) (by rw [show ((i + 1 : Nat) : Int) = (i : Int) + 1 by omega]; exact hok) ho.2.1 ho.2.2
  refine ⟨W', ev_succ ?_⟩
  simp only [spec_l4Singles.l0]
  refine ev_pos (by omega) ?_
  refine ev_bind (gDo_ok hr hs (by omega) h0 [] W) (ev_pos (by simp) ?_)
  rw [wsucc (by omega), impl_singles.sinF, h0]
  exact h
theorem gSin_ev (num den add k1 : Int) : ∃ W' L' C' : Int, Ev (fun k => spec_l4Singles.f k num den add k1) ([], ((impl_singles.allF num den add k1).getD (0, 0, 0, 0)).2.2.1, ((impl_singles.allF num den add k1).getD (0, 0, 0, 0)).2.2.2, W', L', C', (impl_singles.allF num den add k1).isSome) := by
 unfold impl_singles.allF
 simp only [spec_l4Singles.f]
 rw [spec_l4Rule_eq]
 by_cases hru : impl_store_grow.ruleB num den add = true
 ·rw [if_pos hru, hru, spec_l1In_eq]
  by_cases hk : 0 ≤ k1 ∧ k1 ≤ 2000
  ·rw [if_pos hk, decide_eq_true hk]
   obtain ⟨n, rfl⟩ := Int.eq_ofNat_of_zero_le hk.1
   obtain ⟨W', h⟩ := gSin_l0 hru n (by omega) n 0 (0, 0, 0, 0) 0 (by omega) ok_zero rfl (by decide)
   rw [Int.toNat_natCast]
   refine ⟨W', (impl_singles.sinF num den add n (0, 0, 0, 0)).1, (impl_singles.sinF num den add n (0, 0, 0, 0)).2.1, ev_some (ev_pos (by simp) (ev_some (ev_succ ?_)))⟩
   simp only [spec_l4Singles.j0]
   exact ev_neg (by simp) h
  ·rw [if_neg hk, decide_eq_false hk]
   refine ⟨0, 0, 0, ev_some (ev_pos (by simp) (ev_some (ev_succ ?_)))⟩
   simp only [spec_l4Singles.j0]
   exact ev_pos (by simp) (Ev.now _)
 ·rw [if_neg hru, Bool.eq_false_iff.2 hru]
  refine ⟨0, 0, 0, ev_some (ev_neg (by decide) (ev_succ ?_))⟩
  simp only [spec_l4Singles.j0]
  exact ev_pos (by simp) (Ev.now _)
theorem gSin_cost {num den add : Int} (hr : impl_store_grow.ruleB num den add = true) (n : Nat) (hn : n ≤ 2000) : ∀ (d i : Nat) (s : Int × Int × Int × Int), i + d = n → impl_store_grow.Ok s i → s.1 = (i : Int) → s.2.1 ≤ 16100 → s.1 ≤ s.2.2.2 → (num ≥ 2 * den → s.2.2.2 - s.1 ≤ s.2.1 ∧ s.2.2.2 - s.1 ≤ 2 * s.1) →
  (n : Int) ≤ (impl_singles.sinF num den add d s).2.2.2 ∧ (impl_singles.sinF num den add d s).2.2.1 ≤ (n : Int) ∧ (num ≥ 2 * den → (impl_singles.sinF num den add d s).2.2.2 ≤ 3 * (n : Int)) := by
 intro d
 induction d with
 | zero =>
  intro i s hi hs hl hc hk h2
  have hm := hs.m1
  refine ⟨by show (n : Int) ≤ s.2.2.2; omega, by show s.2.2.1 ≤ (n : Int); omega, fun h => ?_⟩
  have := h2 h
  show s.2.2.2 ≤ 3 * (n : Int)
  omega
 | succ d ih =>
  intro i s hi hs hl hc hk h2
  have ho := impl_singles.one hr hl (by omega) hs.lc hc
  obtain ⟨L, C, M, K⟩ := s
  obtain ⟨C', M', K', h0, _, _, hlc', hc1, hcase⟩ := step_facts hs ho.1
  have hok := impl_store_grow.ok_step ho.1 hs
  have hlc := hs.lc
  rw [impl_singles.sinF, h0]
  rw [h0] at hok ho
  dsimp only at hok ho hl hc hk h2 hlc
  refine ih (i + 1) (L + 1, C', M', K') (by omega) (by rw [show ((i + 1 : Nat) : Int) = (i : Int) + 1 by omega]; exact hok) ho.2.1 ho.2.2 ?_ ?_
  ·dsimp only
   rcases hcase with ⟨_, _, _, _, rfl⟩ | ⟨_, _, _, rfl⟩ <;> omega
  ·intro h
   have h3 := h2 h
   dsimp only
   rcases hcase with ⟨hgt, hcap, _, _, rfl⟩ | ⟨_, rfl, _, rfl⟩
   ·have hCL : C = L := by omega
    obtain ⟨r1, r2, r3, r4, r5, r6⟩ := impl_store_grow.rule_of hr
    have hq : 2 * C ≤ C * num / den := by
     refine Int.le_ediv_of_mul_le (by omega) ?_
     have e : C * (2 * den) ≤ C * num := Int.mul_le_mul_of_nonneg_left h (by omega)
     calc 2 * C * den = C * (2 * den) := by rw [Int.mul_comm 2 C, Int.mul_assoc]
      _ ≤ C * num := e
    have hcc : C * num / den + add ≤ impl_store_grow.capF num den add L C 1 := by
     unfold impl_store_grow.capF
     generalize C * num / den = z
     split <;> split at * <;> omega
    omega
   ·omega
theorem gNext_ev (num den add a1 a2 a3 : Int) : ∃ v ok, impl_NextCap.f num den add a1 a2 a3 = some (v, ok) ∧ Ev (fun k => spec_NextCap.f k num den add a1 a2 a3) (v, ok) ∧ (ok = true → (0 ≤ a1 ∧ a1 ≤ 1000000 ∧ 0 ≤ a2 ∧ a2 ≤ 1000000 ∧ 0 ≤ a3 ∧ a3 ≤ 1000000) ∧ a1 + a3 ≤ v ∧ a1 + a2 ≤ v) := by
 unfold impl_NextCap.f
 simp only [spec_NextCap.f]
 rw [spec_l4Rule_eq]
 have no : ∀ b : Bool, b = true → Ev (fun k => spec_NextCap.j0 k a1 a2 a3 b num den add) (0, false) := fun b hb => by
  refine ev_succ ?_
  simp only [spec_NextCap.j0]
  exact ev_pos hb (Ev.now _)
 by_cases hru : impl_store_grow.ruleB num den add = true
 ·rw [if_pos hru, hru, spec_l4Size_eq]
  by_cases h1 : 0 ≤ a1 ∧ a1 ≤ 1000000
  ·rw [decide_eq_true h1.1, decide_eq_true h1.2]
   by_cases h2 : 0 ≤ a2 ∧ a2 ≤ 1000000 - a1
   ·rw [if_pos ⟨h1, h2⟩]
    have hok : impl_store_grow.Ok (a1, a1 + a2, 0, 0) 0 := ⟨h1.1, by dsimp only; omega, by dsimp only; omega, by dsimp only; omega, by dsimp only; omega, by dsimp only; omega, by dsimp only; omega⟩
    by_cases hst : (impl_store_grow.stepF num den add (a1, a1 + a2, 0, 0) a3).1 = true
    ·rw [if_pos hst]
     obtain ⟨C', M', K', h0, hn, hgf, hlc, hc1, hcase⟩ := step_facts hok hst
     rw [h0]
     refine ⟨_, _, rfl, ?_, fun _ => ⟨by omega, hlc, ?_⟩⟩
     ·refine ev_some (ev_pos (by simp) (ev_some (ev_pos (by simp) ?_)))
      rw [spec_l4Size_eq, decide_eq_true h2.1, decide_eq_true (show a2 ≤ 1000000 by omega)]
      refine ev_some (ev_pos (by simp) ?_)
      rw [spec_l4Size_eq, decide_eq_true hn.1, decide_eq_true hn.2]
      refine ev_some (ev_pos (by simp) ?_)
      rw [wid (n := a1 + a2) (by omega) (by omega), spec_l4Size_eq, decide_eq_true (show 0 ≤ a1 + a2 by omega), decide_eq_true (show a1 + a2 ≤ 1000000 by omega)]
      refine ev_some (ev_pos (by simp) ?_)
      rw [wid (n := a1 + a3) (by omega) (by omega), spec_l4Size_eq, decide_eq_true (show 0 ≤ a1 + a3 by omega), decide_eq_true (show a1 + a3 ≤ 1000000 by omega)]
      refine ev_some (ev_succ ?_)
      simp only [spec_NextCap.j0]
      refine ev_neg (by simp) ?_
      rw [wid (n := a1 + a2) (by omega) (by omega), spec_l4Next_eq hru h1.1 (by omega) (by omega) hn.1 hn.2]
      refine ev_some ?_
      have hv : (if a1 + a3 > a1 + a2 then impl_store_grow.capF num den add a1 (a1 + a2) a3 else a1 + a2) = C' := by
       rcases hcase with ⟨h, hc, _⟩ | ⟨h, hc, _⟩
       ·rw [if_pos h, hc]
       ·rw [if_neg h, hc]
      rw [hv, spec_l4Size_eq, decide_eq_true (show 0 ≤ C' by omega), decide_eq_true hc1]
      exact ev_some (ev_pos (by simp) (Ev.now _))
     ·dsimp only
      rcases hcase with ⟨_, _, h, _⟩ | ⟨_, h, _⟩ <;> omega
    ·rw [if_neg hst]
     refine ⟨_, _, rfl, ?_, fun h => by cases h⟩
     refine ev_some (ev_pos (by simp) (ev_some (ev_pos (by simp) ?_)))
     rw [spec_l4Size_eq, decide_eq_true h2.1, decide_eq_true (show a2 ≤ 1000000 by omega)]
     refine ev_some (ev_pos (by simp) ?_)
     rw [spec_l4Size_eq]
     by_cases h3 : 0 ≤ a3 ∧ a3 ≤ 1000000
     ·rw [decide_eq_true h3.1, decide_eq_true h3.2]
      refine ev_some (ev_pos (by simp) ?_)
      rw [wid (n := a1 + a2) (by omega) (by omega), spec_l4Size_eq, decide_eq_true (show 0 ≤ a1 + a2 by omega), decide_eq_true (show a1 + a2 ≤ 1000000 by omega)]
      refine ev_some (ev_pos (by simp) ?_)
      rw [wid (n := a1 + a3) (by omega) (by omega), spec_l4Size_eq]
      refine ev_some ?_
      by_cases h4 : a1 + a3 ≤ 1000000
      ·rw [decide_eq_true (show 0 ≤ a1 + a3 by omega), decide_eq_true h4]
       refine ev_succ ?_
       simp only [spec_NextCap.j0]
       refine ev_neg (by simp) ?_
       rw [wid (n := a1 + a2) (by omega) (by omega), spec_l4Next_eq hru h1.1 (by omega) (by omega) h3.1 h3.2]
       refine ev_some ?_
       have hgf : ¬ (impl_store_grow.growF num den add a1 (a1 + a2) 0 0 a3).1 = true := fun hh => hst (by unfold impl_store_grow.stepF; rw [if_pos h3]; exact hh)
       unfold impl_store_grow.growF at hgf
       by_cases hgt : a1 + a3 > a1 + a2
       ·rw [if_pos hgt] at hgf ⊢
        have hgf2 : (decide (0 ≤ impl_store_grow.capF num den add a1 (a1 + a2) a3) && decide (impl_store_grow.capF num den add a1 (a1 + a2) a3 ≤ 1000000)) = false := Bool.eq_false_iff.2 hgf
        rw [spec_l4Size_eq, hgf2]
        exact ev_some (ev_neg (by simp) (Ev.now _))
       ·rw [if_neg hgt, decide_eq_true (show 0 ≤ a1 + a2 by omega), decide_eq_true (show a1 + a2 ≤ 1000000 by omega)] at hgf
        exact absurd rfl hgf
      ·exact no _ (by rw [decide_eq_false h4]; simp)
     ·rw [← Bool.decide_and, decide_eq_false h3]
      exact ev_some (ev_neg (by simp) (no _ rfl))
   ·rw [if_neg (fun h => h2 h.2)]
    refine ⟨_, _, rfl, ?_, fun h => by cases h⟩
    refine ev_some (ev_pos (by simp) (ev_some (ev_pos (by simp) ?_)))
    rw [spec_l4Size_eq]
    by_cases h3 : 0 ≤ a2 ∧ a2 ≤ 1000000
    ·rw [decide_eq_true h3.1, decide_eq_true h3.2]
     refine ev_some (ev_pos (by simp) ?_)
     rw [spec_l4Size_eq]
     by_cases h4 : 0 ≤ a3 ∧ a3 ≤ 1000000
     ·rw [decide_eq_true h4.1, decide_eq_true h4.2]
      refine ev_some (ev_pos (by simp) ?_)
      rw [wid (n := a1 + a2) (by omega) (by omega), spec_l4Size_eq, decide_eq_false (show ¬ a1 + a2 ≤ 1000000 by omega), Bool.and_false]
      exact ev_some (ev_neg (by simp) (no _ rfl))
     ·rw [← Bool.decide_and, decide_eq_false h4]
      exact ev_some (ev_neg (by simp) (no _ rfl))
    ·rw [← Bool.decide_and, decide_eq_false h3]
     exact ev_some (ev_neg (by simp) (no _ rfl))
  ·rw [if_neg (fun h => h1 h.1), ← Bool.decide_and, decide_eq_false h1]
   exact ⟨_, _, rfl, ev_some (ev_pos (by simp) (ev_some (ev_neg (by simp) (no _ rfl)))), fun h => by cases h⟩
 ·rw [if_neg hru, Bool.eq_false_iff.2 hru]
  exact ⟨_, _, rfl, ev_some (ev_neg (by decide) (no _ rfl)), fun h => by cases h⟩
theorem laws_rInts_self (l : List Int) (hl : l.length ≤ 1000000) : Ev (fun k => laws_rInts.f k l l) true := by
 have hloop : ∀ (d i : Nat), i + d = l.length → Ev (fun k => laws_rInts.l0 k l l (i : Int)) true := by
  intro d
  induction d with
  | zero =>
   intro i hi
   refine ev_end (fun k => ?_)
   simp only [laws_rInts.l0]
   rw [if_neg (by omega)]
  | succ d ih =>
   intro i hi
   refine ev_succ ?_
   simp only [laws_rInts.l0]
   refine ev_pos (by omega) (ev_pos (by omega) (ev_pos (by omega) (ev_pos (by simp) ?_)))
   rw [wsucc (by omega)]
   exact ih (i + 1) (by omega)
 simp only [laws_rInts.f]
 exact ev_pos (by simp) (hloop l.length 0 (by omega))
theorem gLoop {num den add : Int} (l2 caps : List Int) (mv cost : Int) (h40 : l2.length ≤ 40) (hcl : caps.length = l2.length) : ∀ (d i : Nat) (s : Int × Int × Int × Int) (ys : List (Int × Int × Int × Int)), i + d = l2.length → impl_store_grow.Ok s i → impl_appends.visF num den add (l2.drop i) s = some ys → caps.drop i = ys.map (fun s => s.2.1) → s.1 ≤ s.2.2.2 → mv = (ys.getLastD s).2.2.1 → cost = (ys.getLastD s).2.2.2 →
  laws_FnGrowth.lp l2 caps mv cost d i s.1 s.2.2.1 s.2.1 = some true := by
 intro d
 induction d with
 | zero =>
  intro i s ys hi hs hv hc hk hm hco
  rw [List.drop_eq_nil_of_le (by omega), impl_appends.visF] at hv
  obtain rfl := Option.some.inj hv
  simp only [List.getLastD_nil] at hm hco
  rw [laws_FnGrowth.lp, if_pos (by omega), if_pos ⟨hm.symm, by omega⟩]
 | succ d ih =>
  intro i s ys hi hs hv hc hk hm hco
  have hlt : i < l2.length := by omega
  have hltc : i < caps.length := by omega
  rw [List.drop_eq_getElem_cons hlt, impl_appends.visF] at hv
  have hrd : rd l2 (i : Int) = l2[i] := rd_lt l2 hlt
  have hrc : rd caps (i : Int) = caps[i] := rd_lt caps hltc
  rw [List.drop_eq_getElem_cons hltc] at hc
  generalize l2[i] = n at *
  generalize caps[i] = cc at *
  obtain ⟨L, C, M, K⟩ := s
  by_cases hst : (impl_store_grow.stepF num den add (L, C, M, K) n).1 = true
  ·rw [if_pos hst] at hv
   obtain ⟨C', M', K', h0, hn, _, hlc, hc1, hcase⟩ := step_facts hs hst
   have hok := impl_store_grow.ok_step hst hs
   rw [h0] at hok hv
   dsimp only at hok hv
   obtain ⟨zs, hzs, rfl⟩ := Option.map_eq_some_iff.mp hv
   rw [List.map_cons] at hc
   injection hc with hcc hcd
   dsimp only at hcc
   subst hcc
   rw [List.getLastD_cons] at hm hco
   have h1 := hs.l0
   have h6 := hs.m0
   have h7 := hs.m1
   dsimp only at h1 h6 h7 hk
   have hnext := ih (i + 1) (L + n, cc, M', K') zs (by omega) (by rw [show ((i + 1 : Nat) : Int) = (i : Int) + 1 by omega]; exact hok) hzs hcd (by dsimp only; rcases hcase with ⟨_, _, _, _, rfl⟩ | ⟨_, _, _, rfl⟩ <;> omega) hm hco
   rw [laws_FnGrowth.lp, if_pos ⟨hlt, hltc⟩, hrd, hrc, wid (n := L + n) (by omega) (by omega)]
   dsimp only
   rcases hcase with ⟨_, _, hlt2, rfl, _⟩ | ⟨_, rfl, rfl, _⟩
   ·rw [if_pos ⟨by omega, by omega⟩, if_pos (by omega), wid (n := M + 1) (by omega) (by omega)]
    exact hnext
   ·rw [if_pos ⟨by omega, by omega⟩, if_neg (by omega)]
    exact hnext
  ·rw [if_neg hst] at hv; cases hv
theorem mask8 (x : Int) (h0 : 0 ≤ x) (h1 : x < 2 ^ 64) : 0 ≤ Go.bits .and .u64 x 255 ∧ Go.bits .and .u64 x 255 ≤ 255 := by
 have h := Go.bits_mask .u64 64 (by decide) (fun n a b => by simp only [IntKind.wrap, IntKind.bits, IntKind.signed]; simp; omega) 8 (by decide) x h0 h1
 have e : ((2 : Int) ^ 8 - 1) = 255 := by decide
 rw [e] at h
 rw [h]
 omega
theorem u64_in (n : Int) : 0 ≤ IntKind.u64.wrap n ∧ IntKind.u64.wrap n < 18446744073709551616 := by
 simp only [IntKind.wrap, IntKind.bits, IntKind.signed]
 simp
 omega
theorem next_ok (l : List Int) (hl : ∀ x ∈ l, Opn.U8 x) (i : Nat) (hi : i ≤ 1000000) (s : Int) : ∃ v s', spec_l1Cur_next.f l (i : Int) s = some (v, ((i + 1 : Nat) : Int), s') ∧ 0 ≤ v := by
 unfold spec_l1Cur_next.f
 rw [wsucc (by omega)]
 by_cases h : (i : Int) < (l.length : Int)
 ·rw [if_pos h, if_pos (by omega), if_pos (by omega)]
  have hlt : i < l.length := by omega
  have hx := hl _ (List.getElem_mem hlt)
  rw [rd_lt l hlt]
  refine ⟨_, _, rfl, ?_⟩
  rw [wid (by have := hx.1; omega) (by have := hx.2; omega)]
  exact hx.1
 ·rw [if_neg h, if_neg (by omega)]
  refine ⟨_, _, rfl, ?_⟩
  generalize IntKind.u64.wrap (s * 6364136223846793005) = z
  have hw := u64_in (IntKind.u64.wrap z + 462197)
  generalize IntKind.u64.wrap (IntKind.u64.wrap z + 462197) = y at *
  have hm := mask8 (y / 1099511627776) (by omega) (by omega)
  rw [wid (by omega) (by omega)]
  exact hm.1
theorem pick_ok (l : List Int) (hl : ∀ x ∈ l, Opn.U8 x) (i : Nat) (hi : i ≤ 1000000) (s a : Int) (ha : a ≤ 200) : ∃ (v : Int) (j : Nat) (s' : Int), spec_l1Cur_pick.f l (i : Int) s a = some (v, (j : Int), s') ∧ j ≤ i + 1 ∧ 0 ≤ v ∧ (1 ≤ a → v < a) := by
 unfold spec_l1Cur_pick.f
 by_cases h : a ≤ 1
 ·rw [if_pos h]
  exact ⟨0, i, s, rfl, by omega, by omega, fun _ => by omega⟩
 ·rw [if_neg h]
  obtain ⟨v, s', hn, hv⟩ := next_ok l hl i hi s
  rw [hn]
  simp only [Option.bind_some]
  rw [if_neg (by omega), if_neg (by omega)]
  exact ⟨_, i + 1, s', rfl, by omega, Int.tmod_nonneg _ hv, fun _ => Int.tmod_lt_of_pos _ (by omega)⟩
theorem among_ok (l : List Int) (hl : ∀ x ∈ l, Opn.U8 x) (i : Nat) (hi : i ≤ 1000000) (s : Int) (xs : List Int) (h0 : 0 < xs.length) (h1 : xs.length ≤ 200) : ∃ (v : Int) (j : Nat) (s' : Int), spec_l1Cur_among.f l (i : Int) s xs = some (v, (j : Int), s') ∧ j ≤ i + 1 ∧ v ∈ xs := by
 unfold spec_l1Cur_among.f
 obtain ⟨v, j, s', hp, hj, hv, hlt⟩ := pick_ok l hl i hi s (xs.length : Int) (by omega)
 rw [hp]
 simp only [Option.bind_some]
 have hlt := hlt (by omega)
 rw [if_pos hv, if_pos hlt]
 obtain ⟨n, rfl⟩ := Int.eq_ofNat_of_zero_le hv
 have hn : n < xs.length := by omega
 refine ⟨_, j, s', rfl, hj, ?_⟩
 rw [rd_lt xs hn]
 exact List.getElem_mem hn
theorem rule_ok (l : List Int) (hl : ∀ x ∈ l, Opn.U8 x) : ∃ (a b c : Int) (j : Nat) (s' : Int), spec_l1Cur_growRule.f l 0 0 = some (a, b, c, (j : Int), s') ∧ j ≤ 10 := by
 unfold spec_l1Cur_growRule.f
 obtain ⟨v1, j1, t1, e1, b1, _⟩ := pick_ok l hl 0 (by omega) 0 4 (by omega)
 have e1' : spec_l1Cur_pick.f l 0 0 4 = some (v1, (j1 : Int), t1) := e1
 rw [e1']
 simp only [Option.bind_some]
 obtain ⟨v2, j2, t2, e2, b2, _⟩ := among_ok l hl j1 (by omega) t1 [0, 0, 1, 4, 64] (by decide) (by decide)
 rw [e2]
 simp only [Option.bind_some]
 obtain ⟨v3, j3, t3, e3, b3, _⟩ := pick_ok l hl j2 (by omega) t2 5 (by omega)
 rw [e3]
 simp only [Option.bind_some]
 obtain ⟨v4, e4⟩ : ∃ v, spec_l1Least.f (wrap64 (wrap64 (1 + v1) + v3)) 8 = some v := by
  unfold spec_l1Least.f
  split <;> exact ⟨_, rfl⟩
 rw [e4]
 simp only [Option.bind_some]
 obtain ⟨v5, j5, t5, e5, b5, _⟩ := pick_ok l hl j3 (by omega) t3 50 (by omega)
 rw [e5]
 simp only [Option.bind_some]
 split
 ·obtain ⟨v6, j6, t6, e6, b6, _⟩ := among_ok l hl j5 (by omega) t5 [0, 9, -1] (by decide) (by decide)
  rw [e6]
  exact ⟨_, _, _, j6, t6, rfl, by omega⟩
 ·split
  ·obtain ⟨v6, j6, t6, e6, b6, _⟩ := among_ok l hl j5 (by omega) t5 [0, 9, wrap64 (wrap64 (1 + v1) - 1)] (by simp) (by simp)
   rw [e6]
   exact ⟨_, _, _, j6, t6, rfl, by omega⟩
  ·split
   ·obtain ⟨v6, j6, t6, e6, b6, _⟩ := among_ok l hl j5 (by omega) t5 [-1, 65] (by decide) (by decide)
    rw [e6]
    exact ⟨_, _, _, j6, t6, rfl, by omega⟩
   ·exact ⟨_, _, _, j5, t5, rfl, by omega⟩
theorem appends_j1 (l : List Int) (hl : ∀ x ∈ l, Opn.U8 x) (out : List Int) (ho : out.length ≤ 50) (b : Bool) (hb : b = true → 0 < out.length) (i : Nat) (hi : i ≤ 1000) (s : Int) : ∃ r, Ev (fun k => spec_l1Cur_appends.j1 k out b l (i : Int) s) r := by
 cases b with
 | false =>
  refine ⟨(out, (i : Int), s), ev_succ ?_⟩
  simp only [spec_l1Cur_appends.j1]
  exact ev_neg (by simp) (Ev.now _)
 | true =>
  have h0 := hb rfl
  obtain ⟨v1, j1, t1, e1, b1, h1, h2⟩ := pick_ok l hl i (by omega) s (out.length : Int) (by omega)
  obtain ⟨v2, j2, t2, e2, b2, _⟩ := among_ok l hl j1 (by omega) t1 [-1, 1000000, 1000001, 500000, 4611686018427387904] (by decide) (by decide)
  refine ⟨(out.set v1.toNat v2, (j2 : Int), t2), ev_succ ?_⟩
  simp only [spec_l1Cur_appends.j1]
  refine ev_pos (by simp) ?_
  rw [e1]
  simp only [Option.bind_some]
  rw [e2]
  simp only [Option.bind_some]
  exact ev_pos h1 (ev_pos (h2 (by omega)) (Ev.now _))
theorem appends_l0 (l : List Int) (hl : ∀ x ∈ l, Opn.U8 x) : ∀ (n : Nat) (out : List Int) (i : Nat) (s : Int), n + out.length ≤ 41 → i + n ≤ 500 → ∃ r, Ev (fun k => spec_l1Cur_appends.l0 k out (n : Int) l (i : Int) s) r := by
 intro n
 induction n with
 | zero =>
  intro out i s ho hi
  by_cases h0 : (out.length : Int) > 0
  ·obtain ⟨v1, j1, t1, e1, b1, _, _⟩ := pick_ok l hl i (by omega) s 20 (by omega)
   obtain ⟨r, hr⟩ := appends_j1 l hl out (by omega) (v1 == 0) (fun _ => by omega) j1 (by omega) t1
   refine ⟨r, ev_succ ?_⟩
   simp only [spec_l1Cur_appends.l0]
   refine ev_neg (by omega) (ev_pos h0 ?_)
   unfold spec_l1Cur_one.f
   rw [e1]
   exact hr
  ·obtain ⟨r, hr⟩ := appends_j1 l hl out (by omega) false (fun h => by cases h) i (by omega) s
   refine ⟨r, ev_succ ?_⟩
   simp only [spec_l1Cur_appends.l0]
   exact ev_neg (by omega) (ev_neg h0 hr)
 | succ n ih =>
  intro out i s ho hi
  obtain ⟨v1, j1, t1, e1, b1, _⟩ := among_ok l hl i (by omega) s [1, 2, 1, 5, 0, 20, 64] (by decide) (by decide)
  obtain ⟨r, hr⟩ := ih (out ++ [v1]) j1 t1 (by simp; omega) (by omega)
  refine ⟨r, ev_succ ?_⟩
  simp only [spec_l1Cur_appends.l0]
  refine ev_pos (by omega) ?_
  rw [e1]
  simp only [Option.bind_some]
  refine ev_pos (by omega) ?_
  rw [wid (n := ((n + 1 : Nat) : Int) - 1) (by omega) (by omega), show ((n + 1 : Nat) : Int) - 1 = (n : Int) by omega]
  exact hr
theorem drawCaps_ok (l : List Int) (hl : ∀ x ∈ l, Opn.U8 x) : ∃ (a b c : Int) (lst : List Int), Ev (fun k => spec_DrawCapsOf.f k l) (a, b, c, lst) := by
 obtain ⟨a, b, c, j, s, hg, hj⟩ := rule_ok l hl
 obtain ⟨v, j2, t2, e2, b2, hv⟩ := among_ok l hl j (by omega) s [4, 6, 3, 10, 0, 1, 40, 41] (by decide) (by decide)
 have hv2 : 0 ≤ v ∧ v ≤ 41 := by
  simp only [List.mem_cons, List.not_mem_nil, or_false] at hv
  omega
 obtain ⟨n, rfl⟩ := Int.eq_ofNat_of_zero_le hv2.1
 obtain ⟨r, hr⟩ := appends_l0 l hl n [] j2 t2 (by simp; omega) (by omega)
 refine ⟨a, b, c, r.1, ?_⟩
 simp only [spec_DrawCapsOf.f]
 rw [hg]
 refine ev_some (ev_bind (a := r) ?_ (Ev.now _))
 simp only [spec_l1Cur_appends.f]
 rw [e2]
 exact ev_some hr
theorem drawSingle_ok (l : List Int) (hl : ∀ x ∈ l, Opn.U8 x) : ∃ a b c d : Int, spec_DrawSingleCost.f l = some (a, b, c, d) := by
 obtain ⟨a, b, c, j, s, hg, hj⟩ := rule_ok l hl
 obtain ⟨v, j2, t2, e2, b2, hv⟩ := among_ok l hl j (by omega) s [10, 20, 5, 1, 0, 100, 2000, 2001, -1] (by decide) (by decide)
 unfold spec_DrawSingleCost.f
 rw [hg]
 simp only [Option.bind_some]
 rw [e2]
 exact ⟨a, b, c, v, rfl⟩
theorem drawNext_ok (l : List Int) (hl : ∀ x ∈ l, Opn.U8 x) : ∃ a b c d e f : Int, spec_DrawNextCap.f l = some (a, b, c, d, e, f) := by
 obtain ⟨a, b, c, j, s, hg, hj⟩ := rule_ok l hl
 obtain ⟨v, j2, t2, e2, b2, hv⟩ := among_ok l hl j (by omega) s [3, 0, 8, 1, 100, 999999, 1000000, -1] (by decide) (by decide)
 obtain ⟨v3, j3, t3, e3, b3, hv3⟩ := among_ok l hl j2 (by omega) t2 [0, 1, 4, 0, 12, -1, 4611686018427387904] (by decide) (by decide)
 obtain ⟨v4, j4, t4, e4, b4, hv4⟩ := among_ok l hl j3 (by omega) t3 [1, 5, 0, 20, 1000000, -1] (by decide) (by decide)
 unfold spec_DrawNextCap.f
 rw [hg]
 simp only [Option.bind_some]
 rw [e2]
 simp only [Option.bind_some]
 rw [e3]
 simp only [Option.bind_some]
 rw [e4]
 exact ⟨a, b, c, v, v3, v4, rfl⟩
theorem impl_IsGrowRule_eq (num den add : Int) : impl_IsGrowRule.f num den add = some (impl_store_grow.ruleB num den add) := by
 unfold impl_IsGrowRule.f
 simp only [impl_within_eq, Option.bind_some]
 unfold impl_store_grow.ruleB
 by_cases h1 : 1 ≤ num ∧ num ≤ 8
 ·rw [if_pos (decide_eq_true h1), decide_eq_true h1.1, decide_eq_true h1.2]
  by_cases h2 : 1 ≤ den ∧ den ≤ num
  ·rw [if_pos (decide_eq_true h2), decide_eq_true h2.1, decide_eq_true h2.2, Bool.decide_and]
   rfl
  ·rw [if_neg (by rw [decide_eq_false h2]; decide), ← Bool.decide_and (p := 1 ≤ den), decide_eq_false h2]
   rfl
 ·rw [if_neg (by rw [decide_eq_false h1]; decide), ← Bool.decide_and (p := 1 ≤ num), decide_eq_false h1]
  rfl
theorem FnGrowth : laws_FnGrowth.Pure := by
 intro l hl
 refine Ev.rounds ?_
 simp only [laws_FnGrowth.f]
 unfold laws_rBig.f
 by_cases hbig : (l.length : Int) > 65536
 ·rw [decide_eq_true hbig]
  exact ev_some (ev_pos rfl (Ev.now _))
 rw [decide_eq_false hbig]
 refine ev_some (ev_neg (by decide) ?_)
 obtain ⟨g1, g2, g3, lst, hD1⟩ := drawCaps_ok l hl.2
 obtain ⟨q1, q2, q3, k1, hD2⟩ := drawSingle_ok l hl.2
 obtain ⟨n1, n2, n3, m1, m2, m3, hD3⟩ := drawNext_ok l hl.2
 have hA := gAll_ev g1 g2 g3 lst
 have c1 : impl_CapsOf.f g1 g2 g3 lst = some ((runV 0 [] (0, 0, 0, 0) (impl_appends.allF g1 g2 g3 lst)).1, (runV 0 [] (0, 0, 0, 0) (impl_appends.allF g1 g2 g3 lst)).2.2.2.2.2.2) := by
  unfold impl_CapsOf.f
  cases impl_appends.allF g1 g2 g3 lst <;> rfl
 have c2 : impl_MovesOf.f g1 g2 g3 lst = some ((runV 0 [] (0, 0, 0, 0) (impl_appends.allF g1 g2 g3 lst)).2.1, (runV 0 [] (0, 0, 0, 0) (impl_appends.allF g1 g2 g3 lst)).2.2.2.2.2.2) := by
  unfold impl_MovesOf.f
  cases impl_appends.allF g1 g2 g3 lst <;> rfl
 have c3 : impl_CostOf.f g1 g2 g3 lst = some ((runV 0 [] (0, 0, 0, 0) (impl_appends.allF g1 g2 g3 lst)).2.2.1, (runV 0 [] (0, 0, 0, 0) (impl_appends.allF g1 g2 g3 lst)).2.2.2.2.2.2) := by
  unfold impl_CostOf.f
  cases impl_appends.allF g1 g2 g3 lst <;> rfl
 have c4 : impl_WorstWaste.f g1 g2 g3 lst = some ((runV 0 [] (0, 0, 0, 0) (impl_appends.allF g1 g2 g3 lst)).2.2.2.1, (runV 0 [] (0, 0, 0, 0) (impl_appends.allF g1 g2 g3 lst)).2.2.2.2.2.2) := by
  unfold impl_WorstWaste.f
  cases impl_appends.allF g1 g2 g3 lst <;> rfl
 have hlen : (runV 0 [] (0, 0, 0, 0) (impl_appends.allF g1 g2 g3 lst)).1.length ≤ 1000000 ∧ ((runV 0 [] (0, 0, 0, 0) (impl_appends.allF g1 g2 g3 lst)).2.2.2.2.2.2 = true → laws_FnGrowth.lp lst (runV 0 [] (0, 0, 0, 0) (impl_appends.allF g1 g2 g3 lst)).1 (runV 0 [] (0, 0, 0, 0) (impl_appends.allF g1 g2 g3 lst)).2.1 (runV 0 [] (0, 0, 0, 0) (impl_appends.allF g1 g2 g3 lst)).2.2.1 lst.length 0 0 0 0 = some true) := by
  cases hv : impl_appends.allF g1 g2 g3 lst with
  | none => exact ⟨by simp [runV], fun h => by cases h⟩
  | some ys =>
   unfold impl_appends.allF at hv
   by_cases hru : impl_store_grow.ruleB g1 g2 g3 = true
   ·rw [if_pos hru] at hv
    by_cases h40 : lst.length ≤ 40
    ·rw [if_pos h40] at hv
     have hyl : ∀ (r : List Int) (s : Int × Int × Int × Int) (zs : List (Int × Int × Int × Int)), impl_appends.visF g1 g2 g3 r s = some zs → zs.length = r.length := by
      intro r
      induction r with
      | nil => intro s zs h; obtain rfl := Option.some.inj h; rfl
      | cons n r ih =>
       intro s zs h
       rw [impl_appends.visF] at h
       split at h
       ·obtain ⟨us, hus, rfl⟩ := Option.map_eq_some_iff.mp h
        simp [ih _ _ hus]
       ·cases h
     have hy := hyl _ _ _ hv
     refine ⟨by simp only [runV]; simp; omega, fun _ => ?_⟩
     exact gLoop lst _ _ _ h40 (by simp [runV, hy]) lst.length 0 (0, 0, 0, 0) ys (by omega) ok_zero (by rw [List.drop_zero]; exact hv) (by simp [runV]) (by decide) rfl rfl
    ·rw [if_neg h40] at hv; cases hv
   ·rw [if_neg hru] at hv; cases hv
 generalize runV 0 [] (0, 0, 0, 0) (impl_appends.allF g1 g2 g3 lst) = r at hA c1 c2 c3 c4 hlen
 obtain ⟨caps, mv, cs, wa, L', C', ok⟩ := r
 dsimp only at c1 c2 c3 c4 hlen
 have s1 : Ev (fun k => spec_CapsOf.f k g1 g2 g3 lst) (caps, ok) := by
  simp only [spec_CapsOf.f]
  exact ev_bind hA (Ev.now _)
 have s2 : Ev (fun k => spec_MovesOf.f k g1 g2 g3 lst) (mv, ok) := by
  simp only [spec_MovesOf.f]
  exact ev_bind hA (Ev.now _)
 have s3 : Ev (fun k => spec_CostOf.f k g1 g2 g3 lst) (cs, ok) := by
  simp only [spec_CostOf.f]
  exact ev_bind hA (Ev.now _)
 have s4 : Ev (fun k => spec_WorstWaste.f k g1 g2 g3 lst) (wa, ok) := by
  simp only [spec_WorstWaste.f]
  exact ev_bind hA (Ev.now _)
 have ri := laws_rInts_self caps hlen.1
 have hend : (if ok = true then laws_FnGrowth.lp lst caps mv cs lst.length 0 0 0 0 else some true) = some true := by
  cases ok with
  | false => rfl
  | true => exact hlen.2 rfl
 obtain ⟨W', L2, C2, hS⟩ := gSin_ev q1 q2 q3 k1
 have hfact : (impl_singles.allF q1 q2 q3 k1).isSome = true → k1 ≤ ((impl_singles.allF q1 q2 q3 k1).getD (0, 0, 0, 0)).2.2.2 ∧ ((impl_singles.allF q1 q2 q3 k1).getD (0, 0, 0, 0)).2.2.1 ≤ k1 ∧ (q1 ≥ 2 * q2 → ((impl_singles.allF q1 q2 q3 k1).getD (0, 0, 0, 0)).2.2.2 ≤ 3 * k1) ∧ (0 ≤ k1 ∧ k1 ≤ 2000) ∧ 1 ≤ q2 ∧ q2 ≤ 8 := by
  intro hs
  unfold impl_singles.allF at hs ⊢
  by_cases hru : impl_store_grow.ruleB q1 q2 q3 = true
  ·rw [if_pos hru] at hs ⊢
   by_cases hk : 0 ≤ k1 ∧ k1 ≤ 2000
   ·rw [if_pos hk]
    obtain ⟨n, rfl⟩ := Int.eq_ofNat_of_zero_le hk.1
    obtain ⟨r1, r2, r3, r4, r5, r6⟩ := impl_store_grow.rule_of hru
    have h := gSin_cost hru n (by omega) n 0 (0, 0, 0, 0) (by omega) ok_zero rfl (by decide) (by decide) (fun _ => by decide)
    rw [Int.toNat_natCast]
    exact ⟨h.1, h.2.1, h.2.2, hk, by omega, by omega⟩
   ·rw [if_neg hk] at hs; cases hs
  ·rw [if_neg hru] at hs; cases hs
 have i1 : impl_SingleCost.f q1 q2 q3 k1 = some (((impl_singles.allF q1 q2 q3 k1).getD (0, 0, 0, 0)).2.2.2, (impl_singles.allF q1 q2 q3 k1).isSome) := rfl
 have i2 : impl_SingleMoves.f q1 q2 q3 k1 = some (((impl_singles.allF q1 q2 q3 k1).getD (0, 0, 0, 0)).2.2.1, (impl_singles.allF q1 q2 q3 k1).isSome) := rfl
 have t1 : Ev (fun k => spec_SingleCost.f k q1 q2 q3 k1) (((impl_singles.allF q1 q2 q3 k1).getD (0, 0, 0, 0)).2.2.2, (impl_singles.allF q1 q2 q3 k1).isSome) := by
  simp only [spec_SingleCost.f]
  exact ev_bind hS (Ev.now _)
 have t2 : Ev (fun k => spec_SingleMoves.f k q1 q2 q3 k1) (((impl_singles.allF q1 q2 q3 k1).getD (0, 0, 0, 0)).2.2.1, (impl_singles.allF q1 q2 q3 k1).isSome) := by
  simp only [spec_SingleMoves.f]
  exact ev_bind hS (Ev.now _)
 clear hS
 generalize ((impl_singles.allF q1 q2 q3 k1).getD (0, 0, 0, 0)).2.2.2 = sc at *
 generalize ((impl_singles.allF q1 q2 q3 k1).getD (0, 0, 0, 0)).2.2.1 = sm at *
 generalize (impl_singles.allF q1 q2 q3 k1).isSome = so at *
 have htail : so = true → ¬ sc < k1 ∧ ¬ sm > k1 ∧ (q1 ≥ wrap64 (2 * q2) → ¬ sc > wrap64 (3 * k1)) := by
  intro hso
  obtain ⟨f1, f2, f3, f4, f5, f6⟩ := hfact hso
  rw [wid (n := 2 * q2) (by omega) (by omega), wid (n := 3 * k1) (by omega) (by omega)]
  exact ⟨by omega, by omega, fun hq => by have := f3 hq; omega⟩
 have fast : ∃ x, impl_GrowsFast.f q1 q2 q3 = some (x, impl_store_grow.ruleB q1 q2 q3) ∧ spec_GrowsFast.f q1 q2 q3 = some (x, impl_store_grow.ruleB q1 q2 q3) := by
  unfold impl_GrowsFast.f spec_GrowsFast.f
  rw [impl_IsGrowRule_eq, spec_l4Rule_eq]
  simp only [Option.bind_some]
  by_cases hru : impl_store_grow.ruleB q1 q2 q3 = true
  ·rw [if_pos hru, hru]
   exact ⟨_, rfl, rfl⟩
  ·rw [if_neg hru, Bool.eq_false_iff.2 hru]
   exact ⟨_, rfl, rfl⟩
 obtain ⟨x, fa, fb⟩ := fast
 obtain ⟨v, nk, na, nb, nc⟩ := gNext_ev n1 n2 n3 m1 m2 m3
 have hn : nk = true → ¬ v < wrap64 (m1 + m3) ∧ ¬ v < wrap64 (m1 + m2) := by
  intro hnk
  obtain ⟨z1, z2, z3⟩ := nc hnk
  rw [wid (n := m1 + m3) (by omega) (by omega), wid (n := m1 + m2) (by omega) (by omega)]
  exact ⟨by omega, by omega⟩
 refine ev_bind hD1 ?_
 refine ev_bind (ev_now (fun _ => c1)) ?_
 refine ev_bind s1 ?_
 refine ev_bind ri ?_
 refine ev_bind (ev_now (fun _ => c2)) ?_
 refine ev_bind s2 ?_
 refine ev_bind (ev_now (fun _ => c3)) ?_
 refine ev_bind s3 ?_
 refine ev_bind (ev_now (fun _ => c4)) ?_
 refine ev_bind s4 ?_
 refine ev_bind (ev_now (fun _ => hD2)) ?_
 refine ev_bind (ev_now (fun _ => i1)) ?_
 refine ev_bind t1 ?_
 refine ev_bind (ev_now (fun _ => i2)) ?_
 refine ev_bind t2 ?_
 refine ev_bind (ev_now (fun _ => fa)) ?_
 refine ev_bind (ev_now (fun _ => fb)) ?_
 refine ev_bind (ev_now (fun _ => impl_IsGrowRule_eq q1 q2 q3)) ?_
 refine ev_bind (ev_now (fun _ => hD3)) ?_
 refine ev_bind (ev_now (fun _ => na)) ?_
 refine ev_bind nb ?_
 exact ev_pos ⟨rfl, rfl, rfl, rfl, rfl, rfl, rfl, rfl, rfl, rfl, rfl, rfl, rfl, rfl, hn, htail⟩ (ev_now (fun _ => hend))
end Go.Proofs.Ytkifenbcepicjab.Pure
