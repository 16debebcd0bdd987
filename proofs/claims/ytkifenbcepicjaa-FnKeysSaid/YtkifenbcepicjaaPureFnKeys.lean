/- What is proved here: the plain statement of the law FnKeys, over numbers and lists. No condition beyond those that it states. -/
import Derived.Test.YtkifenbcepicjaaQFnKeys
import Derived.Test.YtkifenbcepicjaaTk
namespace Go.Proofs.Ytkifenbcepicjaa.Pure
open Go.RowKit Go.Proofs.Ytkifenbcepicjaa.PFnKeys Go.Proofs.YtkifenbcepicjaaW.PrintWords Go.Proofs.YtkifenbcepicjaaW.PrintMore Go.Proofs.Ytkifenbcepicjaa.Tk Go.Proofs.Ytkifenbcepicjaa.Opn
set_option linter.unusedVariables false
set_option linter.unusedSimpArgs false
def Sizes (m : List (List Int)) : Prop := ∀ a ∈ m, 1 ≤ a.length ∧ a.length ≤ 64
instance (m : List (List Int)) : Decidable (Sizes m) := by unfold Sizes; exact inferInstance
theorem Sizes.nil : Sizes [] := fun a ha => by simp at ha
theorem Sizes.cons {a : List Int} {m : List (List Int)} (h : (1 : Int) ≤ (a.length : Int) ∧ (a.length : Int) ≤ 64) (k : Sizes m) : Sizes (a :: m) := fun b hb => by
 rcases List.mem_cons.1 hb with rfl | hb
 ·omega
 ·exact k b hb
theorem Sizes.head {a : List Int} {m : List (List Int)} (k : Sizes (a :: m)) : (1 : Int) ≤ (a.length : Int) ∧ (a.length : Int) ≤ 64 := by
 have := k a List.mem_cons_self
 omega
theorem Sizes.tail {a : List Int} {m : List (List Int)} (k : Sizes (a :: m)) : Sizes m := fun b hb => k b (List.mem_cons_of_mem _ hb)
def MemOK (m : List (List Int)) : Prop := m.length ≤ 16 ∧ Sizes m
instance (m : List (List Int)) : Decidable (MemOK m) := by unfold MemOK; exact inferInstance
def arr_ (m : List (List Int)) (a : Int) : List Int := m.getD a.toNat []
def WinOK (m : List (List Int)) (a s l c : Int) : Prop := MemOK m ∧ 0 ≤ a ∧ a < (m.length : Int) ∧ 0 ≤ s ∧ 0 ≤ l ∧ l ≤ c ∧ s + c ≤ ((arr_ m a).length : Int)
instance (m : List (List Int)) (a s l c : Int) : Decidable (WinOK m a s l c) := by unfold WinOK; exact inferInstance
def Small (m : List (List Int)) : Prop := m.length ≤ 1048576 ∧ ∀ a ∈ m, a.length ≤ 1048576
theorem arr_mem {m : List (List Int)} {a : Int} (h0 : 0 ≤ a) (h1 : a < (m.length : Int)) : arr_ m a ∈ m := by
 unfold arr_
 rw [getD_lt m [] (by omega : a.toNat < m.length)]
 exact List.getElem_mem _
theorem arr_size {m : List (List Int)} (hm : MemOK m) {a : Int} (h0 : 0 ≤ a) (h1 : a < (m.length : Int)) : 1 ≤ (arr_ m a).length ∧ (arr_ m a).length ≤ 64 := hm.2 _ (arr_mem h0 h1)
theorem MemOK.small {m : List (List Int)} (hm : MemOK m) : Small m := ⟨by have := hm.1; omega, fun a ha => by have := hm.2 a ha; omega⟩
theorem WinOK.bounds {m : List (List Int)} {a s l c : Int} (h : WinOK m a s l c) : MemOK m ∧ 0 ≤ a ∧ a < 16 ∧ a < (m.length : Int) ∧ 0 ≤ s ∧ s ≤ 64 ∧ 0 ≤ l ∧ l ≤ c ∧ c ≤ 64 ∧ s + c ≤ ((arr_ m a).length : Int) ∧ ((arr_ m a).length : Int) ≤ 64 := by
 obtain ⟨hm, h0, h1, h2, h3, h4, h5⟩ := h
 have := arr_size hm h0 h1
 have := hm.1
 refine ⟨hm, h0, by omega, h1, h2, by omega, h3, h4, by omega, h5, by omega⟩
theorem dec_false {p : Prop} [Decidable p] (h : ¬ p) : some false = some (decide p) := by rw [decide_eq_false h]
theorem spec_l1In_eq (a b c : Int) : spec_l1In.f a b c = some (decide (b ≤ a ∧ a ≤ c)) := by
 unfold spec_l1In.f
 by_cases h : a ≥ b
 ·rw [if_pos h]
  congr 1
  exact decide_eq_decide.mpr ⟨fun x => ⟨h, x⟩, fun x => x.2⟩
 ·rw [if_neg h]
  exact dec_false (fun x => h x.1)
theorem spec_l2Memory_l0 (m : List (List Int)) (hm : m.length ≤ 1048576) : ∀ (d i : Nat), i + d = m.length → Ev (fun k => spec_l2Memory.l0 k (i : Int) m) (decide (m.length ≤ 16 ∧ Sizes (m.drop i))) := by
 intro d
 induction d with
 | zero =>
  intro i hi
  have e : m.drop i = [] := List.drop_eq_nil_of_le (by omega)
  refine ev_succ (ev_eq (r := decide ((m.length : Int) ≤ 16)) ?_ ?_)
  ·simp only [spec_l2Memory.l0]
   refine ev_neg (by omega) (ev_succ ?_)
   simp only [spec_l2Memory.j1]
   exact ev_neg (by decide) (Ev.now _)
  ·rw [e]
   exact decide_eq_decide.mpr ⟨fun h => ⟨by omega, Sizes.nil⟩, fun h => by have := h.1; omega⟩
 | succ d ih =>
  intro i hi
  have h : i < m.length := by omega
  refine ev_succ ?_
  simp only [spec_l2Memory.l0]
  refine ev_pos (by omega) (ev_succ ?_)
  by_cases h16 : (i : Int) ≤ 16
  ·simp only [spec_l2Memory.j1, decide_eq_true h16]
   refine ev_pos (by first | trivial | rfl) (ev_pos (by omega) (ev_pos (by omega) ?_))
   have hr : rd_L2 m (i : Int) = m[i] := by
    unfold rd_L2
    exact getD_lt m [] h
   simp only [spec_l1In_eq, hr, Option.bind_some, decide_eq_true_eq]
   by_cases hs : (1 : Int) ≤ (m[i].length : Int) ∧ (m[i].length : Int) ≤ 64
   ·refine ev_pos hs (ev_eq (r := decide (m.length ≤ 16 ∧ Sizes (m.drop (i + 1)))) ?_ ?_)
    ·have := ih (i + 1) (by omega)
     rw [← wsucc (i := i) (by omega)] at this
     exact this
    ·rw [List.drop_eq_getElem_cons h]
     exact decide_eq_decide.mpr ⟨fun x => ⟨x.1, x.2.cons hs⟩, fun x => ⟨x.1, x.2.tail⟩⟩
   ·refine ev_neg hs (ev_eq (Ev.now false) ?_)
    rw [List.drop_eq_getElem_cons h]
    exact (decide_eq_false (fun x => hs x.2.head)).symm
  ·simp only [spec_l2Memory.j1, decide_eq_false h16]
   refine ev_neg (by decide) (ev_eq (Ev.now (decide ((m.length : Int) ≤ 16))) ?_)
   exact decide_eq_decide.mpr ⟨fun x => by omega, fun x => by have := x.1; omega⟩
theorem spec_l2Memory_ev (m : List (List Int)) (hm : m.length ≤ 1048576) : Ev (fun k => spec_l2Memory.f k m) (decide (MemOK m)) := by
 simp only [spec_l2Memory.f]
 have := spec_l2Memory_l0 m hm m.length 0 (by omega)
 rw [List.drop_zero] at this
 exact this
theorem mask8 (x : Int) (h0 : 0 ≤ x) (h1 : x < 2 ^ 64) : 0 ≤ Go.bits .and .u64 x 255 ∧ Go.bits .and .u64 x 255 ≤ 255 := by
 have h := Go.bits_mask .u64 64 (by decide) (fun n a b => by simp only [IntKind.wrap, IntKind.bits, IntKind.signed]; simp; omega) 8 (by decide) x h0 h1
 have e : ((2 : Int) ^ 8 - 1) = 255 := by decide
 rw [e] at h
 rw [h]
 omega
theorem u64_in (n : Int) : 0 ≤ IntKind.u64.wrap n ∧ IntKind.u64.wrap n < 18446744073709551616 := by
 simp only [IntKind.wrap, IntKind.bits, IntKind.signed]
 simp
 omega
theorem next_ok (l : List Int) (hl : ∀ x ∈ l, Opn.U8 x) (i : Nat) (hi : i ≤ 2000000) (s : Int) : ∃ v s', spec_l1Cur_next.f l (i : Int) s = some (v, ((i + 1 : Nat) : Int), s') ∧ 0 ≤ v := by
 unfold spec_l1Cur_next.f
 rw [wsucc (by omega)]
 by_cases h : (i : Int) < (l.length : Int)
 ·rw [if_pos h, if_pos (by omega), if_pos (by omega)]
  have hlt : i < l.length := by omega
  have hx := hl _ (List.getElem_mem hlt)
  rw [rd_lt l hlt]
  refine ⟨_, _, rfl, ?_⟩
  rw [wid (by have := hx.1; omega) (by have := hx.2; omega)]
  exact hx.1
 ·rw [if_neg h, if_neg (by omega)]
  refine ⟨_, _, rfl, ?_⟩
  generalize IntKind.u64.wrap (s * 6364136223846793005) = z
  have hw := u64_in (IntKind.u64.wrap z + 462197)
  generalize IntKind.u64.wrap (IntKind.u64.wrap z + 462197) = y at *
  have hm := mask8 (y / 1099511627776) (by omega) (by omega)
  rw [wid (by omega) (by omega)]
  exact hm.1
theorem pick_ok (l : List Int) (hl : ∀ x ∈ l, Opn.U8 x) (i : Nat) (hi : i ≤ 2000000) (s a : Int) (ha : a ≤ 200) : ∃ (v : Int) (j : Nat) (s' : Int), spec_l1Cur_pick.f l (i : Int) s a = some (v, (j : Int), s') ∧ j ≤ i + 1 ∧ 0 ≤ v ∧ (1 ≤ a → v < a) := by
 unfold spec_l1Cur_pick.f
 by_cases h : a ≤ 1
 ·rw [if_pos h]
  exact ⟨0, i, s, rfl, by omega, by omega, fun _ => by omega⟩
 ·rw [if_neg h]
  obtain ⟨v, s', hn, hv⟩ := next_ok l hl i hi s
  rw [hn]
  simp only [Option.bind_some]
  rw [if_neg (by omega), if_neg (by omega)]
  exact ⟨_, i + 1, s', rfl, by omega, Int.tmod_nonneg _ hv, fun _ => Int.tmod_lt_of_pos _ (by omega)⟩
theorem among_ok (l : List Int) (hl : ∀ x ∈ l, Opn.U8 x) (i : Nat) (hi : i ≤ 2000000) (s : Int) (xs : List Int) (h0 : 0 < xs.length) (h1 : xs.length ≤ 200) : ∃ (v : Int) (j : Nat) (s' : Int), spec_l1Cur_among.f l (i : Int) s xs = some (v, (j : Int), s') ∧ j ≤ i + 1 ∧ v ∈ xs := by
 unfold spec_l1Cur_among.f
 obtain ⟨v, j, s', hp, hj, hv, hlt⟩ := pick_ok l hl i hi s (xs.length : Int) (by omega)
 rw [hp]
 simp only [Option.bind_some]
 have hlt := hlt (by omega)
 rw [if_pos hv, if_pos hlt]
 obtain ⟨n, rfl⟩ := Int.eq_ofNat_of_zero_le hv
 have hn : n < xs.length := by omega
 refine ⟨_, j, s', rfl, hj, ?_⟩
 rw [rd_lt xs hn]
 exact List.getElem_mem hn
theorem one_ok (l : List Int) (hl : ∀ x ∈ l, Opn.U8 x) (i : Nat) (hi : i ≤ 2000000) (s a : Int) (ha : a ≤ 200) : ∃ (v : Bool) (j : Nat) (t : Int), spec_l1Cur_one.f l (i : Int) s a = some (v, (j : Int), t) ∧ j ≤ i + 1 := by
 unfold spec_l1Cur_one.f
 obtain ⟨v, j, t, hp, hj, _, _⟩ := pick_ok l hl i hi s a ha
 rw [hp]
 exact ⟨_, j, t, rfl, hj⟩
theorem bytes_l0 (l : List Int) (hl : ∀ x ∈ l, Opn.U8 x) (n : Nat) (hn : n ≤ 65) : ∀ (d c i : Nat) (s : Int) (xs : List Int), c + d = n → xs.length = c → i + d ≤ 2000000 →
  ∃ (ys : List Int) (j : Nat) (t : Int), Ev (fun k => spec_l1Cur_bytesOf.l0 k (n : Int) xs (c : Int) l (i : Int) s) (xs ++ ys, (j : Int), t) ∧ j ≤ i + d ∧ ys.length = d ∧ ∀ y ∈ ys, 0 ≤ y ∧ y ≤ 255
 | 0, c, i, s, xs, hc, hx, hi => ⟨[], i, s, by
   refine ev_succ ?_
   simp only [spec_l1Cur_bytesOf.l0]
   rw [List.append_nil]
   exact ev_neg (by omega) (Ev.now _), by omega, rfl, fun y hy => by simp at hy⟩
 | d + 1, c, i, s, xs, hc, hx, hi => by
  obtain ⟨v, j, t, hv, hj, _⟩ := among_ok l hl i (by omega) s [0, 1, 2, 3, 65, 66, 255, 16] (by decide) (by decide)
  obtain ⟨ys, j2, t2, hy, hj2, hyl, hyu⟩ := bytes_l0 l hl n hn d (c + 1) j t (xs ++ [v % 256]) (by omega) (by simp [hx]) (by omega)
  refine ⟨v % 256 :: ys, j2, t2, ?_, by omega, by simp [hyl], fun y hy => ?_⟩
  ·refine ev_succ ?_
   simp only [spec_l1Cur_bytesOf.l0]
   refine ev_pos (by omega) ?_
   rw [hv]
   simp only [Option.bind_some]
   refine ev_pos (by omega) ?_
   rw [wsucc (by omega)]
   rw [List.append_assoc] at hy
   exact hy
  ·rcases List.mem_cons.1 hy with h | h
   ·subst h; omega
   ·exact hyu y h
theorem bytes_ok (l : List Int) (hl : ∀ x ∈ l, Opn.U8 x) (i : Nat) (hi : i ≤ 2000000 - 65) (s : Int) (n : Nat) (hn : n ≤ 65) :
  ∃ (r : List Int) (j : Nat) (t : Int), Ev (fun k => spec_l1Cur_bytesOf.f k l (i : Int) s (n : Int)) (r, (j : Int), t) ∧ j ≤ i + n ∧ r.length = n ∧ ∀ y ∈ r, 0 ≤ y ∧ y ≤ 255 := by
 obtain ⟨ys, j, t, h1, h2, h3, h4⟩ := bytes_l0 l hl n hn n 0 i s [] (by omega) rfl (by omega)
 have h5 : Ev (fun k => spec_l1Cur_bytesOf.l0 k (n : Int) [] 0 l (i : Int) s) ([] ++ ys, (j : Int), t) := h1
 exact ⟨ys, j, t, h5, h2, h3, h4⟩
theorem fill_ok (l : List Int) (i s : Int) : ∀ (d : Nat) (m : List (List Int)), m.length + d = 17 → (∀ r ∈ m, r.length ≤ 65) → ∃ m2 : List (List Int), Ev (fun k => spec_l1Cur_memory.l1 k l i s m) (m2, i, s) ∧ m2.length ≤ 17 ∧ ∀ r ∈ m2, r.length ≤ 65
 | 0, m, h, hm => ⟨m, by
   refine ev_succ ?_
   simp only [spec_l1Cur_memory.l1]
   exact ev_neg (by omega) (Ev.now _), by omega, hm⟩
 | d + 1, m, h, hm => by
  obtain ⟨m2, h1, h2, h3⟩ := fill_ok l i s d (m ++ [[1]]) (by simp; omega) (fun r hr => by
   rcases List.mem_append.1 hr with h | h
   ·exact hm r h
   ·obtain rfl : r = [1] := by simpa using h
    decide)
  refine ⟨m2, ev_succ ?_, h2, h3⟩
  simp only [spec_l1Cur_memory.l1]
  exact ev_pos (by omega) (ev_pos (by omega) h1)
theorem row_in {m : List (List Int)} {x : List Int} (hm : ∀ r ∈ m, r.length ≤ 65) (hx : x.length ≤ 65) : ∀ r ∈ m ++ [x], r.length ≤ 65 := fun r hr => by
 rcases List.mem_append.1 hr with h | h
 ·exact hm r h
 ·obtain rfl : r = x := by simpa using h
  exact hx
theorem memory_l0 (l : List Int) (hl : ∀ x ∈ l, Opn.U8 x) : ∀ (d i : Nat) (s : Int) (m : List (List Int)), m.length + d ≤ 16 → (∀ r ∈ m, r.length ≤ 65) → i + 65 * d ≤ 900000 →
  ∃ (m2 : List (List Int)) (j : Nat) (t : Int), Ev (fun k => spec_l1Cur_memory.l0 k (d : Int) l (i : Int) s m) (m2, (j : Int), t) ∧ j ≤ i + 65 * d + 66 ∧ m2.length ≤ 17 ∧ ∀ r ∈ m2, r.length ≤ 65
 | 0, i, s, m, h, hm, hi => by
  obtain ⟨v, j, t, hv, hj, _, _⟩ := pick_ok l hl i (by omega) s 50 (by omega)
  by_cases h0 : v = 0
  ·refine ⟨m ++ [[]], j, t, ev_succ ?_, by omega, by simp; omega, row_in hm (by decide)⟩
   simp only [spec_l1Cur_memory.l0]
   refine ev_neg (by omega) ?_
   rw [hv]
   simp only [Option.bind_some]
   exact ev_pos h0 (ev_pos (by omega) (Ev.now _))
  by_cases h1 : v = 1
  ·obtain ⟨r, j2, t2, hb, hj2, hr, _⟩ := bytes_ok l hl j (by omega) t 65 (by omega)
   refine ⟨m ++ [r], j2, t2, ev_succ ?_, by omega, by simp; omega, row_in hm (by omega)⟩
   simp only [spec_l1Cur_memory.l0]
   refine ev_neg (by omega) ?_
   rw [hv]
   simp only [Option.bind_some]
   exact ev_neg h0 (ev_pos h1 (ev_bind hb (ev_pos (by omega) (Ev.now _))))
  by_cases h2 : v = 2
  ·obtain ⟨m2, hf, hl2, hr2⟩ := fill_ok l (j : Int) t (17 - m.length) m (by omega) hm
   refine ⟨m2, j, t, ev_succ ?_, by omega, hl2, hr2⟩
   simp only [spec_l1Cur_memory.l0]
   refine ev_neg (by omega) ?_
   rw [hv]
   simp only [Option.bind_some]
   exact ev_neg h0 (ev_neg h1 (ev_pos h2 hf))
  ·refine ⟨m, j, t, ev_succ ?_, by omega, by omega, hm⟩
   simp only [spec_l1Cur_memory.l0]
   refine ev_neg (by omega) ?_
   rw [hv]
   simp only [Option.bind_some]
   exact ev_neg h0 (ev_neg h1 (ev_neg h2 (Ev.now _)))
 | d + 1, i, s, m, h, hm, hi => by
  obtain ⟨v, j, t, hv, hj, hin⟩ := among_ok l hl i (by omega) s [8, 12, 4, 16, 1, 2, 20, 64] (by decide) (by decide)
  obtain ⟨n, rfl, hn⟩ : ∃ n : Nat, v = (n : Int) ∧ n ≤ 64 := ⟨v.toNat, by simp at hin; omega, by simp at hin; omega⟩
  obtain ⟨r, j2, t2, hb, hj2, hr, _⟩ := bytes_ok l hl j (by omega) t n (by omega)
  obtain ⟨m2, j3, t3, h3, hj3, hl3, hr3⟩ := memory_l0 l hl d j2 t2 (m ++ [r]) (by simp; omega) (row_in hm (by omega)) (by omega)
  refine ⟨m2, j3, t3, ev_succ ?_, by omega, hl3, hr3⟩
  simp only [spec_l1Cur_memory.l0]
  refine ev_pos (by omega) ?_
  rw [hv]
  simp only [Option.bind_some]
  refine ev_bind hb (ev_pos (by omega) ?_)
  rw [show wrap64 (((d + 1 : Nat) : Int) - 1) = (d : Int) from by rw [wid (by omega) (by omega)]; omega]
  exact h3
theorem memory_ok (l : List Int) (hl : ∀ x ∈ l, Opn.U8 x) : ∃ (m : List (List Int)) (j : Nat) (t : Int), Ev (fun k => spec_l1Cur_memory.f k l 0 0) (m, (j : Int), t) ∧ j ≤ 2000 ∧ m.length ≤ 17 ∧ ∀ r ∈ m, r.length ≤ 65 := by
 obtain ⟨v, j, t, hv, hj, hin⟩ := among_ok l hl 0 (by omega) 0 [2, 1, 3, 2, 0, 16] (by decide) (by decide)
 obtain ⟨n, rfl, hn⟩ : ∃ n : Nat, v = (n : Int) ∧ n ≤ 16 := ⟨v.toNat, by simp at hin; omega, by simp at hin; omega⟩
 obtain ⟨m, j2, t2, hm, hj2, h1, h2⟩ := memory_l0 l hl n j t [] (by simp; omega) (fun r hr => by simp at hr) (by omega)
 refine ⟨m, j2, t2, ?_, by omega, h1, h2⟩
 simp only [spec_l1Cur_memory.f]
 have hv' : spec_l1Cur_among.f l 0 0 [2, 1, 3, 2, 0, 16] = some ((n : Int), (j : Int), t) := hv
 rw [hv']
 exact hm
theorem window_j2 (l : List Int) (hl : ∀ x ∈ l, Opn.U8 x) (i : Nat) (hi : i ≤ 999000) (s x6 x0 x1 x2 x3 : Int) : ∃ (y1 y2 y3 y4 : Int) (j : Nat) (t : Int), Ev (fun k => spec_l1Cur_window.j2 k x6 l (i : Int) s x0 x1 x2 x3) (y1, y2, y3, y4, (j : Int), t) ∧ j ≤ i + 2 := by
 obtain ⟨v, j, t, hv, hj, _, _⟩ := pick_ok l hl i (by omega) s 60 (by omega)
 have key : ∀ {r : Int × Int × Int × Int × Int × Int}, Ev (fun k : Nat => (fun bt249 : Int × Int × Int => (if bt249.1 = 0 then ((spec_l1Cur_among.f l bt249.2.1 bt249.2.2 (([(-1), x6, 4611686018427387904] : List Int))).bind fun bt255 => (some (x0, bt255.1, x2, x3, bt255.2.1, bt255.2.2))) else (if bt249.1 = 1 then ((spec_l1Cur_among.f l bt249.2.1 bt249.2.2 (([(-1), wrap64 (x3 + 1)] : List Int))).bind fun bt261 => (some (x0, x1, bt261.1, x3, bt261.2.1, bt261.2.2))) else (if bt249.1 = 2 then ((spec_l1Cur_among.f l bt249.2.1 bt249.2.2 (([wrap64 (x3 + 1), (-1), 4611686018427387904] : List Int))).bind fun bt267 => (some (x0, x1, x2, bt267.1, bt267.2.1, bt267.2.2))) else (some (x0, x1, x2, x3, bt249.2.1, bt249.2.2)))))) (v, (j : Int), t)) r → Ev (fun k => spec_l1Cur_window.j2 k x6 l (i : Int) s x0 x1 x2 x3) r := by
  intro r h
  refine ev_succ ?_
  simp only [spec_l1Cur_window.j2]
  rw [hv]
  exact h
 by_cases h0 : v = 0
 ·obtain ⟨u, j2, t2, hu, hj2, _⟩ := among_ok l hl j (by omega) t [-1, x6, 4611686018427387904] (by simp) (by simp)
  exact ⟨_, _, _, _, j2, t2, key (ev_pos h0 (by rw [hu]; exact Ev.now _)), by omega⟩
 by_cases h1 : v = 1
 ·obtain ⟨u, j2, t2, hu, hj2, _⟩ := among_ok l hl j (by omega) t [-1, wrap64 (x3 + 1)] (by simp) (by simp)
  exact ⟨_, _, _, _, j2, t2, key (ev_neg h0 (ev_pos h1 (by rw [hu]; exact Ev.now _))), by omega⟩
 by_cases h2 : v = 2
 ·obtain ⟨u, j2, t2, hu, hj2, _⟩ := among_ok l hl j (by omega) t [wrap64 (x3 + 1), -1, 4611686018427387904] (by simp) (by simp)
  exact ⟨_, _, _, _, j2, t2, key (ev_neg h0 (ev_neg h1 (ev_pos h2 (by rw [hu]; exact Ev.now _)))), by omega⟩
 ·exact ⟨_, _, _, _, j, t, key (ev_neg h0 (ev_neg h1 (ev_neg h2 (Ev.now _)))), by omega⟩
theorem most_eq (a b : Int) : spec_l1Most.f a b = some (if a > b then a else b) := by
 unfold spec_l1Most.f
 split <;> rfl
theorem least_eq (a b : Int) : spec_l1Least.f a b = some (if a < b then a else b) := by
 unfold spec_l1Least.f
 split <;> rfl
theorem window_j1 (l : List Int) (hl : ∀ x ∈ l, Opn.U8 x) (i : Nat) (hi : i ≤ 990000) (s x5 x6 x7 x8 : Int) (h6 : 0 ≤ x6 ∧ x6 ≤ 65) (h7 : 0 ≤ x7 ∧ x7 ≤ 65) (h8 : 0 ≤ x8 ∧ x8 ≤ 65) : ∃ (y1 y2 y3 y4 : Int) (j : Nat) (t : Int), Ev (fun k => spec_l1Cur_window.j1 k x5 x6 x7 x8 l (i : Int) s) (y1, y2, y3, y4, (j : Int), t) ∧ j ≤ i + 4 := by
 obtain ⟨q, hq⟩ : ∃ q, q = if wrap64 (x6 - x7) > 0 then wrap64 (x6 - x7) else 0 := ⟨_, rfl⟩
 have hqb : 0 ≤ q ∧ q ≤ 65 := by rw [hq, wid (by omega) (by omega)]; split <;> omega
 obtain ⟨v, j, t, hv, hj⟩ := one_ok l hl i (by omega) s 3 (by omega)
 cases v with
 | true =>
  obtain ⟨u, j2, t2, hu, hj2, _, _⟩ := pick_ok l hl j (by omega) t (wrap64 (wrap64 (q - x8) + 1)) (by rw [wid (n := q - x8) (by omega) (by omega), wid (by omega) (by omega)]; omega)
  obtain ⟨y1, y2, y3, y4, j3, t3, h3, hj3⟩ := window_j2 l hl j2 (by omega) t2 x6 x5 x7 x8 (wrap64 (x8 + u))
  refine ⟨y1, y2, y3, y4, j3, t3, ev_succ ?_, by omega⟩
  simp only [spec_l1Cur_window.j1, most_eq, Option.bind_some]
  rw [hv, ← hq]
  simp only [Option.bind_some]
  refine ev_pos (by first | trivial | rfl) ?_
  rw [hu]
  exact h3
 | false =>
  obtain ⟨y1, y2, y3, y4, j3, t3, h3, hj3⟩ := window_j2 l hl j (by omega) t x6 x5 x7 x8 q
  refine ⟨y1, y2, y3, y4, j3, t3, ev_succ ?_, by omega⟩
  simp only [spec_l1Cur_window.j1, most_eq, Option.bind_some]
  rw [hv, ← hq]
  simp only [Option.bind_some]
  exact ev_neg (by decide) h3
theorem window_j0 (l : List Int) (hl : ∀ x ∈ l, Opn.U8 x) (i : Nat) (hi : i ≤ 950000) (s : Int) (m : List (List Int)) (hm : m.length ≤ 18) (hr : ∀ r ∈ m, r.length ≤ 65) (b : Bool) (hb : b = false → 0 < m.length) : ∃ (y1 y2 y3 y4 : Int) (j : Nat) (t : Int), Ev (fun k => spec_l1Cur_window.j0 k b l (i : Int) s m) (y1, y2, y3, y4, (j : Int), t) ∧ j ≤ i + 20 := by
 cases b with
 | true =>
  obtain ⟨u1, j1, t1, e1, b1, _⟩ := among_ok l hl i (by omega) s [0, -1, 16] (by decide) (by decide)
  obtain ⟨u2, j2, t2, e2, b2, _⟩ := among_ok l hl j1 (by omega) t1 [0, 1] (by decide) (by decide)
  obtain ⟨u3, j3, t3, e3, b3, _⟩ := among_ok l hl j2 (by omega) t2 [1, 0, 2] (by decide) (by decide)
  refine ⟨u1, u2, 1, u3, j3, t3, ev_succ ?_, by omega⟩
  simp only [spec_l1Cur_window.j0]
  refine ev_pos (by first | trivial | rfl) ?_
  rw [e1]
  simp only [Option.bind_some]
  rw [e2]
  simp only [Option.bind_some]
  rw [e3]
  exact Ev.now _
 | false =>
  have hp := hb rfl
  obtain ⟨q, hq⟩ : ∃ q, q = if (m.length : Int) < 3 then (m.length : Int) else 3 := ⟨_, rfl⟩
  have hqb : 1 ≤ q ∧ q ≤ 3 ∧ q ≤ (m.length : Int) := by rw [hq]; split <;> omega
  obtain ⟨u1, j1, t1, e1, b1, p1, p2⟩ := pick_ok l hl i (by omega) s q (by omega)
  have p2 := p2 (by omega)
  have hrd : rd_L2 m u1 = arr_ m u1 := rfl
  have hsz := hr _ (arr_mem (m := m) p1 (by omega))
  obtain ⟨z, hz⟩ : ∃ z : Int, z = ((arr_ m u1).length : Int) := ⟨_, rfl⟩
  have hzb : 0 ≤ z ∧ z ≤ 65 := by omega
  obtain ⟨p, hpq⟩ : ∃ p, p = if z < 9 then z else 9 := ⟨_, rfl⟩
  have hpb : 0 ≤ p ∧ p ≤ 9 := by rw [hpq]; split <;> omega
  have hw1 : wrap64 (p + 1) = p + 1 := wid (by omega) (by omega)
  obtain ⟨u2, j2, t2, e2, b2, p3, p4⟩ := pick_ok l hl j1 (by omega) t1 (p + 1) (by omega)
  have p4 := p4 (by omega)
  obtain ⟨o, ho⟩ : ∃ o, o = if wrap64 (z - u2) > 0 then wrap64 (z - u2) else 0 := ⟨_, rfl⟩
  have hob : 0 ≤ o ∧ o ≤ 65 := by rw [ho, wid (by omega) (by omega)]; split <;> omega
  have hw2 : wrap64 (o + 1) = o + 1 := wid (by omega) (by omega)
  obtain ⟨u3, j3, t3, e3, b3, p5, p6⟩ := pick_ok l hl j2 (by omega) t2 (o + 1) (by omega)
  have p6 := p6 (by omega)
  obtain ⟨v, j4, t4, e4, b4⟩ := one_ok l hl j3 (by omega) t3 2 (by omega)
  cases v with
  | true =>
   obtain ⟨u5, j5, t5, e5, b5, p7, p8⟩ := pick_ok l hl j4 (by omega) t4 5 (by omega)
   have p8 := p8 (by omega)
   obtain ⟨y1, y2, y3, y4, j6, t6, h6, b6⟩ := window_j1 l hl j5 (by omega) t5 u1 z u2 (if u3 < u5 then u3 else u5) hzb (by omega) (by split <;> omega)
   refine ⟨y1, y2, y3, y4, j6, t6, ev_succ ?_, by omega⟩
   simp only [spec_l1Cur_window.j0, least_eq, most_eq, Option.bind_some]
   refine ev_neg (by decide) ?_
   rw [← hq, e1]
   simp only [Option.bind_some]
   refine ev_pos p1 (ev_pos (by omega) ?_)
   rw [hrd, ← hz, ← hpq, hw1, e2]
   simp only [Option.bind_some]
   rw [← ho, hw2, e3]
   simp only [Option.bind_some]
   rw [e4]
   simp only [Option.bind_some]
   refine ev_pos (by first | trivial | rfl) ?_
   rw [e5]
   exact h6
  | false =>
   obtain ⟨y1, y2, y3, y4, j6, t6, h6, b6⟩ := window_j1 l hl j4 (by omega) t4 u1 z u2 u3 hzb (by omega) (by omega)
   refine ⟨y1, y2, y3, y4, j6, t6, ev_succ ?_, by omega⟩
   simp only [spec_l1Cur_window.j0, least_eq, most_eq, Option.bind_some]
   refine ev_neg (by decide) ?_
   rw [← hq, e1]
   simp only [Option.bind_some]
   refine ev_pos p1 (ev_pos (by omega) ?_)
   rw [hrd, ← hz, ← hpq, hw1, e2]
   simp only [Option.bind_some]
   rw [← ho, hw2, e3]
   simp only [Option.bind_some]
   rw [e4]
   simp only [Option.bind_some]
   exact ev_neg (by decide) h6
theorem window_ok (l : List Int) (hl : ∀ x ∈ l, Opn.U8 x) (i : Nat) (hi : i ≤ 900000) (s : Int) (m : List (List Int)) (hm : m.length ≤ 18) (hr : ∀ r ∈ m, r.length ≤ 65) : ∃ (y1 y2 y3 y4 : Int) (j : Nat) (t : Int), Ev (fun k => spec_l1Cur_window.f k l (i : Int) s m) (y1, y2, y3, y4, (j : Int), t) ∧ j ≤ i + 100 := by
 by_cases h0 : (m.length : Int) = 0
 ·obtain ⟨y1, y2, y3, y4, j, t, h, b⟩ := window_j0 l hl i (by omega) s m hm hr true (fun e => by cases e)
  refine ⟨y1, y2, y3, y4, j, t, ?_, by omega⟩
  simp only [spec_l1Cur_window.f]
  exact ev_pos h0 h
 ·obtain ⟨v, j1, t1, e1, b1⟩ := one_ok l hl i (by omega) s 40 (by omega)
  obtain ⟨y1, y2, y3, y4, j, t, h, b⟩ := window_j0 l hl j1 (by omega) t1 m hm hr v (fun _ => by omega)
  refine ⟨y1, y2, y3, y4, j, t, ?_, by omega⟩
  simp only [spec_l1Cur_window.f]
  refine ev_neg h0 ?_
  rw [e1]
  exact h
def bytes (m : List (List Int)) (a s l : Int) : List Int := ((arr_ m a).take (s + l).toNat).drop s.toNat
theorem bytes_length {m : List (List Int)} {a s l c : Int} (h : WinOK m a s l c) : ((bytes m a s l).length : Int) = l := by
 have hb := h.bounds
 unfold bytes
 rw [List.length_drop, List.length_take]
 omega
theorem bytes_rd {m : List (List Int)} {a s l c : Int} (h : WinOK m a s l c) {i : Int} (h0 : 0 ≤ i) (h1 : i < l) : rd (bytes m a s l) i = rd (arr_ m a) (s + i) := by
 have hb := h.bounds
 unfold bytes rd
 rw [List.getD_eq_getElem?_getD, List.getD_eq_getElem?_getD, List.getElem?_drop, List.getElem?_take, if_pos (by omega)]
 congr 2
 omega
def slot (l f i : Int) : Int := (f + i) % l
theorem slot_range {l f i : Int} (h : 0 < l) : 0 ≤ slot l f i ∧ slot l f i < l := ⟨Int.emod_nonneg _ (by omega), Int.emod_lt_of_pos _ h⟩
theorem tmod_slot {l f i : Int} (h0 : 0 ≤ f) (h1 : 0 ≤ i) (h2 : f ≤ 1048576) (h3 : i ≤ 1048576) : Int.tmod (wrap64 (f + i)) l = slot l f i := by
 rw [wid (by omega) (by omega), Int.tmod_eq_emod_of_nonneg (by omega)]
 rfl
theorem spec_l2Window_ev (m : List (List Int)) (hm : m.length ≤ 1048576) (a s l c : Int) : Ev (fun k => spec_l2Window.f k m a s l c) (decide (WinOK m a s l c)) := by
 simp only [spec_l2Window.f, spec_l1In_eq, Option.bind_some]
 refine ev_bind (spec_l2Memory_ev m hm) ?_
 by_cases h : MemOK m
 ·refine ev_pos (decide_eq_true h) (ev_succ ?_)
  have hl := h.1
  simp only [spec_l2Window.j0]
  rw [wid (n := (m.length : Int) - 1) (by omega) (by omega)]
  by_cases h1 : 0 ≤ a ∧ a ≤ (m.length : Int) - 1
  ·have hz := arr_size h h1.1 (by omega)
   have hr : rd_L2 m a = arr_ m a := rfl
   simp only [decide_eq_true h1, spec_l1In_eq, Option.bind_some, hr, decide_eq_true_eq]
   refine ev_neg (by decide) (ev_pos h1.1 (ev_pos (by omega) ?_))
   by_cases h2 : 0 ≤ s ∧ s ≤ ((arr_ m a).length : Int)
   ·refine ev_pos h2 ?_
    rw [wid (n := ((arr_ m a).length : Int) - s) (by omega) (by omega)]
    by_cases h3 : 0 ≤ c ∧ c ≤ ((arr_ m a).length : Int) - s
    ·refine ev_pos h3 (ev_eq (Ev.now _) (decide_eq_decide.mpr ⟨fun x => ⟨h, by omega⟩, fun x => ⟨x.2.2.2.2.1, x.2.2.2.2.2.1⟩⟩))
    ·refine ev_neg h3 (ev_eq (Ev.now _) (decide_eq_false (fun x => h3 ?_)).symm)
     obtain ⟨_, x⟩ := x
     omega
   ·refine ev_neg h2 (ev_eq (Ev.now _) (decide_eq_false (fun x => h2 ?_)).symm)
    obtain ⟨_, x⟩ := x
    omega
  ·simp only [decide_eq_false h1]
   refine ev_pos (by first | trivial | rfl) (ev_eq (Ev.now _) (decide_eq_false (fun x => h1 ?_)).symm)
   obtain ⟨_, x⟩ := x
   omega
 ·refine ev_neg (by rw [decide_eq_false h]; decide) (ev_succ ?_)
  simp only [spec_l2Window.j0]
  exact ev_pos (by first | trivial | rfl) (ev_eq (Ev.now _) (decide_eq_false (fun x => h x.1)).symm)
theorem spec_l2At_eq {m : List (List Int)} {a s l c : Int} (h : WinOK m a s l c) {i : Int} (h0 : 0 ≤ i) (h1 : i < l) : spec_l2At.f m a s l c i = some (rd (bytes m a s l) i) := by
 have hb := h.bounds
 have hr : rd_L2 m a = arr_ m a := rfl
 rw [bytes_rd h h0 h1]
 unfold spec_l2At.f
 rw [wid (n := s + i) (by omega) (by omega), hr, if_pos (by omega), if_pos (by omega), if_pos (by omega), if_pos (by omega)]
def WinAt (m : List (List Int)) (w : S54) : Prop := WinOK m w.f0 w.f1 w.f2 w.f3
instance (m : List (List Int)) (w : S54) : Decidable (WinAt m w) := by unfold WinAt; exact inferInstance
def AllOn (m : List (List Int)) : List S54 → Prop
 | [] => True
 | w :: ws => WinAt m w ∧ AllOn m ws
instance allOnDec (m : List (List Int)) : (ws : List S54) → Decidable (AllOn m ws)
 | [] => isTrue trivial
 | w :: ws => by
  haveI := allOnDec m ws
  unfold AllOn
  exact inferInstance
theorem AllOn.mem {m : List (List Int)} : ∀ {ws : List S54}, AllOn m ws → ∀ w ∈ ws, WinAt m w
 | [], _, w, hw => by simp at hw
 | x :: ws, h, w, hw => by
  rcases List.mem_cons.1 hw with rfl | hw
  ·exact h.1
  ·exact AllOn.mem h.2 w hw
theorem AllOn.of {m : List (List Int)} : ∀ {ws : List S54}, (∀ w ∈ ws, WinAt m w) → AllOn m ws
 | [], _ => trivial
 | x :: ws, h => ⟨h x List.mem_cons_self, AllOn.of (fun w hw => h w (List.mem_cons_of_mem _ hw))⟩
theorem AllOn.drop {m : List (List Int)} {ws : List S54} (h : AllOn m ws) (i : Nat) : AllOn m (ws.drop i) := AllOn.of (fun w hw => h.mem w (List.mem_of_mem_drop hw))
theorem rdW {ws : List S54} {i : Nat} (h : i < ws.length) : rd_T54 ws (i : Int) = ws[i] := by
 unfold rd_T54
 exact getD_lt ws _ h
theorem impl_within_eq (a b c : Int) : impl_within.f a b c = some (decide (b ≤ a ∧ a ≤ c)) := by
 unfold impl_within.f
 by_cases h : a ≥ b
 ·rw [if_pos h]
  congr 1
  exact decide_eq_decide.mpr ⟨fun x => ⟨h, x⟩, fun x => x.2⟩
 ·rw [if_neg h]
  exact dec_false (fun x => h x.1)
theorem impl_Memory_hasWindow_eq (m : List (List Int)) (h : MemOK m) (a s l c : Int) : impl_Memory_hasWindow.f m a s l c = some (decide (WinOK m a s l c)) := by
 have hl := h.1
 simp only [impl_Memory_hasWindow.f, impl_Memory_hasArray.f, impl_within_eq, Option.bind_some, decide_eq_true_eq]
 rw [wid (n := (m.length : Int) - 1) (by omega) (by omega)]
 by_cases h1 : 0 ≤ a ∧ a ≤ (m.length : Int) - 1
 ·have hz := arr_size h h1.1 (by omega)
  have hr : rd_L2 m a = arr_ m a := rfl
  rw [if_pos h1, hr]
  by_cases h2 : 0 ≤ c ∧ c ≤ 64
  ·rw [if_pos h2]
   by_cases h3 : 0 ≤ l ∧ l ≤ c
   ·rw [if_pos h3, if_pos h1.1, if_pos (by omega), wid (n := ((arr_ m a).length : Int) - c) (by omega) (by omega)]
    congr 1
    exact decide_eq_decide.mpr ⟨fun x => ⟨h, by omega⟩, fun x => by obtain ⟨_, x⟩ := x; omega⟩
   ·rw [if_neg h3]
    exact dec_false (fun x => h3 (by obtain ⟨_, x⟩ := x; omega))
  ·rw [if_neg h2]
   exact dec_false (fun x => h2 (by obtain ⟨_, x⟩ := x; omega))
 ·rw [if_neg h1]
  exact dec_false (fun x => h1 (by obtain ⟨_, x⟩ := x; omega))
theorem impl_IsMemory_l0 (m : List (List Int)) (hm : m.length ≤ 1048576) : ∀ (d i : Nat), i + d = m.length → Ev (fun k => impl_IsMemory.l0 k m (m.length : Int) (i : Int) m) (decide (m.length ≤ 16 ∧ Sizes (m.drop i))) := by
 intro d
 induction d with
 | zero =>
  intro i hi
  have e : m.drop i = [] := List.drop_eq_nil_of_le (by omega)
  refine ev_succ (ev_eq (r := decide ((m.length : Int) ≤ 16)) ?_ ?_)
  ·simp only [impl_IsMemory.l0]
   exact ev_neg (by omega) (Ev.now _)
  ·rw [e]
   exact decide_eq_decide.mpr ⟨fun h => ⟨by omega, Sizes.nil⟩, fun h => by have := h.1; omega⟩
 | succ d ih =>
  intro i hi
  have h : i < m.length := by omega
  refine ev_succ ?_
  simp only [impl_IsMemory.l0]
  refine ev_pos (by omega) (ev_pos (by omega) (ev_pos (by omega) ?_))
  have hr : rd_L2 m (i : Int) = m[i] := by
   unfold rd_L2
   exact getD_lt m [] h
  simp only [impl_within_eq, hr, Option.bind_some, decide_eq_true_eq]
  by_cases hs : (1 : Int) ≤ (m[i].length : Int) ∧ (m[i].length : Int) ≤ 64
  ·refine ev_pos hs (ev_eq (r := decide (m.length ≤ 16 ∧ Sizes (m.drop (i + 1)))) ?_ ?_)
   ·have := ih (i + 1) (by omega)
    rw [← wsucc (i := i) (by omega)] at this
    exact this
   ·rw [List.drop_eq_getElem_cons h]
    exact decide_eq_decide.mpr ⟨fun x => ⟨x.1, x.2.cons hs⟩, fun x => ⟨x.1, x.2.tail⟩⟩
  ·refine ev_neg hs (ev_eq (Ev.now false) ?_)
   rw [List.drop_eq_getElem_cons h]
   exact (decide_eq_false (fun x => hs x.2.head)).symm
theorem impl_IsMemory_ev (m : List (List Int)) (hm : m.length ≤ 1048576) : Ev (fun k => impl_IsMemory.f k m) (decide (MemOK m)) := by
 simp only [impl_IsMemory.f]
 have := impl_IsMemory_l0 m hm m.length 0 (by omega)
 rw [List.drop_zero] at this
 exact this
theorem impl_areOn_any (m : List (List Int)) (h : MemOK m) : ∀ ws : List S54, Opn.anyO (fun x => (impl_Memory_hasWindow.f m x.f0 x.f1 x.f2 x.f3).bind fun b => some (!b)) ws = some (!decide (AllOn m ws))
 | [] => rfl
 | w :: ws => by
  unfold Opn.anyO
  rw [impl_Memory_hasWindow_eq m h, Option.bind_some, Option.bind_some, impl_areOn_any m h ws]
  by_cases hw : WinOK m w.f0 w.f1 w.f2 w.f3
  ·rw [decide_eq_true hw, if_neg (by decide)]
   congr 2
   exact decide_eq_decide.mpr ⟨fun x => ⟨hw, x⟩, fun x => x.2⟩
  ·rw [decide_eq_false hw, if_pos (by decide), decide_eq_false (fun x : AllOn m (w :: ws) => hw x.1)]
   rfl
theorem impl_areOn_ev (m : List (List Int)) (hm : m.length ≤ 1048576) (ws : List S54) : Ev (fun k => impl_areOn.f k m ws) (decide (MemOK m ∧ AllOn m ws)) := by
 simp only [impl_areOn.f]
 refine ev_bind (impl_IsMemory_ev m hm) ?_
 by_cases h : MemOK m
 ·refine ev_pos (decide_eq_true h) (ev_now (fun k => ?_))
  rw [impl_areOn_any m h, Option.bind_some, Bool.not_not]
  congr 1
  exact decide_eq_decide.mpr ⟨fun x => ⟨h, x⟩, fun x => x.2⟩
 ·exact ev_neg (by rw [decide_eq_false h]; decide) (ev_eq (Ev.now _) (decide_eq_false (fun x => h x.1)).symm)
theorem impl_areOn1_ev (m : List (List Int)) (hm : m.length ≤ 1048576) (a s l c : Int) : Ev (fun k => impl_areOn.f k m [(⟨a, s, l, c⟩ : S54)]) (decide (WinOK m a s l c)) :=
 ev_eq (impl_areOn_ev m hm _) (decide_eq_decide.mpr ⟨fun x => x.2.1, fun x => ⟨x.1, x, trivial⟩⟩)
def keyAt (m : List (List Int)) (a s l c i : Int) : List Int × Bool := if WinOK m a s l c ∧ 0 ≤ i ∧ i ≤ l - 16 then (((bytes m a s l).drop i.toNat).take 16, true) else (List.replicate 16 0, false)
theorem keyO_eq {g : Nat → Option Int} {xs : List Int} {i : Nat} : ∀ n : Nat, i + n ≤ xs.length → (∀ j, j < n → g j = some (xs.getD (i + j) 0)) → Ky.keyO g n = some ((xs.drop i).take n)
 | 0, _, _ => by simp [Ky.keyO]
 | n + 1, hn, h => by
  unfold Ky.keyO
  rw [keyO_eq n (by omega) (fun j hj => h j (by omega)), Option.bind_some, h n (by omega), Option.bind_some, List.take_add_one, List.getElem?_drop, List.getD_eq_getElem?_getD, List.getElem?_eq_getElem (show i + n < xs.length by omega)]
  rfl
theorem spec_KeyAt_ev (m : List (List Int)) (hm : m.length ≤ 1048576) (a s l c i : Int) : Ev (fun k => spec_KeyAt.f k m a s l c i) (keyAt m a s l c i) := by
 simp only [spec_KeyAt.f, spec_l9Has.f, spec_l1In_eq, Option.bind_some]
 refine ev_bind (a := decide (WinOK m a s l c ∧ 0 ≤ i ∧ i ≤ l - 16)) ?_ ?_
 ·refine ev_bind (spec_l2Window_ev m hm a s l c) ?_
  by_cases h : WinOK m a s l c
  ·have hb := h.bounds
   refine ev_pos (decide_eq_true h) (ev_eq (Ev.now _) ?_)
   rw [wid (n := l - 16) (by omega) (by omega)]
   exact decide_eq_decide.mpr ⟨fun x => ⟨h, x⟩, fun x => x.2⟩
  ·exact ev_neg (by rw [decide_eq_false h]; decide) (ev_eq (Ev.now _) (decide_eq_false (fun x => h x.1)).symm)
 by_cases h : WinOK m a s l c ∧ 0 ≤ i ∧ i ≤ l - 16
 ·have hb := h.1.bounds
  have hl := bytes_length h.1
  refine ev_pos (decide_eq_true h) (ev_now fun _ => ?_)
  unfold spec_l9Key.f
  rw [if_pos (by omega), keyO_eq (xs := bytes m a s l) (i := i.toNat) 16 (by omega) (fun j hj => ?_), Option.bind_some, keyAt, if_pos h]
  rw [spec_l2At_eq h.1 (by omega) (by omega)]
  unfold rd
  congr 2
  omega
 ·exact ev_neg (by rw [decide_eq_false h]; decide) (ev_eq (Ev.now _) (by rw [keyAt, if_neg h]))
theorem impl_KeyAt_ev (m : List (List Int)) (hm : m.length ≤ 1048576) (a s l c i : Int) : Ev (fun k => impl_KeyAt.f k m a s l c i) (keyAt m a s l c i) := by
 simp only [impl_KeyAt.f, impl_within_eq, Option.bind_some]
 refine ev_bind (impl_areOn1_ev m hm a s l c) ?_
 by_cases h : WinOK m a s l c
 ·have hb := h.bounds
  have hr : rd_L2 m a = arr_ m a := rfl
  refine ev_pos (decide_eq_true h) ?_
  rw [wid (n := l - 16) (by omega) (by omega), hr]
  by_cases hi : 0 ≤ i ∧ i ≤ l - 16
  ·refine ev_pos (decide_eq_true hi) (ev_now fun _ => ?_)
   rw [if_pos (by omega), keyAt, if_pos ⟨h, hi⟩]
   unfold bytes
   rw [List.drop_take (l := arr_ m a) (j := (s + l).toNat), show (s + l).toNat - s.toNat = l.toNat from by omega]
  ·exact ev_neg (by rw [decide_eq_false hi]; decide) (ev_eq (Ev.now _) (by rw [keyAt, if_neg (fun x => hi x.2)]))
 ·exact ev_neg (by rw [decide_eq_false h]; decide) (ev_eq (Ev.now _) (by rw [keyAt, if_neg (fun x => h x.1)]))
theorem cut_ok : laws_FnKeys.Cut := by
 intro l hl hlen n hn
 unfold laws_vCut.f
 rw [if_pos ⟨by omega, by omega⟩]
 refine ⟨_, rfl, fun x hx => ?_⟩
 rcases List.mem_append.1 hx with h | h
 ·exact hl x (List.mem_of_mem_drop h)
 ·obtain rfl : x = ((laws_vCut.at l.length n : Nat) : Int) % 256 := by simpa using h
  omega
theorem three_ok {m : List (List Int)} (hm : m.length ≤ 1048576) {a s l c i : Int} (h : WinOK m a s l c) (h0 : 0 ≤ i) (h1 : i ≤ l - 16) : Ev (fun k => impl_SliceThree.f k m a s l c i (wrap64 (i + 16)) (wrap64 (i + 16))) (a, s + i, 16, 16, true) := by
 have hb := h.bounds
 simp only [impl_SliceThree.f, impl_within_eq, Option.bind_some]
 rw [wid (n := i + 16) (by omega) (by omega)]
 refine ev_bind (impl_areOn1_ev m hm a s l c) (ev_pos (decide_eq_true h) (ev_pos (decide_eq_true (by omega)) (ev_pos (decide_eq_true (by omega)) (ev_pos (decide_eq_true (by omega)) ?_))))
 rw [wid (n := s + i) (by omega) (by omega), wid (n := i + 16 - i) (by omega) (by omega), show i + 16 - i = 16 from by omega]
 exact Ev.now _
theorem inner_ok {m : List (List Int)} {a s l c i : Int} (h : WinOK m a s l c) (h0 : 0 ≤ i) (h1 : i ≤ l - 16) : WinOK m a (s + i) 16 16 := by
 have hb := h.bounds
 exact ⟨h.1, h.2.1, h.2.2.1, by omega, by omega, by omega, by omega⟩
theorem wbytes_ok {m : List (List Int)} (hm : m.length ≤ 1048576) {a s l c i : Int} (h : WinOK m a s l c) (h0 : 0 ≤ i) (h1 : i ≤ l - 16) : Ev (fun k => impl_WindowBytes.f k m a (s + i) 16 16) (((bytes m a s l).drop i.toNat).take 16, true) := by
 have hb := h.bounds
 have hi := inner_ok h h0 h1
 have hib := hi.bounds
 have hr : rd_L2 m a = arr_ m a := rfl
 simp only [impl_WindowBytes.f, impl_Memory_seen.f]
 refine ev_bind (impl_areOn1_ev m hm a (s + i) 16 16) (ev_pos (decide_eq_true hi) ?_)
 rw [wid (n := s + i + 16) (by omega) (by omega), if_pos hi.2.1, if_pos hi.2.2.1, if_pos (by omega), if_pos (by omega), hr, if_pos (by omega)]
 simp only [Option.bind_some]
 have hlen : (((arr_ m a).take (s + i + 16).toNat).drop (s + i).toNat).length = 16 := by
  rw [List.length_drop, List.length_take]
  omega
 unfold slices_Clone_byte_byte.f
 rw [if_pos (by omega)]
 simp only [Option.bind_some]
 refine ev_eq (Ev.now _) ?_
 congr 1
 unfold bytes
 rw [List.drop_drop, List.drop_take, List.drop_take, List.take_take]
 congr 1
 ·omega
 ·congr 1
  omega
theorem key_ok : laws_FnKeys.KeyFact := by
 intro m hm a s l c i
 have hm2 : m.length ≤ 1048576 := by omega
 have h1 := spec_KeyAt_ev m hm2 a s l c i
 have h2 := impl_KeyAt_ev m hm2 a s l c i
 by_cases h : WinOK m a s l c ∧ 0 ≤ i ∧ i ≤ l - 16
 ·rw [keyAt, if_pos h] at h1 h2
  have h3 := three_ok hm2 h.1 h.2.1 h.2.2
  have h4 := wbytes_ok hm2 h.1 h.2.1 h.2.2
  obtain ⟨k1, e1⟩ := h1
  obtain ⟨k2, e2⟩ := h2
  obtain ⟨k3, e3⟩ := h3
  obtain ⟨k4, e4⟩ := h4
  exact ⟨k1 + k2 + k3 + k4, _, true, e2 _ (by omega), e1 _ (by omega), fun _ => ⟨_, _, _, _, e3 _ (by omega), e4 _ (by omega)⟩⟩
 ·rw [keyAt, if_neg h] at h1 h2
  obtain ⟨k1, e1⟩ := h1
  obtain ⟨k2, e2⟩ := h2
  exact ⟨k1 + k2, _, false, e2 _ (by omega), e1 _ (by omega), fun e => by cases e⟩
theorem fact9 : spec_l1Cur_key9.Fact := by
 intro l hl i hi s
 refine ⟨fun a ha => pick_ok l hl i (by omega) s a ha, fun xs h0 h1 => among_ok l hl i (by omega) s xs h0 h1, fun a ha => one_ok l hl i (by omega) s a ha, fun n hn => ?_⟩
 obtain ⟨r, j, t, h, hj, hr, hu⟩ := bytes_ok l hl i (by omega) s n hn
 obtain ⟨k, hk⟩ := Ev.rounds h
 exact ⟨k, r, j, t, hk, hj, hr, hu⟩
theorem factA : spec_DrawKeyAt.Fact := by
 refine ⟨fun l hl => ?_, fun l hl i hi s m hm hr => ?_, fun m hm => ?_⟩
 ·obtain ⟨m, j, t, h, h1, h2, h3⟩ := memory_ok l hl
  obtain ⟨k, hk⟩ := Ev.rounds h
  exact ⟨k, m, j, t, hk, h1, h2, h3⟩
 ·obtain ⟨y1, y2, y3, y4, j, t, h, h1⟩ := window_ok l hl i hi s m hm hr
  obtain ⟨k, hk⟩ := Ev.rounds h
  exact ⟨k, y1, y2, y3, y4, j, t, hk, h1⟩
 ·obtain ⟨k, hk⟩ := Ev.rounds (spec_l2Memory_ev m (by omega))
  exact ⟨k, _, hk⟩
theorem FnKeys : laws_FnKeys.Pure := by
 intro l hl
 unfold laws_FnKeys.f
 exact if_pos ⟨hl.2, fact9, factA, cut_ok, key_ok⟩
end Go.Proofs.Ytkifenbcepicjaa.Pure
