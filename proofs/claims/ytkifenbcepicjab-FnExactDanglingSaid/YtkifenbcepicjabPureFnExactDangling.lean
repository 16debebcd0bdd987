/- What is proved here: the plain statement of the law FnExactDangling, over numbers and lists. No condition beyond those that it states. -/
import Derived.Test.YtkifenbcepicjabQFnExactDangling
import Derived.Test.YtkifenbcepicjabTk
namespace Go.Proofs.Ytkifenbcepicjab.Pure
open Go.RowKit Go.Proofs.Ytkifenbcepicjab.PFnExactDangling Go.Proofs.YtkifenbcepicjabW.PrintWords Go.Proofs.YtkifenbcepicjabW.PrintMore Go.Proofs.Ytkifenbcepicjab.Tk Go.Proofs.Ytkifenbcepicjab.Opn
set_option linter.unusedVariables false
set_option linter.unusedSimpArgs false
def Sizes (m : List (List Int)) : Prop := ∀ a ∈ m, 1 ≤ a.length ∧ a.length ≤ 64
instance (m : List (List Int)) : Decidable (Sizes m) := by unfold Sizes; exact inferInstance
theorem Sizes.nil : Sizes [] := fun a ha => by simp at ha
theorem Sizes.cons {a : List Int} {m : List (List Int)} (h : (1 : Int) ≤ (a.length : Int) ∧ (a.length : Int) ≤ 64) (k : Sizes m) : Sizes (a :: m) := fun b hb => by
 rcases List.mem_cons.1 hb with rfl | hb
 ·omega
 ·exact k b hb
theorem Sizes.head {a : List Int} {m : List (List Int)} (k : Sizes (a :: m)) : (1 : Int) ≤ (a.length : Int) ∧ (a.length : Int) ≤ 64 := by
 have := k a List.mem_cons_self
 omega
theorem Sizes.tail {a : List Int} {m : List (List Int)} (k : Sizes (a :: m)) : Sizes m := fun b hb => k b (List.mem_cons_of_mem _ hb)
def MemOK (m : List (List Int)) : Prop := m.length ≤ 16 ∧ Sizes m
instance (m : List (List Int)) : Decidable (MemOK m) := by unfold MemOK; exact inferInstance
def arr_ (m : List (List Int)) (a : Int) : List Int := m.getD a.toNat []
def WinOK (m : List (List Int)) (a s l c : Int) : Prop := MemOK m ∧ 0 ≤ a ∧ a < (m.length : Int) ∧ 0 ≤ s ∧ 0 ≤ l ∧ l ≤ c ∧ s + c ≤ ((arr_ m a).length : Int)
instance (m : List (List Int)) (a s l c : Int) : Decidable (WinOK m a s l c) := by unfold WinOK; exact inferInstance
def Small (m : List (List Int)) : Prop := m.length ≤ 1048576 ∧ ∀ a ∈ m, a.length ≤ 1048576
theorem arr_mem {m : List (List Int)} {a : Int} (h0 : 0 ≤ a) (h1 : a < (m.length : Int)) : arr_ m a ∈ m := by
 unfold arr_
 rw [getD_lt m [] (by omega : a.toNat < m.length)]
 exact List.getElem_mem _
theorem arr_size {m : List (List Int)} (hm : MemOK m) {a : Int} (h0 : 0 ≤ a) (h1 : a < (m.length : Int)) : 1 ≤ (arr_ m a).length ∧ (arr_ m a).length ≤ 64 := hm.2 _ (arr_mem h0 h1)
theorem MemOK.small {m : List (List Int)} (hm : MemOK m) : Small m := ⟨by have := hm.1; omega, fun a ha => by have := hm.2 a ha; omega⟩
theorem WinOK.bounds {m : List (List Int)} {a s l c : Int} (h : WinOK m a s l c) : MemOK m ∧ 0 ≤ a ∧ a < 16 ∧ a < (m.length : Int) ∧ 0 ≤ s ∧ s ≤ 64 ∧ 0 ≤ l ∧ l ≤ c ∧ c ≤ 64 ∧ s + c ≤ ((arr_ m a).length : Int) ∧ ((arr_ m a).length : Int) ≤ 64 := by
 obtain ⟨hm, h0, h1, h2, h3, h4, h5⟩ := h
 have := arr_size hm h0 h1
 have := hm.1
 refine ⟨hm, h0, by omega, h1, h2, by omega, h3, h4, by omega, h5, by omega⟩
theorem dec_false {p : Prop} [Decidable p] (h : ¬ p) : some false = some (decide p) := by rw [decide_eq_false h]
def MarkAt (u : Int) (ms : List Int) (j : Nat) : Prop := 0 ≤ ms.getD j 0 ∧ ms.getD j 0 ≤ u ∧ (0 < j → ms.getD (j - 1) 0 ≤ ms.getD j 0)
instance (u : Int) (ms : List Int) (j : Nat) : Decidable (MarkAt u ms j) := by unfold MarkAt; exact inferInstance
def ArenaOK (m : List (List Int)) (a s l c u : Int) (ms : List Int) : Prop := WinOK m a s l c ∧ 0 ≤ u ∧ u ≤ l ∧ ms.length ≤ 8 ∧ ∀ j, j < ms.length → MarkAt u ms j
instance (m : List (List Int)) (a s l c u : Int) (ms : List Int) : Decidable (ArenaOK m a s l c u ms) := by unfold ArenaOK; exact inferInstance
theorem dec_of {b : Bool} {p : Prop} [Decidable p] (h : b = true ↔ p) : b = decide p := by
 by_cases hp : p
 ·rw [h.2 hp, decide_eq_true hp]
 ·cases b with
  | true => exact absurd (h.1 rfl) hp
  | false => rw [decide_eq_false hp]
theorem spec_l1In_eq (a b c : Int) : spec_l1In.f a b c = some (decide (b ≤ a ∧ a ≤ c)) := by
 unfold spec_l1In.f
 by_cases h : a ≥ b
 ·rw [if_pos h]
  congr 1
  exact decide_eq_decide.mpr ⟨fun x => ⟨h, x⟩, fun x => x.2⟩
 ·rw [if_neg h]
  exact dec_false (fun x => h x.1)
theorem spec_l2Memory_l0 (m : List (List Int)) (hm : m.length ≤ 1048576) : ∀ (d i : Nat), i + d = m.length → Ev (fun k => spec_l2Memory.l0 k (i : Int) m) (decide (m.length ≤ 16 ∧ Sizes (m.drop i))) := by
 intro d
 induction d with
 | zero =>
  intro i hi
  have e : m.drop i = [] := List.drop_eq_nil_of_le (by omega)
  refine ev_succ (ev_eq (r := decide ((m.length : Int) ≤ 16)) ?_ ?_)
  ·simp only [spec_l2Memory.l0]
   refine ev_neg (by omega) (ev_succ ?_)
   simp only [spec_l2Memory.j1]
   exact ev_neg (by decide) (Ev.now _)
  ·rw [e]
   exact decide_eq_decide.mpr ⟨fun h => ⟨by omega, Sizes.nil⟩, fun h => by have := h.1; omega⟩
 | succ d ih =>
  intro i hi
  have h : i < m.length := by omega
  refine ev_succ ?_
  simp only [spec_l2Memory.l0]
  refine ev_pos (by omega) (ev_succ ?_)
  by_cases h16 : (i : Int) ≤ 16
  ·simp only [spec_l2Memory.j1, decide_eq_true h16]
   refine ev_pos (by first | trivial | rfl) (ev_pos (by omega) (ev_pos (by omega) ?_))
   have hr : rd_L1 m (i : Int) = m[i] := by
    unfold rd_L1
    exact getD_lt m [] h
   simp only [spec_l1In_eq, hr, Option.bind_some, decide_eq_true_eq]
   by_cases hs : (1 : Int) ≤ (m[i].length : Int) ∧ (m[i].length : Int) ≤ 64
   ·refine ev_pos hs (ev_eq (r := decide (m.length ≤ 16 ∧ Sizes (m.drop (i + 1)))) ?_ ?_)
    ·have := ih (i + 1) (by omega)
     rw [← wsucc (i := i) (by omega)] at this
     exact this
    ·rw [List.drop_eq_getElem_cons h]
     exact decide_eq_decide.mpr ⟨fun x => ⟨x.1, x.2.cons hs⟩, fun x => ⟨x.1, x.2.tail⟩⟩
   ·refine ev_neg hs (ev_eq (Ev.now false) ?_)
    rw [List.drop_eq_getElem_cons h]
    exact (decide_eq_false (fun x => hs x.2.head)).symm
  ·simp only [spec_l2Memory.j1, decide_eq_false h16]
   refine ev_neg (by decide) (ev_eq (Ev.now (decide ((m.length : Int) ≤ 16))) ?_)
   exact decide_eq_decide.mpr ⟨fun x => by omega, fun x => by have := x.1; omega⟩
theorem spec_l2Memory_ev (m : List (List Int)) (hm : m.length ≤ 1048576) : Ev (fun k => spec_l2Memory.f k m) (decide (MemOK m)) := by
 simp only [spec_l2Memory.f]
 have := spec_l2Memory_l0 m hm m.length 0 (by omega)
 rw [List.drop_zero] at this
 exact this
theorem spec_l2Window_ev (m : List (List Int)) (hm : m.length ≤ 1048576) (a s l c : Int) : Ev (fun k => spec_l2Window.f k m a s l c) (decide (WinOK m a s l c)) := by
 simp only [spec_l2Window.f, spec_l1In_eq, Option.bind_some]
 refine ev_bind (spec_l2Memory_ev m hm) ?_
 by_cases h : MemOK m
 ·refine ev_pos (decide_eq_true h) (ev_succ ?_)
  have hl := h.1
  simp only [spec_l2Window.j0]
  rw [wid (n := (m.length : Int) - 1) (by omega) (by omega)]
  by_cases h1 : 0 ≤ a ∧ a ≤ (m.length : Int) - 1
  ·have hz := arr_size h h1.1 (by omega)
   have hr : rd_L1 m a = arr_ m a := rfl
   simp only [decide_eq_true h1, spec_l1In_eq, Option.bind_some, hr, decide_eq_true_eq]
   refine ev_neg (by decide) (ev_pos h1.1 (ev_pos (by omega) ?_))
   by_cases h2 : 0 ≤ s ∧ s ≤ ((arr_ m a).length : Int)
   ·refine ev_pos h2 ?_
    rw [wid (n := ((arr_ m a).length : Int) - s) (by omega) (by omega)]
    by_cases h3 : 0 ≤ c ∧ c ≤ ((arr_ m a).length : Int) - s
    ·refine ev_pos h3 (ev_eq (Ev.now _) (decide_eq_decide.mpr ⟨fun x => ⟨h, by omega⟩, fun x => ⟨x.2.2.2.2.1, x.2.2.2.2.2.1⟩⟩))
    ·refine ev_neg h3 (ev_eq (Ev.now _) (decide_eq_false (fun x => h3 ?_)).symm)
     obtain ⟨_, x⟩ := x
     omega
   ·refine ev_neg h2 (ev_eq (Ev.now _) (decide_eq_false (fun x => h2 ?_)).symm)
    obtain ⟨_, x⟩ := x
    omega
  ·simp only [decide_eq_false h1]
   refine ev_pos (by first | trivial | rfl) (ev_eq (Ev.now _) (decide_eq_false (fun x => h1 ?_)).symm)
   obtain ⟨_, x⟩ := x
   omega
 ·refine ev_neg (by rw [decide_eq_false h]; decide) (ev_succ ?_)
  simp only [spec_l2Window.j0]
  exact ev_pos (by first | trivial | rfl) (ev_eq (Ev.now _) (decide_eq_false (fun x => h x.1)).symm)
theorem spec_l8Arena_l0 (m : List (List Int)) (a s l c u : Int) (ms : List Int) (hl : ms.length ≤ 1048576) : ∀ (d i : Nat), i + d = ms.length →
  ∃ b, Ev (fun k => spec_l8Arena.l0 k (i : Int) m a s l c u ms) b ∧ (b = true ↔ ∀ j, i ≤ j → j < ms.length → MarkAt u ms j) := by
 intro d
 induction d with
 | zero =>
  intro i hi
  refine ⟨true, ev_succ ?_, fun _ j h0 h1 => by omega, fun _ => rfl⟩
  simp only [spec_l8Arena.l0]
  exact ev_neg (by omega) (Ev.now _)
 | succ d ih =>
  intro i hi
  obtain ⟨b, hb, hq⟩ := ih (i + 1) (by omega)
  have hnext : (0 ≤ ms.getD i 0 ∧ ms.getD i 0 ≤ u) → (0 < i → ms.getD (i - 1) 0 ≤ ms.getD i 0) → (b = true ↔ ∀ j, i ≤ j → j < ms.length → MarkAt u ms j) := by
   intro h1 h2
   rw [hq]
   constructor
   ·intro h j h0 h3
    by_cases e : j = i
    ·rw [e]; exact ⟨h1.1, h1.2, h2⟩
    ·exact h j (by omega) h3
   ·intro h j h0 h3
    exact h j (by omega) h3
  have hd := rdn ms i
  by_cases hr : 0 ≤ ms.getD i 0 ∧ ms.getD i 0 ≤ u
  ·by_cases h0 : i = 0
   ·refine ⟨b, ev_succ ?_, hnext hr (fun h => by omega)⟩
    simp only [spec_l8Arena.l0, hd, spec_l1In_eq, Option.bind_some]
    refine ev_pos (by omega) (ev_pos (by omega) (ev_pos (decide_eq_true hr) (ev_neg (by omega) ?_)))
    rw [wsucc (by omega)]
    exact hb
   ·have hp : rd ms ((i : Int) - 1) = ms.getD (i - 1) 0 := by
     rw [show (i : Int) - 1 = ((i - 1 : Nat) : Int) by omega]; rfl
    by_cases hs : ms.getD (i - 1) 0 ≤ ms.getD i 0
    ·refine ⟨b, ev_succ ?_, hnext hr (fun _ => hs)⟩
     simp only [spec_l8Arena.l0, hd, spec_l1In_eq, Option.bind_some]
     rw [wid (n := (i : Int) - 1) (by omega) (by omega), hp]
     refine ev_pos (by omega) (ev_pos (by omega) (ev_pos (decide_eq_true hr) (ev_pos (by omega) (ev_pos (by omega) (ev_pos (by omega) (ev_neg (by omega) ?_))))))
     rw [wsucc (by omega)]
     exact hb
    ·refine ⟨false, ev_succ ?_, fun h => by simp at h, fun h => absurd ((h i (Nat.le_refl _) (by omega)).2.2 (by omega)) hs⟩
     simp only [spec_l8Arena.l0, hd, spec_l1In_eq, Option.bind_some]
     rw [wid (n := (i : Int) - 1) (by omega) (by omega), hp]
     exact ev_pos (by omega) (ev_pos (by omega) (ev_pos (decide_eq_true hr) (ev_pos (by omega) (ev_pos (by omega) (ev_pos (by omega) (ev_pos (by omega) (Ev.now _)))))))
  ·refine ⟨false, ev_succ ?_, fun h => by simp at h, fun h => absurd ⟨(h i (Nat.le_refl _) (by omega)).1, (h i (Nat.le_refl _) (by omega)).2.1⟩ hr⟩
   simp only [spec_l8Arena.l0, hd, spec_l1In_eq, Option.bind_some]
   exact ev_pos (by omega) (ev_pos (by omega) (ev_neg (by rw [decide_eq_false hr]; decide) (Ev.now _)))
theorem spec_l8Arena_ev (m : List (List Int)) (hm : m.length ≤ 1048576) (a s l c u : Int) (ms : List Int) (hl : ms.length ≤ 1048576) : Ev (fun k => spec_l8Arena.f k m a s l c u ms) (decide (ArenaOK m a s l c u ms)) := by
 simp only [spec_l8Arena.f, spec_l1In_eq, Option.bind_some]
 refine ev_bind (spec_l2Window_ev m hm a s l c) ?_
 by_cases h : WinOK m a s l c
 ·refine ev_pos (decide_eq_true h) ?_
  by_cases h2 : 0 ≤ u ∧ u ≤ l
  ·refine ev_pos (decide_eq_true h2) (ev_succ ?_)
   by_cases h8 : (ms.length : Int) > 8
   ·simp only [spec_l8Arena.j0, decide_eq_true h8]
    exact ev_pos (by first | trivial | rfl) (ev_eq (Ev.now _) (decide_eq_false (fun x => by have := x.2.2.2.1; omega)).symm)
   ·simp only [spec_l8Arena.j0, decide_eq_false h8]
    obtain ⟨b, hb, hq⟩ := spec_l8Arena_l0 m a s l c u ms hl ms.length 0 (by omega)
    refine ev_neg (by decide) (ev_eq hb (dec_of ?_))
    rw [hq]
    exact ⟨fun x => ⟨h, h2.1, h2.2, by omega, fun j hj => x j (Nat.zero_le _) hj⟩, fun x j _ hj => x.2.2.2.2 j hj⟩
  ·refine ev_neg (by rw [decide_eq_false h2]; decide) (ev_succ ?_)
   simp only [spec_l8Arena.j0]
   exact ev_pos (by first | trivial | rfl) (ev_eq (Ev.now _) (decide_eq_false (fun x => h2 ⟨x.2.1, x.2.2.1⟩)).symm)
 ·refine ev_neg (by rw [decide_eq_false h]; decide) (ev_succ ?_)
  simp only [spec_l8Arena.j0]
  exact ev_pos (by first | trivial | rfl) (ev_eq (Ev.now _) (decide_eq_false (fun x => h x.1)).symm)
def WinAt (m : List (List Int)) (w : S36) : Prop := WinOK m w.f0 w.f1 w.f2 w.f3
instance (m : List (List Int)) (w : S36) : Decidable (WinAt m w) := by unfold WinAt; exact inferInstance
def AllOn (m : List (List Int)) : List S36 → Prop
 | [] => True
 | w :: ws => WinAt m w ∧ AllOn m ws
instance allOnDec (m : List (List Int)) : (ws : List S36) → Decidable (AllOn m ws)
 | [] => isTrue trivial
 | w :: ws => by
  haveI := allOnDec m ws
  unfold AllOn
  exact inferInstance
theorem AllOn.mem {m : List (List Int)} : ∀ {ws : List S36}, AllOn m ws → ∀ w ∈ ws, WinAt m w
 | [], _, w, hw => by simp at hw
 | x :: ws, h, w, hw => by
  rcases List.mem_cons.1 hw with rfl | hw
  ·exact h.1
  ·exact AllOn.mem h.2 w hw
theorem AllOn.of {m : List (List Int)} : ∀ {ws : List S36}, (∀ w ∈ ws, WinAt m w) → AllOn m ws
 | [], _ => trivial
 | x :: ws, h => ⟨h x List.mem_cons_self, AllOn.of (fun w hw => h w (List.mem_cons_of_mem _ hw))⟩
theorem AllOn.drop {m : List (List Int)} {ws : List S36} (h : AllOn m ws) (i : Nat) : AllOn m (ws.drop i) := AllOn.of (fun w hw => h.mem w (List.mem_of_mem_drop hw))
theorem rdW {ws : List S36} {i : Nat} (h : i < ws.length) : rd_T36 ws (i : Int) = ws[i] := by
 unfold rd_T36
 exact getD_lt ws _ h
theorem impl_within_eq (a b c : Int) : impl_within.f a b c = some (decide (b ≤ a ∧ a ≤ c)) := by
 unfold impl_within.f
 by_cases h : a ≥ b
 ·rw [if_pos h]
  congr 1
  exact decide_eq_decide.mpr ⟨fun x => ⟨h, x⟩, fun x => x.2⟩
 ·rw [if_neg h]
  exact dec_false (fun x => h x.1)
theorem impl_Memory_hasWindow_eq (m : List (List Int)) (h : MemOK m) (a s l c : Int) : impl_Memory_hasWindow.f m a s l c = some (decide (WinOK m a s l c)) := by
 have hl := h.1
 simp only [impl_Memory_hasWindow.f, impl_Memory_hasArray.f, impl_within_eq, Option.bind_some, decide_eq_true_eq]
 rw [wid (n := (m.length : Int) - 1) (by omega) (by omega)]
 by_cases h1 : 0 ≤ a ∧ a ≤ (m.length : Int) - 1
 ·have hz := arr_size h h1.1 (by omega)
  have hr : rd_L1 m a = arr_ m a := rfl
  rw [if_pos h1, hr]
  by_cases h2 : 0 ≤ c ∧ c ≤ 64
  ·rw [if_pos h2]
   by_cases h3 : 0 ≤ l ∧ l ≤ c
   ·rw [if_pos h3, if_pos h1.1, if_pos (by omega), wid (n := ((arr_ m a).length : Int) - c) (by omega) (by omega)]
    congr 1
    exact decide_eq_decide.mpr ⟨fun x => ⟨h, by omega⟩, fun x => by obtain ⟨_, x⟩ := x; omega⟩
   ·rw [if_neg h3]
    exact dec_false (fun x => h3 (by obtain ⟨_, x⟩ := x; omega))
  ·rw [if_neg h2]
   exact dec_false (fun x => h2 (by obtain ⟨_, x⟩ := x; omega))
 ·rw [if_neg h1]
  exact dec_false (fun x => h1 (by obtain ⟨_, x⟩ := x; omega))
theorem impl_IsMemory_l0 (m : List (List Int)) (hm : m.length ≤ 1048576) : ∀ (d i : Nat), i + d = m.length → Ev (fun k => impl_IsMemory.l0 k m (m.length : Int) (i : Int) m) (decide (m.length ≤ 16 ∧ Sizes (m.drop i))) := by
 intro d
 induction d with
 | zero =>
  intro i hi
  have e : m.drop i = [] := List.drop_eq_nil_of_le (by omega)
  refine ev_succ (ev_eq (r := decide ((m.length : Int) ≤ 16)) ?_ ?_)
  ·simp only [impl_IsMemory.l0]
   exact ev_neg (by omega) (Ev.now _)
  ·rw [e]
   exact decide_eq_decide.mpr ⟨fun h => ⟨by omega, Sizes.nil⟩, fun h => by have := h.1; omega⟩
 | succ d ih =>
  intro i hi
  have h : i < m.length := by omega
  refine ev_succ ?_
  simp only [impl_IsMemory.l0]
  refine ev_pos (by omega) (ev_pos (by omega) (ev_pos (by omega) ?_))
  have hr : rd_L1 m (i : Int) = m[i] := by
   unfold rd_L1
   exact getD_lt m [] h
  simp only [impl_within_eq, hr, Option.bind_some, decide_eq_true_eq]
  by_cases hs : (1 : Int) ≤ (m[i].length : Int) ∧ (m[i].length : Int) ≤ 64
  ·refine ev_pos hs (ev_eq (r := decide (m.length ≤ 16 ∧ Sizes (m.drop (i + 1)))) ?_ ?_)
   ·have := ih (i + 1) (by omega)
    rw [← wsucc (i := i) (by omega)] at this
    exact this
   ·rw [List.drop_eq_getElem_cons h]
    exact decide_eq_decide.mpr ⟨fun x => ⟨x.1, x.2.cons hs⟩, fun x => ⟨x.1, x.2.tail⟩⟩
  ·refine ev_neg hs (ev_eq (Ev.now false) ?_)
   rw [List.drop_eq_getElem_cons h]
   exact (decide_eq_false (fun x => hs x.2.head)).symm
theorem impl_IsMemory_ev (m : List (List Int)) (hm : m.length ≤ 1048576) : Ev (fun k => impl_IsMemory.f k m) (decide (MemOK m)) := by
 simp only [impl_IsMemory.f]
 have := impl_IsMemory_l0 m hm m.length 0 (by omega)
 rw [List.drop_zero] at this
 exact this
theorem impl_areOn_any (m : List (List Int)) (h : MemOK m) : ∀ ws : List S36, Opn.anyO (fun x => (impl_Memory_hasWindow.f m x.f0 x.f1 x.f2 x.f3).bind fun b => some (!b)) ws = some (!decide (AllOn m ws))
 | [] => rfl
 | w :: ws => by
  unfold Opn.anyO
  rw [impl_Memory_hasWindow_eq m h, Option.bind_some, Option.bind_some, impl_areOn_any m h ws]
  by_cases hw : WinOK m w.f0 w.f1 w.f2 w.f3
  ·rw [decide_eq_true hw, if_neg (by decide)]
   congr 2
   exact decide_eq_decide.mpr ⟨fun x => ⟨hw, x⟩, fun x => x.2⟩
  ·rw [decide_eq_false hw, if_pos (by decide), decide_eq_false (fun x : AllOn m (w :: ws) => hw x.1)]
   rfl
theorem impl_areOn_ev (m : List (List Int)) (hm : m.length ≤ 1048576) (ws : List S36) : Ev (fun k => impl_areOn.f k m ws) (decide (MemOK m ∧ AllOn m ws)) := by
 simp only [impl_areOn.f]
 refine ev_bind (impl_IsMemory_ev m hm) ?_
 by_cases h : MemOK m
 ·refine ev_pos (decide_eq_true h) (ev_now (fun k => ?_))
  rw [impl_areOn_any m h, Option.bind_some, Bool.not_not]
  congr 1
  exact decide_eq_decide.mpr ⟨fun x => ⟨h, x⟩, fun x => x.2⟩
 ·exact ev_neg (by rw [decide_eq_false h]; decide) (ev_eq (Ev.now _) (decide_eq_false (fun x => h x.1)).symm)
theorem impl_areOn1_ev (m : List (List Int)) (hm : m.length ≤ 1048576) (a s l c : Int) : Ev (fun k => impl_areOn.f k m [(⟨a, s, l, c⟩ : S36)]) (decide (WinOK m a s l c)) :=
 ev_eq (impl_areOn_ev m hm _) (decide_eq_decide.mpr ⟨fun x => x.2.1, fun x => ⟨x.1, x, trivial⟩⟩)
theorem impl_allWithin_l0 (u : Int) (ms : List Int) (hl : ms.length ≤ 1048576) : ∀ (d i : Nat), i + d = ms.length →
  ∃ b, Ev (fun k => impl_allWithin.l0 k 0 u ms (ms.length : Int) (i : Int)) b ∧ (b = true ↔ ∀ j, i ≤ j → j < ms.length → 0 ≤ ms.getD j 0 ∧ ms.getD j 0 ≤ u) := by
 intro d
 induction d with
 | zero =>
  intro i hi
  refine ⟨true, ev_succ ?_, fun _ j h0 h1 => by omega, fun _ => rfl⟩
  simp only [impl_allWithin.l0]
  exact ev_neg (by omega) (Ev.now _)
 | succ d ih =>
  intro i hi
  obtain ⟨b, hb, hq⟩ := ih (i + 1) (by omega)
  have hd := rdn ms i
  by_cases hr : 0 ≤ ms.getD i 0 ∧ ms.getD i 0 ≤ u
  ·refine ⟨b, ev_succ ?_, ?_⟩
   ·simp only [impl_allWithin.l0, hd, impl_within_eq, Option.bind_some]
    refine ev_pos (by omega) (ev_pos (by omega) (ev_pos (by omega) (ev_pos (decide_eq_true hr) ?_)))
    rw [wsucc (by omega)]
    exact hb
   ·rw [hq]
    constructor
    ·intro h j h0 h3
     by_cases e : j = i
     ·rw [e]; exact hr
     ·exact h j (by omega) h3
    ·intro h j h0 h3
     exact h j (by omega) h3
  ·refine ⟨false, ev_succ ?_, fun h => by simp at h, fun h => absurd (h i (Nat.le_refl _) (by omega)) hr⟩
   simp only [impl_allWithin.l0, hd, impl_within_eq, Option.bind_some]
   exact ev_pos (by omega) (ev_pos (by omega) (ev_pos (by omega) (ev_neg (by rw [decide_eq_false hr]; decide) (Ev.now _))))
theorem cmp_Less_int_eq (a b : Int) : cmp_Less_int.f a b = some (decide (a < b)) := by
 unfold cmp_Less_int.f cmp_isNaN_int.f
 simp
theorem slices_IsSorted_l0 (ms : List Int) (hl : ms.length ≤ 1048576) : ∀ (i : Nat), i < ms.length →
  ∃ b, Ev (fun k => slices_IsSorted_int_int.l0 k ms (i : Int)) b ∧ (b = true ↔ ∀ j, 0 < j → j ≤ i → ms.getD (j - 1) 0 ≤ ms.getD j 0) := by
 intro i
 induction i with
 | zero =>
  intro hi
  refine ⟨true, ev_succ ?_, fun _ j h0 h1 => by omega, fun _ => rfl⟩
  simp only [slices_IsSorted_int_int.l0]
  exact ev_neg (by omega) (Ev.now _)
 | succ i ih =>
  intro hi
  obtain ⟨b, hb, hq⟩ := ih (by omega)
  have hd : rd ms ((i + 1 : Nat) : Int) = ms.getD (i + 1) 0 := rdn ms (i + 1)
  have hw : wrap64 (((i + 1 : Nat) : Int) - 1) = (i : Int) := by rw [wid (by omega) (by omega)]; omega
  by_cases hr : ms.getD (i + 1) 0 < ms.getD i 0
  ·refine ⟨false, ev_succ ?_, fun h => by simp at h, fun h => absurd (h (i + 1) (by omega) (Nat.le_refl _)) (by simpa using hr)⟩
   simp only [slices_IsSorted_int_int.l0, hd, hw, rdn ms i, cmp_Less_int_eq, Option.bind_some]
   exact ev_pos (by omega) (ev_pos (by omega) (ev_pos (by omega) (ev_pos (by omega) (ev_pos (by omega) (ev_pos (decide_eq_true hr) (Ev.now _))))))
  ·refine ⟨b, ev_succ ?_, ?_⟩
   ·simp only [slices_IsSorted_int_int.l0, hd, hw, rdn ms i, cmp_Less_int_eq, Option.bind_some]
    exact ev_pos (by omega) (ev_pos (by omega) (ev_pos (by omega) (ev_pos (by omega) (ev_pos (by omega) (ev_neg (by rw [decide_eq_false hr]; decide) hb)))))
   ·rw [hq]
    constructor
    ·intro h j h0 h3
     by_cases e : j = i + 1
     ·rw [e]
      simpa using hr
     ·exact h j h0 (by omega)
    ·intro h j h0 h3
     exact h j h0 (by omega)
theorem slices_IsSorted_ev (ms : List Int) (hl : ms.length ≤ 1048576) : ∃ b, Ev (fun k => slices_IsSorted_int_int.f k ms) b ∧ (b = true ↔ ∀ j, 0 < j → j < ms.length → ms.getD (j - 1) 0 ≤ ms.getD j 0) := by
 simp only [slices_IsSorted_int_int.f]
 rw [wid (n := (ms.length : Int) - 1) (by omega) (by omega)]
 by_cases h : ms.length = 0
 ·refine ⟨true, ev_succ ?_, fun _ j h0 h1 => by omega, fun _ => rfl⟩
  simp only [slices_IsSorted_int_int.l0]
  exact ev_neg (by omega) (Ev.now _)
 ·obtain ⟨b, hb, hq⟩ := slices_IsSorted_l0 ms hl (ms.length - 1) (by omega)
  refine ⟨b, ?_, ?_⟩
  ·rw [show (ms.length : Int) - 1 = ((ms.length - 1 : Nat) : Int) by omega]
   exact hb
  ·rw [hq]
   exact ⟨fun x j h0 h1 => x j h0 (by omega), fun x j h0 h1 => x j h0 (by omega)⟩
theorem impl_IsArena_ev (m : List (List Int)) (hm : m.length ≤ 1048576) (a s l c u : Int) (ms : List Int) (hl : ms.length ≤ 1048576) : Ev (fun k => impl_IsArena.f k m a s l c u ms) (decide (ArenaOK m a s l c u ms)) := by
 simp only [impl_IsArena.f, impl_within_eq, Option.bind_some]
 refine ev_bind (impl_areOn1_ev m hm a s l c) ?_
 by_cases h : WinOK m a s l c
 ·refine ev_pos (decide_eq_true h) ?_
  by_cases h2 : 0 ≤ u ∧ u ≤ l
  ·refine ev_pos (decide_eq_true h2) (ev_succ ?_)
   by_cases h8 : (ms.length : Int) > 8
   ·simp only [impl_IsArena.j0, decide_eq_true h8]
    exact ev_pos (by first | trivial | rfl) (ev_eq (Ev.now _) (decide_eq_false (fun x => by have := x.2.2.2.1; omega)).symm)
   ·simp only [impl_IsArena.j0, decide_eq_false h8, impl_allWithin.f]
    obtain ⟨b, hb, hq⟩ := impl_allWithin_l0 u ms hl ms.length 0 (by omega)
    refine ev_neg (by decide) (ev_bind hb ?_)
    cases b with
    | true =>
     obtain ⟨b2, hb2, hq2⟩ := slices_IsSorted_ev ms hl
     refine ev_pos rfl (ev_bind hb2 (ev_eq (Ev.now _) (dec_of ?_)))
     rw [hq2]
     exact ⟨fun x => ⟨h, h2.1, h2.2, by omega, fun j hj => ⟨(hq.1 rfl j (Nat.zero_le _) hj).1, (hq.1 rfl j (Nat.zero_le _) hj).2, fun h0 => x j h0 hj⟩⟩, fun x j h0 hj => (x.2.2.2.2 j hj).2.2 h0⟩
    | false =>
     refine ev_neg (by decide) (ev_eq (Ev.now _) (decide_eq_false (fun x => ?_)).symm)
     have := hq.2 (fun j _ hj => ⟨(x.2.2.2.2 j hj).1, (x.2.2.2.2 j hj).2.1⟩)
     simp at this
  ·refine ev_neg (by rw [decide_eq_false h2]; decide) (ev_succ ?_)
   simp only [impl_IsArena.j0]
   exact ev_pos (by first | trivial | rfl) (ev_eq (Ev.now _) (decide_eq_false (fun x => h2 ⟨x.2.1, x.2.2.1⟩)).symm)
 ·refine ev_neg (by rw [decide_eq_false h]; decide) (ev_succ ?_)
  simp only [impl_IsArena.j0]
  exact ev_pos (by first | trivial | rfl) (ev_eq (Ev.now _) (decide_eq_false (fun x => h x.1)).symm)
theorem spec_l1Most_eq (a b : Int) : spec_l1Most.f a b = some (mx a b) := by
 unfold spec_l1Most.f mx
 by_cases h : a > b
 ·rw [if_pos h, if_neg (by omega)]
 ·rw [if_neg h]
  by_cases h2 : a < b
  ·rw [if_pos h2]
  ·rw [if_neg h2, show a = b by omega]
theorem spec_l1Least_eq (a b : Int) : spec_l1Least.f a b = some (mn a b) := by
 unfold spec_l1Least.f mn
 by_cases h : a < b
 ·rw [if_pos h, if_neg (by omega)]
 ·rw [if_neg h]
  by_cases h2 : b < a
  ·rw [if_pos h2]
  ·rw [if_neg h2, show a = b by omega]
theorem mx_le (a b : Int) : a ≤ mx a b ∧ b ≤ mx a b ∧ (mx a b = a ∨ mx a b = b) := by unfold mx; split <;> omega
theorem mn_le (a b : Int) : mn a b ≤ a ∧ mn a b ≤ b ∧ (mn a b = a ∨ mn a b = b) := by unfold mn; split <;> omega
theorem spec_l2Overlap_eq (a s l c a' s' l' c' : Int) (h : 0 ≤ s ∧ s ≤ 128 ∧ 0 ≤ l ∧ l ≤ 128) (h' : 0 ≤ s' ∧ s' ≤ 128 ∧ 0 ≤ l' ∧ l' ≤ 128) : spec_l2Overlap.f a s l c a' s' l' c' = some (if a = a' then mx 0 (mn (s + l) (s' + l') - mx s s') else 0) := by
 unfold spec_l2Overlap.f
 have p := mx_le s s'
 have q := mn_le (s + l) (s' + l')
 rw [wid (n := s + l) (by omega) (by omega), wid (n := s' + l') (by omega) (by omega), spec_l1Least_eq, spec_l1Most_eq]
 simp only [Option.bind_some]
 rw [wid (n := mn (s + l) (s' + l') - mx s s') (by omega) (by omega), spec_l1Most_eq]
 simp only [Option.bind_some]
 split <;> rfl
theorem impl_areShared_eq (a s l c a' s' l' c' : Int) (h : 0 ≤ s ∧ s ≤ 128 ∧ 0 ≤ l ∧ l ≤ 128) (h' : 0 ≤ s' ∧ s' ≤ 128 ∧ 0 ≤ l' ∧ l' ≤ 128) : impl_areShared.f a s l c a' s' l' c' = some (decide (a = a' ∧ mx s s' < mn (s + l) (s' + l'))) := by
 unfold impl_areShared.f impl_common.f
 have p := mx_le s s'
 have q := mn_le (s + l) (s' + l')
 rw [wid (n := s + l) (by omega) (by omega), wid (n := s' + l') (by omega) (by omega), wid (n := mn (s + l) (s' + l') - mx s s') (by omega) (by omega)]
 by_cases ha : a = a'
 ·rw [if_pos ha]
  by_cases hb : mx s s' ≥ mn (s + l) (s' + l')
  ·rw [if_pos hb]
   simp only [Option.bind_some]
   congr 1
   exact decide_eq_decide.mpr ⟨fun x => by omega, fun x => by have := x.2; omega⟩
  ·rw [if_neg hb]
   simp only [Option.bind_some]
   congr 1
   exact decide_eq_decide.mpr ⟨fun x => ⟨ha, by omega⟩, fun x => by have := x.2; omega⟩
 ·rw [if_neg ha]
  simp only [Option.bind_some]
  congr 1
  exact decide_eq_decide.mpr ⟨fun x => by omega, fun x => absurd x.1 ha⟩
theorem laws_szByteS_eq (l : List Int) (hl : l.length ≤ 9223372036854775807) (n : Int) (h0 : 0 ≤ n) (h1 : n ≤ 1048576) : laws_szByteS.f l n = some (if (l.length : Int) ≤ n then n - l.length else -1) := by
 unfold laws_szByteS.f
 rw [wid (n := n - l.length) (by omega) (by omega)]
 by_cases h : (l.length : Int) ≤ n
 ·rw [if_neg (by omega), if_pos h]
 ·rw [if_pos (by omega), if_neg h]
theorem laws_szByteSS_l0 (m : List (List Int)) (hl : m.length ≤ 9223372036854775807) (hm : ∀ a ∈ m, a.length ≤ 9223372036854775807) : ∀ (d i : Nat) (n : Int), i + d = m.length → 0 ≤ n → n ≤ 1048576 →
  ∃ r, Ev (fun k => laws_szByteSS.l0 k m n (i : Int)) r ∧ r ≤ n ∧ (0 ≤ r → ∀ a ∈ m.drop i, (a.length : Int) ≤ n) := by
 intro d
 induction d with
 | zero =>
  intro i n hi h0 h1
  refine ⟨n, ev_succ ?_, Int.le_refl _, fun _ a ha => ?_⟩
  ·simp only [laws_szByteSS.l0]
   exact ev_neg (by omega) (Ev.now _)
  ·rw [List.drop_eq_nil_of_le (by omega)] at ha
   simp at ha
 | succ d ih =>
  intro i n hi h0 h1
  have h : i < m.length := by omega
  have hr : rd_L1 m (i : Int) = m[i] := by
   unfold rd_L1
   exact getD_lt m [] h
  have ha := hm m[i] (List.getElem_mem h)
  by_cases hs : (m[i].length : Int) ≤ n
  ·obtain ⟨r, e, hr1, hr2⟩ := ih (i + 1) (n - m[i].length) (by omega) (by omega) (by omega)
   refine ⟨r, ev_succ ?_, by omega, fun hp a hx => ?_⟩
   ·simp only [laws_szByteSS.l0, hr, laws_szByteS_eq m[i] ha n h0 h1, if_pos hs, Option.bind_some]
    refine ev_pos (by omega) (ev_pos (by omega) (ev_neg (by omega) ?_))
    rw [wsucc (i := i) (by omega)]
    exact e
   ·rw [List.drop_eq_getElem_cons h] at hx
    rcases List.mem_cons.1 hx with rfl | hx
    ·exact hs
    ·have := hr2 hp a hx
     omega
  ·refine ⟨-1, ev_succ ?_, by omega, fun hp => by omega⟩
   simp only [laws_szByteSS.l0, hr, laws_szByteS_eq m[i] ha n h0 h1, if_neg hs, Option.bind_some]
   exact ev_pos (by omega) (ev_pos (by omega) (ev_pos (by omega) (Ev.now _)))
theorem laws_szByteSS_ev (m : List (List Int)) (hm : Row (Row U8) m) (n : Int) (h0 : 0 ≤ n) (h1 : n ≤ 1048576) : ∃ r, Ev (fun k => laws_szByteSS.f k m n) r ∧ r ≤ n ∧ (0 ≤ r → Small m) := by
 have hl := hm.1
 have hr : ∀ a ∈ m, a.length ≤ 9223372036854775807 := fun a ha => (hm.2 a ha).1
 simp only [laws_szByteSS.f]
 rw [wid (n := n - m.length) (by omega) (by omega)]
 by_cases h : (m.length : Int) ≤ n
 ·obtain ⟨r, e, hr1, hr2⟩ := laws_szByteSS_l0 m hl hr m.length 0 (n - m.length) (by omega) (by omega) (by omega)
  refine ⟨r, ev_neg (by omega) e, by omega, fun hp => ⟨by omega, fun a ha => ?_⟩⟩
  have := hr2 hp a (by simpa using ha)
  omega
 ·exact ⟨-1, ev_pos (by omega) (Ev.now _), by omega, fun hp => by omega⟩
theorem laws_szMemory_ev (m : List (List Int)) (hm : Row (Row U8) m) (n : Int) (h0 : 0 ≤ n) (h1 : n ≤ 1048576) : ∃ r, Ev (fun k => laws_szMemory.f k m n) r ∧ r ≤ n ∧ (0 ≤ r → Small m) := by
 obtain ⟨r, e, hr, hs⟩ := laws_szByteSS_ev m hm n h0 h1
 simp only [laws_szMemory.f]
 by_cases h : r < 0
 ·exact ⟨-1, ev_bind e (ev_pos h (Ev.now _)), by omega, fun hp => by omega⟩
 ·exact ⟨r, ev_bind e (ev_neg h (Ev.now _)), hr, hs⟩
theorem laws_toByteS_l0 (l : List Int) (hl : l.length ≤ 281474976710656) (x : List Int) (hx : x.length = l.length) : ∀ (d i : Nat), i + d = l.length → Ev (fun k => laws_toByteS.l0 k l (over l x i) (i : Int)) l := by
 intro d
 induction d with
 | zero =>
  intro i hi
  have e : over l x i = l := by rw [show i = l.length by omega]; exact over_all l x hx
  rw [e]
  refine ev_end (fun k => ?_)
  simp only [laws_toByteS.l0]
  rw [if_neg (by omega)]
 | succ d ih =>
  intro i hi
  refine Ev.step (fun k => ?_) (ih (i + 1) (by omega))
  simp only [laws_toByteS.l0]
  rw [if_pos (by omega), if_pos (by omega), if_pos (by rw [over_length l x i hx (by omega)]; omega), Int.toNat_natCast, rd_lt l (by omega : i < l.length), over_set l x i hx (by omega), wsucc (by omega)]
theorem laws_toByteS_ev (l : List Int) (hl : l.length ≤ 281474976710656) : Ev (fun k => laws_toByteS.f k l) l := by
 simp only [laws_toByteS.f]
 refine ev_pos (by omega) (ev_pos (by simpa using hl) ?_)
 have h := laws_toByteS_l0 l hl (List.replicate l.length 0) (by simp) l.length 0 (by omega)
 rw [over_zero] at h
 simpa using h
theorem laws_toByteSS_l0 (l : List (List Int)) (hl : Small l) (x : List (List Int)) (hx : x.length = l.length) : ∀ (d i : Nat), i + d = l.length → Ev (fun k => laws_toByteSS.l0 k l (over l x i) (i : Int)) l := by
 obtain ⟨hl, hs⟩ := hl
 intro d
 induction d with
 | zero =>
  intro i hi
  have e : over l x i = l := by rw [show i = l.length by omega]; exact over_all l x hx
  rw [e]
  refine ev_succ ?_
  simp only [laws_toByteSS.l0]
  exact ev_neg (by omega) (Ev.now _)
 | succ d ih =>
  intro i hi
  have h : i < l.length := by omega
  have hr : rd_L1 l (i : Int) = l[i] := by
   unfold rd_L1
   exact getD_lt l [] h
  refine ev_succ ?_
  simp only [laws_toByteSS.l0, hr]
  refine ev_pos (by omega) (ev_pos (by omega) (ev_bind (laws_toByteS_ev l[i] (by have := hs l[i] (List.getElem_mem h); omega)) (ev_pos (by rw [over_length l x i hx (by omega)]; omega) ?_)))
  rw [Int.toNat_natCast, over_set l x i hx h, wsucc (by omega)]
  exact ih (i + 1) (by omega)
theorem laws_toByteSS_ev (l : List (List Int)) (hl : Small l) : Ev (fun k => laws_toByteSS.f k l) l := by
 have h1 := hl.1
 simp only [laws_toByteSS.f]
 refine ev_pos (by omega) (ev_pos (by simp only [Int.toNat_natCast]; omega) ?_)
 have h := laws_toByteSS_l0 l hl (List.replicate l.length []) (by simp) l.length 0 (by omega)
 rw [over_zero] at h
 simpa using h
theorem laws_toMemory_ev (l : List (List Int)) (hl : Small l) : Ev (fun k => laws_toMemory.f k l) l := by
 simp only [laws_toMemory.f]
 exact ev_bind (laws_toByteSS_ev l hl) (Ev.now _)
theorem laws_eqByteS_l0 (a b : List Int) (hl : a.length = b.length) (hb : a.length ≤ 281474976710656) : ∀ (d i : Nat), i + d = a.length → Ev (fun k => laws_eqByteS.l0 k a b (i : Int)) (decide (a.drop i = b.drop i)) := by
 intro d
 induction d with
 | zero =>
  intro i hi
  have e1 : a.drop i = [] := List.drop_eq_nil_of_le (by omega)
  have e2 : b.drop i = [] := List.drop_eq_nil_of_le (by omega)
  rw [e1, e2]
  refine ev_end (fun k => ?_)
  simp only [laws_eqByteS.l0]
  rw [if_neg (by omega)]
  rfl
 | succ d ih =>
  intro i hi
  have ha : i < a.length := by omega
  have hb2 : i < b.length := by omega
  rw [List.drop_eq_getElem_cons ha, List.drop_eq_getElem_cons hb2]
  by_cases h : a[i] = b[i]
  ·refine ev_eq (Ev.step (fun k => ?_) (ih (i + 1) (by omega))) ?_
   ·simp only [laws_eqByteS.l0]
    rw [if_pos (by omega), if_pos (by omega), if_pos (by omega), rd_lt a ha, rd_lt b hb2, if_pos h, wsucc (by omega)]
   ·rw [h]; exact decide_eq_decide.mpr ⟨fun e => by rw [e], fun e => (List.cons.inj e).2⟩
  ·refine ev_eq (ev_end (r := false) (fun k => ?_)) (decide_eq_false (fun e => h (List.cons.inj e).1)).symm
   simp only [laws_eqByteS.l0]
   rw [if_pos (by omega), if_pos (by omega), if_pos (by omega), rd_lt a ha, rd_lt b hb2, if_neg h]
theorem laws_eqByteS_ev (a b : List Int) (hb : a.length ≤ 281474976710656) : Ev (fun k => laws_eqByteS.f k a b) (decide (a = b)) := by
 simp only [laws_eqByteS.f]
 by_cases h : a.length = b.length
 ·refine ev_pos (by omega) ?_
  have := laws_eqByteS_l0 a b h hb a.length 0 (by omega)
  simpa using this
 ·refine ev_neg (by omega) ?_
  have : ¬ a = b := fun e => h (by rw [e])
  rw [decide_eq_false this]
  exact Ev.now _
theorem laws_eqByteSS_l0 (l : List (List Int)) (hl : Small l) : ∀ (d i : Nat), i + d = l.length → Ev (fun k => laws_eqByteSS.l0 k l l (i : Int)) true := by
 obtain ⟨hl, hs⟩ := hl
 intro d
 induction d with
 | zero =>
  intro i hi
  refine ev_succ ?_
  simp only [laws_eqByteSS.l0]
  exact ev_neg (by omega) (Ev.now _)
 | succ d ih =>
  intro i hi
  have h : i < l.length := by omega
  have hr : rd_L1 l (i : Int) = l[i] := by
   unfold rd_L1
   exact getD_lt l [] h
  refine ev_succ ?_
  simp only [laws_eqByteSS.l0, hr]
  refine ev_pos (by omega) (ev_pos (by omega) (ev_pos (by omega) (ev_bind (laws_eqByteS_ev l[i] l[i] (by have := hs l[i] (List.getElem_mem h); omega)) (ev_pos (by simp) ?_))))
  rw [wsucc (by omega)]
  exact ih (i + 1) (by omega)
theorem laws_eqMemory_ev (l : List (List Int)) (hl : Small l) : Ev (fun k => laws_eqMemory.f k l l) true := by
 simp only [laws_eqMemory.f, laws_eqByteSS.f]
 have := laws_eqByteSS_l0 l hl l.length 0 (by omega)
 exact ev_bind (ev_pos (by first | trivial | rfl) (by simpa using this)) (ev_pos (by first | trivial | rfl) (Ev.now _))
theorem laws_eqWindow_self (a s l c : Int) : laws_eqWindow.f a s l c a s l c = some true := by
 unfold laws_eqWindow.f
 rw [if_pos rfl, if_pos rfl, if_pos rfl, if_pos rfl]
theorem laws_toIntS_l0 (l : List Int) (hl : l.length ≤ 35184372088832) (x : List Int) (hx : x.length = l.length) : ∀ (d i : Nat), i + d = l.length → Ev (fun k => laws_toIntS.l0 k l (over l x i) (i : Int)) l := by
 intro d
 induction d with
 | zero =>
  intro i hi
  have e : over l x i = l := by rw [show i = l.length by omega]; exact over_all l x hx
  rw [e]
  refine ev_end (fun k => ?_)
  simp only [laws_toIntS.l0]
  rw [if_neg (by omega)]
 | succ d ih =>
  intro i hi
  refine Ev.step (fun k => ?_) (ih (i + 1) (by omega))
  simp only [laws_toIntS.l0]
  rw [if_pos (by omega), if_pos (by omega), if_pos (by rw [over_length l x i hx (by omega)]; omega), Int.toNat_natCast, rd_lt l (by omega : i < l.length), over_set l x i hx (by omega), wsucc (by omega)]
theorem laws_toIntS_ev (l : List Int) (hl : l.length ≤ 35184372088832) : Ev (fun k => laws_toIntS.f k l) l := by
 simp only [laws_toIntS.f]
 refine ev_pos (by omega) (ev_pos (by simpa using hl) ?_)
 have h := laws_toIntS_l0 l hl (List.replicate l.length 0) (by simp) l.length 0 (by omega)
 rw [over_zero] at h
 simpa using h
theorem laws_eqIntS_l0 (a b : List Int) (hl : a.length = b.length) (hb : a.length ≤ 281474976710656) : ∀ (d i : Nat), i + d = a.length → Ev (fun k => laws_eqIntS.l0 k a b (i : Int)) (decide (a.drop i = b.drop i)) := by
 intro d
 induction d with
 | zero =>
  intro i hi
  have e1 : a.drop i = [] := List.drop_eq_nil_of_le (by omega)
  have e2 : b.drop i = [] := List.drop_eq_nil_of_le (by omega)
  rw [e1, e2]
  refine ev_end (fun k => ?_)
  simp only [laws_eqIntS.l0]
  rw [if_neg (by omega)]
  rfl
 | succ d ih =>
  intro i hi
  have ha : i < a.length := by omega
  have hb2 : i < b.length := by omega
  rw [List.drop_eq_getElem_cons ha, List.drop_eq_getElem_cons hb2]
  by_cases h : a[i] = b[i]
  ·refine ev_eq (Ev.step (fun k => ?_) (ih (i + 1) (by omega))) ?_
   ·simp only [laws_eqIntS.l0]
    rw [if_pos (by omega), if_pos (by omega), if_pos (by omega), rd_lt a ha, rd_lt b hb2, if_pos h, wsucc (by omega)]
   ·rw [h]; exact decide_eq_decide.mpr ⟨fun e => by rw [e], fun e => (List.cons.inj e).2⟩
  ·refine ev_eq (ev_end (r := false) (fun k => ?_)) (decide_eq_false (fun e => h (List.cons.inj e).1)).symm
   simp only [laws_eqIntS.l0]
   rw [if_pos (by omega), if_pos (by omega), if_pos (by omega), rd_lt a ha, rd_lt b hb2, if_neg h]
theorem laws_eqIntS_ev (a b : List Int) (hb : a.length ≤ 281474976710656) : Ev (fun k => laws_eqIntS.f k a b) (decide (a = b)) := by
 simp only [laws_eqIntS.f]
 by_cases h : a.length = b.length
 ·refine ev_pos (by omega) ?_
  have := laws_eqIntS_l0 a b h hb a.length 0 (by omega)
  simpa using this
 ·refine ev_neg (by omega) ?_
  have : ¬ a = b := fun e => h (by rw [e])
  rw [decide_eq_false this]
  exact Ev.now _
theorem laws_szIntS_eq (l : List Int) (hl : l.length ≤ 9223372036854775807) (n : Int) (h0 : 0 ≤ n) (h1 : n ≤ 1048576) : laws_szIntS.f l n = some (if (l.length : Int) ≤ n then n - l.length else -1) := by
 unfold laws_szIntS.f
 rw [wid (n := n - l.length) (by omega) (by omega)]
 by_cases h : (l.length : Int) ≤ n
 ·rw [if_neg (by omega), if_pos h]
 ·rw [if_pos (by omega), if_neg h]
theorem laws_szArena_ev (m : List (List Int)) (hm : Row (Row U8) m) (a s l c u : Int) (ms : List Int) (hs : Row I64 ms) (n : Int) (h0 : 0 ≤ n) (h1 : n ≤ 1048576) : ∃ r, Ev (fun k => laws_szArena.f k m a s l c u ms n) r ∧ r ≤ n ∧ (0 ≤ r → Small m ∧ ms.length ≤ 1048576) := by
 obtain ⟨r, e, hr, hsm⟩ := laws_szMemory_ev m hm n h0 h1
 simp only [laws_szArena.f]
 by_cases h : r < 0
 ·exact ⟨-1, ev_bind e (ev_pos h (Ev.now _)), by omega, fun hp => by omega⟩
 ·by_cases h2 : (ms.length : Int) ≤ r
  ·refine ⟨r - ms.length, ev_bind e (ev_neg h ?_), by omega, fun hp => ⟨hsm (by omega), by omega⟩⟩
   refine ev_now (fun k => ?_)
   rw [laws_szIntS_eq ms hs.1 r (by omega) (by omega), if_pos h2, Option.bind_some, if_neg (by omega)]
  ·refine ⟨-1, ev_bind e (ev_neg h ?_), by omega, fun hp => by omega⟩
   refine ev_now (fun k => ?_)
   rw [laws_szIntS_eq ms hs.1 r (by omega) (by omega), if_neg h2, Option.bind_some, if_pos (by omega)]
theorem laws_toArena_ev (m : List (List Int)) (hm : Small m) (a s l c u : Int) (ms : List Int) (hl : ms.length ≤ 1048576) : Ev (fun k => laws_toArena.f k m a s l c u ms) (m, a, s, l, c, u, ms) := by
 simp only [laws_toArena.f, laws_toWindow.f, Option.bind_some]
 exact ev_bind (laws_toMemory_ev m hm) (ev_bind (laws_toIntS_ev ms (by omega)) (Ev.now _))
theorem laws_eqArena_self (m : List (List Int)) (hm : Small m) (a s l c u : Int) (ms : List Int) (hl : ms.length ≤ 1048576) : Ev (fun k => laws_eqArena.f k m a s l c u ms m a s l c u ms) true := by
 have h : ∀ k, laws_eqArena.f k m a s l c u ms m a s l c u ms = (laws_eqMemory.f k m m).bind fun q => if q = true then (laws_eqIntS.f k ms ms).bind (fun q2 => if q2 = true then some true else some false) else some false := by
  intro k
  unfold laws_eqArena.f
  congr 1
  funext q
  rw [laws_eqWindow_self, Option.bind_some, if_pos rfl, if_pos rfl]
 exact Ev.congr h (ev_bind (laws_eqMemory_ev m hm) (ev_pos rfl (ev_bind (ev_eq (laws_eqIntS_ev ms ms (by omega)) (by simp)) (ev_pos rfl (Ev.now _)))))
def conv (w : S26) : S36 := ⟨w.f0, w.f1, w.f2, w.f3⟩
theorem rdV {ws : List S26} {i : Nat} (h : i < ws.length) : rd_T26 ws (i : Int) = ws[i] := by
 unfold rd_T26
 exact getD_lt ws _ h
theorem laws_toWindowS_l0 (ws : List S26) (hl : ws.length ≤ 1048576) (x : List S36) (hx : x.length = (ws.map conv).length) : ∀ (d i : Nat), i + d = ws.length → Ev (fun k => laws_toWindowS.l0 k ws (over (ws.map conv) x i) (i : Int)) (ws.map conv) := by
 have hx2 : x.length = ws.length := by rw [hx, List.length_map]
 intro d
 induction d with
 | zero =>
  intro i hi
  have e : over (ws.map conv) x i = ws.map conv := by rw [show i = (ws.map conv).length by rw [List.length_map]; omega]; exact over_all _ x hx
  rw [e]
  refine ev_succ ?_
  simp only [laws_toWindowS.l0]
  exact ev_neg (by omega) (Ev.now _)
 | succ d ih =>
  intro i hi
  have h : i < ws.length := by omega
  have h2 : i < (ws.map conv).length := by rw [List.length_map]; omega
  refine ev_succ ?_
  simp only [laws_toWindowS.l0, laws_toWindow.f, Option.bind_some, rdV h]
  refine ev_pos (by omega) (ev_pos (by omega) (ev_pos (by rw [over_length _ x i hx (by omega), List.length_map]; omega) ?_))
  have hs := over_set (ws.map conv) x i hx h2
  rw [List.getElem_map] at hs
  rw [Int.toNat_natCast, show (⟨ws[i].f0, ws[i].f1, ws[i].f2, ws[i].f3⟩ : S36) = conv ws[i] from rfl, hs, wsucc (by omega)]
  exact ih (i + 1) (by omega)
theorem laws_toWindowS_ev (ws : List S26) (hl : ws.length ≤ 1048576) : Ev (fun k => laws_toWindowS.f k ws) (ws.map conv) := by
 simp only [laws_toWindowS.f]
 have h := laws_toWindowS_l0 ws hl (List.replicate ws.length z36) (by simp) ws.length 0 (by omega)
 rw [over_zero] at h
 exact ev_pos (by omega) (ev_pos (by simp only [Int.toNat_natCast]; omega) (by simpa using h))
theorem laws_szWindowS_eq (ws : List S26) (hl : ws.length ≤ 9223372036854775807) (n : Int) (h0 : 0 ≤ n) (h1 : n ≤ 1048576) : laws_szWindowS.f ws n = some (if (ws.length : Int) ≤ n then n - ws.length else -1) := by
 unfold laws_szWindowS.f
 rw [wid (n := n - ws.length) (by omega) (by omega)]
 by_cases h : (ws.length : Int) ≤ n
 ·rw [if_neg (by omega), if_pos h]
 ·rw [if_pos (by omega), if_neg h]
theorem laws_markByteS_l0 (n : Nat) (hn : n ≤ 281474976710656) : ∀ (d i : Nat) (x : List Int) (k0 : Int), i + d = n → x.length = n → 0 ≤ k0 → k0 + d ≤ 4611686018427387904 → Ev (fun k => laws_markByteS.l0 k x k0 (i : Int)) (k0 + d, x.take i ++ marks k0 d) := by
 intro d
 induction d with
 | zero =>
  intro i x k0 hi hx h0 h1
  refine ev_eq (ev_end (r := (k0, x)) (fun k => ?_)) ?_
  ·simp only [laws_markByteS.l0]
   rw [if_neg (by omega)]
  ·rw [List.take_of_length_le (by omega)]
   simp [marks]
 | succ d ih =>
  intro i x k0 hi hx h0 h1
  refine ev_eq (Ev.step (fun k => ?_) (ih (i + 1) (x.set i (k0 % 256)) (k0 + 1) (by omega) (by simpa using hx) (by omega) (by omega))) ?_
  ·simp only [laws_markByteS.l0]
   rw [if_pos (by omega), if_pos (by omega), Int.toNat_natCast, wid (n := k0 + 1) (by omega) (by omega), wsucc (by omega)]
  ·refine Prod.ext ?_ ?_
   ·simp; omega
   ·show (x.set i (k0 % 256)).take (i + 1) ++ marks (k0 + 1) d = x.take i ++ marks k0 (d + 1)
    rw [List.take_succ_eq_append_getElem (by simp; omega)]
    simp [marks, List.take_set]
    exact List.set_eq_of_length_le (by rw [List.length_take]; omega)
theorem laws_markByteS_ev (x : List Int) (k0 : Int) (hn : x.length ≤ 281474976710656) (h0 : 0 ≤ k0) (h1 : k0 + x.length ≤ 4611686018427387904) : Ev (fun k => laws_markByteS.f k x k0) (k0 + x.length, marks k0 x.length) := by
 simp only [laws_markByteS.f]
 have := laws_markByteS_l0 x.length hn x.length 0 x k0 (by omega) rfl h0 h1
 simpa using this
theorem laws_markByteSS_l0 (m : List (List Int)) (hm : Small m) : ∀ (d i : Nat) (k0 : Int), i + d = m.length → 0 ≤ k0 → k0 + d * 1048576 ≤ 2305843009213693952 → ∃ r, Ev (fun k => laws_markByteSS.l0 k m k0 (i : Int)) r ∧ k0 ≤ r ∧ r ≤ k0 + d * 1048576 := by
 intro d
 induction d with
 | zero =>
  intro i k0 hi h0 h1
  exact ⟨k0, ev_end (fun k => by simp only [laws_markByteSS.l0]; rw [if_neg (by omega)]), by omega, by omega⟩
 | succ d ih =>
  intro i k0 hi h0 h1
  have h : i < m.length := by omega
  have hl := hm.2 m[i] (List.getElem_mem h)
  have hlen := hm.1
  have hr : rd_L1 m (i : Int) = m[i] := by
   unfold rd_L1
   exact getD_lt m _ h
  obtain ⟨r, e, h2, h3⟩ := ih (i + 1) (k0 + m[i].length) (by omega) (by omega) (by omega)
  refine ⟨r, ev_succ ?_, by omega, by omega⟩
  simp only [laws_markByteSS.l0, hr]
  refine ev_pos (by omega) (ev_pos (by omega) (ev_bind (laws_markByteS_ev m[i] k0 (by omega) h0 (by omega)) ?_))
  rw [wsucc (by omega)]
  exact e
theorem laws_markMemory_ev (m : List (List Int)) (hm : Small m) : ∃ r, Ev (fun k => laws_markMemory.f k m 1) r ∧ 1 ≤ r ∧ r ≤ 1099511627777 := by
 have hlen := hm.1
 obtain ⟨r, e, h1, h2⟩ := laws_markByteSS_l0 m hm m.length 0 1 (by omega) (by omega) (by omega)
 exact ⟨r, e, by omega, by omega⟩
def imarks (k : Int) : Nat → List Int
 | 0 => []
 | n + 1 => k :: imarks (k + 1) n
theorem imarks_length (k : Int) (n : Nat) : (imarks k n).length = n := by
 induction n generalizing k with
 | zero => rfl
 | succ n ih => simp [imarks, ih]
theorem imarks_get (n : Nat) : ∀ (k : Int) (i : Nat) (h : i < (imarks k n).length), (imarks k n)[i] = k + i := by
 induction n with
 | zero => intro k i h; simp [imarks] at h
 | succ n ih =>
  intro k i h
  cases i with
  | zero => simp [imarks]
  | succ i =>
   have := ih (k + 1) i (by simp [imarks_length] at h ⊢; omega)
   simp only [imarks, List.getElem_cons_succ, this]
   omega
theorem laws_markIntS_l0 (n : Nat) (hn : n ≤ 281474976710656) : ∀ (d i : Nat) (x : List Int) (k0 : Int), i + d = n → x.length = n → 0 ≤ k0 → k0 + d ≤ 4611686018427387904 → Ev (fun k => laws_markIntS.l0 k x k0 (i : Int)) (k0 + d, x.take i ++ imarks k0 d) := by
 intro d
 induction d with
 | zero =>
  intro i x k0 hi hx h0 h1
  refine ev_eq (ev_end (r := (k0, x)) (fun k => ?_)) ?_
  ·simp only [laws_markIntS.l0]
   rw [if_neg (by omega)]
  ·rw [List.take_of_length_le (by omega)]
   simp [imarks]
 | succ d ih =>
  intro i x k0 hi hx h0 h1
  refine ev_eq (Ev.step (fun k => ?_) (ih (i + 1) (x.set i k0) (k0 + 1) (by omega) (by simpa using hx) (by omega) (by omega))) ?_
  ·simp only [laws_markIntS.l0]
   rw [if_pos (by omega), if_pos (by omega), Int.toNat_natCast, wid (n := k0 + 1) (by omega) (by omega), wsucc (by omega)]
  ·refine Prod.ext ?_ ?_
   ·simp; omega
   ·show (x.set i k0).take (i + 1) ++ imarks (k0 + 1) d = x.take i ++ imarks k0 (d + 1)
    rw [List.take_succ_eq_append_getElem (by simp; omega)]
    simp [imarks, List.take_set]
    exact List.set_eq_of_length_le (by rw [List.length_take]; omega)
theorem laws_markIntS_ev (x : List Int) (k0 : Int) (hn : x.length ≤ 281474976710656) (h0 : 0 ≤ k0) (h1 : k0 + x.length ≤ 4611686018427387904) : Ev (fun k => laws_markIntS.f k x k0) (k0 + x.length, imarks k0 x.length) := by
 simp only [laws_markIntS.f]
 have := laws_markIntS_l0 x.length hn x.length 0 x k0 (by omega) rfl h0 h1
 simpa using this
theorem laws_markArena_ev (m : List (List Int)) (hm : Small m) (a s l c u : Int) (ms : List Int) (hl : ms.length ≤ 1048576) : ∃ r, Ev (fun k => laws_markArena.f k m a s l c u ms 1) (r, imarks (r - ms.length) ms.length) ∧ 1 ≤ r ∧ r ≤ 1099511627777 + 1048576 := by
 obtain ⟨r, e, h1, h2⟩ := laws_markMemory_ev m hm
 refine ⟨r + ms.length, ?_, by omega, by omega⟩
 simp only [laws_markArena.f]
 rw [show r + (ms.length : Int) - ms.length = r by omega]
 exact ev_bind e (laws_markIntS_ev ms r (by omega) (by omega) (by omega))
theorem laws_eqWindowS_self (ws : List S36) (hl : ws.length ≤ 1048576) : ∀ (d i : Nat), i + d = ws.length → Ev (fun k => laws_eqWindowS.l0 k ws ws (i : Int)) true := by
 intro d
 induction d with
 | zero =>
  intro i hi
  refine ev_succ ?_
  simp only [laws_eqWindowS.l0]
  exact ev_neg (by omega) (Ev.now _)
 | succ d ih =>
  intro i hi
  have h : i < ws.length := by omega
  refine ev_succ ?_
  simp only [laws_eqWindowS.l0, rdW h]
  refine ev_pos (by omega) (ev_pos (by omega) (ev_pos (by omega) (ev_bind (ev_now (fun _ => laws_eqWindow_self _ _ _ _)) (ev_pos rfl ?_))))
  rw [wsucc (by omega)]
  exact ih (i + 1) (by omega)
theorem laws_eqWindowS_ev (ws : List S36) (hl : ws.length ≤ 1048576) : Ev (fun k => laws_eqWindowS.f k ws ws) true := by
 simp only [laws_eqWindowS.f]
 have h := laws_eqWindowS_self ws hl ws.length 0 (by omega)
 exact ev_pos (by first | trivial | rfl) (by simpa using h)
def wmarks (k : Int) : Nat → List S36
 | 0 => []
 | n + 1 => ⟨k, k + 1, k + 2, k + 3⟩ :: wmarks (k + 4) n
theorem wmarks_length (n : Nat) : ∀ k : Int, (wmarks k n).length = n := by
 induction n with
 | zero => intro k; rfl
 | succ n ih => intro k; simp [wmarks, ih]
theorem rdW_set {x : List S36} {i : Nat} (h : i < x.length) (w : S36) : rd_T36 (x.set i w) (i : Int) = w := by
 rw [rdW (by rw [List.length_set]; exact h), List.getElem_set_self]
theorem laws_markWindowS_l0 (n : Nat) (hn : n ≤ 1099511627776) : ∀ (d i : Nat) (x : List S36) (k0 : Int), i + d = n → x.length = n → 0 ≤ k0 → k0 + 4 * d ≤ 4611686018427387904 → Ev (fun k => laws_markWindowS.l0 k x k0 (i : Int)) (k0 + 4 * d, x.take i ++ wmarks k0 d) := by
 intro d
 induction d with
 | zero =>
  intro i x k0 hi hx h0 h1
  refine ev_eq (ev_end (r := (k0, x)) (fun k => ?_)) ?_
  ·simp only [laws_markWindowS.l0]
   rw [if_neg (by omega)]
  ·rw [List.take_of_length_le (by omega)]
   simp [wmarks]
 | succ d ih =>
  intro i x k0 hi hx h0 h1
  have h : i < x.length := by omega
  refine ev_eq (Ev.step (fun k => ?_) (ih (i + 1) (x.set i ⟨k0, k0 + 1, k0 + 2, k0 + 3⟩) (k0 + 4) (by omega) (by simpa using hx) (by omega) (by omega))) ?_
  ·simp only [laws_markWindowS.l0, Int.toNat_natCast, Option.bind_some]
   rw [if_pos (by omega), if_pos (by omega), wid (n := k0 + 1) (by omega) (by omega), show k0 + 1 + 1 = k0 + 2 by omega, wid (n := k0 + 2) (by omega) (by omega), show k0 + 2 + 1 = k0 + 3 by omega, wid (n := k0 + 3) (by omega) (by omega), show k0 + 3 + 1 = k0 + 4 by omega, wid (n := k0 + 4) (by omega) (by omega), wsucc (by omega)]
   simp only [rdW_set h, List.set_set]
  ·refine Prod.ext ?_ ?_
   ·simp; omega
   ·show (x.set i ⟨k0, k0 + 1, k0 + 2, k0 + 3⟩).take (i + 1) ++ wmarks (k0 + 4) d = x.take i ++ wmarks k0 (d + 1)
    rw [List.take_succ_eq_append_getElem (by simp; omega)]
    simp [wmarks, List.take_set]
    exact List.set_eq_of_length_le (by rw [List.length_take]; omega)
theorem laws_markWindowS_ev (x : List S36) (k0 : Int) (hn : x.length ≤ 1099511627776) (h0 : 0 ≤ k0) (h1 : k0 + 4 * x.length ≤ 4611686018427387904) : Ev (fun k => laws_markWindowS.f k x k0) (k0 + 4 * x.length, wmarks k0 x.length) := by
 simp only [laws_markWindowS.f]
 have := laws_markWindowS_l0 x.length hn x.length 0 x k0 (by omega) rfl h0 h1
 simpa using this
theorem laws_heldIntS_l0 (k1 : Int) (n : Nat) (hn : n ≤ 281474976710656) (h0 : 0 ≤ k1) (h1 : k1 + n ≤ 4611686018427387904) : ∀ (d i : Nat), i + d = n → Ev (fun k => laws_heldIntS.l0 k (imarks k1 n) (k1 + i) (i : Int)) (k1 + n) := by
 intro d
 induction d with
 | zero =>
  intro i hi
  refine ev_eq (ev_end (r := k1 + i) (fun k => ?_)) (by omega)
  simp only [laws_heldIntS.l0]
  rw [imarks_length, if_neg (by omega)]
 | succ d ih =>
  intro i hi
  refine Ev.step (fun k => ?_) (ih (i + 1) (by omega))
  simp only [laws_heldIntS.l0]
  rw [imarks_length, if_pos (by omega), if_pos (by omega), rd_lt _ (by rw [imarks_length]; omega), imarks_get, if_pos rfl, wid (n := k1 + i + 1) (by omega) (by omega), wsucc (by omega)]
  congr 1
  omega
theorem laws_heldIntS_ev (k1 : Int) (n : Nat) (hn : n ≤ 281474976710656) (h0 : 0 ≤ k1) (h1 : k1 + n ≤ 4611686018427387904) : Ev (fun k => laws_heldIntS.f k (imarks k1 n) k1) (k1 + n) := by
 simp only [laws_heldIntS.f]
 have := laws_heldIntS_l0 k1 n hn h0 h1 n 0 (by omega)
 simpa using this
def picks (p : S36 → Bool) : List S36 → Int → List Int
 | [], _ => []
 | x :: xs, i => if p x = true then i :: picks p xs (i + 1) else picks p xs (i + 1)
theorem pickO_eq {f : S36 → Option Bool} {p : S36 → Bool} : ∀ (ws : List S36) (i : Int), (∀ x ∈ ws, f x = some (p x)) → Lx.pickO f ws i = some (picks p ws i)
 | [], _, _ => rfl
 | x :: xs, i, h => by
  unfold Lx.pickO picks
  rw [h x List.mem_cons_self, Option.bind_some, pickO_eq xs (i + 1) (fun y hy => h y (List.mem_cons_of_mem _ hy)), Option.bind_some]
theorem picks_length (p : S36 → Bool) : ∀ (ws : List S36) (i : Int), (picks p ws i).length ≤ ws.length
 | [], _ => Nat.le_refl _
 | x :: xs, i => by
  have := picks_length p xs (i + 1)
  unfold picks
  split <;> simp <;> omega
def dang (a s l u : Int) (x : S36) : Bool := decide (a = x.f0 ∧ mx (s + u) x.f1 < mn (s + u + (l - u)) (x.f1 + x.f2))
def dangling (m : List (List Int)) (a s l c u : Int) (ms : List Int) (ws : List S36) : List Int × Bool := if ArenaOK m a s l c u ms ∧ AllOn m ws then (picks (dang a s l u) ws 0, true) else ([], false)
theorem dang_over {a s l u : Int} {x : S36} (h : 0 ≤ s + u ∧ s + u ≤ 128 ∧ 0 ≤ l - u ∧ l - u ≤ 128) (hx : 0 ≤ x.f1 ∧ x.f1 ≤ 128 ∧ 0 ≤ x.f2 ∧ x.f2 ≤ 128) (c c' : Int) : ∃ t, spec_l2Overlap.f x.f0 x.f1 x.f2 c a (s + u) (l - u) c' = some t ∧ (t > 0 ↔ dang a s l u x = true) := by
 refine ⟨_, spec_l2Overlap_eq x.f0 x.f1 x.f2 c a (s + u) (l - u) c' hx h, ?_⟩
 have p := mx_le (s + u) x.f1
 have p' := mx_le x.f1 (s + u)
 have q := mn_le (s + u + (l - u)) (x.f1 + x.f2)
 have q' := mn_le (x.f1 + x.f2) (s + u + (l - u))
 have z := mx_le 0 (mn (x.f1 + x.f2) (s + u + (l - u)) - mx x.f1 (s + u))
 unfold dang
 rw [decide_eq_true_iff]
 by_cases e : x.f0 = a
 ·rw [if_pos e]
  exact ⟨fun h => ⟨e.symm, by omega⟩, fun h => by have := h.2; omega⟩
 ·rw [if_neg e]
  exact ⟨fun h => by omega, fun h => absurd h.1.symm e⟩
theorem spec_Dangling_l0 (m : List (List Int)) (hm : m.length ≤ 1048576) (a s l c u : Int) (ms : List Int) (ha : ArenaOK m a s l c u ms) (ws : List S36) (hw : ws.length ≤ 1048576) : ∀ (d i : Nat) (acc : List Int), i + d = ws.length → acc.length ≤ i →
  Ev (fun k => spec_Dangling.l0 k ws acc (i : Int) m a s l c u ms) (if AllOn m (ws.drop i) then (acc ++ picks (dang a s l u) (ws.drop i) (i : Int), true) else ([], false)) := by
 have hb := ha.1.bounds
 have hu := ha.2.1
 have hu2 := ha.2.2.1
 intro d
 induction d with
 | zero =>
  intro i acc hi hl
  rw [List.drop_eq_nil_of_le (by omega), if_pos (show AllOn m [] from trivial)]
  refine ev_succ ?_
  simp only [spec_Dangling.l0]
  exact ev_neg (by omega) (ev_eq (Ev.now _) (by simp [picks]))
 | succ d ih =>
  intro i acc hi hl
  have h : i < ws.length := by omega
  rw [List.drop_eq_getElem_cons h]
  have hrd := rdW h
  refine ev_succ ?_
  simp only [spec_Dangling.l0, hrd]
  refine ev_pos (by omega) (ev_pos (by omega) (ev_bind (spec_l2Window_ev m hm _ _ _ _) ?_))
  by_cases hx : WinOK m ws[i].f0 ws[i].f1 ws[i].f2 ws[i].f3
  ·have hxb := hx.bounds
   refine ev_pos (decide_eq_true hx) ?_
   simp only [spec_l8Free.f, spec_l2Slice.f, Option.bind_some]
   rw [wid (n := s + u) (by omega) (by omega), wid (n := l - u) (by omega) (by omega), wid (n := c - u) (by omega) (by omega)]
   obtain ⟨t, ht, hd⟩ := dang_over (a := a) (s := s) (l := l) (u := u) (x := ws[i]) (by omega) (by omega) ws[i].f3 (c - u)
   refine ev_bind (ev_now fun _ => ht) ?_
   rw [wsucc (by omega)]
   have hall : AllOn m (ws[i] :: ws.drop (i + 1)) ↔ AllOn m (ws.drop (i + 1)) := ⟨fun x => x.2, fun x => ⟨hx, x⟩⟩
   by_cases hp : dang a s l u ws[i] = true
   ·refine ev_pos (hd.2 hp) (ev_pos (by omega) (ev_eq (ih (i + 1) (acc ++ [(i : Int)]) (by omega) (by simp; omega)) ?_))
    by_cases hA : AllOn m (ws.drop (i + 1))
    ·rw [if_pos hA, if_pos (hall.2 hA), picks, if_pos hp]
     simp
    ·rw [if_neg hA, if_neg (fun x => hA (hall.1 x))]
   ·refine ev_neg (fun x => hp (hd.1 x)) (ev_eq (ih (i + 1) acc (by omega) (by omega)) ?_)
    by_cases hA : AllOn m (ws.drop (i + 1))
    ·rw [if_pos hA, if_pos (hall.2 hA), picks, if_neg hp]
     simp
    ·rw [if_neg hA, if_neg (fun x => hA (hall.1 x))]
  ·refine ev_neg (by rw [decide_eq_false hx]; decide) (ev_eq (Ev.now _) ?_)
   rw [if_neg (fun x => hx x.1)]
theorem spec_Dangling_ev (m : List (List Int)) (hm : m.length ≤ 1048576) (a s l c u : Int) (ms : List Int) (hl : ms.length ≤ 1048576) (ws : List S36) (hw : ws.length ≤ 1048576) : Ev (fun k => spec_Dangling.f k m a s l c u ms ws) (dangling m a s l c u ms ws) := by
 simp only [spec_Dangling.f, Option.bind_some]
 refine ev_bind (spec_l8Arena_ev m hm a s l c u ms hl) ?_
 by_cases h : ArenaOK m a s l c u ms
 ·refine ev_pos (decide_eq_true h) (ev_eq (spec_Dangling_l0 m hm a s l c u ms h ws hw ws.length 0 [] (by omega) (by simp)) ?_)
  unfold dangling
  rw [List.drop_zero]
  by_cases hA : AllOn m ws
  ·rw [if_pos hA, if_pos ⟨h, hA⟩]; rfl
  ·rw [if_neg hA, if_neg (fun x => hA x.2)]
 ·refine ev_neg (by rw [decide_eq_false h]; decide) (ev_eq (Ev.now _) ?_)
  rw [dangling, if_neg (fun x => h x.1)]
theorem impl_Dangling_ev (m : List (List Int)) (hm : m.length ≤ 1048576) (a s l c u : Int) (ms : List Int) (hl : ms.length ≤ 1048576) (ws : List S36) (hw : ws.length ≤ 1048576) : Ev (fun k => impl_Dangling.f k m a s l c u ms ws) (dangling m a s l c u ms ws) := by
 simp only [impl_Dangling.f, impl_Window_part.f, Option.bind_some]
 refine ev_pos hw (ev_bind (impl_IsArena_ev m hm a s l c u ms hl) ?_)
 by_cases h : ArenaOK m a s l c u ms
 ·have hb := h.1.bounds
  have hu := h.2.1
  have hu2 := h.2.2.1
  refine ev_pos (decide_eq_true h) (ev_bind (impl_areOn_ev m hm ws) ?_)
  by_cases hA : AllOn m ws
  ·refine ev_pos (decide_eq_true ⟨hb.1, hA⟩) (ev_now fun _ => ?_)
   rw [wid (n := s + u) (by omega) (by omega), wid (n := l - u) (by omega) (by omega)]
   rw [pickO_eq (p := dang a s l u) ws 0 (fun x hx => ?_), Option.bind_some, dangling, if_pos ⟨h, hA⟩]
   have := (hA.mem x hx).bounds
   exact impl_areShared_eq a (s + u) (l - u) (l - u) x.f0 x.f1 x.f2 x.f3 (by omega) (by omega)
  ·refine ev_neg (by rw [decide_eq_false (fun x => hA x.2)]; decide) (ev_eq (Ev.now _) ?_)
   rw [dangling, if_neg (fun x => hA x.2)]
 ·refine ev_neg (by rw [decide_eq_false h]; decide) (ev_eq (Ev.now _) ?_)
  rw [dangling, if_neg (fun x => h x.1)]
theorem dangling_length (m : List (List Int)) (a s l c u : Int) (ms : List Int) {ws : List S36} (hw : ws.length ≤ 1048576) : (dangling m a s l c u ms ws).1.length ≤ 1048576 := by
 unfold dangling
 by_cases h : ArenaOK m a s l c u ms ∧ AllOn m ws
 ·rw [if_pos h]
  exact Nat.le_trans (picks_length _ _ _) hw
 ·rw [if_neg h]
  exact Nat.zero_le _
theorem FnExactDangling : laws_FnExactDangling.Pure := by
 intro m a s l c u ms vs hm _ _ _ _ _ hms hv
 refine Ev.rounds ?_
 obtain ⟨r, e, hr, hs⟩ := laws_szArena_ev m hm a s l c u ms hms 1048576 (by omega) (by omega)
 simp only [laws_FnExactDangling.f]
 refine ev_bind e ?_
 by_cases h : r < 0
 ·exact ev_pos h (Ev.now _)
 refine ev_neg h (ev_bind (ev_now (fun _ => laws_szWindowS_eq vs hv.1 r (by omega) (by omega))) ?_)
 by_cases h2 : (vs.length : Int) ≤ r
 case neg =>
  rw [if_neg h2]
  exact ev_pos (by omega) (Ev.now _)
 rw [if_pos h2]
 obtain ⟨hsm, hmsl⟩ := hs (by omega)
 have t := laws_toArena_ev m hsm a s l c u ms hmsl
 have la : (vs.map conv).length ≤ 1048576 := by rw [List.length_map]; omega
 have ta := laws_toWindowS_ev vs (by omega)
 have ea := laws_eqWindowS_ev _ la
 have sp := spec_Dangling_ev m hsm.1 a s l c u ms hmsl _ la
 have im := impl_Dangling_ev m hsm.1 a s l c u ms hmsl _ la
 have fl := dangling_length m a s l c u ms la
 generalize vs.map conv = ws at *
 generalize dangling m a s l c u ms ws = q at sp im fl
 obtain ⟨g, o⟩ := q
 replace fl : g.length ≤ 1048576 := fl
 obtain ⟨mr, em, hmr, hmr2⟩ := laws_markArena_ev m hsm a s l c u ms hmsl
 have ma := laws_markWindowS_ev ws mr (by omega) (by omega) (by omega)
 have eg : Ev (fun k => laws_eqIntS.f k g g) true := ev_eq (laws_eqIntS_ev g g (by omega)) (by simp)
 have mg := laws_markIntS_ev g 1 (by omega) (by omega) (by omega)
 have he := laws_heldIntS_ev 1 g.length (by omega) (by omega) (by omega)
 refine ev_neg (by omega) ?_
 refine ev_bind t ?_
 refine ev_bind ta ?_
 refine ev_bind sp ?_
 refine ev_bind im ?_
 refine ev_bind eg ?_
 refine ev_bind (laws_eqArena_self m hsm a s l c u ms hmsl) ?_
 refine ev_bind ea ?_
 refine ev_bind em ?_
 refine ev_bind ma ?_
 refine ev_bind mg ?_
 refine ev_bind he ?_
 exact ev_pos ⟨rfl, rfl, rfl, rfl, by simp only []; omega, by omega, rfl⟩ (Ev.now _)
end Go.Proofs.Ytkifenbcepicjab.Pure
