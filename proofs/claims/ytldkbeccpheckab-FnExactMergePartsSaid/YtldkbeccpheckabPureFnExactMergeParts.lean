/- What is proved here: the plain statement of the law FnExactMergeParts, over numbers and lists. No condition beyond those that it states. -/
import Derived.Test.YtldkbeccpheckabQFnExactMergeParts
import Derived.Test.YtldkbeccpheckabTk
namespace Go.Proofs.Ytldkbeccpheckab.Pure
open Go.RowKit Go.Proofs.Ytldkbeccpheckab.PFnExactMergeParts Go.Proofs.YtldkbeccpheckabW.PrintWords Go.Proofs.YtldkbeccpheckabW.PrintMore Go.Proofs.Ytldkbeccpheckab.Tk Go.Proofs.Ytldkbeccpheckab.Opn
set_option linter.unusedVariables false
set_option linter.unusedSimpArgs false
def Sizes (m : List (List Int)) : Prop := ∀ a ∈ m, 1 ≤ a.length ∧ a.length ≤ 64
instance (m : List (List Int)) : Decidable (Sizes m) := by unfold Sizes; exact inferInstance
theorem Sizes.nil : Sizes [] := fun a ha => by simp at ha
theorem Sizes.cons {a : List Int} {m : List (List Int)} (h : (1 : Int) ≤ (a.length : Int) ∧ (a.length : Int) ≤ 64) (k : Sizes m) : Sizes (a :: m) := fun b hb => by
 rcases List.mem_cons.1 hb with rfl | hb
 ·omega
 ·exact k b hb
theorem Sizes.head {a : List Int} {m : List (List Int)} (k : Sizes (a :: m)) : (1 : Int) ≤ (a.length : Int) ∧ (a.length : Int) ≤ 64 := by
 have := k a List.mem_cons_self
 omega
theorem Sizes.tail {a : List Int} {m : List (List Int)} (k : Sizes (a :: m)) : Sizes m := fun b hb => k b (List.mem_cons_of_mem _ hb)
def MemOK (m : List (List Int)) : Prop := m.length ≤ 16 ∧ Sizes m
instance (m : List (List Int)) : Decidable (MemOK m) := by unfold MemOK; exact inferInstance
def arr_ (m : List (List Int)) (a : Int) : List Int := m.getD a.toNat []
def WinOK (m : List (List Int)) (a s l c : Int) : Prop := MemOK m ∧ 0 ≤ a ∧ a < (m.length : Int) ∧ 0 ≤ s ∧ 0 ≤ l ∧ l ≤ c ∧ s + c ≤ ((arr_ m a).length : Int)
instance (m : List (List Int)) (a s l c : Int) : Decidable (WinOK m a s l c) := by unfold WinOK; exact inferInstance
def Small (m : List (List Int)) : Prop := m.length ≤ 1048576 ∧ ∀ a ∈ m, a.length ≤ 1048576
theorem arr_mem {m : List (List Int)} {a : Int} (h0 : 0 ≤ a) (h1 : a < (m.length : Int)) : arr_ m a ∈ m := by
 unfold arr_
 rw [getD_lt m [] (by omega : a.toNat < m.length)]
 exact List.getElem_mem _
theorem arr_size {m : List (List Int)} (hm : MemOK m) {a : Int} (h0 : 0 ≤ a) (h1 : a < (m.length : Int)) : 1 ≤ (arr_ m a).length ∧ (arr_ m a).length ≤ 64 := hm.2 _ (arr_mem h0 h1)
theorem MemOK.small {m : List (List Int)} (hm : MemOK m) : Small m := ⟨by have := hm.1; omega, fun a ha => by have := hm.2 a ha; omega⟩
theorem WinOK.bounds {m : List (List Int)} {a s l c : Int} (h : WinOK m a s l c) : MemOK m ∧ 0 ≤ a ∧ a < 16 ∧ a < (m.length : Int) ∧ 0 ≤ s ∧ s ≤ 64 ∧ 0 ≤ l ∧ l ≤ c ∧ c ≤ 64 ∧ s + c ≤ ((arr_ m a).length : Int) ∧ ((arr_ m a).length : Int) ≤ 64 := by
 obtain ⟨hm, h0, h1, h2, h3, h4, h5⟩ := h
 have := arr_size hm h0 h1
 have := hm.1
 refine ⟨hm, h0, by omega, h1, h2, by omega, h3, h4, by omega, h5, by omega⟩
theorem dec_false {p : Prop} [Decidable p] (h : ¬ p) : some false = some (decide p) := by rw [decide_eq_false h]
def WinAt (m : List (List Int)) (w : S61) : Prop := WinOK m w.f0 w.f1 w.f2 w.f3
instance (m : List (List Int)) (w : S61) : Decidable (WinAt m w) := by unfold WinAt; exact inferInstance
def AllOn (m : List (List Int)) : List S61 → Prop
 | [] => True
 | w :: ws => WinAt m w ∧ AllOn m ws
instance allOnDec (m : List (List Int)) : (ws : List S61) → Decidable (AllOn m ws)
 | [] => isTrue trivial
 | w :: ws => by
  haveI := allOnDec m ws
  unfold AllOn
  exact inferInstance
theorem AllOn.mem {m : List (List Int)} : ∀ {ws : List S61}, AllOn m ws → ∀ w ∈ ws, WinAt m w
 | [], _, w, hw => by simp at hw
 | x :: ws, h, w, hw => by
  rcases List.mem_cons.1 hw with rfl | hw
  ·exact h.1
  ·exact AllOn.mem h.2 w hw
theorem AllOn.of {m : List (List Int)} : ∀ {ws : List S61}, (∀ w ∈ ws, WinAt m w) → AllOn m ws
 | [], _ => trivial
 | x :: ws, h => ⟨h x List.mem_cons_self, AllOn.of (fun w hw => h w (List.mem_cons_of_mem _ hw))⟩
theorem AllOn.drop {m : List (List Int)} {ws : List S61} (h : AllOn m ws) (i : Nat) : AllOn m (ws.drop i) := AllOn.of (fun w hw => h.mem w (List.mem_of_mem_drop hw))
theorem rdW {ws : List S61} {i : Nat} (h : i < ws.length) : rd_T61 ws (i : Int) = ws[i] := by
 unfold rd_T61
 exact getD_lt ws _ h
def RopeOK (m : List (List Int)) (ws : List S61) : Prop := MemOK m ∧ AllOn m ws ∧ ws.length ≤ 12
instance (m : List (List Int)) (ws : List S61) : Decidable (RopeOK m ws) := by unfold RopeOK; exact inferInstance
def ropeLen : List S61 → Int
 | [] => 0
 | w :: ws => w.f2 + ropeLen ws
def Lens (ws : List S61) : Prop := ∀ w ∈ ws, 0 ≤ w.f2 ∧ w.f2 ≤ 64
theorem RopeOK.lens {m : List (List Int)} {ws : List S61} (h : RopeOK m ws) : Lens ws := fun w hw => by
 have := (h.2.1.mem w hw).bounds
 omega
theorem ropeLen_bounds : ∀ {ws : List S61}, Lens ws → 0 ≤ ropeLen ws ∧ ropeLen ws ≤ 64 * ws.length
 | [], _ => by simp [ropeLen]
 | w :: ws, h => by
  have := h w List.mem_cons_self
  have := ropeLen_bounds (ws := ws) (fun x hx => h x (List.mem_cons_of_mem _ hx))
  simp only [ropeLen, List.length_cons]
  omega
theorem RopeOK.len {m : List (List Int)} {ws : List S61} (h : RopeOK m ws) : 0 ≤ ropeLen ws ∧ ropeLen ws ≤ 768 := by
 have := ropeLen_bounds h.lens
 have := h.2.2
 omega
theorem spec_l1In_eq (a b c : Int) : spec_l1In.f a b c = some (decide (b ≤ a ∧ a ≤ c)) := by
 unfold spec_l1In.f
 by_cases h : a ≥ b
 ·rw [if_pos h]
  congr 1
  exact decide_eq_decide.mpr ⟨fun x => ⟨h, x⟩, fun x => x.2⟩
 ·rw [if_neg h]
  exact dec_false (fun x => h x.1)
theorem spec_l2Memory_l0 (m : List (List Int)) (hm : m.length ≤ 1048576) : ∀ (d i : Nat), i + d = m.length → Ev (fun k => spec_l2Memory.l0 k (i : Int) m) (decide (m.length ≤ 16 ∧ Sizes (m.drop i))) := by
 intro d
 induction d with
 | zero =>
  intro i hi
  have e : m.drop i = [] := List.drop_eq_nil_of_le (by omega)
  refine ev_succ (ev_eq (r := decide ((m.length : Int) ≤ 16)) ?_ ?_)
  ·simp only [spec_l2Memory.l0]
   refine ev_neg (by omega) (ev_succ ?_)
   simp only [spec_l2Memory.j1]
   exact ev_neg (by decide) (Ev.now _)
  ·rw [e]
   exact decide_eq_decide.mpr ⟨fun h => ⟨by omega, Sizes.nil⟩, fun h => by have := h.1; omega⟩
 | succ d ih =>
  intro i hi
  have h : i < m.length := by omega
  refine ev_succ ?_
  simp only [spec_l2Memory.l0]
  refine ev_pos (by omega) (ev_succ ?_)
  by_cases h16 : (i : Int) ≤ 16
  ·simp only [spec_l2Memory.j1, decide_eq_true h16]
   refine ev_pos (by first | trivial | rfl) (ev_pos (by omega) (ev_pos (by omega) ?_))
   have hr : rd_L1 m (i : Int) = m[i] := by
    unfold rd_L1
    exact getD_lt m [] h
   simp only [spec_l1In_eq, hr, Option.bind_some, decide_eq_true_eq]
   by_cases hs : (1 : Int) ≤ (m[i].length : Int) ∧ (m[i].length : Int) ≤ 64
   ·refine ev_pos hs (ev_eq (r := decide (m.length ≤ 16 ∧ Sizes (m.drop (i + 1)))) ?_ ?_)
    ·have := ih (i + 1) (by omega)
     rw [← wsucc (i := i) (by omega)] at this
     exact this
    ·rw [List.drop_eq_getElem_cons h]
     exact decide_eq_decide.mpr ⟨fun x => ⟨x.1, x.2.cons hs⟩, fun x => ⟨x.1, x.2.tail⟩⟩
   ·refine ev_neg hs (ev_eq (Ev.now false) ?_)
    rw [List.drop_eq_getElem_cons h]
    exact (decide_eq_false (fun x => hs x.2.head)).symm
  ·simp only [spec_l2Memory.j1, decide_eq_false h16]
   refine ev_neg (by decide) (ev_eq (Ev.now (decide ((m.length : Int) ≤ 16))) ?_)
   exact decide_eq_decide.mpr ⟨fun x => by omega, fun x => by have := x.1; omega⟩
theorem spec_l2Memory_ev (m : List (List Int)) (hm : m.length ≤ 1048576) : Ev (fun k => spec_l2Memory.f k m) (decide (MemOK m)) := by
 simp only [spec_l2Memory.f]
 have := spec_l2Memory_l0 m hm m.length 0 (by omega)
 rw [List.drop_zero] at this
 exact this
theorem spec_l2Window_ev (m : List (List Int)) (hm : m.length ≤ 1048576) (a s l c : Int) : Ev (fun k => spec_l2Window.f k m a s l c) (decide (WinOK m a s l c)) := by
 simp only [spec_l2Window.f, spec_l1In_eq, Option.bind_some]
 refine ev_bind (spec_l2Memory_ev m hm) ?_
 by_cases h : MemOK m
 ·refine ev_pos (decide_eq_true h) (ev_succ ?_)
  have hl := h.1
  simp only [spec_l2Window.j0]
  rw [wid (n := (m.length : Int) - 1) (by omega) (by omega)]
  by_cases h1 : 0 ≤ a ∧ a ≤ (m.length : Int) - 1
  ·have hz := arr_size h h1.1 (by omega)
   have hr : rd_L1 m a = arr_ m a := rfl
   simp only [decide_eq_true h1, spec_l1In_eq, Option.bind_some, hr, decide_eq_true_eq]
   refine ev_neg (by decide) (ev_pos h1.1 (ev_pos (by omega) ?_))
   by_cases h2 : 0 ≤ s ∧ s ≤ ((arr_ m a).length : Int)
   ·refine ev_pos h2 ?_
    rw [wid (n := ((arr_ m a).length : Int) - s) (by omega) (by omega)]
    by_cases h3 : 0 ≤ c ∧ c ≤ ((arr_ m a).length : Int) - s
    ·refine ev_pos h3 (ev_eq (Ev.now _) (decide_eq_decide.mpr ⟨fun x => ⟨h, by omega⟩, fun x => ⟨x.2.2.2.2.1, x.2.2.2.2.2.1⟩⟩))
    ·refine ev_neg h3 (ev_eq (Ev.now _) (decide_eq_false (fun x => h3 ?_)).symm)
     obtain ⟨_, x⟩ := x
     omega
   ·refine ev_neg h2 (ev_eq (Ev.now _) (decide_eq_false (fun x => h2 ?_)).symm)
    obtain ⟨_, x⟩ := x
    omega
  ·simp only [decide_eq_false h1]
   refine ev_pos (by first | trivial | rfl) (ev_eq (Ev.now _) (decide_eq_false (fun x => h1 ?_)).symm)
   obtain ⟨_, x⟩ := x
   omega
 ·refine ev_neg (by rw [decide_eq_false h]; decide) (ev_succ ?_)
  simp only [spec_l2Window.j0]
  exact ev_pos (by first | trivial | rfl) (ev_eq (Ev.now _) (decide_eq_false (fun x => h x.1)).symm)
theorem spec_l7Rope_l0 (m : List (List Int)) (hm : m.length ≤ 1048576) (ws : List S61) (hl : ws.length ≤ 1048576) : ∀ (d i : Nat), i + d = ws.length → Ev (fun k => spec_l7Rope.l0 k (i : Int) m ws) (decide (MemOK m ∧ AllOn m (ws.drop i) ∧ ws.length ≤ 12)) := by
 have hend : Ev (fun k => (spec_l2Memory.f k m).bind fun t => if t = true then some (decide ((ws.length : Int) ≤ 12)) else some false) (decide (MemOK m ∧ ws.length ≤ 12)) := by
  refine ev_bind (spec_l2Memory_ev m hm) ?_
  by_cases h : MemOK m
  ·exact ev_pos (decide_eq_true h) (ev_eq (Ev.now _) (decide_eq_decide.mpr ⟨fun x => ⟨h, by omega⟩, fun x => by have := x.2; omega⟩))
  ·exact ev_neg (by rw [decide_eq_false h]; decide) (ev_eq (Ev.now _) (decide_eq_false (fun x => h x.1)).symm)
 intro d
 induction d with
 | zero =>
  intro i hi
  rw [List.drop_eq_nil_of_le (by omega)]
  refine ev_succ ?_
  simp only [spec_l7Rope.l0]
  refine ev_neg (by omega) (ev_succ ?_)
  simp only [spec_l7Rope.j1]
  exact ev_neg (by decide) (ev_eq hend (decide_eq_decide.mpr ⟨fun x => ⟨x.1, trivial, x.2⟩, fun x => ⟨x.1, x.2.2⟩⟩))
 | succ d ih =>
  intro i hi
  have h : i < ws.length := by omega
  refine ev_succ ?_
  simp only [spec_l7Rope.l0]
  refine ev_pos (by omega) (ev_succ ?_)
  by_cases h12 : (i : Int) ≤ 12
  ·simp only [spec_l7Rope.j1, decide_eq_true h12, rdW h]
   refine ev_pos (by first | trivial | rfl) (ev_pos (by omega) (ev_pos (by omega) (ev_bind (spec_l2Window_ev m hm _ _ _ _) ?_)))
   rw [List.drop_eq_getElem_cons h]
   by_cases hw : WinOK m ws[i].f0 ws[i].f1 ws[i].f2 ws[i].f3
   ·refine ev_pos (decide_eq_true hw) (ev_eq (r := decide (MemOK m ∧ AllOn m (ws.drop (i + 1)) ∧ ws.length ≤ 12)) ?_ (decide_eq_decide.mpr ⟨fun x => ⟨x.1, ⟨hw, x.2.1⟩, x.2.2⟩, fun x => ⟨x.1, x.2.1.2, x.2.2⟩⟩))
    rw [wsucc (i := i) (by omega)]
    exact ih (i + 1) (by omega)
   ·exact ev_neg (by rw [decide_eq_false hw]; decide) (ev_eq (Ev.now _) (decide_eq_false (fun x => hw x.2.1.1)).symm)
  ·simp only [spec_l7Rope.j1, decide_eq_false h12]
   refine ev_neg (by decide) (ev_eq hend (decide_eq_decide.mpr ⟨fun x => by have := x.2; omega, fun x => by have := x.2.2; omega⟩))
theorem spec_l7Rope_ev (m : List (List Int)) (hm : m.length ≤ 1048576) (ws : List S61) (hl : ws.length ≤ 1048576) : Ev (fun k => spec_l7Rope.f k m ws) (decide (RopeOK m ws)) := by
 simp only [spec_l7Rope.f]
 have := spec_l7Rope_l0 m hm ws hl ws.length 0 (by omega)
 rw [List.drop_zero] at this
 exact this
theorem impl_within_eq (a b c : Int) : impl_within.f a b c = some (decide (b ≤ a ∧ a ≤ c)) := by
 unfold impl_within.f
 by_cases h : a ≥ b
 ·rw [if_pos h]
  congr 1
  exact decide_eq_decide.mpr ⟨fun x => ⟨h, x⟩, fun x => x.2⟩
 ·rw [if_neg h]
  exact dec_false (fun x => h x.1)
theorem impl_Memory_hasWindow_eq (m : List (List Int)) (h : MemOK m) (a s l c : Int) : impl_Memory_hasWindow.f m a s l c = some (decide (WinOK m a s l c)) := by
 have hl := h.1
 simp only [impl_Memory_hasWindow.f, impl_Memory_hasArray.f, impl_within_eq, Option.bind_some, decide_eq_true_eq]
 rw [wid (n := (m.length : Int) - 1) (by omega) (by omega)]
 by_cases h1 : 0 ≤ a ∧ a ≤ (m.length : Int) - 1
 ·have hz := arr_size h h1.1 (by omega)
  have hr : rd_L1 m a = arr_ m a := rfl
  rw [if_pos h1, hr]
  by_cases h2 : 0 ≤ c ∧ c ≤ 64
  ·rw [if_pos h2]
   by_cases h3 : 0 ≤ l ∧ l ≤ c
   ·rw [if_pos h3, if_pos h1.1, if_pos (by omega), wid (n := ((arr_ m a).length : Int) - c) (by omega) (by omega)]
    congr 1
    exact decide_eq_decide.mpr ⟨fun x => ⟨h, by omega⟩, fun x => by obtain ⟨_, x⟩ := x; omega⟩
   ·rw [if_neg h3]
    exact dec_false (fun x => h3 (by obtain ⟨_, x⟩ := x; omega))
  ·rw [if_neg h2]
   exact dec_false (fun x => h2 (by obtain ⟨_, x⟩ := x; omega))
 ·rw [if_neg h1]
  exact dec_false (fun x => h1 (by obtain ⟨_, x⟩ := x; omega))
theorem impl_IsMemory_l0 (m : List (List Int)) (hm : m.length ≤ 1048576) : ∀ (d i : Nat), i + d = m.length → Ev (fun k => impl_IsMemory.l0 k m (m.length : Int) (i : Int) m) (decide (m.length ≤ 16 ∧ Sizes (m.drop i))) := by
 intro d
 induction d with
 | zero =>
  intro i hi
  have e : m.drop i = [] := List.drop_eq_nil_of_le (by omega)
  refine ev_succ (ev_eq (r := decide ((m.length : Int) ≤ 16)) ?_ ?_)
  ·simp only [impl_IsMemory.l0]
   exact ev_neg (by omega) (Ev.now _)
  ·rw [e]
   exact decide_eq_decide.mpr ⟨fun h => ⟨by omega, Sizes.nil⟩, fun h => by have := h.1; omega⟩
 | succ d ih =>
  intro i hi
  have h : i < m.length := by omega
  refine ev_succ ?_
  simp only [impl_IsMemory.l0]
  refine ev_pos (by omega) (ev_pos (by omega) (ev_pos (by omega) ?_))
  have hr : rd_L1 m (i : Int) = m[i] := by
   unfold rd_L1
   exact getD_lt m [] h
  simp only [impl_within_eq, hr, Option.bind_some, decide_eq_true_eq]
  by_cases hs : (1 : Int) ≤ (m[i].length : Int) ∧ (m[i].length : Int) ≤ 64
  ·refine ev_pos hs (ev_eq (r := decide (m.length ≤ 16 ∧ Sizes (m.drop (i + 1)))) ?_ ?_)
   ·have := ih (i + 1) (by omega)
    rw [← wsucc (i := i) (by omega)] at this
    exact this
   ·rw [List.drop_eq_getElem_cons h]
    exact decide_eq_decide.mpr ⟨fun x => ⟨x.1, x.2.cons hs⟩, fun x => ⟨x.1, x.2.tail⟩⟩
  ·refine ev_neg hs (ev_eq (Ev.now false) ?_)
   rw [List.drop_eq_getElem_cons h]
   exact (decide_eq_false (fun x => hs x.2.head)).symm
theorem impl_IsMemory_ev (m : List (List Int)) (hm : m.length ≤ 1048576) : Ev (fun k => impl_IsMemory.f k m) (decide (MemOK m)) := by
 simp only [impl_IsMemory.f]
 have := impl_IsMemory_l0 m hm m.length 0 (by omega)
 rw [List.drop_zero] at this
 exact this
theorem impl_areOn_any (m : List (List Int)) (h : MemOK m) : ∀ ws : List S61, Opn.anyO (fun x => (impl_Memory_hasWindow.f m x.f0 x.f1 x.f2 x.f3).bind fun b => some (!b)) ws = some (!decide (AllOn m ws))
 | [] => rfl
 | w :: ws => by
  unfold Opn.anyO
  rw [impl_Memory_hasWindow_eq m h, Option.bind_some, Option.bind_some, impl_areOn_any m h ws]
  by_cases hw : WinOK m w.f0 w.f1 w.f2 w.f3
  ·rw [decide_eq_true hw, if_neg (by decide)]
   congr 2
   exact decide_eq_decide.mpr ⟨fun x => ⟨hw, x⟩, fun x => x.2⟩
  ·rw [decide_eq_false hw, if_pos (by decide), decide_eq_false (fun x : AllOn m (w :: ws) => hw x.1)]
   rfl
theorem impl_areOn_ev (m : List (List Int)) (hm : m.length ≤ 1048576) (ws : List S61) : Ev (fun k => impl_areOn.f k m ws) (decide (MemOK m ∧ AllOn m ws)) := by
 simp only [impl_areOn.f]
 refine ev_bind (impl_IsMemory_ev m hm) ?_
 by_cases h : MemOK m
 ·refine ev_pos (decide_eq_true h) (ev_now (fun k => ?_))
  rw [impl_areOn_any m h, Option.bind_some, Bool.not_not]
  congr 1
  exact decide_eq_decide.mpr ⟨fun x => ⟨h, x⟩, fun x => x.2⟩
 ·exact ev_neg (by rw [decide_eq_false h]; decide) (ev_eq (Ev.now _) (decide_eq_false (fun x => h x.1)).symm)
theorem impl_isRope_ev (m : List (List Int)) (hm : m.length ≤ 1048576) (ws : List S61) : Ev (fun k => impl_isRope.f k m ws) (decide (RopeOK m ws)) := by
 simp only [impl_isRope.f]
 refine ev_bind (impl_areOn_ev m hm ws) ?_
 by_cases h : MemOK m ∧ AllOn m ws
 ·exact ev_pos (decide_eq_true h) (ev_eq (Ev.now _) (decide_eq_decide.mpr ⟨fun x => ⟨h.1, h.2, by omega⟩, fun x => by have := x.2.2; omega⟩))
 ·exact ev_neg (by rw [decide_eq_false h]; decide) (ev_eq (Ev.now _) (decide_eq_false (fun x => h ⟨x.1, x.2.1⟩)).symm)
theorem laws_szByteS_eq (l : List Int) (hl : l.length ≤ 9223372036854775807) (n : Int) (h0 : 0 ≤ n) (h1 : n ≤ 1048576) : laws_szByteS.f l n = some (if (l.length : Int) ≤ n then n - l.length else -1) := by
 unfold laws_szByteS.f
 rw [wid (n := n - l.length) (by omega) (by omega)]
 by_cases h : (l.length : Int) ≤ n
 ·rw [if_neg (by omega), if_pos h]
 ·rw [if_pos (by omega), if_neg h]
theorem laws_szByteSS_l0 (m : List (List Int)) (hl : m.length ≤ 9223372036854775807) (hm : ∀ a ∈ m, a.length ≤ 9223372036854775807) : ∀ (d i : Nat) (n : Int), i + d = m.length → 0 ≤ n → n ≤ 1048576 →
  ∃ r, Ev (fun k => laws_szByteSS.l0 k m n (i : Int)) r ∧ r ≤ n ∧ (0 ≤ r → ∀ a ∈ m.drop i, (a.length : Int) ≤ n) := by
 intro d
 induction d with
 | zero =>
  intro i n hi h0 h1
  refine ⟨n, ev_succ ?_, Int.le_refl _, fun _ a ha => ?_⟩
  ·simp only [laws_szByteSS.l0]
   exact ev_neg (by omega) (Ev.now _)
  ·rw [List.drop_eq_nil_of_le (by omega)] at ha
   simp at ha
 | succ d ih =>
  intro i n hi h0 h1
  have h : i < m.length := by omega
  have hr : rd_L1 m (i : Int) = m[i] := by
   unfold rd_L1
   exact getD_lt m [] h
  have ha := hm m[i] (List.getElem_mem h)
  by_cases hs : (m[i].length : Int) ≤ n
  ·obtain ⟨r, e, hr1, hr2⟩ := ih (i + 1) (n - m[i].length) (by omega) (by omega) (by omega)
   refine ⟨r, ev_succ ?_, by omega, fun hp a hx => ?_⟩
   ·simp only [laws_szByteSS.l0, hr, laws_szByteS_eq m[i] ha n h0 h1, if_pos hs, Option.bind_some]
    refine ev_pos (by omega) (ev_pos (by omega) (ev_neg (by omega) ?_))
    rw [wsucc (i := i) (by omega)]
    exact e
   ·rw [List.drop_eq_getElem_cons h] at hx
    rcases List.mem_cons.1 hx with rfl | hx
    ·exact hs
    ·have := hr2 hp a hx
     omega
  ·refine ⟨-1, ev_succ ?_, by omega, fun hp => by omega⟩
   simp only [laws_szByteSS.l0, hr, laws_szByteS_eq m[i] ha n h0 h1, if_neg hs, Option.bind_some]
   exact ev_pos (by omega) (ev_pos (by omega) (ev_pos (by omega) (Ev.now _)))
theorem laws_szByteSS_ev (m : List (List Int)) (hm : Row (Row U8) m) (n : Int) (h0 : 0 ≤ n) (h1 : n ≤ 1048576) : ∃ r, Ev (fun k => laws_szByteSS.f k m n) r ∧ r ≤ n ∧ (0 ≤ r → Small m) := by
 have hl := hm.1
 have hr : ∀ a ∈ m, a.length ≤ 9223372036854775807 := fun a ha => (hm.2 a ha).1
 simp only [laws_szByteSS.f]
 rw [wid (n := n - m.length) (by omega) (by omega)]
 by_cases h : (m.length : Int) ≤ n
 ·obtain ⟨r, e, hr1, hr2⟩ := laws_szByteSS_l0 m hl hr m.length 0 (n - m.length) (by omega) (by omega) (by omega)
  refine ⟨r, ev_neg (by omega) e, by omega, fun hp => ⟨by omega, fun a ha => ?_⟩⟩
  have := hr2 hp a (by simpa using ha)
  omega
 ·exact ⟨-1, ev_pos (by omega) (Ev.now _), by omega, fun hp => by omega⟩
theorem laws_szMemory_ev (m : List (List Int)) (hm : Row (Row U8) m) (n : Int) (h0 : 0 ≤ n) (h1 : n ≤ 1048576) : ∃ r, Ev (fun k => laws_szMemory.f k m n) r ∧ r ≤ n ∧ (0 ≤ r → Small m) := by
 obtain ⟨r, e, hr, hs⟩ := laws_szByteSS_ev m hm n h0 h1
 simp only [laws_szMemory.f]
 by_cases h : r < 0
 ·exact ⟨-1, ev_bind e (ev_pos h (Ev.now _)), by omega, fun hp => by omega⟩
 ·exact ⟨r, ev_bind e (ev_neg h (Ev.now _)), hr, hs⟩
theorem laws_szRope_eq (ws : List S53) (hl : ws.length ≤ 9223372036854775807) (n : Int) (h0 : 0 ≤ n) (h1 : n ≤ 1048576) : laws_szRope.f ws n = some (if (ws.length : Int) ≤ n then n - ws.length else -1) := by
 unfold laws_szRope.f laws_szWindowS.f
 rw [wid (n := n - ws.length) (by omega) (by omega)]
 by_cases h : (ws.length : Int) ≤ n
 ·rw [if_neg (by omega), if_pos h, Option.bind_some, if_neg (by omega)]
 ·rw [if_pos (by omega), if_neg h, Option.bind_some, if_pos (by omega)]
theorem laws_toByteS_l0 (l : List Int) (hl : l.length ≤ 281474976710656) (x : List Int) (hx : x.length = l.length) : ∀ (d i : Nat), i + d = l.length → Ev (fun k => laws_toByteS.l0 k l (over l x i) (i : Int)) l := by
 intro d
 induction d with
 | zero =>
  intro i hi
  have e : over l x i = l := by rw [show i = l.length by omega]; exact over_all l x hx
  rw [e]
  refine ev_end (fun k => ?_)
  simp only [laws_toByteS.l0]
  rw [if_neg (by omega)]
 | succ d ih =>
  intro i hi
  refine Ev.step (fun k => ?_) (ih (i + 1) (by omega))
  simp only [laws_toByteS.l0]
  rw [if_pos (by omega), if_pos (by omega), if_pos (by rw [over_length l x i hx (by omega)]; omega), Int.toNat_natCast, rd_lt l (by omega : i < l.length), over_set l x i hx (by omega), wsucc (by omega)]
theorem laws_toByteS_ev (l : List Int) (hl : l.length ≤ 281474976710656) : Ev (fun k => laws_toByteS.f k l) l := by
 simp only [laws_toByteS.f]
 refine ev_pos (by omega) (ev_pos (by simpa using hl) ?_)
 have h := laws_toByteS_l0 l hl (List.replicate l.length 0) (by simp) l.length 0 (by omega)
 rw [over_zero] at h
 simpa using h
theorem laws_toByteSS_l0 (l : List (List Int)) (hl : Small l) (x : List (List Int)) (hx : x.length = l.length) : ∀ (d i : Nat), i + d = l.length → Ev (fun k => laws_toByteSS.l0 k l (over l x i) (i : Int)) l := by
 obtain ⟨hl, hs⟩ := hl
 intro d
 induction d with
 | zero =>
  intro i hi
  have e : over l x i = l := by rw [show i = l.length by omega]; exact over_all l x hx
  rw [e]
  refine ev_succ ?_
  simp only [laws_toByteSS.l0]
  exact ev_neg (by omega) (Ev.now _)
 | succ d ih =>
  intro i hi
  have h : i < l.length := by omega
  have hr : rd_L1 l (i : Int) = l[i] := by
   unfold rd_L1
   exact getD_lt l [] h
  refine ev_succ ?_
  simp only [laws_toByteSS.l0, hr]
  refine ev_pos (by omega) (ev_pos (by omega) (ev_bind (laws_toByteS_ev l[i] (by have := hs l[i] (List.getElem_mem h); omega)) (ev_pos (by rw [over_length l x i hx (by omega)]; omega) ?_)))
  rw [Int.toNat_natCast, over_set l x i hx h, wsucc (by omega)]
  exact ih (i + 1) (by omega)
theorem laws_toByteSS_ev (l : List (List Int)) (hl : Small l) : Ev (fun k => laws_toByteSS.f k l) l := by
 have h1 := hl.1
 simp only [laws_toByteSS.f]
 refine ev_pos (by omega) (ev_pos (by simp only [Int.toNat_natCast]; omega) ?_)
 have h := laws_toByteSS_l0 l hl (List.replicate l.length []) (by simp) l.length 0 (by omega)
 rw [over_zero] at h
 simpa using h
theorem laws_toMemory_ev (l : List (List Int)) (hl : Small l) : Ev (fun k => laws_toMemory.f k l) l := by
 simp only [laws_toMemory.f]
 exact ev_bind (laws_toByteSS_ev l hl) (Ev.now _)
def conv (w : S53) : S61 := ⟨w.f0, w.f1, w.f2, w.f3⟩
theorem rdV {ws : List S53} {i : Nat} (h : i < ws.length) : rd_T53 ws (i : Int) = ws[i] := by
 unfold rd_T53
 exact getD_lt ws _ h
theorem laws_toWindowS_l0 (ws : List S53) (hl : ws.length ≤ 1048576) (x : List S61) (hx : x.length = (ws.map conv).length) : ∀ (d i : Nat), i + d = ws.length → Ev (fun k => laws_toWindowS.l0 k ws (over (ws.map conv) x i) (i : Int)) (ws.map conv) := by
 have hx2 : x.length = ws.length := by rw [hx, List.length_map]
 intro d
 induction d with
 | zero =>
  intro i hi
  have e : over (ws.map conv) x i = ws.map conv := by rw [show i = (ws.map conv).length by rw [List.length_map]; omega]; exact over_all _ x hx
  rw [e]
  refine ev_succ ?_
  simp only [laws_toWindowS.l0]
  exact ev_neg (by omega) (Ev.now _)
 | succ d ih =>
  intro i hi
  have h : i < ws.length := by omega
  have h2 : i < (ws.map conv).length := by rw [List.length_map]; omega
  refine ev_succ ?_
  simp only [laws_toWindowS.l0, laws_toWindow.f, Option.bind_some, rdV h]
  refine ev_pos (by omega) (ev_pos (by omega) (ev_pos (by rw [over_length _ x i hx (by omega), List.length_map]; omega) ?_))
  have hs := over_set (ws.map conv) x i hx h2
  rw [List.getElem_map] at hs
  rw [Int.toNat_natCast, show (⟨ws[i].f0, ws[i].f1, ws[i].f2, ws[i].f3⟩ : S61) = conv ws[i] from rfl, hs, wsucc (by omega)]
  exact ih (i + 1) (by omega)
theorem laws_toRope_ev (ws : List S53) (hl : ws.length ≤ 1048576) : Ev (fun k => laws_toRope.f k ws) (ws.map conv) := by
 simp only [laws_toRope.f, laws_toWindowS.f]
 have h := laws_toWindowS_l0 ws hl (List.replicate ws.length z61) (by simp) ws.length 0 (by omega)
 rw [over_zero] at h
 exact ev_bind (ev_pos (by omega) (ev_pos (by simp only [Int.toNat_natCast]; omega) (by simpa using h))) (Ev.now _)
theorem laws_eqByteS_l0 (a b : List Int) (hl : a.length = b.length) (hb : a.length ≤ 281474976710656) : ∀ (d i : Nat), i + d = a.length → Ev (fun k => laws_eqByteS.l0 k a b (i : Int)) (decide (a.drop i = b.drop i)) := by
 intro d
 induction d with
 | zero =>
  intro i hi
  have e1 : a.drop i = [] := List.drop_eq_nil_of_le (by omega)
  have e2 : b.drop i = [] := List.drop_eq_nil_of_le (by omega)
  rw [e1, e2]
  refine ev_end (fun k => ?_)
  simp only [laws_eqByteS.l0]
  rw [if_neg (by omega)]
  rfl
 | succ d ih =>
  intro i hi
  have ha : i < a.length := by omega
  have hb2 : i < b.length := by omega
  rw [List.drop_eq_getElem_cons ha, List.drop_eq_getElem_cons hb2]
  by_cases h : a[i] = b[i]
  ·refine ev_eq (Ev.step (fun k => ?_) (ih (i + 1) (by omega))) ?_
   ·simp only [laws_eqByteS.l0]
    rw [if_pos (by omega), if_pos (by omega), if_pos (by omega), rd_lt a ha, rd_lt b hb2, if_pos h, wsucc (by omega)]
   ·rw [h]; exact decide_eq_decide.mpr ⟨fun e => by rw [e], fun e => (List.cons.inj e).2⟩
  ·refine ev_eq (ev_end (r := false) (fun k => ?_)) (decide_eq_false (fun e => h (List.cons.inj e).1)).symm
   simp only [laws_eqByteS.l0]
   rw [if_pos (by omega), if_pos (by omega), if_pos (by omega), rd_lt a ha, rd_lt b hb2, if_neg h]
theorem laws_eqByteS_ev (a b : List Int) (hb : a.length ≤ 281474976710656) : Ev (fun k => laws_eqByteS.f k a b) (decide (a = b)) := by
 simp only [laws_eqByteS.f]
 by_cases h : a.length = b.length
 ·refine ev_pos (by omega) ?_
  have := laws_eqByteS_l0 a b h hb a.length 0 (by omega)
  simpa using this
 ·refine ev_neg (by omega) ?_
  have : ¬ a = b := fun e => h (by rw [e])
  rw [decide_eq_false this]
  exact Ev.now _
theorem laws_eqByteSS_l0 (l : List (List Int)) (hl : Small l) : ∀ (d i : Nat), i + d = l.length → Ev (fun k => laws_eqByteSS.l0 k l l (i : Int)) true := by
 obtain ⟨hl, hs⟩ := hl
 intro d
 induction d with
 | zero =>
  intro i hi
  refine ev_succ ?_
  simp only [laws_eqByteSS.l0]
  exact ev_neg (by omega) (Ev.now _)
 | succ d ih =>
  intro i hi
  have h : i < l.length := by omega
  have hr : rd_L1 l (i : Int) = l[i] := by
   unfold rd_L1
   exact getD_lt l [] h
  refine ev_succ ?_
  simp only [laws_eqByteSS.l0, hr]
  refine ev_pos (by omega) (ev_pos (by omega) (ev_pos (by omega) (ev_bind (laws_eqByteS_ev l[i] l[i] (by have := hs l[i] (List.getElem_mem h); omega)) (ev_pos (by simp) ?_))))
  rw [wsucc (by omega)]
  exact ih (i + 1) (by omega)
theorem laws_eqMemory_ev (l : List (List Int)) (hl : Small l) : Ev (fun k => laws_eqMemory.f k l l) true := by
 simp only [laws_eqMemory.f, laws_eqByteSS.f]
 have := laws_eqByteSS_l0 l hl l.length 0 (by omega)
 exact ev_bind (ev_pos (by first | trivial | rfl) (by simpa using this)) (ev_pos (by first | trivial | rfl) (Ev.now _))
theorem laws_eqWindow_self (a s l c : Int) : laws_eqWindow.f a s l c a s l c = some true := by
 unfold laws_eqWindow.f
 rw [if_pos rfl, if_pos rfl, if_pos rfl, if_pos rfl]
theorem laws_eqWindowS_self (ws : List S61) (hl : ws.length ≤ 1048576) : ∀ (d i : Nat), i + d = ws.length → Ev (fun k => laws_eqWindowS.l0 k ws ws (i : Int)) true := by
 intro d
 induction d with
 | zero =>
  intro i hi
  refine ev_succ ?_
  simp only [laws_eqWindowS.l0]
  exact ev_neg (by omega) (Ev.now _)
 | succ d ih =>
  intro i hi
  have h : i < ws.length := by omega
  refine ev_succ ?_
  simp only [laws_eqWindowS.l0, rdW h]
  refine ev_pos (by omega) (ev_pos (by omega) (ev_pos (by omega) (ev_bind (ev_now (fun _ => laws_eqWindow_self _ _ _ _)) (ev_pos rfl ?_))))
  rw [wsucc (by omega)]
  exact ih (i + 1) (by omega)
theorem laws_eqWindowS_ev (ws : List S61) (hl : ws.length ≤ 1048576) : Ev (fun k => laws_eqWindowS.f k ws ws) true := by
 simp only [laws_eqWindowS.f]
 have h := laws_eqWindowS_self ws hl ws.length 0 (by omega)
 exact ev_pos (by first | trivial | rfl) (by simpa using h)
theorem laws_eqRope_self (ws : List S61) (hl : ws.length ≤ 1048576) : Ev (fun k => laws_eqRope.f k ws ws) true := by
 simp only [laws_eqRope.f, laws_eqWindowS.f]
 have h := laws_eqWindowS_self ws hl ws.length 0 (by omega)
 exact ev_bind (ev_pos (by first | trivial | rfl) (by simpa using h)) (ev_pos rfl (Ev.now _))
theorem laws_markByteS_l0 (n : Nat) (hn : n ≤ 281474976710656) : ∀ (d i : Nat) (x : List Int) (k0 : Int), i + d = n → x.length = n → 0 ≤ k0 → k0 + d ≤ 4611686018427387904 → Ev (fun k => laws_markByteS.l0 k x k0 (i : Int)) (k0 + d, x.take i ++ marks k0 d) := by
 intro d
 induction d with
 | zero =>
  intro i x k0 hi hx h0 h1
  refine ev_eq (ev_end (r := (k0, x)) (fun k => ?_)) ?_
  ·simp only [laws_markByteS.l0]
   rw [if_neg (by omega)]
  ·rw [List.take_of_length_le (by omega)]
   simp [marks]
 | succ d ih =>
  intro i x k0 hi hx h0 h1
  refine ev_eq (Ev.step (fun k => ?_) (ih (i + 1) (x.set i (k0 % 256)) (k0 + 1) (by omega) (by simpa using hx) (by omega) (by omega))) ?_
  ·simp only [laws_markByteS.l0]
   rw [if_pos (by omega), if_pos (by omega), Int.toNat_natCast, wid (n := k0 + 1) (by omega) (by omega), wsucc (by omega)]
  ·refine Prod.ext ?_ ?_
   ·simp; omega
   ·show (x.set i (k0 % 256)).take (i + 1) ++ marks (k0 + 1) d = x.take i ++ marks k0 (d + 1)
    rw [List.take_succ_eq_append_getElem (by simp; omega)]
    simp [marks, List.take_set]
    exact List.set_eq_of_length_le (by rw [List.length_take]; omega)
theorem laws_markByteS_ev (x : List Int) (k0 : Int) (hn : x.length ≤ 281474976710656) (h0 : 0 ≤ k0) (h1 : k0 + x.length ≤ 4611686018427387904) : Ev (fun k => laws_markByteS.f k x k0) (k0 + x.length, marks k0 x.length) := by
 simp only [laws_markByteS.f]
 have := laws_markByteS_l0 x.length hn x.length 0 x k0 (by omega) rfl h0 h1
 simpa using this
theorem laws_markByteSS_l0 (m : List (List Int)) (hm : Small m) : ∀ (d i : Nat) (k0 : Int), i + d = m.length → 0 ≤ k0 → k0 + d * 1048576 ≤ 2305843009213693952 → ∃ r, Ev (fun k => laws_markByteSS.l0 k m k0 (i : Int)) r ∧ k0 ≤ r ∧ r ≤ k0 + d * 1048576 := by
 intro d
 induction d with
 | zero =>
  intro i k0 hi h0 h1
  exact ⟨k0, ev_end (fun k => by simp only [laws_markByteSS.l0]; rw [if_neg (by omega)]), by omega, by omega⟩
 | succ d ih =>
  intro i k0 hi h0 h1
  have h : i < m.length := by omega
  have hl := hm.2 m[i] (List.getElem_mem h)
  have hlen := hm.1
  have hr : rd_L1 m (i : Int) = m[i] := by
   unfold rd_L1
   exact getD_lt m _ h
  obtain ⟨r, e, h2, h3⟩ := ih (i + 1) (k0 + m[i].length) (by omega) (by omega) (by omega)
  refine ⟨r, ev_succ ?_, by omega, by omega⟩
  simp only [laws_markByteSS.l0, hr]
  refine ev_pos (by omega) (ev_pos (by omega) (ev_bind (laws_markByteS_ev m[i] k0 (by omega) h0 (by omega)) ?_))
  rw [wsucc (by omega)]
  exact e
theorem laws_markMemory_ev (m : List (List Int)) (hm : Small m) : ∃ r, Ev (fun k => laws_markMemory.f k m 1) r ∧ 1 ≤ r ∧ r ≤ 1099511627777 := by
 have hlen := hm.1
 obtain ⟨r, e, h1, h2⟩ := laws_markByteSS_l0 m hm m.length 0 1 (by omega) (by omega) (by omega)
 exact ⟨r, e, by omega, by omega⟩
def wmarks (k : Int) : Nat → List S61
 | 0 => []
 | n + 1 => ⟨k, k + 1, k + 2, k + 3⟩ :: wmarks (k + 4) n
theorem wmarks_length (n : Nat) : ∀ k : Int, (wmarks k n).length = n := by
 induction n with
 | zero => intro k; rfl
 | succ n ih => intro k; simp [wmarks, ih]
theorem rdW_set {x : List S61} {i : Nat} (h : i < x.length) (w : S61) : rd_T61 (x.set i w) (i : Int) = w := by
 rw [rdW (by rw [List.length_set]; exact h), List.getElem_set_self]
theorem laws_markWindowS_l0 (n : Nat) (hn : n ≤ 1099511627776) : ∀ (d i : Nat) (x : List S61) (k0 : Int), i + d = n → x.length = n → 0 ≤ k0 → k0 + 4 * d ≤ 4611686018427387904 → Ev (fun k => laws_markWindowS.l0 k x k0 (i : Int)) (k0 + 4 * d, x.take i ++ wmarks k0 d) := by
 intro d
 induction d with
 | zero =>
  intro i x k0 hi hx h0 h1
  refine ev_eq (ev_end (r := (k0, x)) (fun k => ?_)) ?_
  ·simp only [laws_markWindowS.l0]
   rw [if_neg (by omega)]
  ·rw [List.take_of_length_le (by omega)]
   simp [wmarks]
 | succ d ih =>
  intro i x k0 hi hx h0 h1
  have h : i < x.length := by omega
  refine ev_eq (Ev.step (fun k => ?_) (ih (i + 1) (x.set i ⟨k0, k0 + 1, k0 + 2, k0 + 3⟩) (k0 + 4) (by omega) (by simpa using hx) (by omega) (by omega))) ?_
  ·simp only [laws_markWindowS.l0, Int.toNat_natCast, Option.bind_some]
   rw [if_pos (by omega), if_pos (by omega), wid (n := k0 + 1) (by omega) (by omega), show k0 + 1 + 1 = k0 + 2 by omega, wid (n := k0 + 2) (by omega) (by omega), show k0 + 2 + 1 = k0 + 3 by omega, wid (n := k0 + 3) (by omega) (by omega), show k0 + 3 + 1 = k0 + 4 by omega, wid (n := k0 + 4) (by omega) (by omega), wsucc (by omega)]
   simp only [rdW_set h, List.set_set]
  ·refine Prod.ext ?_ ?_
   ·simp; omega
   ·show (x.set i ⟨k0, k0 + 1, k0 + 2, k0 + 3⟩).take (i + 1) ++ wmarks (k0 + 4) d = x.take i ++ wmarks k0 (d + 1)
    rw [List.take_succ_eq_append_getElem (by simp; omega)]
    simp [wmarks, List.take_set]
    exact List.set_eq_of_length_le (by rw [List.length_take]; omega)
theorem laws_markWindowS_ev (x : List S61) (k0 : Int) (hn : x.length ≤ 1099511627776) (h0 : 0 ≤ k0) (h1 : k0 + 4 * x.length ≤ 4611686018427387904) : Ev (fun k => laws_markWindowS.f k x k0) (k0 + 4 * x.length, wmarks k0 x.length) := by
 simp only [laws_markWindowS.f]
 have := laws_markWindowS_l0 x.length hn x.length 0 x k0 (by omega) rfl h0 h1
 simpa using this
theorem laws_markRope_ev (x : List S61) (k0 : Int) (hn : x.length ≤ 1099511627776) (h0 : 0 ≤ k0) (h1 : k0 + 4 * x.length ≤ 4611686018427387904) : Ev (fun k => laws_markRope.f k x k0) (k0 + 4 * x.length, wmarks k0 x.length) := by
 simp only [laws_markRope.f, laws_markWindowS.f]
 have := laws_markWindowS_l0 x.length hn x.length 0 x k0 (by omega) rfl h0 h1
 exact ev_bind (by simpa using this) (Ev.now _)
theorem wmarks_get (n : Nat) : ∀ (k : Int) (i : Nat) (h : i < (wmarks k n).length), (wmarks k n)[i] = ⟨k + 4 * i, k + 4 * i + 1, k + 4 * i + 2, k + 4 * i + 3⟩ := by
 induction n with
 | zero => intro k i h; simp [wmarks] at h
 | succ n ih =>
  intro k i h
  cases i with
  | zero => simp [wmarks]
  | succ i =>
   have := ih (k + 4) i (by simp [wmarks_length] at h ⊢; omega)
   simp only [wmarks, List.getElem_cons_succ, this]
   congr 1 <;> omega
theorem laws_heldWindowS_l0 (k1 : Int) (n : Nat) (hn : n ≤ 1099511627776) (h0 : 0 ≤ k1) (h1 : k1 + 4 * n ≤ 4611686018427387904) : ∀ (d i : Nat), i + d = n → Ev (fun k => laws_heldWindowS.l0 k (wmarks k1 n) (k1 + 4 * i) (i : Int)) (k1 + 4 * n) := by
 intro d
 induction d with
 | zero =>
  intro i hi
  refine ev_eq (ev_end (r := k1 + 4 * i) (fun k => ?_)) (by omega)
  simp only [laws_heldWindowS.l0]
  rw [wmarks_length, if_neg (by omega)]
 | succ d ih =>
  intro i hi
  refine Ev.step (fun k => ?_) (ih (i + 1) (by omega))
  have h : i < (wmarks k1 n).length := by rw [wmarks_length]; omega
  simp only [laws_heldWindowS.l0]
  rw [wmarks_length, if_pos (by omega), if_pos (by omega), rdW h, wmarks_get]
  simp only []
  rw [wid (n := k1 + 4 * i + 1) (by omega) (by omega), show k1 + 4 * (i : Int) + 1 + 1 = k1 + 4 * i + 2 by omega, wid (n := k1 + 4 * i + 2) (by omega) (by omega), show k1 + 4 * (i : Int) + 2 + 1 = k1 + 4 * i + 3 by omega, wid (n := k1 + 4 * i + 3) (by omega) (by omega), show k1 + 4 * (i : Int) + 3 + 1 = k1 + 4 * ((i + 1 : Nat) : Int) by omega, wid (n := k1 + 4 * ((i + 1 : Nat) : Int)) (by omega) (by omega), wsucc (by omega)]
  simp only [if_true]
theorem laws_heldWindowS_ev (k1 : Int) (n : Nat) (hn : n ≤ 1099511627776) (h0 : 0 ≤ k1) (h1 : k1 + 4 * n ≤ 4611686018427387904) : Ev (fun k => laws_heldWindowS.f k (wmarks k1 n) k1) (k1 + 4 * n) := by
 simp only [laws_heldWindowS.f]
 have := laws_heldWindowS_l0 k1 n hn h0 h1 n 0 (by omega)
 simpa using this
theorem laws_heldRope_ev (k1 : Int) (n : Nat) (hn : n ≤ 1099511627776) (h0 : 0 ≤ k1) (h1 : k1 + 4 * n ≤ 4611686018427387904) : Ev (fun k => laws_heldRope.f k (wmarks k1 n) k1) (k1 + 4 * n) := by
 simp only [laws_heldRope.f, laws_heldWindowS.f]
 have := laws_heldWindowS_l0 k1 n hn h0 h1 n 0 (by omega)
 exact ev_bind (by simpa using this) (ev_neg (by omega) (Ev.now _))
def lst (out : List S61) : S61 := out.getD (out.length - 1) z61
def mstep (out : List S61) (w : S61) : List S61 := if w.f2 = 0 then out else if 0 < out.length ∧ (lst out).f0 = w.f0 ∧ (lst out).f1 + (lst out).f2 = w.f1 then out.set (out.length - 1) ⟨w.f0, (lst out).f1, (lst out).f2 + w.f2, (lst out).f2 + w.f2⟩ else out ++ [w]
def mgo : List S61 → List S61 → List S61
 | [], out => out
 | w :: ws, out => mgo ws (mstep out w)
def MB (i : Nat) (out : List S61) : Prop := out.length ≤ i ∧ ∀ x ∈ out, 0 ≤ x.f1 ∧ x.f1 ≤ 64 ∧ 0 ≤ x.f2 ∧ x.f2 ≤ 64 * (i : Int)
theorem lst_mem {out : List S61} (h : 0 < out.length) : lst out ∈ out := by
 unfold lst
 rw [getD_lt _ _ (by omega)]
 exact List.getElem_mem _
theorem MB.up {i : Nat} {out : List S61} (h : MB i out) : MB (i + 1) out := ⟨by have := h.1; omega, fun x hx => by have := h.2 x hx; omega⟩
theorem mstep_ok {i : Nat} {out : List S61} {w : S61} (h : MB i out) (hw : 0 ≤ w.f1 ∧ w.f1 ≤ 64 ∧ 0 ≤ w.f2 ∧ w.f2 ≤ 64) : MB (i + 1) (mstep out w) := by
 unfold mstep
 by_cases h0 : w.f2 = 0
 ·rw [if_pos h0]; exact h.up
 rw [if_neg h0]
 by_cases h1 : 0 < out.length ∧ (lst out).f0 = w.f0 ∧ (lst out).f1 + (lst out).f2 = w.f1
 ·rw [if_pos h1]
  have hL := h.2 _ (lst_mem h1.1)
  refine ⟨by rw [List.length_set]; have := h.1; omega, fun x hx => ?_⟩
  rcases List.mem_or_eq_of_mem_set hx with hx | rfl
  ·have := h.2 x hx; omega
  ·simp only []; omega
 ·rw [if_neg h1]
  refine ⟨by rw [List.length_append]; have := h.1; simp; omega, fun x hx => ?_⟩
  rcases List.mem_append.1 hx with hx | hx
  ·have := h.2 x hx; omega
  ·rw [List.mem_singleton.1 hx]; omega
theorem mgo_length : ∀ (ws out : List S61), (mgo ws out).length ≤ out.length + ws.length
 | [], out => by simp [mgo]
 | w :: ws, out => by
  have h1 := mgo_length ws (mstep out w)
  have h2 : (mstep out w).length ≤ out.length + 1 := by
   unfold mstep
   by_cases h0 : w.f2 = 0
   ·rw [if_pos h0]; omega
   rw [if_neg h0]
   by_cases h1 : 0 < out.length ∧ (lst out).f0 = w.f0 ∧ (lst out).f1 + (lst out).f2 = w.f1
   ·rw [if_pos h1, List.length_set]; omega
   ·rw [if_neg h1]; simp
  simp only [mgo, List.length_cons]
  omega
def mergeT (m : List (List Int)) (ws : List S61) : List S61 × Bool := if RopeOK m ws then (mgo ws [], true) else ([], false)
theorem mergeT_length (m : List (List Int)) (ws : List S61) : (mergeT m ws).1.length ≤ 1048576 := by
 unfold mergeT
 by_cases h : RopeOK m ws
 ·rw [if_pos h]
  have := mgo_length ws []
  have := h.2.2
  simp at *
  omega
 ·rw [if_neg h]; exact Nat.zero_le _
theorem rope_in {m : List (List Int)} {ws : List S61} (h : RopeOK m ws) : ∀ x ∈ ws, 0 ≤ x.f1 ∧ x.f1 ≤ 64 ∧ 0 ≤ x.f2 ∧ x.f2 ≤ 64 := fun x hx => by
 have := (h.2.1.mem x hx).bounds
 omega
theorem spec_MergeParts_l0_ev (ws : List S61) (h12 : ws.length ≤ 12) (hw : ∀ x ∈ ws, 0 ≤ x.f1 ∧ x.f1 ≤ 64 ∧ 0 ≤ x.f2 ∧ x.f2 ≤ 64) : ∀ (d i : Nat) (out : List S61), i + d = ws.length → MB i out → Ev (fun k => spec_MergeParts.l0 k (i : Int) ws out) (mgo (ws.drop i) out, true) := by
 intro d
 induction d with
 | zero =>
  intro i out hi hm
  rw [List.drop_eq_nil_of_le (by omega)]
  refine ev_end (fun k => ?_)
  simp only [spec_MergeParts.l0]
  rw [if_neg (by omega)]
  rfl
 | succ d ih =>
  intro i out hi hm
  have h : i < ws.length := by omega
  have hb := hw _ (List.getElem_mem h)
  have hn := ih (i + 1) (mstep out ws[i]) (by omega) (mstep_ok hm hb)
  have hlen := hm.1
  rw [List.drop_eq_getElem_cons h]
  show Ev _ (mgo (ws.drop (i + 1)) (mstep out ws[i]), true)
  refine ev_succ ?_
  simp only [spec_MergeParts.l0, rdW h, impl_Window_part.f, Option.bind_some]
  refine ev_pos (by omega) (ev_pos (by omega) ?_)
  rw [wsucc (by omega)]
  by_cases h0 : ws[i].f2 = 0
  ·rw [show mstep out ws[i] = out from by unfold mstep; rw [if_pos h0]] at hn ⊢
   exact ev_pos h0 hn
  have s1 : ¬ (0 < out.length ∧ (lst out).f0 = ws[i].f0 ∧ (lst out).f1 + (lst out).f2 = ws[i].f1) → mstep out ws[i] = out ++ [ws[i]] := fun q => by unfold mstep; rw [if_neg h0, if_neg q]
  refine ev_neg h0 ?_
  by_cases hl : 0 < out.length
  case neg =>
   rw [s1 (fun x => hl x.1)] at hn ⊢
   exact ev_neg (by omega) (ev_pos (by omega) hn)
  have e : wrap64 ((out.length : Int) - 1) = ((out.length - 1 : Nat) : Int) := by rw [wid (by omega) (by omega)]; omega
  have er : rd_T61 out ((out.length - 1 : Nat) : Int) = lst out := by
   unfold rd_T61 lst
   rw [Int.toNat_natCast]
  have hL := hm.2 _ (lst_mem hl)
  simp only [e, er, Int.toNat_natCast]
  refine ev_pos (by omega) (ev_pos (by omega) (ev_pos (by omega) ?_))
  rw [wid (n := (lst out).f1 + (lst out).f2) (by omega) (by omega), wid (n := (lst out).f2 + ws[i].f2) (by omega) (by omega)]
  by_cases ha : (lst out).f0 = ws[i].f0
  ·by_cases hc : (lst out).f1 + (lst out).f2 = ws[i].f1
   ·rw [show mstep out ws[i] = out.set (out.length - 1) ⟨ws[i].f0, (lst out).f1, (lst out).f2 + ws[i].f2, (lst out).f2 + ws[i].f2⟩ from by unfold mstep; rw [if_neg h0, if_pos ⟨hl, ha, hc⟩]] at hn ⊢
    exact ev_pos ha (ev_pos hc hn)
   ·rw [s1 (fun x => hc x.2.2)] at hn ⊢
    exact ev_pos ha (ev_neg hc (ev_pos (by omega) hn))
  ·rw [s1 (fun x => ha x.2.1)] at hn ⊢
   exact ev_neg ha (ev_pos (by omega) hn)
theorem impl_MergeParts_l0_ev (ws : List S61) (h12 : ws.length ≤ 12) (hw : ∀ x ∈ ws, 0 ≤ x.f1 ∧ x.f1 ≤ 64 ∧ 0 ≤ x.f2 ∧ x.f2 ≤ 64) : ∀ (d i : Nat) (out : List S61), i + d = ws.length → MB i out → Ev (fun k => impl_MergeParts.l0 k out ws (ws.length : Int) (i : Int)) (mgo (ws.drop i) out, true) := by
 intro d
 induction d with
 | zero =>
  intro i out hi hm
  rw [List.drop_eq_nil_of_le (by omega)]
  refine ev_end (fun k => ?_)
  simp only [impl_MergeParts.l0]
  rw [if_neg (by omega)]
  rfl
 | succ d ih =>
  intro i out hi hm
  have h : i < ws.length := by omega
  have hb := hw _ (List.getElem_mem h)
  have hn := ih (i + 1) (mstep out ws[i]) (by omega) (mstep_ok hm hb)
  have hlen := hm.1
  rw [List.drop_eq_getElem_cons h]
  show Ev _ (mgo (ws.drop (i + 1)) (mstep out ws[i]), true)
  refine ev_succ ?_
  simp only [impl_MergeParts.l0, rdW h, impl_Window_part.f, Option.bind_some]
  refine ev_pos (by omega) (ev_pos (by omega) (ev_pos (by omega) ?_))
  rw [wsucc (by omega)]
  by_cases h0 : ws[i].f2 = 0
  ·rw [show mstep out ws[i] = out from by unfold mstep; rw [if_pos h0]] at hn ⊢
   exact ev_pos h0 hn
  have s1 : ¬ (0 < out.length ∧ (lst out).f0 = ws[i].f0 ∧ (lst out).f1 + (lst out).f2 = ws[i].f1) → mstep out ws[i] = out ++ [ws[i]] := fun q => by unfold mstep; rw [if_neg h0, if_neg q]
  refine ev_neg h0 ?_
  by_cases hl : 0 < out.length
  case neg =>
   rw [s1 (fun x => hl x.1)] at hn ⊢
   exact ev_neg (by omega) (ev_pos (by omega) hn)
  have e : wrap64 ((out.length : Int) - 1) = ((out.length - 1 : Nat) : Int) := by rw [wid (by omega) (by omega)]; omega
  have er : rd_T61 out ((out.length - 1 : Nat) : Int) = lst out := by
   unfold rd_T61 lst
   rw [Int.toNat_natCast]
  have hL := hm.2 _ (lst_mem hl)
  simp only [e, er, Int.toNat_natCast]
  refine ev_pos (by omega) (ev_pos (by omega) (ev_pos (by omega) ?_))
  rw [wid (n := (lst out).f1 + (lst out).f2) (by omega) (by omega), wid (n := (lst out).f2 + ws[i].f2) (by omega) (by omega)]
  by_cases ha : (lst out).f0 = ws[i].f0
  ·by_cases hc : (lst out).f1 + (lst out).f2 = ws[i].f1
   ·rw [show mstep out ws[i] = out.set (out.length - 1) ⟨ws[i].f0, (lst out).f1, (lst out).f2 + ws[i].f2, (lst out).f2 + ws[i].f2⟩ from by unfold mstep; rw [if_neg h0, if_pos ⟨hl, ha, hc⟩]] at hn ⊢
    exact ev_pos ha (ev_pos hc (by rw [Int.add_zero, wid (n := (lst out).f1) (by omega) (by omega), ha]; exact hn))
   ·rw [s1 (fun x => hc x.2.2)] at hn ⊢
    exact ev_pos ha (ev_neg hc (ev_pos (by omega) hn))
  ·rw [s1 (fun x => ha x.2.1)] at hn ⊢
   exact ev_neg ha (ev_pos (by omega) hn)
theorem spec_MergeParts_ev (m : List (List Int)) (hm : m.length ≤ 1048576) (ws : List S61) (hl : ws.length ≤ 1048576) : Ev (fun k => spec_MergeParts.f k m ws) (mergeT m ws) := by
 simp only [spec_MergeParts.f]
 refine ev_bind (spec_l7Rope_ev m hm ws hl) ?_
 by_cases h : RopeOK m ws
 ·refine ev_pos (decide_eq_true h) (ev_eq (spec_MergeParts_l0_ev ws h.2.2 (rope_in h) ws.length 0 [] (by omega) ⟨Nat.le_refl _, fun x hx => by simp at hx⟩) (by rw [mergeT, if_pos h]; rfl))
 ·exact ev_neg (by rw [decide_eq_false h]; decide) (ev_eq (Ev.now _) (by rw [mergeT, if_neg h]))
theorem impl_MergeParts_ev (m : List (List Int)) (hm : m.length ≤ 1048576) (ws : List S61) : Ev (fun k => impl_MergeParts.f k m ws) (mergeT m ws) := by
 simp only [impl_MergeParts.f]
 refine ev_bind (impl_isRope_ev m hm ws) ?_
 by_cases h : RopeOK m ws
 ·refine ev_pos (decide_eq_true h) (ev_eq (impl_MergeParts_l0_ev ws h.2.2 (rope_in h) ws.length 0 [] (by omega) ⟨Nat.le_refl _, fun x hx => by simp at hx⟩) (by rw [mergeT, if_pos h]; rfl))
 ·exact ev_neg (by rw [decide_eq_false h]; decide) (ev_eq (Ev.now _) (by rw [mergeT, if_neg h]))
theorem FnExactMergeParts : laws_FnExactMergeParts.Pure := by
 intro m vs hm hv
 refine Ev.rounds ?_
 obtain ⟨r, e, hr, hs⟩ := laws_szMemory_ev m hm 1048576 (by omega) (by omega)
 simp only [laws_FnExactMergeParts.f]
 refine ev_bind e ?_
 by_cases h : r < 0
 ·exact ev_pos h (Ev.now _)
 refine ev_neg h (ev_bind (ev_now (fun _ => laws_szRope_eq vs hv.1 r (by omega) (by omega))) ?_)
 by_cases h2 : (vs.length : Int) ≤ r
 case neg =>
  rw [if_neg h2]
  exact ev_pos (by omega) (Ev.now _)
 rw [if_pos h2]
 have hsm := hs (by omega)
 have t := laws_toMemory_ev m hsm
 have hl : (vs.map conv).length ≤ 1048576 := by rw [List.length_map]; omega
 have tr := laws_toRope_ev vs (by omega)
 have er := laws_eqRope_self _ hl
 have sp := spec_MergeParts_ev m hsm.1 _ hl
 have im := impl_MergeParts_ev m hsm.1 (vs.map conv)
 have fl := mergeT_length m (vs.map conv)
 generalize vs.map conv = ws at *
 generalize mergeT m ws = q at sp im fl
 obtain ⟨g, o⟩ := q
 replace fl : g.length ≤ 1048576 := fl
 obtain ⟨mr, em, hmr, hmr2⟩ := laws_markMemory_ev m hsm
 have mw := laws_markRope_ev ws mr (by omega) (by omega) (by omega)
 have eg := laws_eqRope_self g fl
 have mg := laws_markRope_ev g 1 (by omega) (by omega) (by omega)
 have he := laws_heldRope_ev 1 g.length (by omega) (by omega) (by omega)
 refine ev_neg (by omega) ?_
 refine ev_bind t ?_
 refine ev_bind tr ?_
 refine ev_bind sp ?_
 refine ev_bind im ?_
 refine ev_bind eg ?_
 refine ev_bind (laws_eqMemory_ev m hsm) ?_
 refine ev_bind er ?_
 refine ev_bind em ?_
 refine ev_bind mw ?_
 refine ev_bind mg ?_
 refine ev_bind he ?_
 exact ev_pos ⟨rfl, rfl, rfl, rfl, by simp only []; omega, by omega, rfl⟩ (Ev.now _)
end Go.Proofs.Ytldkbeccpheckab.Pure
