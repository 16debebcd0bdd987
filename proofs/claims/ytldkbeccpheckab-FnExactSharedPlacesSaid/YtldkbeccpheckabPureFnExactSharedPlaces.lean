/- What is proved here: the plain statement of the law FnExactSharedPlaces, over numbers and lists. No condition beyond those that it states. -/
import Derived.Test.YtldkbeccpheckabQFnExactSharedPlaces
import Derived.Test.YtldkbeccpheckabTk
namespace Go.Proofs.Ytldkbeccpheckab.Pure
open Go.RowKit Go.Proofs.Ytldkbeccpheckab.PFnExactSharedPlaces Go.Proofs.YtldkbeccpheckabW.PrintWords Go.Proofs.YtldkbeccpheckabW.PrintMore Go.Proofs.Ytldkbeccpheckab.Tk Go.Proofs.Ytldkbeccpheckab.Opn
set_option linter.unusedVariables false
set_option linter.unusedSimpArgs false
def Sizes (m : List (List Int)) : Prop := ∀ a ∈ m, 1 ≤ a.length ∧ a.length ≤ 64
instance (m : List (List Int)) : Decidable (Sizes m) := by unfold Sizes; exact inferInstance
theorem Sizes.nil : Sizes [] := fun a ha => by simp at ha
theorem Sizes.cons {a : List Int} {m : List (List Int)} (h : (1 : Int) ≤ (a.length : Int) ∧ (a.length : Int) ≤ 64) (k : Sizes m) : Sizes (a :: m) := fun b hb => by
 rcases List.mem_cons.1 hb with rfl | hb
 ·omega
 ·exact k b hb
theorem Sizes.head {a : List Int} {m : List (List Int)} (k : Sizes (a :: m)) : (1 : Int) ≤ (a.length : Int) ∧ (a.length : Int) ≤ 64 := by
 have := k a List.mem_cons_self
 omega
theorem Sizes.tail {a : List Int} {m : List (List Int)} (k : Sizes (a :: m)) : Sizes m := fun b hb => k b (List.mem_cons_of_mem _ hb)
def MemOK (m : List (List Int)) : Prop := m.length ≤ 16 ∧ Sizes m
instance (m : List (List Int)) : Decidable (MemOK m) := by unfold MemOK; exact inferInstance
def arr_ (m : List (List Int)) (a : Int) : List Int := m.getD a.toNat []
def WinOK (m : List (List Int)) (a s l c : Int) : Prop := MemOK m ∧ 0 ≤ a ∧ a < (m.length : Int) ∧ 0 ≤ s ∧ 0 ≤ l ∧ l ≤ c ∧ s + c ≤ ((arr_ m a).length : Int)
instance (m : List (List Int)) (a s l c : Int) : Decidable (WinOK m a s l c) := by unfold WinOK; exact inferInstance
def Small (m : List (List Int)) : Prop := m.length ≤ 1048576 ∧ ∀ a ∈ m, a.length ≤ 1048576
theorem arr_mem {m : List (List Int)} {a : Int} (h0 : 0 ≤ a) (h1 : a < (m.length : Int)) : arr_ m a ∈ m := by
 unfold arr_
 rw [getD_lt m [] (by omega : a.toNat < m.length)]
 exact List.getElem_mem _
theorem arr_size {m : List (List Int)} (hm : MemOK m) {a : Int} (h0 : 0 ≤ a) (h1 : a < (m.length : Int)) : 1 ≤ (arr_ m a).length ∧ (arr_ m a).length ≤ 64 := hm.2 _ (arr_mem h0 h1)
theorem MemOK.small {m : List (List Int)} (hm : MemOK m) : Small m := ⟨by have := hm.1; omega, fun a ha => by have := hm.2 a ha; omega⟩
theorem WinOK.bounds {m : List (List Int)} {a s l c : Int} (h : WinOK m a s l c) : MemOK m ∧ 0 ≤ a ∧ a < 16 ∧ a < (m.length : Int) ∧ 0 ≤ s ∧ s ≤ 64 ∧ 0 ≤ l ∧ l ≤ c ∧ c ≤ 64 ∧ s + c ≤ ((arr_ m a).length : Int) ∧ ((arr_ m a).length : Int) ≤ 64 := by
 obtain ⟨hm, h0, h1, h2, h3, h4, h5⟩ := h
 have := arr_size hm h0 h1
 have := hm.1
 refine ⟨hm, h0, by omega, h1, h2, by omega, h3, h4, by omega, h5, by omega⟩
theorem dec_false {p : Prop} [Decidable p] (h : ¬ p) : some false = some (decide p) := by rw [decide_eq_false h]
def WinAt (m : List (List Int)) (w : S61) : Prop := WinOK m w.f0 w.f1 w.f2 w.f3
instance (m : List (List Int)) (w : S61) : Decidable (WinAt m w) := by unfold WinAt; exact inferInstance
def AllOn (m : List (List Int)) : List S61 → Prop
 | [] => True
 | w :: ws => WinAt m w ∧ AllOn m ws
instance allOnDec (m : List (List Int)) : (ws : List S61) → Decidable (AllOn m ws)
 | [] => isTrue trivial
 | w :: ws => by
  haveI := allOnDec m ws
  unfold AllOn
  exact inferInstance
theorem AllOn.mem {m : List (List Int)} : ∀ {ws : List S61}, AllOn m ws → ∀ w ∈ ws, WinAt m w
 | [], _, w, hw => by simp at hw
 | x :: ws, h, w, hw => by
  rcases List.mem_cons.1 hw with rfl | hw
  ·exact h.1
  ·exact AllOn.mem h.2 w hw
theorem AllOn.of {m : List (List Int)} : ∀ {ws : List S61}, (∀ w ∈ ws, WinAt m w) → AllOn m ws
 | [], _ => trivial
 | x :: ws, h => ⟨h x List.mem_cons_self, AllOn.of (fun w hw => h w (List.mem_cons_of_mem _ hw))⟩
theorem AllOn.drop {m : List (List Int)} {ws : List S61} (h : AllOn m ws) (i : Nat) : AllOn m (ws.drop i) := AllOn.of (fun w hw => h.mem w (List.mem_of_mem_drop hw))
theorem rdW {ws : List S61} {i : Nat} (h : i < ws.length) : rd_T61 ws (i : Int) = ws[i] := by
 unfold rd_T61
 exact getD_lt ws _ h
def RopeOK (m : List (List Int)) (ws : List S61) : Prop := MemOK m ∧ AllOn m ws ∧ ws.length ≤ 12
instance (m : List (List Int)) (ws : List S61) : Decidable (RopeOK m ws) := by unfold RopeOK; exact inferInstance
def ropeLen : List S61 → Int
 | [] => 0
 | w :: ws => w.f2 + ropeLen ws
def Lens (ws : List S61) : Prop := ∀ w ∈ ws, 0 ≤ w.f2 ∧ w.f2 ≤ 64
theorem RopeOK.lens {m : List (List Int)} {ws : List S61} (h : RopeOK m ws) : Lens ws := fun w hw => by
 have := (h.2.1.mem w hw).bounds
 omega
theorem ropeLen_bounds : ∀ {ws : List S61}, Lens ws → 0 ≤ ropeLen ws ∧ ropeLen ws ≤ 64 * ws.length
 | [], _ => by simp [ropeLen]
 | w :: ws, h => by
  have := h w List.mem_cons_self
  have := ropeLen_bounds (ws := ws) (fun x hx => h x (List.mem_cons_of_mem _ hx))
  simp only [ropeLen, List.length_cons]
  omega
theorem RopeOK.len {m : List (List Int)} {ws : List S61} (h : RopeOK m ws) : 0 ≤ ropeLen ws ∧ ropeLen ws ≤ 768 := by
 have := ropeLen_bounds h.lens
 have := h.2.2
 omega
theorem spec_l1In_eq (a b c : Int) : spec_l1In.f a b c = some (decide (b ≤ a ∧ a ≤ c)) := by
 unfold spec_l1In.f
 by_cases h : a ≥ b
 ·rw [if_pos h]
  congr 1
  exact decide_eq_decide.mpr ⟨fun x => ⟨h, x⟩, fun x => x.2⟩
 ·rw [if_neg h]
  exact dec_false (fun x => h x.1)
theorem spec_l2Memory_l0 (m : List (List Int)) (hm : m.length ≤ 1048576) : ∀ (d i : Nat), i + d = m.length → Ev (fun k => spec_l2Memory.l0 k (i : Int) m) (decide (m.length ≤ 16 ∧ Sizes (m.drop i))) := by
 intro d
 induction d with
 | zero =>
  intro i hi
  have e : m.drop i = [] := List.drop_eq_nil_of_le (by omega)
  refine ev_succ (ev_eq (r := decide ((m.length : Int) ≤ 16)) ?_ ?_)
  ·simp only [spec_l2Memory.l0]
   refine ev_neg (by omega) (ev_succ ?_)
   simp only [spec_l2Memory.j1]
   exact ev_neg (by decide) (Ev.now _)
  ·rw [e]
   exact decide_eq_decide.mpr ⟨fun h => ⟨by omega, Sizes.nil⟩, fun h => by have := h.1; omega⟩
 | succ d ih =>
  intro i hi
  have h : i < m.length := by omega
  refine ev_succ ?_
  simp only [spec_l2Memory.l0]
  refine ev_pos (by omega) (ev_succ ?_)
  by_cases h16 : (i : Int) ≤ 16
  ·simp only [spec_l2Memory.j1, decide_eq_true h16]
   refine ev_pos (by first | trivial | rfl) (ev_pos (by omega) (ev_pos (by omega) ?_))
   have hr : rd_L1 m (i : Int) = m[i] := by
    unfold rd_L1
    exact getD_lt m [] h
   simp only [spec_l1In_eq, hr, Option.bind_some, decide_eq_true_eq]
   by_cases hs : (1 : Int) ≤ (m[i].length : Int) ∧ (m[i].length : Int) ≤ 64
   ·refine ev_pos hs (ev_eq (r := decide (m.length ≤ 16 ∧ Sizes (m.drop (i + 1)))) ?_ ?_)
    ·have := ih (i + 1) (by omega)
     rw [← wsucc (i := i) (by omega)] at this
     exact this
    ·rw [List.drop_eq_getElem_cons h]
     exact decide_eq_decide.mpr ⟨fun x => ⟨x.1, x.2.cons hs⟩, fun x => ⟨x.1, x.2.tail⟩⟩
   ·refine ev_neg hs (ev_eq (Ev.now false) ?_)
    rw [List.drop_eq_getElem_cons h]
    exact (decide_eq_false (fun x => hs x.2.head)).symm
  ·simp only [spec_l2Memory.j1, decide_eq_false h16]
   refine ev_neg (by decide) (ev_eq (Ev.now (decide ((m.length : Int) ≤ 16))) ?_)
   exact decide_eq_decide.mpr ⟨fun x => by omega, fun x => by have := x.1; omega⟩
theorem spec_l2Memory_ev (m : List (List Int)) (hm : m.length ≤ 1048576) : Ev (fun k => spec_l2Memory.f k m) (decide (MemOK m)) := by
 simp only [spec_l2Memory.f]
 have := spec_l2Memory_l0 m hm m.length 0 (by omega)
 rw [List.drop_zero] at this
 exact this
theorem spec_l2Window_ev (m : List (List Int)) (hm : m.length ≤ 1048576) (a s l c : Int) : Ev (fun k => spec_l2Window.f k m a s l c) (decide (WinOK m a s l c)) := by
 simp only [spec_l2Window.f, spec_l1In_eq, Option.bind_some]
 refine ev_bind (spec_l2Memory_ev m hm) ?_
 by_cases h : MemOK m
 ·refine ev_pos (decide_eq_true h) (ev_succ ?_)
  have hl := h.1
  simp only [spec_l2Window.j0]
  rw [wid (n := (m.length : Int) - 1) (by omega) (by omega)]
  by_cases h1 : 0 ≤ a ∧ a ≤ (m.length : Int) - 1
  ·have hz := arr_size h h1.1 (by omega)
   have hr : rd_L1 m a = arr_ m a := rfl
   simp only [decide_eq_true h1, spec_l1In_eq, Option.bind_some, hr, decide_eq_true_eq]
   refine ev_neg (by decide) (ev_pos h1.1 (ev_pos (by omega) ?_))
   by_cases h2 : 0 ≤ s ∧ s ≤ ((arr_ m a).length : Int)
   ·refine ev_pos h2 ?_
    rw [wid (n := ((arr_ m a).length : Int) - s) (by omega) (by omega)]
    by_cases h3 : 0 ≤ c ∧ c ≤ ((arr_ m a).length : Int) - s
    ·refine ev_pos h3 (ev_eq (Ev.now _) (decide_eq_decide.mpr ⟨fun x => ⟨h, by omega⟩, fun x => ⟨x.2.2.2.2.1, x.2.2.2.2.2.1⟩⟩))
    ·refine ev_neg h3 (ev_eq (Ev.now _) (decide_eq_false (fun x => h3 ?_)).symm)
     obtain ⟨_, x⟩ := x
     omega
   ·refine ev_neg h2 (ev_eq (Ev.now _) (decide_eq_false (fun x => h2 ?_)).symm)
    obtain ⟨_, x⟩ := x
    omega
  ·simp only [decide_eq_false h1]
   refine ev_pos (by first | trivial | rfl) (ev_eq (Ev.now _) (decide_eq_false (fun x => h1 ?_)).symm)
   obtain ⟨_, x⟩ := x
   omega
 ·refine ev_neg (by rw [decide_eq_false h]; decide) (ev_succ ?_)
  simp only [spec_l2Window.j0]
  exact ev_pos (by first | trivial | rfl) (ev_eq (Ev.now _) (decide_eq_false (fun x => h x.1)).symm)
theorem spec_l7Rope_l0 (m : List (List Int)) (hm : m.length ≤ 1048576) (ws : List S61) (hl : ws.length ≤ 1048576) : ∀ (d i : Nat), i + d = ws.length → Ev (fun k => spec_l7Rope.l0 k (i : Int) m ws) (decide (MemOK m ∧ AllOn m (ws.drop i) ∧ ws.length ≤ 12)) := by
 have hend : Ev (fun k => (spec_l2Memory.f k m).bind fun t => if t = true then some (decide ((ws.length : Int) ≤ 12)) else some false) (decide (MemOK m ∧ ws.length ≤ 12)) := by
  refine ev_bind (spec_l2Memory_ev m hm) ?_
  by_cases h : MemOK m
  ·exact ev_pos (decide_eq_true h) (ev_eq (Ev.now _) (decide_eq_decide.mpr ⟨fun x => ⟨h, by omega⟩, fun x => by have := x.2; omega⟩))
  ·exact ev_neg (by rw [decide_eq_false h]; decide) (ev_eq (Ev.now _) (decide_eq_false (fun x => h x.1)).symm)
 intro d
 induction d with
 | zero =>
  intro i hi
  rw [List.drop_eq_nil_of_le (by omega)]
  refine ev_succ ?_
  simp only [spec_l7Rope.l0]
  refine ev_neg (by omega) (ev_succ ?_)
  simp only [spec_l7Rope.j1]
  exact ev_neg (by decide) (ev_eq hend (decide_eq_decide.mpr ⟨fun x => ⟨x.1, trivial, x.2⟩, fun x => ⟨x.1, x.2.2⟩⟩))
 | succ d ih =>
  intro i hi
  have h : i < ws.length := by omega
  refine ev_succ ?_
  simp only [spec_l7Rope.l0]
  refine ev_pos (by omega) (ev_succ ?_)
  by_cases h12 : (i : Int) ≤ 12
  ·simp only [spec_l7Rope.j1, decide_eq_true h12, rdW h]
   refine ev_pos (by first | trivial | rfl) (ev_pos (by omega) (ev_pos (by omega) (ev_bind (spec_l2Window_ev m hm _ _ _ _) ?_)))
   rw [List.drop_eq_getElem_cons h]
   by_cases hw : WinOK m ws[i].f0 ws[i].f1 ws[i].f2 ws[i].f3
   ·refine ev_pos (decide_eq_true hw) (ev_eq (r := decide (MemOK m ∧ AllOn m (ws.drop (i + 1)) ∧ ws.length ≤ 12)) ?_ (decide_eq_decide.mpr ⟨fun x => ⟨x.1, ⟨hw, x.2.1⟩, x.2.2⟩, fun x => ⟨x.1, x.2.1.2, x.2.2⟩⟩))
    rw [wsucc (i := i) (by omega)]
    exact ih (i + 1) (by omega)
   ·exact ev_neg (by rw [decide_eq_false hw]; decide) (ev_eq (Ev.now _) (decide_eq_false (fun x => hw x.2.1.1)).symm)
  ·simp only [spec_l7Rope.j1, decide_eq_false h12]
   refine ev_neg (by decide) (ev_eq hend (decide_eq_decide.mpr ⟨fun x => by have := x.2; omega, fun x => by have := x.2.2; omega⟩))
theorem spec_l7Rope_ev (m : List (List Int)) (hm : m.length ≤ 1048576) (ws : List S61) (hl : ws.length ≤ 1048576) : Ev (fun k => spec_l7Rope.f k m ws) (decide (RopeOK m ws)) := by
 simp only [spec_l7Rope.f]
 have := spec_l7Rope_l0 m hm ws hl ws.length 0 (by omega)
 rw [List.drop_zero] at this
 exact this
theorem impl_within_eq (a b c : Int) : impl_within.f a b c = some (decide (b ≤ a ∧ a ≤ c)) := by
 unfold impl_within.f
 by_cases h : a ≥ b
 ·rw [if_pos h]
  congr 1
  exact decide_eq_decide.mpr ⟨fun x => ⟨h, x⟩, fun x => x.2⟩
 ·rw [if_neg h]
  exact dec_false (fun x => h x.1)
theorem impl_Memory_hasWindow_eq (m : List (List Int)) (h : MemOK m) (a s l c : Int) : impl_Memory_hasWindow.f m a s l c = some (decide (WinOK m a s l c)) := by
 have hl := h.1
 simp only [impl_Memory_hasWindow.f, impl_Memory_hasArray.f, impl_within_eq, Option.bind_some, decide_eq_true_eq]
 rw [wid (n := (m.length : Int) - 1) (by omega) (by omega)]
 by_cases h1 : 0 ≤ a ∧ a ≤ (m.length : Int) - 1
 ·have hz := arr_size h h1.1 (by omega)
  have hr : rd_L1 m a = arr_ m a := rfl
  rw [if_pos h1, hr]
  by_cases h2 : 0 ≤ c ∧ c ≤ 64
  ·rw [if_pos h2]
   by_cases h3 : 0 ≤ l ∧ l ≤ c
   ·rw [if_pos h3, if_pos h1.1, if_pos (by omega), wid (n := ((arr_ m a).length : Int) - c) (by omega) (by omega)]
    congr 1
    exact decide_eq_decide.mpr ⟨fun x => ⟨h, by omega⟩, fun x => by obtain ⟨_, x⟩ := x; omega⟩
   ·rw [if_neg h3]
    exact dec_false (fun x => h3 (by obtain ⟨_, x⟩ := x; omega))
  ·rw [if_neg h2]
   exact dec_false (fun x => h2 (by obtain ⟨_, x⟩ := x; omega))
 ·rw [if_neg h1]
  exact dec_false (fun x => h1 (by obtain ⟨_, x⟩ := x; omega))
theorem impl_IsMemory_l0 (m : List (List Int)) (hm : m.length ≤ 1048576) : ∀ (d i : Nat), i + d = m.length → Ev (fun k => impl_IsMemory.l0 k m (m.length : Int) (i : Int) m) (decide (m.length ≤ 16 ∧ Sizes (m.drop i))) := by
 intro d
 induction d with
 | zero =>
  intro i hi
  have e : m.drop i = [] := List.drop_eq_nil_of_le (by omega)
  refine ev_succ (ev_eq (r := decide ((m.length : Int) ≤ 16)) ?_ ?_)
  ·simp only [impl_IsMemory.l0]
   exact ev_neg (by omega) (Ev.now _)
  ·rw [e]
   exact decide_eq_decide.mpr ⟨fun h => ⟨by omega, Sizes.nil⟩, fun h => by have := h.1; omega⟩
 | succ d ih =>
  intro i hi
  have h : i < m.length := by omega
  refine ev_succ ?_
  simp only [impl_IsMemory.l0]
  refine ev_pos (by omega) (ev_pos (by omega) (ev_pos (by omega) ?_))
  have hr : rd_L1 m (i : Int) = m[i] := by
   unfold rd_L1
   exact getD_lt m [] h
  simp only [impl_within_eq, hr, Option.bind_some, decide_eq_true_eq]
  by_cases hs : (1 : Int) ≤ (m[i].length : Int) ∧ (m[i].length : Int) ≤ 64
  ·refine ev_pos hs (ev_eq (r := decide (m.length ≤ 16 ∧ Sizes (m.drop (i + 1)))) ?_ ?_)
   ·have := ih (i + 1) (by omega)
    rw [← wsucc (i := i) (by omega)] at this
    exact this
   ·rw [List.drop_eq_getElem_cons h]
    exact decide_eq_decide.mpr ⟨fun x => ⟨x.1, x.2.cons hs⟩, fun x => ⟨x.1, x.2.tail⟩⟩
  ·refine ev_neg hs (ev_eq (Ev.now false) ?_)
   rw [List.drop_eq_getElem_cons h]
   exact (decide_eq_false (fun x => hs x.2.head)).symm
theorem impl_IsMemory_ev (m : List (List Int)) (hm : m.length ≤ 1048576) : Ev (fun k => impl_IsMemory.f k m) (decide (MemOK m)) := by
 simp only [impl_IsMemory.f]
 have := impl_IsMemory_l0 m hm m.length 0 (by omega)
 rw [List.drop_zero] at this
 exact this
theorem impl_areOn_any (m : List (List Int)) (h : MemOK m) : ∀ ws : List S61, Opn.anyO (fun x => (impl_Memory_hasWindow.f m x.f0 x.f1 x.f2 x.f3).bind fun b => some (!b)) ws = some (!decide (AllOn m ws))
 | [] => rfl
 | w :: ws => by
  unfold Opn.anyO
  rw [impl_Memory_hasWindow_eq m h, Option.bind_some, Option.bind_some, impl_areOn_any m h ws]
  by_cases hw : WinOK m w.f0 w.f1 w.f2 w.f3
  ·rw [decide_eq_true hw, if_neg (by decide)]
   congr 2
   exact decide_eq_decide.mpr ⟨fun x => ⟨hw, x⟩, fun x => x.2⟩
  ·rw [decide_eq_false hw, if_pos (by decide), decide_eq_false (fun x : AllOn m (w :: ws) => hw x.1)]
   rfl
theorem impl_areOn_ev (m : List (List Int)) (hm : m.length ≤ 1048576) (ws : List S61) : Ev (fun k => impl_areOn.f k m ws) (decide (MemOK m ∧ AllOn m ws)) := by
 simp only [impl_areOn.f]
 refine ev_bind (impl_IsMemory_ev m hm) ?_
 by_cases h : MemOK m
 ·refine ev_pos (decide_eq_true h) (ev_now (fun k => ?_))
  rw [impl_areOn_any m h, Option.bind_some, Bool.not_not]
  congr 1
  exact decide_eq_decide.mpr ⟨fun x => ⟨h, x⟩, fun x => x.2⟩
 ·exact ev_neg (by rw [decide_eq_false h]; decide) (ev_eq (Ev.now _) (decide_eq_false (fun x => h x.1)).symm)
theorem impl_isRope_ev (m : List (List Int)) (hm : m.length ≤ 1048576) (ws : List S61) : Ev (fun k => impl_isRope.f k m ws) (decide (RopeOK m ws)) := by
 simp only [impl_isRope.f]
 refine ev_bind (impl_areOn_ev m hm ws) ?_
 by_cases h : MemOK m ∧ AllOn m ws
 ·exact ev_pos (decide_eq_true h) (ev_eq (Ev.now _) (decide_eq_decide.mpr ⟨fun x => ⟨h.1, h.2, by omega⟩, fun x => by have := x.2.2; omega⟩))
 ·exact ev_neg (by rw [decide_eq_false h]; decide) (ev_eq (Ev.now _) (decide_eq_false (fun x => h ⟨x.1, x.2.1⟩)).symm)
theorem laws_szByteS_eq (l : List Int) (hl : l.length ≤ 9223372036854775807) (n : Int) (h0 : 0 ≤ n) (h1 : n ≤ 1048576) : laws_szByteS.f l n = some (if (l.length : Int) ≤ n then n - l.length else -1) := by
 unfold laws_szByteS.f
 rw [wid (n := n - l.length) (by omega) (by omega)]
 by_cases h : (l.length : Int) ≤ n
 ·rw [if_neg (by omega), if_pos h]
 ·rw [if_pos (by omega), if_neg h]
theorem laws_szByteSS_l0 (m : List (List Int)) (hl : m.length ≤ 9223372036854775807) (hm : ∀ a ∈ m, a.length ≤ 9223372036854775807) : ∀ (d i : Nat) (n : Int), i + d = m.length → 0 ≤ n → n ≤ 1048576 →
  ∃ r, Ev (fun k => laws_szByteSS.l0 k m n (i : Int)) r ∧ r ≤ n ∧ (0 ≤ r → ∀ a ∈ m.drop i, (a.length : Int) ≤ n) := by
 intro d
 induction d with
 | zero =>
  intro i n hi h0 h1
  refine ⟨n, ev_succ ?_, Int.le_refl _, fun _ a ha => ?_⟩
  ·simp only [laws_szByteSS.l0]
   exact ev_neg (by omega) (Ev.now _)
  ·rw [List.drop_eq_nil_of_le (by omega)] at ha
   simp at ha
 | succ d ih =>
  intro i n hi h0 h1
  have h : i < m.length := by omega
  have hr : rd_L1 m (i : Int) = m[i] := by
   unfold rd_L1
   exact getD_lt m [] h
  have ha := hm m[i] (List.getElem_mem h)
  by_cases hs : (m[i].length : Int) ≤ n
  ·obtain ⟨r, e, hr1, hr2⟩ := ih (i + 1) (n - m[i].length) (by omega) (by omega) (by omega)
   refine ⟨r, ev_succ ?_, by omega, fun hp a hx => ?_⟩
   ·simp only [laws_szByteSS.l0, hr, laws_szByteS_eq m[i] ha n h0 h1, if_pos hs, Option.bind_some]
    refine ev_pos (by omega) (ev_pos (by omega) (ev_neg (by omega) ?_))
    rw [wsucc (i := i) (by omega)]
    exact e
   ·rw [List.drop_eq_getElem_cons h] at hx
    rcases List.mem_cons.1 hx with rfl | hx
    ·exact hs
    ·have := hr2 hp a hx
     omega
  ·refine ⟨-1, ev_succ ?_, by omega, fun hp => by omega⟩
   simp only [laws_szByteSS.l0, hr, laws_szByteS_eq m[i] ha n h0 h1, if_neg hs, Option.bind_some]
   exact ev_pos (by omega) (ev_pos (by omega) (ev_pos (by omega) (Ev.now _)))
theorem laws_szByteSS_ev (m : List (List Int)) (hm : Row (Row U8) m) (n : Int) (h0 : 0 ≤ n) (h1 : n ≤ 1048576) : ∃ r, Ev (fun k => laws_szByteSS.f k m n) r ∧ r ≤ n ∧ (0 ≤ r → Small m) := by
 have hl := hm.1
 have hr : ∀ a ∈ m, a.length ≤ 9223372036854775807 := fun a ha => (hm.2 a ha).1
 simp only [laws_szByteSS.f]
 rw [wid (n := n - m.length) (by omega) (by omega)]
 by_cases h : (m.length : Int) ≤ n
 ·obtain ⟨r, e, hr1, hr2⟩ := laws_szByteSS_l0 m hl hr m.length 0 (n - m.length) (by omega) (by omega) (by omega)
  refine ⟨r, ev_neg (by omega) e, by omega, fun hp => ⟨by omega, fun a ha => ?_⟩⟩
  have := hr2 hp a (by simpa using ha)
  omega
 ·exact ⟨-1, ev_pos (by omega) (Ev.now _), by omega, fun hp => by omega⟩
theorem laws_szMemory_ev (m : List (List Int)) (hm : Row (Row U8) m) (n : Int) (h0 : 0 ≤ n) (h1 : n ≤ 1048576) : ∃ r, Ev (fun k => laws_szMemory.f k m n) r ∧ r ≤ n ∧ (0 ≤ r → Small m) := by
 obtain ⟨r, e, hr, hs⟩ := laws_szByteSS_ev m hm n h0 h1
 simp only [laws_szMemory.f]
 by_cases h : r < 0
 ·exact ⟨-1, ev_bind e (ev_pos h (Ev.now _)), by omega, fun hp => by omega⟩
 ·exact ⟨r, ev_bind e (ev_neg h (Ev.now _)), hr, hs⟩
theorem laws_szRope_eq (ws : List S53) (hl : ws.length ≤ 9223372036854775807) (n : Int) (h0 : 0 ≤ n) (h1 : n ≤ 1048576) : laws_szRope.f ws n = some (if (ws.length : Int) ≤ n then n - ws.length else -1) := by
 unfold laws_szRope.f laws_szWindowS.f
 rw [wid (n := n - ws.length) (by omega) (by omega)]
 by_cases h : (ws.length : Int) ≤ n
 ·rw [if_neg (by omega), if_pos h, Option.bind_some, if_neg (by omega)]
 ·rw [if_pos (by omega), if_neg h, Option.bind_some, if_pos (by omega)]
theorem laws_toByteS_l0 (l : List Int) (hl : l.length ≤ 281474976710656) (x : List Int) (hx : x.length = l.length) : ∀ (d i : Nat), i + d = l.length → Ev (fun k => laws_toByteS.l0 k l (over l x i) (i : Int)) l := by
 intro d
 induction d with
 | zero =>
  intro i hi
  have e : over l x i = l := by rw [show i = l.length by omega]; exact over_all l x hx
  rw [e]
  refine ev_end (fun k => ?_)
  simp only [laws_toByteS.l0]
  rw [if_neg (by omega)]
 | succ d ih =>
  intro i hi
  refine Ev.step (fun k => ?_) (ih (i + 1) (by omega))
  simp only [laws_toByteS.l0]
  rw [if_pos (by omega), if_pos (by omega), if_pos (by rw [over_length l x i hx (by omega)]; omega), Int.toNat_natCast, rd_lt l (by omega : i < l.length), over_set l x i hx (by omega), wsucc (by omega)]
theorem laws_toByteS_ev (l : List Int) (hl : l.length ≤ 281474976710656) : Ev (fun k => laws_toByteS.f k l) l := by
 simp only [laws_toByteS.f]
 refine ev_pos (by omega) (ev_pos (by simpa using hl) ?_)
 have h := laws_toByteS_l0 l hl (List.replicate l.length 0) (by simp) l.length 0 (by omega)
 rw [over_zero] at h
 simpa using h
theorem laws_toByteSS_l0 (l : List (List Int)) (hl : Small l) (x : List (List Int)) (hx : x.length = l.length) : ∀ (d i : Nat), i + d = l.length → Ev (fun k => laws_toByteSS.l0 k l (over l x i) (i : Int)) l := by
 obtain ⟨hl, hs⟩ := hl
 intro d
 induction d with
 | zero =>
  intro i hi
  have e : over l x i = l := by rw [show i = l.length by omega]; exact over_all l x hx
  rw [e]
  refine ev_succ ?_
  simp only [laws_toByteSS.l0]
  exact ev_neg (by omega) (Ev.now _)
 | succ d ih =>
  intro i hi
  have h : i < l.length := by omega
  have hr : rd_L1 l (i : Int) = l[i] := by
   unfold rd_L1
   exact getD_lt l [] h
  refine ev_succ ?_
  simp only [laws_toByteSS.l0, hr]
  refine ev_pos (by omega) (ev_pos (by omega) (ev_bind (laws_toByteS_ev l[i] (by have := hs l[i] (List.getElem_mem h); omega)) (ev_pos (by rw [over_length l x i hx (by omega)]; omega) ?_)))
  rw [Int.toNat_natCast, over_set l x i hx h, wsucc (by omega)]
  exact ih (i + 1) (by omega)
theorem laws_toByteSS_ev (l : List (List Int)) (hl : Small l) : Ev (fun k => laws_toByteSS.f k l) l := by
 have h1 := hl.1
 simp only [laws_toByteSS.f]
 refine ev_pos (by omega) (ev_pos (by simp only [Int.toNat_natCast]; omega) ?_)
 have h := laws_toByteSS_l0 l hl (List.replicate l.length []) (by simp) l.length 0 (by omega)
 rw [over_zero] at h
 simpa using h
theorem laws_toMemory_ev (l : List (List Int)) (hl : Small l) : Ev (fun k => laws_toMemory.f k l) l := by
 simp only [laws_toMemory.f]
 exact ev_bind (laws_toByteSS_ev l hl) (Ev.now _)
def conv (w : S53) : S61 := ⟨w.f0, w.f1, w.f2, w.f3⟩
theorem rdV {ws : List S53} {i : Nat} (h : i < ws.length) : rd_T53 ws (i : Int) = ws[i] := by
 unfold rd_T53
 exact getD_lt ws _ h
theorem laws_toWindowS_l0 (ws : List S53) (hl : ws.length ≤ 1048576) (x : List S61) (hx : x.length = (ws.map conv).length) : ∀ (d i : Nat), i + d = ws.length → Ev (fun k => laws_toWindowS.l0 k ws (over (ws.map conv) x i) (i : Int)) (ws.map conv) := by
 have hx2 : x.length = ws.length := by rw [hx, List.length_map]
 intro d
 induction d with
 | zero =>
  intro i hi
  have e : over (ws.map conv) x i = ws.map conv := by rw [show i = (ws.map conv).length by rw [List.length_map]; omega]; exact over_all _ x hx
  rw [e]
  refine ev_succ ?_
  simp only [laws_toWindowS.l0]
  exact ev_neg (by omega) (Ev.now _)
 | succ d ih =>
  intro i hi
  have h : i < ws.length := by omega
  have h2 : i < (ws.map conv).length := by rw [List.length_map]; omega
  refine ev_succ ?_
  simp only [laws_toWindowS.l0, laws_toWindow.f, Option.bind_some, rdV h]
  refine ev_pos (by omega) (ev_pos (by omega) (ev_pos (by rw [over_length _ x i hx (by omega), List.length_map]; omega) ?_))
  have hs := over_set (ws.map conv) x i hx h2
  rw [List.getElem_map] at hs
  rw [Int.toNat_natCast, show (⟨ws[i].f0, ws[i].f1, ws[i].f2, ws[i].f3⟩ : S61) = conv ws[i] from rfl, hs, wsucc (by omega)]
  exact ih (i + 1) (by omega)
theorem laws_toRope_ev (ws : List S53) (hl : ws.length ≤ 1048576) : Ev (fun k => laws_toRope.f k ws) (ws.map conv) := by
 simp only [laws_toRope.f, laws_toWindowS.f]
 have h := laws_toWindowS_l0 ws hl (List.replicate ws.length z61) (by simp) ws.length 0 (by omega)
 rw [over_zero] at h
 exact ev_bind (ev_pos (by omega) (ev_pos (by simp only [Int.toNat_natCast]; omega) (by simpa using h))) (Ev.now _)
theorem laws_eqByteS_l0 (a b : List Int) (hl : a.length = b.length) (hb : a.length ≤ 281474976710656) : ∀ (d i : Nat), i + d = a.length → Ev (fun k => laws_eqByteS.l0 k a b (i : Int)) (decide (a.drop i = b.drop i)) := by
 intro d
 induction d with
 | zero =>
  intro i hi
  have e1 : a.drop i = [] := List.drop_eq_nil_of_le (by omega)
  have e2 : b.drop i = [] := List.drop_eq_nil_of_le (by omega)
  rw [e1, e2]
  refine ev_end (fun k => ?_)
  simp only [laws_eqByteS.l0]
  rw [if_neg (by omega)]
  rfl
 | succ d ih =>
  intro i hi
  have ha : i < a.length := by omega
  have hb2 : i < b.length := by omega
  rw [List.drop_eq_getElem_cons ha, List.drop_eq_getElem_cons hb2]
  by_cases h : a[i] = b[i]
  ·refine ev_eq (Ev.step (fun k => ?_) (ih (i + 1) (by omega))) ?_
   ·simp only [laws_eqByteS.l0]
    rw [if_pos (by omega), if_pos (by omega), if_pos (by omega), rd_lt a ha, rd_lt b hb2, if_pos h, wsucc (by omega)]
   ·rw [h]; exact decide_eq_decide.mpr ⟨fun e => by rw [e], fun e => (List.cons.inj e).2⟩
  ·refine ev_eq (ev_end (r := false) (fun k => ?_)) (decide_eq_false (fun e => h (List.cons.inj e).1)).symm
   simp only [laws_eqByteS.l0]
   rw [if_pos (by omega), if_pos (by omega), if_pos (by omega), rd_lt a ha, rd_lt b hb2, if_neg h]
theorem laws_eqByteS_ev (a b : List Int) (hb : a.length ≤ 281474976710656) : Ev (fun k => laws_eqByteS.f k a b) (decide (a = b)) := by
 simp only [laws_eqByteS.f]
 by_cases h : a.length = b.length
 ·refine ev_pos (by omega) ?_
  have := laws_eqByteS_l0 a b h hb a.length 0 (by omega)
  simpa using this
 ·refine ev_neg (by omega) ?_
  have : ¬ a = b := fun e => h (by rw [e])
  rw [decide_eq_false this]
  exact Ev.now _
theorem laws_eqByteSS_l0 (l : List (List Int)) (hl : Small l) : ∀ (d i : Nat), i + d = l.length → Ev (fun k => laws_eqByteSS.l0 k l l (i : Int)) true := by
 obtain ⟨hl, hs⟩ := hl
 intro d
 induction d with
 | zero =>
  intro i hi
  refine ev_succ ?_
  simp only [laws_eqByteSS.l0]
  exact ev_neg (by omega) (Ev.now _)
 | succ d ih =>
  intro i hi
  have h : i < l.length := by omega
  have hr : rd_L1 l (i : Int) = l[i] := by
   unfold rd_L1
   exact getD_lt l [] h
  refine ev_succ ?_
  simp only [laws_eqByteSS.l0, hr]
  refine ev_pos (by omega) (ev_pos (by omega) (ev_pos (by omega) (ev_bind (laws_eqByteS_ev l[i] l[i] (by have := hs l[i] (List.getElem_mem h); omega)) (ev_pos (by simp) ?_))))
  rw [wsucc (by omega)]
  exact ih (i + 1) (by omega)
theorem laws_eqMemory_ev (l : List (List Int)) (hl : Small l) : Ev (fun k => laws_eqMemory.f k l l) true := by
 simp only [laws_eqMemory.f, laws_eqByteSS.f]
 have := laws_eqByteSS_l0 l hl l.length 0 (by omega)
 exact ev_bind (ev_pos (by first | trivial | rfl) (by simpa using this)) (ev_pos (by first | trivial | rfl) (Ev.now _))
theorem laws_eqWindow_self (a s l c : Int) : laws_eqWindow.f a s l c a s l c = some true := by
 unfold laws_eqWindow.f
 rw [if_pos rfl, if_pos rfl, if_pos rfl, if_pos rfl]
theorem laws_eqWindowS_self (ws : List S61) (hl : ws.length ≤ 1048576) : ∀ (d i : Nat), i + d = ws.length → Ev (fun k => laws_eqWindowS.l0 k ws ws (i : Int)) true := by
 intro d
 induction d with
 | zero =>
  intro i hi
  refine ev_succ ?_
  simp only [laws_eqWindowS.l0]
  exact ev_neg (by omega) (Ev.now _)
 | succ d ih =>
  intro i hi
  have h : i < ws.length := by omega
  refine ev_succ ?_
  simp only [laws_eqWindowS.l0, rdW h]
  refine ev_pos (by omega) (ev_pos (by omega) (ev_pos (by omega) (ev_bind (ev_now (fun _ => laws_eqWindow_self _ _ _ _)) (ev_pos rfl ?_))))
  rw [wsucc (by omega)]
  exact ih (i + 1) (by omega)
theorem laws_eqWindowS_ev (ws : List S61) (hl : ws.length ≤ 1048576) : Ev (fun k => laws_eqWindowS.f k ws ws) true := by
 simp only [laws_eqWindowS.f]
 have h := laws_eqWindowS_self ws hl ws.length 0 (by omega)
 exact ev_pos (by first | trivial | rfl) (by simpa using h)
theorem laws_eqRope_self (ws : List S61) (hl : ws.length ≤ 1048576) : Ev (fun k => laws_eqRope.f k ws ws) true := by
 simp only [laws_eqRope.f, laws_eqWindowS.f]
 have h := laws_eqWindowS_self ws hl ws.length 0 (by omega)
 exact ev_bind (ev_pos (by first | trivial | rfl) (by simpa using h)) (ev_pos rfl (Ev.now _))
def seeB (i p : Int) (x : S61) : Bool := decide (x.f0 = i ∧ x.f1 ≤ p ∧ p ≤ wrap64 (wrap64 (x.f1 + x.f2) - 1))
theorem spec_l3Sees_eq (x : S61) (i p : Int) : spec_l3Sees.f x.f0 x.f1 x.f2 x.f3 i p = some (seeB i p x) := by
 simp only [spec_l3Sees.f, spec_l1In_eq, Option.bind_some, seeB]
 by_cases h : x.f0 = i
 ·rw [if_pos h]; simp [h]
 ·rw [if_neg h]; simp [h]
theorem impl_see_eq (x : S61) (i p : Int) : impl_SharedPlaces.see i p x = some (seeB i p x) := by
 simp only [impl_SharedPlaces.see, impl_Window_sees.f, impl_within_eq, Option.bind_some, seeB]
 by_cases h : x.f0 = i
 ·rw [if_pos h]; simp [h]
 ·rw [if_neg h]; simp [h]
theorem anyO_eq (q : S61 → Option Bool) (b : S61 → Bool) (h : ∀ x, q x = some (b x)) : ∀ l, Opn.anyO q l = some (l.any b)
 | [] => rfl
 | x :: l => by
  simp only [Opn.anyO, h, Option.bind_some, anyO_eq q b h l, List.any_cons]
  cases b x <;> simp
def bothB (a b : List S61) (i p : Int) : Bool := a.any (seeB i p) && b.any (seeB i p)
theorem impl_both_eq (a b : List S61) (i p : Int) : impl_SharedPlaces.both a b i p = some (bothB a b i p) := by
 simp only [impl_SharedPlaces.both, anyO_eq _ _ (fun x => impl_see_eq x i p), Option.bind_some, bothB]
 cases a.any (seeB i p) <;> simp
def inC (a b : List S61) (i : Int) : Nat → Int → Int → Int
 | 0, _, c => c
 | d + 1, p, c => inC a b i d (p + 1) (if bothB a b i p = true then wrap64 (c + 1) else c)
theorem impl_inn_eq (a b : List S61) (i : Int) : ∀ (d : Nat) (p c : Int), impl_SharedPlaces.inn a b i d p c = some (inC a b i d p c)
 | 0, _, _ => rfl
 | d + 1, p, c => by simp only [impl_SharedPlaces.inn, impl_both_eq, Option.bind_some, impl_inn_eq a b i d, inC]
def outC (a b : List S61) : List (List Int) → Int → Int → Int
 | [], _, c => c
 | r :: rs, i, c => outC a b rs (i + 1) (inC a b i r.length 0 c)
theorem impl_out_eq (a b : List S61) : ∀ (m : List (List Int)) (i c : Int), impl_SharedPlaces.out a b m i c = some (outC a b m i c)
 | [], _, _ => rfl
 | r :: rs, i, c => by simp only [impl_SharedPlaces.out, impl_inn_eq, Option.bind_some, impl_out_eq a b rs, outC]
theorem spec_l3Noticed_l0 (l : List S61) (hl : l.length ≤ 1048576) (i p : Int) : ∀ (d n : Nat) (acc : List Int), n + d = l.length → acc.length ≤ n → ∃ r, Ev (fun k => spec_l3Noticed.l0 k l i p acc (n : Int)) r ∧ (0 < r.length ↔ 0 < acc.length ∨ (l.drop n).any (seeB i p) = true) := by
 intro d
 induction d with
 | zero =>
  intro n acc hn ha
  refine ⟨acc, ev_end (fun k => ?_), ?_⟩
  ·simp only [spec_l3Noticed.l0]
   rw [if_neg (by omega)]
  ·rw [List.drop_eq_nil_of_le (by omega)]; simp
 | succ d ih =>
  intro n acc hn ha
  have h : n < l.length := by omega
  rw [List.drop_eq_getElem_cons h, List.any_cons]
  by_cases hs : seeB i p l[n] = true
  ·obtain ⟨r, h1, h2⟩ := ih (n + 1) (acc ++ [(n : Int)]) (by omega) (by simp; omega)
   refine ⟨r, ev_succ ?_, ?_⟩
   ·simp only [spec_l3Noticed.l0, rdW h, spec_l3Sees_eq, Option.bind_some]
    refine ev_pos (by omega) (ev_pos (by omega) (ev_pos hs (ev_pos (by omega) ?_)))
    rw [wsucc (by omega)]
    exact h1
   ·rw [h2, hs]; simp
  ·obtain ⟨r, h1, h2⟩ := ih (n + 1) acc (by omega) (by omega)
   refine ⟨r, ev_succ ?_, ?_⟩
   ·simp only [spec_l3Noticed.l0, rdW h, spec_l3Sees_eq, Option.bind_some]
    refine ev_pos (by omega) (ev_pos (by omega) (ev_neg hs ?_))
    rw [wsucc (by omega)]
    exact h1
   ·rw [h2, Bool.eq_false_iff.2 hs]; simp
theorem spec_l3Noticed_ev (l : List S61) (hl : l.length ≤ 1048576) (i p : Int) : ∃ r, Ev (fun k => spec_l3Noticed.f k l i p) r ∧ ((r.length : Int) > 0 ↔ l.any (seeB i p) = true) := by
 obtain ⟨r, h1, h2⟩ := spec_l3Noticed_l0 l hl i p l.length 0 [] (by omega) (by simp)
 refine ⟨r, by simp only [spec_l3Noticed.f]; simpa using h1, ?_⟩
 constructor
 ·intro h
  have := h2.1 (by omega)
  simpa using this
 ·intro h
  have := h2.2 (.inr (by simpa using h))
  omega
theorem spec_SharedPlaces_loops (m : List (List Int)) (hm : Small m) (a b : List S61) (ha : a.length ≤ 1048576) (hb : b.length ≤ 1048576) : ∀ (d i : Nat) (c : Int), i + d = m.length → Ev (fun k => spec_SharedPlaces.l0 k c (i : Int) m a b) (outC a b (m.drop i) (i : Int) c, true) := by
 have hlen := hm.1
 intro d
 induction d with
 | zero =>
  intro i c hi
  rw [List.drop_eq_nil_of_le (by omega)]
  refine ev_end (fun k => ?_)
  simp only [spec_SharedPlaces.l0]
  rw [if_neg (by omega)]
  rfl
 | succ d ih =>
  intro i c hi
  have h : i < m.length := by omega
  have hr := hm.2 m[i] (List.getElem_mem h)
  have hrd : rd_L1 m (i : Int) = m[i] := by
   unfold rd_L1
   exact getD_lt m _ h
  rw [List.drop_eq_getElem_cons h]
  show Ev _ (outC a b (m.drop (i + 1)) ((i : Int) + 1) (inC a b (i : Int) m[i].length 0 c), true)
  have inner : ∀ (e p : Nat) (c : Int), p + e = m[i].length → Ev (fun k => spec_SharedPlaces.l1 k c (i : Int) (p : Int) m a b) (outC a b (m.drop (i + 1)) ((i : Int) + 1) (inC a b (i : Int) e (p : Int) c), true) := by
   intro e
   induction e with
   | zero =>
    intro p c hp
    refine ev_succ ?_
    simp only [spec_SharedPlaces.l1, hrd]
    refine ev_pos (by omega) (ev_pos (by omega) (ev_neg (by omega) ?_))
    rw [wsucc (by omega)]
    have := ih (i + 1) c (by omega)
    rw [show ((i + 1 : Nat) : Int) = (i : Int) + 1 from by omega] at this ⊢
    exact this
   | succ e ihe =>
    intro p c hp
    obtain ⟨r1, n1, q1⟩ := spec_l3Noticed_ev a ha (i : Int) (p : Int)
    obtain ⟨r2, n2, q2⟩ := spec_l3Noticed_ev b hb (i : Int) (p : Int)
    refine ev_succ ?_
    simp only [spec_SharedPlaces.l1, hrd]
    refine ev_pos (by omega) (ev_pos (by omega) (ev_pos (by omega) (ev_bind n1 ?_)))
    rw [wsucc (by omega)]
    have yes := ihe (p + 1) (wrap64 (c + 1)) (by omega)
    have no := ihe (p + 1) c (by omega)
    rw [show ((p + 1 : Nat) : Int) = (p : Int) + 1 from by omega] at yes no ⊢
    simp only [inC]
    by_cases h1 : (r1.length : Int) > 0
    ·refine ev_pos h1 (ev_bind n2 ?_)
     by_cases h2 : (r2.length : Int) > 0
     ·rw [if_pos (show bothB a b (i : Int) (p : Int) = true by unfold bothB; rw [q1.1 h1, q2.1 h2]; rfl)]
      exact ev_pos h2 yes
     ·rw [if_neg (show ¬ bothB a b (i : Int) (p : Int) = true by unfold bothB; intro z; rw [Bool.and_eq_true] at z; exact h2 (q2.2 z.2))]
      exact ev_neg h2 no
    ·rw [if_neg (show ¬ bothB a b (i : Int) (p : Int) = true by unfold bothB; intro z; rw [Bool.and_eq_true] at z; exact h1 (q1.2 z.1))]
     exact ev_neg h1 no
  refine ev_succ ?_
  simp only [spec_SharedPlaces.l0]
  exact ev_pos (by omega) (inner m[i].length 0 c (by omega))
def sharedP (m : List (List Int)) (a b : List S61) : Int × Bool := if RopeOK m a ∧ RopeOK m b then (outC a b m 0 0, true) else (0, false)
theorem spec_SharedPlaces_ev (m : List (List Int)) (hm : Small m) (a b : List S61) (ha : a.length ≤ 1048576) (hb : b.length ≤ 1048576) : Ev (fun k => spec_SharedPlaces.f k m a b) (sharedP m a b) := by
 simp only [spec_SharedPlaces.f]
 have no : ¬ (RopeOK m a ∧ RopeOK m b) → Ev (fun n => spec_SharedPlaces.j0 n true m a b) (sharedP m a b) := fun h => by
  refine ev_succ ?_
  simp only [spec_SharedPlaces.j0]
  exact ev_pos (by first | trivial | rfl) (ev_eq (Ev.now _) (by rw [sharedP, if_neg h]))
 refine ev_bind (spec_l7Rope_ev m hm.1 a ha) ?_
 by_cases h : RopeOK m a
 ·refine ev_pos (decide_eq_true h) (ev_bind (spec_l7Rope_ev m hm.1 b hb) ?_)
  by_cases h2 : RopeOK m b
  ·rw [decide_eq_true h2]
   refine ev_succ ?_
   simp only [spec_SharedPlaces.j0]
   exact ev_neg (by decide) (ev_eq (spec_SharedPlaces_loops m hm a b ha hb m.length 0 0 (by omega)) (by rw [sharedP, if_pos ⟨h, h2⟩]; rfl))
  ·rw [decide_eq_false h2]
   exact no (fun x => h2 x.2)
 ·exact ev_neg (by rw [decide_eq_false h]; decide) (no (fun x => h x.1))
theorem impl_SharedPlaces_ev (m : List (List Int)) (hm : m.length ≤ 1048576) (a b : List S61) : Ev (fun k => impl_SharedPlaces.f k m a b) (sharedP m a b) := by
 simp only [impl_SharedPlaces.f, impl_out_eq, Option.bind_some]
 refine ev_bind (impl_isRope_ev m hm a) ?_
 by_cases h : RopeOK m a
 ·refine ev_pos (decide_eq_true h) (ev_bind (impl_isRope_ev m hm b) ?_)
  by_cases h2 : RopeOK m b
  ·exact ev_pos (decide_eq_true h2) (ev_eq (Ev.now _) (by rw [sharedP, if_pos ⟨h, h2⟩]))
  ·exact ev_neg (by rw [decide_eq_false h2]; decide) (ev_eq (Ev.now _) (by rw [sharedP, if_neg (fun x => h2 x.2)]))
 ·exact ev_neg (by rw [decide_eq_false h]; decide) (ev_eq (Ev.now _) (by rw [sharedP, if_neg (fun x => h x.1)]))
theorem FnExactSharedPlaces : laws_FnExactSharedPlaces.Pure := by
 intro m va vb hm ha hb
 refine Ev.rounds ?_
 obtain ⟨r, e, hr, hs⟩ := laws_szMemory_ev m hm 1048576 (by omega) (by omega)
 simp only [laws_FnExactSharedPlaces.f]
 refine ev_bind e ?_
 by_cases h : r < 0
 ·exact ev_pos h (Ev.now _)
 refine ev_neg h (ev_bind (ev_now (fun _ => laws_szRope_eq va ha.1 r (by omega) (by omega))) ?_)
 by_cases h2 : (va.length : Int) ≤ r
 case neg =>
  rw [if_neg h2]
  exact ev_pos (by omega) (Ev.now _)
 rw [if_pos h2]
 refine ev_neg (by omega) (ev_bind (ev_now (fun _ => laws_szRope_eq vb hb.1 _ (by omega) (by omega))) ?_)
 by_cases h3 : (vb.length : Int) ≤ r - va.length
 case neg =>
  rw [if_neg h3]
  exact ev_pos (by omega) (Ev.now _)
 rw [if_pos h3]
 have hsm := hs (by omega)
 have la : (va.map conv).length ≤ 1048576 := by rw [List.length_map]; omega
 have lb : (vb.map conv).length ≤ 1048576 := by rw [List.length_map]; omega
 refine ev_neg (by omega) ?_
 refine ev_bind (laws_toMemory_ev m hsm) ?_
 refine ev_bind (laws_toRope_ev va (by omega)) ?_
 refine ev_bind (laws_toRope_ev vb (by omega)) ?_
 refine ev_bind (spec_SharedPlaces_ev m hsm _ _ la lb) ?_
 refine ev_bind (impl_SharedPlaces_ev m hsm.1 _ _) ?_
 refine ev_bind (laws_eqMemory_ev m hsm) ?_
 refine ev_bind (laws_eqRope_self _ la) ?_
 refine ev_bind (laws_eqRope_self _ lb) ?_
 exact ev_pos ⟨rfl, rfl, rfl, rfl, rfl⟩ (Ev.now _)
end Go.Proofs.Ytldkbeccpheckab.Pure
