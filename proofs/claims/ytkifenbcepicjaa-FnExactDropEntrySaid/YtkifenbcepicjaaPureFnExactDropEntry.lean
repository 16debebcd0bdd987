/- What is proved here: the plain statement of the law FnExactDropEntry, over numbers and lists. No condition beyond those that it states. -/
import Derived.Test.YtkifenbcepicjaaQFnExactDropEntry
import Derived.Test.YtkifenbcepicjaaTk
namespace Go.Proofs.Ytkifenbcepicjaa.Pure
open Go.RowKit Go.Proofs.Ytkifenbcepicjaa.PFnExactDropEntry Go.Proofs.YtkifenbcepicjaaW.PrintWords Go.Proofs.YtkifenbcepicjaaW.PrintMore Go.Proofs.Ytkifenbcepicjaa.Tk Go.Proofs.Ytkifenbcepicjaa.Opn
set_option linter.unusedVariables false
set_option linter.unusedSimpArgs false
def Sizes (m : List (List Int)) : Prop := ∀ a ∈ m, 1 ≤ a.length ∧ a.length ≤ 64
instance (m : List (List Int)) : Decidable (Sizes m) := by unfold Sizes; exact inferInstance
theorem Sizes.nil : Sizes [] := fun a ha => by simp at ha
theorem Sizes.cons {a : List Int} {m : List (List Int)} (h : (1 : Int) ≤ (a.length : Int) ∧ (a.length : Int) ≤ 64) (k : Sizes m) : Sizes (a :: m) := fun b hb => by
 rcases List.mem_cons.1 hb with rfl | hb
 ·omega
 ·exact k b hb
theorem Sizes.head {a : List Int} {m : List (List Int)} (k : Sizes (a :: m)) : (1 : Int) ≤ (a.length : Int) ∧ (a.length : Int) ≤ 64 := by
 have := k a List.mem_cons_self
 omega
theorem Sizes.tail {a : List Int} {m : List (List Int)} (k : Sizes (a :: m)) : Sizes m := fun b hb => k b (List.mem_cons_of_mem _ hb)
def MemOK (m : List (List Int)) : Prop := m.length ≤ 16 ∧ Sizes m
instance (m : List (List Int)) : Decidable (MemOK m) := by unfold MemOK; exact inferInstance
def arr_ (m : List (List Int)) (a : Int) : List Int := m.getD a.toNat []
def WinOK (m : List (List Int)) (a s l c : Int) : Prop := MemOK m ∧ 0 ≤ a ∧ a < (m.length : Int) ∧ 0 ≤ s ∧ 0 ≤ l ∧ l ≤ c ∧ s + c ≤ ((arr_ m a).length : Int)
instance (m : List (List Int)) (a s l c : Int) : Decidable (WinOK m a s l c) := by unfold WinOK; exact inferInstance
def Small (m : List (List Int)) : Prop := m.length ≤ 1048576 ∧ ∀ a ∈ m, a.length ≤ 1048576
theorem arr_mem {m : List (List Int)} {a : Int} (h0 : 0 ≤ a) (h1 : a < (m.length : Int)) : arr_ m a ∈ m := by
 unfold arr_
 rw [getD_lt m [] (by omega : a.toNat < m.length)]
 exact List.getElem_mem _
theorem arr_size {m : List (List Int)} (hm : MemOK m) {a : Int} (h0 : 0 ≤ a) (h1 : a < (m.length : Int)) : 1 ≤ (arr_ m a).length ∧ (arr_ m a).length ≤ 64 := hm.2 _ (arr_mem h0 h1)
theorem MemOK.small {m : List (List Int)} (hm : MemOK m) : Small m := ⟨by have := hm.1; omega, fun a ha => by have := hm.2 a ha; omega⟩
theorem WinOK.bounds {m : List (List Int)} {a s l c : Int} (h : WinOK m a s l c) : MemOK m ∧ 0 ≤ a ∧ a < 16 ∧ a < (m.length : Int) ∧ 0 ≤ s ∧ s ≤ 64 ∧ 0 ≤ l ∧ l ≤ c ∧ c ≤ 64 ∧ s + c ≤ ((arr_ m a).length : Int) ∧ ((arr_ m a).length : Int) ≤ 64 := by
 obtain ⟨hm, h0, h1, h2, h3, h4, h5⟩ := h
 have := arr_size hm h0 h1
 have := hm.1
 refine ⟨hm, h0, by omega, h1, h2, by omega, h3, h4, by omega, h5, by omega⟩
theorem dec_false {p : Prop} [Decidable p] (h : ¬ p) : some false = some (decide p) := by rw [decide_eq_false h]
theorem laws_eqWindow_self (a s l c : Int) : laws_eqWindow.f a s l c a s l c = some true := by
 unfold laws_eqWindow.f
 rw [if_pos rfl, if_pos rfl, if_pos rfl, if_pos rfl]
theorem laws_eqEntry_self (x : Ky.En) : laws_eqEntry.f x x = some true := by
 unfold laws_eqEntry.f
 rw [if_pos rfl]
 exact laws_eqWindow_self _ _ _ _
theorem laws_eqEntryS_go : ∀ l : List Ky.En, laws_eqEntryS.go l l = some true
 | [] => rfl
 | x :: l => by
  unfold laws_eqEntryS.go
  rw [laws_eqEntry_self, Option.bind_some, if_pos rfl, laws_eqEntryS_go l]
theorem laws_eqEntryS_self {l : List Ky.En} (h : l.length ≤ 1048576) : laws_eqEntryS.f l l = some true := by
 unfold laws_eqEntryS.f
 rw [if_pos h, if_pos rfl, laws_eqEntryS_go]
theorem laws_toEntryS_eq {l : List Ky.En} (h : l.length ≤ 1048576) : laws_toEntryS.f l = some l := by
 unfold laws_toEntryS.f
 rw [if_pos h]
theorem laws_szEntryS_eq (l : List Ky.En) (hl : l.length ≤ 9223372036854775807) (left : Int) (h0 : 0 ≤ left) (h1 : left ≤ 1048576) : ∃ r, laws_szEntryS.f l left = some r ∧ (r < 0 ∨ (l.length ≤ 1048576 ∧ 0 ≤ r ∧ r ≤ 1048576)) := by
 unfold laws_szEntryS.f
 rw [wid (n := left - (l.length : Int)) (by omega) (by omega)]
 by_cases h : left - (l.length : Int) < 0
 ·rw [if_pos h]
  exact ⟨_, rfl, .inl (by omega)⟩
 ·rw [if_neg h]
  exact ⟨_, rfl, .inr ⟨by omega, by omega, by omega⟩⟩
def tabD (m : List (List Int)) : Option Ky.En → List Ky.En → Bool
 | _, [] => true
 | p, x :: xs => decide (WinOK m x.a x.s x.l x.c) && (Ky.lessP p x && tabD m (some x) xs)
def isTab (m : List (List Int)) (t : List Ky.En) : Bool := tabD m none t && decide (MemOK m ∧ t.length ≤ 12)
theorem Row.len {α : Type} {S : α → Prop} {l : List α} (h : Row S l) {x : α} (hx : x ∈ l) : S x := h.2 x hx
theorem spec_l1In_eq (a b c : Int) : spec_l1In.f a b c = some (decide (b ≤ a ∧ a ≤ c)) := by
 unfold spec_l1In.f
 by_cases h : a ≥ b
 ·rw [if_pos h]
  congr 1
  exact decide_eq_decide.mpr ⟨fun x => ⟨h, x⟩, fun x => x.2⟩
 ·rw [if_neg h]
  exact dec_false (fun x => h x.1)
theorem spec_l2Memory_l0 (m : List (List Int)) (hm : m.length ≤ 1048576) : ∀ (d i : Nat), i + d = m.length → Ev (fun k => spec_l2Memory.l0 k (i : Int) m) (decide (m.length ≤ 16 ∧ Sizes (m.drop i))) := by
 intro d
 induction d with
 | zero =>
  intro i hi
  have e : m.drop i = [] := List.drop_eq_nil_of_le (by omega)
  refine ev_succ (ev_eq (r := decide ((m.length : Int) ≤ 16)) ?_ ?_)
  ·simp only [spec_l2Memory.l0]
   refine ev_neg (by omega) (ev_succ ?_)
   simp only [spec_l2Memory.j1]
   exact ev_neg (by decide) (Ev.now _)
  ·rw [e]
   exact decide_eq_decide.mpr ⟨fun h => ⟨by omega, Sizes.nil⟩, fun h => by have := h.1; omega⟩
 | succ d ih =>
  intro i hi
  have h : i < m.length := by omega
  refine ev_succ ?_
  simp only [spec_l2Memory.l0]
  refine ev_pos (by omega) (ev_succ ?_)
  by_cases h16 : (i : Int) ≤ 16
  ·simp only [spec_l2Memory.j1, decide_eq_true h16]
   refine ev_pos (by first | trivial | rfl) (ev_pos (by omega) (ev_pos (by omega) ?_))
   have hr : rd_L1 m (i : Int) = m[i] := by
    unfold rd_L1
    exact getD_lt m [] h
   simp only [spec_l1In_eq, hr, Option.bind_some, decide_eq_true_eq]
   by_cases hs : (1 : Int) ≤ (m[i].length : Int) ∧ (m[i].length : Int) ≤ 64
   ·refine ev_pos hs (ev_eq (r := decide (m.length ≤ 16 ∧ Sizes (m.drop (i + 1)))) ?_ ?_)
    ·have := ih (i + 1) (by omega)
     rw [← wsucc (i := i) (by omega)] at this
     exact this
    ·rw [List.drop_eq_getElem_cons h]
     exact decide_eq_decide.mpr ⟨fun x => ⟨x.1, x.2.cons hs⟩, fun x => ⟨x.1, x.2.tail⟩⟩
   ·refine ev_neg hs (ev_eq (Ev.now false) ?_)
    rw [List.drop_eq_getElem_cons h]
    exact (decide_eq_false (fun x => hs x.2.head)).symm
  ·simp only [spec_l2Memory.j1, decide_eq_false h16]
   refine ev_neg (by decide) (ev_eq (Ev.now (decide ((m.length : Int) ≤ 16))) ?_)
   exact decide_eq_decide.mpr ⟨fun x => by omega, fun x => by have := x.1; omega⟩
theorem spec_l2Memory_ev (m : List (List Int)) (hm : m.length ≤ 1048576) : Ev (fun k => spec_l2Memory.f k m) (decide (MemOK m)) := by
 simp only [spec_l2Memory.f]
 have := spec_l2Memory_l0 m hm m.length 0 (by omega)
 rw [List.drop_zero] at this
 exact this
theorem spec_l2Window_ev (m : List (List Int)) (hm : m.length ≤ 1048576) (a s l c : Int) : Ev (fun k => spec_l2Window.f k m a s l c) (decide (WinOK m a s l c)) := by
 simp only [spec_l2Window.f, spec_l1In_eq, Option.bind_some]
 refine ev_bind (spec_l2Memory_ev m hm) ?_
 by_cases h : MemOK m
 ·refine ev_pos (decide_eq_true h) (ev_succ ?_)
  have hl := h.1
  simp only [spec_l2Window.j0]
  rw [wid (n := (m.length : Int) - 1) (by omega) (by omega)]
  by_cases h1 : 0 ≤ a ∧ a ≤ (m.length : Int) - 1
  ·have hz := arr_size h h1.1 (by omega)
   have hr : rd_L1 m a = arr_ m a := rfl
   simp only [decide_eq_true h1, spec_l1In_eq, Option.bind_some, hr, decide_eq_true_eq]
   refine ev_neg (by decide) (ev_pos h1.1 (ev_pos (by omega) ?_))
   by_cases h2 : 0 ≤ s ∧ s ≤ ((arr_ m a).length : Int)
   ·refine ev_pos h2 ?_
    rw [wid (n := ((arr_ m a).length : Int) - s) (by omega) (by omega)]
    by_cases h3 : 0 ≤ c ∧ c ≤ ((arr_ m a).length : Int) - s
    ·refine ev_pos h3 (ev_eq (Ev.now _) (decide_eq_decide.mpr ⟨fun x => ⟨h, by omega⟩, fun x => ⟨x.2.2.2.2.1, x.2.2.2.2.2.1⟩⟩))
    ·refine ev_neg h3 (ev_eq (Ev.now _) (decide_eq_false (fun x => h3 ?_)).symm)
     obtain ⟨_, x⟩ := x
     omega
   ·refine ev_neg h2 (ev_eq (Ev.now _) (decide_eq_false (fun x => h2 ?_)).symm)
    obtain ⟨_, x⟩ := x
    omega
  ·simp only [decide_eq_false h1]
   refine ev_pos (by first | trivial | rfl) (ev_eq (Ev.now _) (decide_eq_false (fun x => h1 ?_)).symm)
   obtain ⟨_, x⟩ := x
   omega
 ·refine ev_neg (by rw [decide_eq_false h]; decide) (ev_succ ?_)
  simp only [spec_l2Window.j0]
  exact ev_pos (by first | trivial | rfl) (ev_eq (Ev.now _) (decide_eq_false (fun x => h x.1)).symm)
theorem spec_l9Table_fin (m : List (List Int)) (hm : m.length ≤ 1048576) (n : Nat) : Ev (fun k => spec_l9Table.fin k m n) (decide (MemOK m ∧ n ≤ 12)) := by
 simp only [spec_l9Table.fin]
 refine ev_bind (spec_l2Memory_ev m hm) (ev_eq (Ev.now _) ?_)
 by_cases h : MemOK m
 ·rw [decide_eq_true h, Bool.true_and]
  exact decide_eq_decide.mpr ⟨fun x => ⟨h, by omega⟩, fun x => by have := x.2; omega⟩
 ·rw [decide_eq_false h, Bool.false_and, decide_eq_false (fun x => h x.1)]
theorem spec_l9Table_go (m : List (List Int)) (hm : m.length ≤ 1048576) (n : Nat) : ∀ (xs : List Ky.En) (p : Option Ky.En) (i : Nat), i + xs.length = n → Ev (fun k => spec_l9Table.go k m n p i xs) (tabD m p xs && decide (MemOK m ∧ n ≤ 12)) := by
 intro xs
 induction xs with
 | nil =>
  intro p i _
  simp only [spec_l9Table.go, tabD, Bool.true_and]
  exact spec_l9Table_fin m hm n
 | cons x xs ih =>
  intro p i hi
  rw [List.length_cons] at hi
  simp only [spec_l9Table.go, tabD]
  by_cases h12 : i ≤ 12
  ·refine ev_pos h12 (ev_bind (spec_l2Window_ev m hm x.a x.s x.l x.c) ?_)
   by_cases h : WinOK m x.a x.s x.l x.c
   ·refine ev_pos (decide_eq_true h) ?_
    rw [decide_eq_true h, Bool.true_and]
    cases hl : Ky.lessP p x with
    | true => exact ev_pos rfl (by rw [Bool.true_and]; exact ih (some x) (i + 1) (by omega))
    | false => exact ev_neg (by decide) (ev_eq (Ev.now _) (by simp))
   ·exact ev_neg (by rw [decide_eq_false h]; decide) (ev_eq (Ev.now _) (by rw [decide_eq_false h]; simp))
  ·refine ev_neg h12 (ev_eq (spec_l9Table_fin m hm n) ?_)
   rw [decide_eq_false (fun x => by have := x.2; omega), Bool.and_false]
theorem spec_l9Table_ev (m : List (List Int)) (hm : m.length ≤ 1048576) (t : List Ky.En) (ht : t.length ≤ 1048576) : Ev (fun k => spec_l9Table.f k m t) (isTab m t) := by
 simp only [spec_l9Table.f, isTab]
 exact ev_pos ht (spec_l9Table_go m hm t.length t none 0 (by omega))
def WinAt (m : List (List Int)) (w : S54) : Prop := WinOK m w.f0 w.f1 w.f2 w.f3
instance (m : List (List Int)) (w : S54) : Decidable (WinAt m w) := by unfold WinAt; exact inferInstance
def AllOn (m : List (List Int)) : List S54 → Prop
 | [] => True
 | w :: ws => WinAt m w ∧ AllOn m ws
instance allOnDec (m : List (List Int)) : (ws : List S54) → Decidable (AllOn m ws)
 | [] => isTrue trivial
 | w :: ws => by
  haveI := allOnDec m ws
  unfold AllOn
  exact inferInstance
theorem AllOn.mem {m : List (List Int)} : ∀ {ws : List S54}, AllOn m ws → ∀ w ∈ ws, WinAt m w
 | [], _, w, hw => by simp at hw
 | x :: ws, h, w, hw => by
  rcases List.mem_cons.1 hw with rfl | hw
  ·exact h.1
  ·exact AllOn.mem h.2 w hw
theorem AllOn.of {m : List (List Int)} : ∀ {ws : List S54}, (∀ w ∈ ws, WinAt m w) → AllOn m ws
 | [], _ => trivial
 | x :: ws, h => ⟨h x List.mem_cons_self, AllOn.of (fun w hw => h w (List.mem_cons_of_mem _ hw))⟩
theorem AllOn.drop {m : List (List Int)} {ws : List S54} (h : AllOn m ws) (i : Nat) : AllOn m (ws.drop i) := AllOn.of (fun w hw => h.mem w (List.mem_of_mem_drop hw))
theorem rdW {ws : List S54} {i : Nat} (h : i < ws.length) : rd_T54 ws (i : Int) = ws[i] := by
 unfold rd_T54
 exact getD_lt ws _ h
theorem impl_within_eq (a b c : Int) : impl_within.f a b c = some (decide (b ≤ a ∧ a ≤ c)) := by
 unfold impl_within.f
 by_cases h : a ≥ b
 ·rw [if_pos h]
  congr 1
  exact decide_eq_decide.mpr ⟨fun x => ⟨h, x⟩, fun x => x.2⟩
 ·rw [if_neg h]
  exact dec_false (fun x => h x.1)
theorem impl_Memory_hasWindow_eq (m : List (List Int)) (h : MemOK m) (a s l c : Int) : impl_Memory_hasWindow.f m a s l c = some (decide (WinOK m a s l c)) := by
 have hl := h.1
 simp only [impl_Memory_hasWindow.f, impl_Memory_hasArray.f, impl_within_eq, Option.bind_some, decide_eq_true_eq]
 rw [wid (n := (m.length : Int) - 1) (by omega) (by omega)]
 by_cases h1 : 0 ≤ a ∧ a ≤ (m.length : Int) - 1
 ·have hz := arr_size h h1.1 (by omega)
  have hr : rd_L1 m a = arr_ m a := rfl
  rw [if_pos h1, hr]
  by_cases h2 : 0 ≤ c ∧ c ≤ 64
  ·rw [if_pos h2]
   by_cases h3 : 0 ≤ l ∧ l ≤ c
   ·rw [if_pos h3, if_pos h1.1, if_pos (by omega), wid (n := ((arr_ m a).length : Int) - c) (by omega) (by omega)]
    congr 1
    exact decide_eq_decide.mpr ⟨fun x => ⟨h, by omega⟩, fun x => by obtain ⟨_, x⟩ := x; omega⟩
   ·rw [if_neg h3]
    exact dec_false (fun x => h3 (by obtain ⟨_, x⟩ := x; omega))
  ·rw [if_neg h2]
   exact dec_false (fun x => h2 (by obtain ⟨_, x⟩ := x; omega))
 ·rw [if_neg h1]
  exact dec_false (fun x => h1 (by obtain ⟨_, x⟩ := x; omega))
theorem impl_IsMemory_l0 (m : List (List Int)) (hm : m.length ≤ 1048576) : ∀ (d i : Nat), i + d = m.length → Ev (fun k => impl_IsMemory.l0 k m (m.length : Int) (i : Int) m) (decide (m.length ≤ 16 ∧ Sizes (m.drop i))) := by
 intro d
 induction d with
 | zero =>
  intro i hi
  have e : m.drop i = [] := List.drop_eq_nil_of_le (by omega)
  refine ev_succ (ev_eq (r := decide ((m.length : Int) ≤ 16)) ?_ ?_)
  ·simp only [impl_IsMemory.l0]
   exact ev_neg (by omega) (Ev.now _)
  ·rw [e]
   exact decide_eq_decide.mpr ⟨fun h => ⟨by omega, Sizes.nil⟩, fun h => by have := h.1; omega⟩
 | succ d ih =>
  intro i hi
  have h : i < m.length := by omega
  refine ev_succ ?_
  simp only [impl_IsMemory.l0]
  refine ev_pos (by omega) (ev_pos (by omega) (ev_pos (by omega) ?_))
  have hr : rd_L1 m (i : Int) = m[i] := by
   unfold rd_L1
   exact getD_lt m [] h
  simp only [impl_within_eq, hr, Option.bind_some, decide_eq_true_eq]
  by_cases hs : (1 : Int) ≤ (m[i].length : Int) ∧ (m[i].length : Int) ≤ 64
  ·refine ev_pos hs (ev_eq (r := decide (m.length ≤ 16 ∧ Sizes (m.drop (i + 1)))) ?_ ?_)
   ·have := ih (i + 1) (by omega)
    rw [← wsucc (i := i) (by omega)] at this
    exact this
   ·rw [List.drop_eq_getElem_cons h]
    exact decide_eq_decide.mpr ⟨fun x => ⟨x.1, x.2.cons hs⟩, fun x => ⟨x.1, x.2.tail⟩⟩
  ·refine ev_neg hs (ev_eq (Ev.now false) ?_)
   rw [List.drop_eq_getElem_cons h]
   exact (decide_eq_false (fun x => hs x.2.head)).symm
theorem impl_IsMemory_ev (m : List (List Int)) (hm : m.length ≤ 1048576) : Ev (fun k => impl_IsMemory.f k m) (decide (MemOK m)) := by
 simp only [impl_IsMemory.f]
 have := impl_IsMemory_l0 m hm m.length 0 (by omega)
 rw [List.drop_zero] at this
 exact this
theorem impl_areOn_any (m : List (List Int)) (h : MemOK m) : ∀ ws : List S54, Opn.anyO (fun x => (impl_Memory_hasWindow.f m x.f0 x.f1 x.f2 x.f3).bind fun b => some (!b)) ws = some (!decide (AllOn m ws))
 | [] => rfl
 | w :: ws => by
  unfold Opn.anyO
  rw [impl_Memory_hasWindow_eq m h, Option.bind_some, Option.bind_some, impl_areOn_any m h ws]
  by_cases hw : WinOK m w.f0 w.f1 w.f2 w.f3
  ·rw [decide_eq_true hw, if_neg (by decide)]
   congr 2
   exact decide_eq_decide.mpr ⟨fun x => ⟨hw, x⟩, fun x => x.2⟩
  ·rw [decide_eq_false hw, if_pos (by decide), decide_eq_false (fun x : AllOn m (w :: ws) => hw x.1)]
   rfl
theorem impl_areOn_ev (m : List (List Int)) (hm : m.length ≤ 1048576) (ws : List S54) : Ev (fun k => impl_areOn.f k m ws) (decide (MemOK m ∧ AllOn m ws)) := by
 simp only [impl_areOn.f]
 refine ev_bind (impl_IsMemory_ev m hm) ?_
 by_cases h : MemOK m
 ·refine ev_pos (decide_eq_true h) (ev_now (fun k => ?_))
  rw [impl_areOn_any m h, Option.bind_some, Bool.not_not]
  congr 1
  exact decide_eq_decide.mpr ⟨fun x => ⟨h, x⟩, fun x => x.2⟩
 ·exact ev_neg (by rw [decide_eq_false h]; decide) (ev_eq (Ev.now _) (decide_eq_false (fun x => h x.1)).symm)
theorem impl_areOn1_ev (m : List (List Int)) (hm : m.length ≤ 1048576) (a s l c : Int) : Ev (fun k => impl_areOn.f k m [(⟨a, s, l, c⟩ : S54)]) (decide (WinOK m a s l c)) :=
 ev_eq (impl_areOn_ev m hm _) (decide_eq_decide.mpr ⟨fun x => x.2.1, fun x => ⟨x.1, x, trivial⟩⟩)
theorem cmp_lessF {a b : List Int} (ha : Ky.Key a) (hb : Ky.Key b) (ka : Ky.okKey a) (kb : Ky.okKey b) : impl_compareKeys.f a b = some (Ky.cmpF a b) := by
 unfold impl_compareKeys.f
 rw [if_pos ⟨ka, kb⟩]
theorem impl_isTable_fin (m : List (List Int)) (hm : m.length ≤ 1048576) (n : Nat) : Ev (fun k => impl_isTable.fin k m n) (decide (MemOK m ∧ n ≤ 12)) := by
 simp only [impl_isTable.fin]
 refine ev_bind (impl_IsMemory_ev m hm) (ev_eq (Ev.now _) ?_)
 by_cases h : MemOK m
 ·rw [decide_eq_true h, Bool.true_and]
  exact decide_eq_decide.mpr ⟨fun x => ⟨h, by omega⟩, fun x => by have := x.2; omega⟩
 ·rw [decide_eq_false h, Bool.false_and, decide_eq_false (fun x => h x.1)]
theorem impl_isTable_cmp {p : Option Ky.En} {x : Ky.En} (hp : ∀ y, p = some y → Ky.okEn y) (hx : Ky.okEn x) : impl_isTable.cmp p x = some (Ky.lessP p x) := by
 cases p with
 | none => rfl
 | some p =>
  have h := hp p rfl
  show ((impl_compareKeys.f p.key x.key).bind fun c => some (decide (c < 0))) = some (Ky.lessF p.key x.key)
  rw [cmp_lessF h.1 hx.1 h.2.1 hx.2.1, Option.bind_some, Ky.cmp_less _ _ (h.1.trans hx.1.symm)]
theorem impl_isTable_go (m : List (List Int)) (hm : m.length ≤ 1048576) (n : Nat) : ∀ (xs : List Ky.En) (p : Option Ky.En), (∀ y, p = some y → Ky.okEn y) → (∀ x ∈ xs, Ky.okEn x) → Ev (fun k => impl_isTable.go k m n p xs) (tabD m p xs && decide (MemOK m ∧ n ≤ 12)) := by
 intro xs
 induction xs with
 | nil =>
  intro p _ _
  simp only [impl_isTable.go, tabD, Bool.true_and]
  exact impl_isTable_fin m hm n
 | cons x xs ih =>
  intro p hp hxs
  have hx := hxs x List.mem_cons_self
  simp only [impl_isTable.go, tabD]
  refine ev_bind (impl_areOn1_ev m hm x.a x.s x.l x.c) ?_
  by_cases h : WinOK m x.a x.s x.l x.c
  ·refine ev_pos (decide_eq_true h) ?_
   refine ev_bind (ev_now fun _ => impl_isTable_cmp hp hx) ?_
   rw [decide_eq_true h, Bool.true_and]
   cases hl : Ky.lessP p x with
   | true => exact ev_pos rfl (by rw [Bool.true_and]; exact ih (some x) (fun y e => by injection e with e; subst e; exact hx) (fun y hy => hxs y (List.mem_cons_of_mem _ hy)))
   | false => exact ev_neg (by decide) (ev_eq (Ev.now _) (by simp))
  ·exact ev_neg (by rw [decide_eq_false h]; decide) (ev_eq (Ev.now _) (by rw [decide_eq_false h]; simp))
theorem impl_isTable_ev (m : List (List Int)) (hm : m.length ≤ 1048576) (t : List Ky.En) (hr : Row Ky.okEn t) (ht : t.length ≤ 1048576) : Ev (fun k => impl_isTable.f k m t) (isTab m t) := by
 simp only [impl_isTable.f, isTab]
 exact ev_pos ht (impl_isTable_go m hm t.length t none (fun y e => by cases e) hr.2)
theorem lessF_irrefl : ∀ a : List Int, Ky.lessF a a = false
 | [] => rfl
 | x :: xs => by
  unfold Ky.lessF
  rw [if_pos rfl]
  exact lessF_irrefl xs
theorem lessF_trans : ∀ a b c : List Int, Ky.lessF a b = true → Ky.lessF b c = true → Ky.lessF a c = true
 | [], _, _, h, _ => by simp [Ky.lessF] at h
 | _ :: _, [], _, h, _ => by simp [Ky.lessF] at h
 | _ :: _, _ :: _, [], _, h => by simp [Ky.lessF] at h
 | x :: xs, y :: ys, z :: zs, h1, h2 => by
  unfold Ky.lessF at h1 h2 ⊢
  by_cases e1 : x = y
  ·subst e1
   rw [if_pos rfl] at h1
   by_cases e2 : x = z
   ·subst e2
    rw [if_pos rfl] at h2 ⊢
    exact lessF_trans xs ys zs h1 h2
   ·rw [if_neg e2] at h2 ⊢
    exact h2
  ·rw [if_neg e1] at h1
   have h1 := of_decide_eq_true h1
   by_cases e2 : y = z
   ·subst e2
    rw [if_neg e1]
    exact decide_eq_true h1
   ·rw [if_neg e2] at h2
    have h2 := of_decide_eq_true h2
    rw [if_neg (by omega)]
    exact decide_eq_true (by omega)
theorem cmpF_zero : ∀ a b : List Int, a.length = b.length → (Ky.cmpF a b = 0 ↔ a = b)
 | [], [], _ => by simp [Ky.cmpF]
 | [], _ :: _, h => by simp at h
 | _ :: _, [], h => by simp at h
 | x :: xs, y :: ys, h => by
  have ih := cmpF_zero xs ys (by simpa using h)
  unfold Ky.cmpF
  by_cases l : x < y
  ·rw [if_pos l]
   exact ⟨fun e => by omega, fun e => by injection e; omega⟩
  ·rw [if_neg l]
   by_cases g : y < x
   ·rw [if_pos g]
    exact ⟨fun e => by omega, fun e => by injection e; omega⟩
   ·rw [if_neg g, ih]
    have : x = y := by omega
    subst this
    exact ⟨fun e => by rw [e], fun e => by injection e⟩
theorem cmpF_neg {a b : List Int} (h : a.length = b.length) : Ky.cmpF a b < 0 ↔ Ky.lessF a b = true := by
 rw [← Ky.cmp_less a b h]
 exact ⟨fun x => decide_eq_true x, fun x => of_decide_eq_true x⟩
theorem tab_pairwise {m : List (List Int)} : ∀ (xs : List Ky.En) (p : Option Ky.En), tabD m p xs = true → (∀ y, p = some y → ∀ x ∈ xs, Ky.lessF y.key x.key = true) ∧ xs.Pairwise (fun x y => Ky.lessF x.key y.key = true)
 | [], _, _ => ⟨fun _ _ x hx => by simp at hx, .nil⟩
 | x :: xs, p, h => by
  unfold tabD at h
  simp only [Bool.and_eq_true] at h
  obtain ⟨_, hl, ht⟩ := h
  obtain ⟨h1, h2⟩ := tab_pairwise xs (some x) ht
  refine ⟨fun y e z hz => ?_, .cons (fun z hz => h1 x rfl z hz) h2⟩
  subst e
  have hl : Ky.lessF y.key x.key = true := hl
  rcases List.mem_cons.1 hz with rfl | hz
  ·exact hl
  ·exact lessF_trans _ _ _ hl (h1 x rfl z hz)
theorem halve_spec {l : List Ky.En} {g : Ky.En → Int} {cmp : Ky.En → Option Int} (hc : ∀ x ∈ l, cmp x = some (g x)) (mono : ∀ i j (hj : j < l.length) (hi : i < l.length), i ≤ j → g l[j] < 0 → g l[i] < 0) : ∀ d lo hi, lo ≤ hi → hi ≤ l.length → hi - lo < d → (∀ i (h : i < l.length), i < lo → g l[i] < 0) → (∀ i (h : i < l.length), hi ≤ i → ¬ g l[i] < 0) →
  ∃ r, Ky.halve l cmp d lo hi = some r ∧ r ≤ l.length ∧ (∀ i (h : i < l.length), i < r → g l[i] < 0) ∧ (∀ i (h : i < l.length), r ≤ i → ¬ g l[i] < 0)
 | 0, _, _, _, _, h, _, _ => absurd h (by omega)
 | d + 1, lo, hi, h1, h2, h3, h4, h5 => by
  unfold Ky.halve
  by_cases hlt : lo < hi
  ·rw [if_pos hlt]
   obtain ⟨k, hk⟩ : ∃ k, k = (lo + hi) / 2 := ⟨_, rfl⟩
   rw [← hk]
   have hkl : k < l.length := by omega
   rw [List.getElem?_eq_getElem hkl, Option.bind_some, hc _ (List.getElem_mem hkl), Option.bind_some]
   by_cases hneg : g l[k] < 0
   ·rw [if_pos hneg]
    exact halve_spec hc mono d (k + 1) hi (by omega) h2 (by omega) (fun i hi2 hik => mono i k hkl hi2 (by omega) hneg) h5
   ·rw [if_neg hneg]
    exact halve_spec hc mono d lo k (by omega) (by omega) (by omega) h4 (fun i hi2 hik hn => hneg (mono k i hi2 hkl hik hn))
  ·rw [if_neg hlt]
   obtain rfl : lo = hi := by omega
   exact ⟨lo, rfl, h2, h4, h5⟩
theorem findF_spec (key : List Int) : ∀ (xs : List Ky.En) (i : Nat), (Ky.findF key i xs = -1 ∧ xs.find? (fun x => decide (x.key = key)) = none) ∨ ∃ j x, xs[j]? = some x ∧ xs.find? (fun x => decide (x.key = key)) = some x ∧ Ky.findF key i xs = ((i + j : Nat) : Int)
 | [], _ => .inl ⟨rfl, rfl⟩
 | x :: xs, i => by
  unfold Ky.findF
  by_cases e : x.key = key
  ·rw [if_pos e]
   exact .inr ⟨0, x, rfl, by simp [e], by simp⟩
  ·rw [if_neg e]
   rcases findF_spec key xs (i + 1) with ⟨h1, h2⟩ | ⟨j, y, h1, h2, h3⟩
   ·exact .inl ⟨h1, by simp [e, h2]⟩
   ·exact .inr ⟨j + 1, y, by simpa using h1, by simp [e, h2], by rw [h3]; congr 1; omega⟩
theorem impl_entryAt_spec {m : List (List Int)} {t : List Ky.En} {key : List Int} (ht : t.length ≤ 1048576) (hr : ∀ x ∈ t, Ky.okEn x) (hk : Ky.Key key) (ko : Ky.okKey key) (hs : tabD m none t = true) :
  (∃ r : Nat, ∃ x, impl_entryAt.f t key = some ((r : Int), true) ∧ t[r]? = some x ∧ t.find? (fun x => decide (x.key = key)) = some x) ∨ ∃ r : Int, impl_entryAt.f t key = some (r, false) ∧ t.find? (fun x => decide (x.key = key)) = none := by
 have hp := List.pairwise_iff_getElem.1 (tab_pairwise t none hs).2
 have hlen : ∀ x ∈ t, x.key.length = key.length := fun x hx => (hr x hx).1.trans hk.symm
 have hcmp : ∀ x ∈ t, impl_Entry_16_byte.cl x key = some (Ky.cmpF x.key key) := fun x hx => cmp_lessF (hr x hx).1 hk (hr x hx).2.1 ko
 have mono : ∀ i j (hj : j < t.length) (hi : i < t.length), i ≤ j → Ky.cmpF t[j].key key < 0 → Ky.cmpF t[i].key key < 0 := by
  intro i j hj hi hij hn
  by_cases e : i = j
  ·subst e; exact hn
  ·have h1 := hp i j hi hj (by omega)
   have h2 := (cmpF_neg (hlen _ (List.getElem_mem hj))).1 hn
   exact (cmpF_neg (hlen _ (List.getElem_mem hi))).2 (lessF_trans _ _ _ h1 h2)
 obtain ⟨r, h1, h2, h3, h4⟩ := halve_spec (g := fun x => Ky.cmpF x.key key) hcmp mono (t.length + 1) 0 t.length (by omega) (by omega) (by omega) (fun i _ h => absurd h (by omega)) (fun i h h2 => absurd h (by omega))
 unfold impl_entryAt.f impl_Entry_16_byte.f
 rw [if_pos ht, h1, Option.bind_some]
 by_cases hrl : r < t.length
 ·have hm := List.getElem_mem hrl
  rw [List.getElem?_eq_getElem hrl]
  dsimp only
  rw [hcmp _ hm, Option.bind_some]
  by_cases h0 : Ky.cmpF t[r].key key = 0
  ·have he := (cmpF_zero _ _ (hlen _ hm)).1 h0
   refine .inl ⟨r, t[r], by rw [decide_eq_true h0], List.getElem?_eq_getElem hrl, ?_⟩
   rw [List.find?_eq_some_iff_getElem]
   refine ⟨decide_eq_true he, r, hrl, rfl, fun j hj => ?_⟩
   have h5 := h3 j (by omega) hj
   have : ¬ t[j].key = key := fun e => by
    have := (cmpF_zero _ _ (hlen _ (List.getElem_mem (show j < t.length by omega)))).2 e
    omega
   simpa using this
  ·refine .inr ⟨r, by rw [decide_eq_false h0], ?_⟩
   rw [List.find?_eq_none]
   intro x hx
   obtain ⟨j, hj, rfl⟩ := List.mem_iff_getElem.1 hx
   have hne : ¬ t[j].key = key := fun e => by
    have hz := (cmpF_zero _ _ (hlen _ hx)).2 e
    by_cases hjr : j < r
    ·have := h3 j hj hjr; omega
    ·by_cases hjr2 : j = r
     ·subst hjr2; exact h0 hz
     ·have h5 := hp r j hrl hj (by omega)
      rw [e] at h5
      exact h4 r hrl (Nat.le_refl _) ((cmpF_neg (hlen _ hm)).2 h5)
   simpa using hne
 ·rw [List.getElem?_eq_none (by omega)]
  refine .inr ⟨r, rfl, ?_⟩
  rw [List.find?_eq_none]
  intro x hx
  obtain ⟨j, hj, rfl⟩ := List.mem_iff_getElem.1 hx
  have hne : ¬ t[j].key = key := fun e => by
   have hz := (cmpF_zero _ _ (hlen _ hx)).2 e
   have := h3 j hj (by omega)
   omega
  simpa using hne
theorem laws_markEntryS_eq {l : List Ky.En} (h : l.length ≤ 1048576) (k : Int) (h0 : 0 ≤ k) (h1 : k ≤ 1099511627776000) : laws_markEntryS.f l k = some (k + 20 * (l.length : Int), laws_markEntryS.l l k) := by
 unfold laws_markEntryS.f
 rw [if_pos ⟨h, h0, h1⟩]
theorem laws_heldEntryS_go : ∀ (l : List Ky.En) (k : Int), laws_heldEntryS.go (laws_markEntryS.l l k) k = k + 20 * (l.length : Int)
 | [], k => by simp [laws_markEntryS.l, laws_heldEntryS.go]
 | x :: l, k => by
  unfold laws_markEntryS.l laws_heldEntryS.go
  rw [if_pos ⟨rfl, rfl, rfl, rfl, rfl⟩, laws_heldEntryS_go l (k + 20), List.length_cons]
  omega
theorem laws_heldEntryS_eq {l : List Ky.En} (h : l.length ≤ 1048576) (k : Int) (h0 : 0 ≤ k) (h1 : k ≤ 1073741824) : laws_heldEntryS.f (laws_markEntryS.l l k) k = some (k + 20 * (l.length : Int)) := by
 unfold laws_heldEntryS.f
 rw [if_pos ⟨by rw [laws_markEntryS.l_length]; exact h, h0, h1⟩, laws_heldEntryS_go]
theorem laws_szByteS_eq (l : List Int) (hl : l.length ≤ 9223372036854775807) (n : Int) (h0 : 0 ≤ n) (h1 : n ≤ 1048576) : laws_szByteS.f l n = some (if (l.length : Int) ≤ n then n - l.length else -1) := by
 unfold laws_szByteS.f
 rw [wid (n := n - l.length) (by omega) (by omega)]
 by_cases h : (l.length : Int) ≤ n
 ·rw [if_neg (by omega), if_pos h]
 ·rw [if_pos (by omega), if_neg h]
theorem laws_szByteSS_l0 (m : List (List Int)) (hl : m.length ≤ 9223372036854775807) (hm : ∀ a ∈ m, a.length ≤ 9223372036854775807) : ∀ (d i : Nat) (n : Int), i + d = m.length → 0 ≤ n → n ≤ 1048576 →
  ∃ r, Ev (fun k => laws_szByteSS.l0 k m n (i : Int)) r ∧ r ≤ n ∧ (0 ≤ r → ∀ a ∈ m.drop i, (a.length : Int) ≤ n) := by
 intro d
 induction d with
 | zero =>
  intro i n hi h0 h1
  refine ⟨n, ev_succ ?_, Int.le_refl _, fun _ a ha => ?_⟩
  ·simp only [laws_szByteSS.l0]
   exact ev_neg (by omega) (Ev.now _)
  ·rw [List.drop_eq_nil_of_le (by omega)] at ha
   simp at ha
 | succ d ih =>
  intro i n hi h0 h1
  have h : i < m.length := by omega
  have hr : rd_L1 m (i : Int) = m[i] := by
   unfold rd_L1
   exact getD_lt m [] h
  have ha := hm m[i] (List.getElem_mem h)
  by_cases hs : (m[i].length : Int) ≤ n
  ·obtain ⟨r, e, hr1, hr2⟩ := ih (i + 1) (n - m[i].length) (by omega) (by omega) (by omega)
   refine ⟨r, ev_succ ?_, by omega, fun hp a hx => ?_⟩
   ·simp only [laws_szByteSS.l0, hr, laws_szByteS_eq m[i] ha n h0 h1, if_pos hs, Option.bind_some]
    refine ev_pos (by omega) (ev_pos (by omega) (ev_neg (by omega) ?_))
    rw [wsucc (i := i) (by omega)]
    exact e
   ·rw [List.drop_eq_getElem_cons h] at hx
    rcases List.mem_cons.1 hx with rfl | hx
    ·exact hs
    ·have := hr2 hp a hx
     omega
  ·refine ⟨-1, ev_succ ?_, by omega, fun hp => by omega⟩
   simp only [laws_szByteSS.l0, hr, laws_szByteS_eq m[i] ha n h0 h1, if_neg hs, Option.bind_some]
   exact ev_pos (by omega) (ev_pos (by omega) (ev_pos (by omega) (Ev.now _)))
theorem laws_szByteSS_ev (m : List (List Int)) (hm : Row (Row U8) m) (n : Int) (h0 : 0 ≤ n) (h1 : n ≤ 1048576) : ∃ r, Ev (fun k => laws_szByteSS.f k m n) r ∧ r ≤ n ∧ (0 ≤ r → Small m) := by
 have hl := hm.1
 have hr : ∀ a ∈ m, a.length ≤ 9223372036854775807 := fun a ha => (hm.2 a ha).1
 simp only [laws_szByteSS.f]
 rw [wid (n := n - m.length) (by omega) (by omega)]
 by_cases h : (m.length : Int) ≤ n
 ·obtain ⟨r, e, hr1, hr2⟩ := laws_szByteSS_l0 m hl hr m.length 0 (n - m.length) (by omega) (by omega) (by omega)
  refine ⟨r, ev_neg (by omega) e, by omega, fun hp => ⟨by omega, fun a ha => ?_⟩⟩
  have := hr2 hp a (by simpa using ha)
  omega
 ·exact ⟨-1, ev_pos (by omega) (Ev.now _), by omega, fun hp => by omega⟩
theorem laws_szMemory_ev (m : List (List Int)) (hm : Row (Row U8) m) (n : Int) (h0 : 0 ≤ n) (h1 : n ≤ 1048576) : ∃ r, Ev (fun k => laws_szMemory.f k m n) r ∧ r ≤ n ∧ (0 ≤ r → Small m) := by
 obtain ⟨r, e, hr, hs⟩ := laws_szByteSS_ev m hm n h0 h1
 simp only [laws_szMemory.f]
 by_cases h : r < 0
 ·exact ⟨-1, ev_bind e (ev_pos h (Ev.now _)), by omega, fun hp => by omega⟩
 ·exact ⟨r, ev_bind e (ev_neg h (Ev.now _)), hr, hs⟩
theorem laws_toByteS_l0 (l : List Int) (hl : l.length ≤ 281474976710656) (x : List Int) (hx : x.length = l.length) : ∀ (d i : Nat), i + d = l.length → Ev (fun k => laws_toByteS.l0 k l (over l x i) (i : Int)) l := by
 intro d
 induction d with
 | zero =>
  intro i hi
  have e : over l x i = l := by rw [show i = l.length by omega]; exact over_all l x hx
  rw [e]
  refine ev_end (fun k => ?_)
  simp only [laws_toByteS.l0]
  rw [if_neg (by omega)]
 | succ d ih =>
  intro i hi
  refine Ev.step (fun k => ?_) (ih (i + 1) (by omega))
  simp only [laws_toByteS.l0]
  rw [if_pos (by omega), if_pos (by omega), if_pos (by rw [over_length l x i hx (by omega)]; omega), Int.toNat_natCast, rd_lt l (by omega : i < l.length), over_set l x i hx (by omega), wsucc (by omega)]
theorem laws_toByteS_ev (l : List Int) (hl : l.length ≤ 281474976710656) : Ev (fun k => laws_toByteS.f k l) l := by
 simp only [laws_toByteS.f]
 refine ev_pos (by omega) (ev_pos (by simpa using hl) ?_)
 have h := laws_toByteS_l0 l hl (List.replicate l.length 0) (by simp) l.length 0 (by omega)
 rw [over_zero] at h
 simpa using h
theorem laws_toByteSS_l0 (l : List (List Int)) (hl : Small l) (x : List (List Int)) (hx : x.length = l.length) : ∀ (d i : Nat), i + d = l.length → Ev (fun k => laws_toByteSS.l0 k l (over l x i) (i : Int)) l := by
 obtain ⟨hl, hs⟩ := hl
 intro d
 induction d with
 | zero =>
  intro i hi
  have e : over l x i = l := by rw [show i = l.length by omega]; exact over_all l x hx
  rw [e]
  refine ev_succ ?_
  simp only [laws_toByteSS.l0]
  exact ev_neg (by omega) (Ev.now _)
 | succ d ih =>
  intro i hi
  have h : i < l.length := by omega
  have hr : rd_L1 l (i : Int) = l[i] := by
   unfold rd_L1
   exact getD_lt l [] h
  refine ev_succ ?_
  simp only [laws_toByteSS.l0, hr]
  refine ev_pos (by omega) (ev_pos (by omega) (ev_bind (laws_toByteS_ev l[i] (by have := hs l[i] (List.getElem_mem h); omega)) (ev_pos (by rw [over_length l x i hx (by omega)]; omega) ?_)))
  rw [Int.toNat_natCast, over_set l x i hx h, wsucc (by omega)]
  exact ih (i + 1) (by omega)
theorem laws_toByteSS_ev (l : List (List Int)) (hl : Small l) : Ev (fun k => laws_toByteSS.f k l) l := by
 have h1 := hl.1
 simp only [laws_toByteSS.f]
 refine ev_pos (by omega) (ev_pos (by simp only [Int.toNat_natCast]; omega) ?_)
 have h := laws_toByteSS_l0 l hl (List.replicate l.length []) (by simp) l.length 0 (by omega)
 rw [over_zero] at h
 simpa using h
theorem laws_toMemory_ev (l : List (List Int)) (hl : Small l) : Ev (fun k => laws_toMemory.f k l) l := by
 simp only [laws_toMemory.f]
 exact ev_bind (laws_toByteSS_ev l hl) (Ev.now _)
theorem laws_eqByteS_l0 (a b : List Int) (hl : a.length = b.length) (hb : a.length ≤ 281474976710656) : ∀ (d i : Nat), i + d = a.length → Ev (fun k => laws_eqByteS.l0 k a b (i : Int)) (decide (a.drop i = b.drop i)) := by
 intro d
 induction d with
 | zero =>
  intro i hi
  have e1 : a.drop i = [] := List.drop_eq_nil_of_le (by omega)
  have e2 : b.drop i = [] := List.drop_eq_nil_of_le (by omega)
  rw [e1, e2]
  refine ev_end (fun k => ?_)
  simp only [laws_eqByteS.l0]
  rw [if_neg (by omega)]
  rfl
 | succ d ih =>
  intro i hi
  have ha : i < a.length := by omega
  have hb2 : i < b.length := by omega
  rw [List.drop_eq_getElem_cons ha, List.drop_eq_getElem_cons hb2]
  by_cases h : a[i] = b[i]
  ·refine ev_eq (Ev.step (fun k => ?_) (ih (i + 1) (by omega))) ?_
   ·simp only [laws_eqByteS.l0]
    rw [if_pos (by omega), if_pos (by omega), if_pos (by omega), rd_lt a ha, rd_lt b hb2, if_pos h, wsucc (by omega)]
   ·rw [h]; exact decide_eq_decide.mpr ⟨fun e => by rw [e], fun e => (List.cons.inj e).2⟩
  ·refine ev_eq (ev_end (r := false) (fun k => ?_)) (decide_eq_false (fun e => h (List.cons.inj e).1)).symm
   simp only [laws_eqByteS.l0]
   rw [if_pos (by omega), if_pos (by omega), if_pos (by omega), rd_lt a ha, rd_lt b hb2, if_neg h]
theorem laws_eqByteS_ev (a b : List Int) (hb : a.length ≤ 281474976710656) : Ev (fun k => laws_eqByteS.f k a b) (decide (a = b)) := by
 simp only [laws_eqByteS.f]
 by_cases h : a.length = b.length
 ·refine ev_pos (by omega) ?_
  have := laws_eqByteS_l0 a b h hb a.length 0 (by omega)
  simpa using this
 ·refine ev_neg (by omega) ?_
  have : ¬ a = b := fun e => h (by rw [e])
  rw [decide_eq_false this]
  exact Ev.now _
theorem laws_eqByteSS_l0 (l : List (List Int)) (hl : Small l) : ∀ (d i : Nat), i + d = l.length → Ev (fun k => laws_eqByteSS.l0 k l l (i : Int)) true := by
 obtain ⟨hl, hs⟩ := hl
 intro d
 induction d with
 | zero =>
  intro i hi
  refine ev_succ ?_
  simp only [laws_eqByteSS.l0]
  exact ev_neg (by omega) (Ev.now _)
 | succ d ih =>
  intro i hi
  have h : i < l.length := by omega
  have hr : rd_L1 l (i : Int) = l[i] := by
   unfold rd_L1
   exact getD_lt l [] h
  refine ev_succ ?_
  simp only [laws_eqByteSS.l0, hr]
  refine ev_pos (by omega) (ev_pos (by omega) (ev_pos (by omega) (ev_bind (laws_eqByteS_ev l[i] l[i] (by have := hs l[i] (List.getElem_mem h); omega)) (ev_pos (by simp) ?_))))
  rw [wsucc (by omega)]
  exact ih (i + 1) (by omega)
theorem laws_eqMemory_ev (l : List (List Int)) (hl : Small l) : Ev (fun k => laws_eqMemory.f k l l) true := by
 simp only [laws_eqMemory.f, laws_eqByteSS.f]
 have := laws_eqByteSS_l0 l hl l.length 0 (by omega)
 exact ev_bind (ev_pos (by first | trivial | rfl) (by simpa using this)) (ev_pos (by first | trivial | rfl) (Ev.now _))
theorem laws_markByteS_l0 (n : Nat) (hn : n ≤ 281474976710656) : ∀ (d i : Nat) (x : List Int) (k0 : Int), i + d = n → x.length = n → 0 ≤ k0 → k0 + d ≤ 4611686018427387904 → Ev (fun k => laws_markByteS.l0 k x k0 (i : Int)) (k0 + d, x.take i ++ marks k0 d) := by
 intro d
 induction d with
 | zero =>
  intro i x k0 hi hx h0 h1
  refine ev_eq (ev_end (r := (k0, x)) (fun k => ?_)) ?_
  ·simp only [laws_markByteS.l0]
   rw [if_neg (by omega)]
  ·rw [List.take_of_length_le (by omega)]
   simp [marks]
 | succ d ih =>
  intro i x k0 hi hx h0 h1
  refine ev_eq (Ev.step (fun k => ?_) (ih (i + 1) (x.set i (k0 % 256)) (k0 + 1) (by omega) (by simpa using hx) (by omega) (by omega))) ?_
  ·simp only [laws_markByteS.l0]
   rw [if_pos (by omega), if_pos (by omega), Int.toNat_natCast, wid (n := k0 + 1) (by omega) (by omega), wsucc (by omega)]
  ·refine Prod.ext ?_ ?_
   ·simp; omega
   ·show (x.set i (k0 % 256)).take (i + 1) ++ marks (k0 + 1) d = x.take i ++ marks k0 (d + 1)
    rw [List.take_succ_eq_append_getElem (by simp; omega)]
    simp [marks, List.take_set]
    exact List.set_eq_of_length_le (by rw [List.length_take]; omega)
theorem laws_markByteS_ev (x : List Int) (k0 : Int) (hn : x.length ≤ 281474976710656) (h0 : 0 ≤ k0) (h1 : k0 + x.length ≤ 4611686018427387904) : Ev (fun k => laws_markByteS.f k x k0) (k0 + x.length, marks k0 x.length) := by
 simp only [laws_markByteS.f]
 have := laws_markByteS_l0 x.length hn x.length 0 x k0 (by omega) rfl h0 h1
 simpa using this
theorem laws_markByteSS_l0 (m : List (List Int)) (hm : Small m) : ∀ (d i : Nat) (k0 : Int), i + d = m.length → 0 ≤ k0 → k0 + d * 1048576 ≤ 2305843009213693952 → ∃ r, Ev (fun k => laws_markByteSS.l0 k m k0 (i : Int)) r ∧ k0 ≤ r ∧ r ≤ k0 + d * 1048576 := by
 intro d
 induction d with
 | zero =>
  intro i k0 hi h0 h1
  exact ⟨k0, ev_end (fun k => by simp only [laws_markByteSS.l0]; rw [if_neg (by omega)]), by omega, by omega⟩
 | succ d ih =>
  intro i k0 hi h0 h1
  have h : i < m.length := by omega
  have hl := hm.2 m[i] (List.getElem_mem h)
  have hlen := hm.1
  have hr : rd_L1 m (i : Int) = m[i] := by
   unfold rd_L1
   exact getD_lt m _ h
  obtain ⟨r, e, h2, h3⟩ := ih (i + 1) (k0 + m[i].length) (by omega) (by omega) (by omega)
  refine ⟨r, ev_succ ?_, by omega, by omega⟩
  simp only [laws_markByteSS.l0, hr]
  refine ev_pos (by omega) (ev_pos (by omega) (ev_bind (laws_markByteS_ev m[i] k0 (by omega) h0 (by omega)) ?_))
  rw [wsucc (by omega)]
  exact e
theorem laws_markMemory_ev (m : List (List Int)) (hm : Small m) : ∃ r, Ev (fun k => laws_markMemory.f k m 1) r ∧ 1 ≤ r ∧ r ≤ 1099511627777 := by
 have hlen := hm.1
 obtain ⟨r, e, h1, h2⟩ := laws_markByteSS_l0 m hm m.length 0 1 (by omega) (by omega) (by omega)
 exact ⟨r, e, by omega, by omega⟩
def dropE (m : List (List Int)) (t : List Ky.En) (key : List Int) : List Ky.En × Bool :=
 if isTab m t = true then (if Ky.findF key 0 t < 0 then ([], false) else (t.take (Ky.findF key 0 t).toNat ++ t.drop ((Ky.findF key 0 t).toNat + 1), true)) else ([], false)
theorem findF_lt (key : List Int) (t : List Ky.En) : Ky.findF key 0 t < (t.length : Int) := by
 rcases findF_spec key t 0 with ⟨h1, _⟩ | ⟨j, x, h1, _, h3⟩
 ·rw [h1]; omega
 ·rw [h3]
  have := (List.getElem?_eq_some_iff.1 h1).1
  omega
theorem spec_DropEntry_ev (m : List (List Int)) (hm : m.length ≤ 1048576) (t : List Ky.En) (ht : t.length ≤ 1048576) (key : List Int) : Ev (fun k => spec_DropEntry.f k m t key) (dropE m t key) := by
 simp only [spec_DropEntry.f, dropE, spec_l9Find.f]
 refine ev_pos ht (ev_bind (spec_l9Table_ev m hm t ht) ?_)
 cases hb : isTab m t with
 | false => exact ev_neg (by decide) (Ev.now _)
 | true =>
  refine ev_pos rfl (ev_now fun _ => ?_)
  rw [if_pos ht, Option.bind_some, if_pos rfl]
  by_cases h : Ky.findF key 0 t < 0
  ·rw [if_pos h, if_pos h]
  ·rw [if_neg h, if_neg h, if_pos (findF_lt key t)]
theorem tab_uniq {m : List (List Int)} {t : List Ky.En} (h : tabD m none t = true) {i j : Nat} {x : Ky.En} (hi : t[i]? = some x) (hj : t[j]? = some x) : i = j := by
 have hp := List.pairwise_iff_getElem.1 (tab_pairwise t none h).2
 obtain ⟨h1, h2⟩ := List.getElem?_eq_some_iff.1 hi
 obtain ⟨h3, h4⟩ := List.getElem?_eq_some_iff.1 hj
 rcases Nat.lt_trichotomy i j with hlt | hlt | hlt
 ·have := hp i j h1 h3 hlt
  rw [h2, h4, lessF_irrefl] at this
  cases this
 ·exact hlt
 ·have := hp j i h3 h1 hlt
  rw [h2, h4, lessF_irrefl] at this
  cases this
theorem impl_DropEntry_ev (m : List (List Int)) (hm : m.length ≤ 1048576) (t : List Ky.En) (hr : Row Ky.okEn t) (ht : t.length ≤ 1048576) (key : List Int) (hk : Ky.Key key) (ko : Ky.okKey key) : Ev (fun k => impl_DropEntry.f k m t key) (dropE m t key) := by
 simp only [impl_DropEntry.f, dropE]
 refine ev_pos ht (ev_bind (impl_isTable_ev m hm t hr ht) ?_)
 cases hb : isTab m t with
 | false => exact ev_neg (by decide) (Ev.now _)
 | true =>
  refine ev_pos rfl (ev_now fun _ => ?_)
  rw [if_pos rfl]
  unfold isTab at hb
  rw [Bool.and_eq_true] at hb
  rcases impl_entryAt_spec ht hr.2 hk ko hb.1 with ⟨r, x, h1, h2, h3⟩ | ⟨r, h1, h2⟩
  ·rcases findF_spec key t 0 with ⟨_, h5⟩ | ⟨j, y, h4, h5, h6⟩
   ·rw [h3] at h5; cases h5
   ·obtain rfl : x = y := by rw [h3] at h5; exact Option.some.inj h5
    obtain rfl := tab_uniq hb.1 h2 h4
    have hrl := (List.getElem?_eq_some_iff.1 h2).1
    rw [h1, Option.bind_some]
    dsimp only
    rw [if_pos rfl, if_pos (by omega), h6, if_neg (by omega), Nat.zero_add]
  ·rcases findF_spec key t 0 with ⟨h4, _⟩ | ⟨j, y, _, h5, _⟩
   ·rw [h1, Option.bind_some]
    dsimp only
    rw [if_neg (by decide), h4, if_pos (by decide)]
   ·rw [h2] at h5; cases h5
theorem dropE_length {m : List (List Int)} {t : List Ky.En} (ht : t.length ≤ 1048576) (key : List Int) : (dropE m t key).1.length ≤ 1048576 := by
 unfold dropE
 by_cases h : isTab m t = true
 ·rw [if_pos h]
  by_cases h2 : Ky.findF key 0 t < 0
  ·rw [if_pos h2]; exact Nat.zero_le _
  ·rw [if_neg h2]
   show (t.take _ ++ t.drop _).length ≤ _
   rw [List.length_append, List.length_take, List.length_drop]
   omega
 ·rw [if_neg h]
  exact Nat.zero_le _
theorem FnExactDropEntry : laws_FnExactDropEntry.Pure := by
 intro m t key hm hr hk ko
 refine Ev.rounds ?_
 obtain ⟨r, e, hr1, hs⟩ := laws_szMemory_ev m hm 1048576 (by omega) (by omega)
 simp only [laws_FnExactDropEntry.f]
 refine ev_bind e ?_
 by_cases h : r < 0
 ·exact ev_pos h (Ev.now _)
 have hsm := hs (by omega)
 refine ev_neg h ?_
 obtain ⟨r2, e2, hr2⟩ := laws_szEntryS_eq t hr.1 r (by omega) (by omega)
 refine ev_bind (ev_now fun _ => e2) ?_
 by_cases h2 : r2 < 0
 ·exact ev_pos h2 (Ev.now _)
 have ht : t.length ≤ 1048576 := by omega
 refine ev_neg h2 ?_
 have sp := spec_DropEntry_ev m hsm.1 t ht key
 have im := impl_DropEntry_ev m hsm.1 t hr ht key hk ko
 have fl := dropE_length (m := m) ht key
 generalize dropE m t key = q at sp im fl
 obtain ⟨x, b⟩ := q
 replace fl : x.length ≤ 1048576 := fl
 obtain ⟨mr, em, hmr, _⟩ := laws_markMemory_ev m hsm
 simp only [laws_toEntryS_eq ht, laws_eqEntryS_self ht, laws_toByteA16.f, Option.bind_some]
 refine ev_bind (laws_toMemory_ev m hsm) ?_
 refine ev_bind sp ?_
 refine ev_bind im ?_
 refine ev_bind (ev_now fun _ => laws_eqEntryS_self fl) ?_
 refine ev_bind (laws_eqMemory_ev m hsm) ?_
 refine ev_bind (a := mr) em ?_
 refine ev_bind (ev_now fun _ => laws_markEntryS_eq ht mr (by omega) (by omega)) ?_
 refine ev_bind (ev_now fun _ => laws_markEntryS_eq fl 1 (by omega) (by omega)) ?_
 refine ev_bind (ev_now fun _ => laws_heldEntryS_eq fl 1 (by omega) (by omega)) ?_
 exact ev_pos ⟨rfl, rfl, trivial, rfl, by omega, by omega, rfl⟩ (Ev.now _)
end Go.Proofs.Ytkifenbcepicjaa.Pure
