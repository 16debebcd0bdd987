/- What is proved here: the plain statement of the law FnExactKeyAt, over numbers and lists. No condition beyond those that it states. -/
import Derived.Test.YtldkbeccpheckaaQFnExactKeyAt
import Derived.Test.YtldkbeccpheckaaTk
namespace Go.Proofs.Ytldkbeccpheckaa.Pure
open Go.RowKit Go.Proofs.Ytldkbeccpheckaa.PFnExactKeyAt Go.Proofs.YtldkbeccpheckaaW.PrintWords Go.Proofs.YtldkbeccpheckaaW.PrintMore Go.Proofs.Ytldkbeccpheckaa.Tk Go.Proofs.Ytldkbeccpheckaa.Opn
set_option linter.unusedVariables false
set_option linter.unusedSimpArgs false
def Sizes (m : List (List Int)) : Prop := ∀ a ∈ m, 1 ≤ a.length ∧ a.length ≤ 64
instance (m : List (List Int)) : Decidable (Sizes m) := by unfold Sizes; exact inferInstance
theorem Sizes.nil : Sizes [] := fun a ha => by simp at ha
theorem Sizes.cons {a : List Int} {m : List (List Int)} (h : (1 : Int) ≤ (a.length : Int) ∧ (a.length : Int) ≤ 64) (k : Sizes m) : Sizes (a :: m) := fun b hb => by
 rcases List.mem_cons.1 hb with rfl | hb
 ·omega
 ·exact k b hb
theorem Sizes.head {a : List Int} {m : List (List Int)} (k : Sizes (a :: m)) : (1 : Int) ≤ (a.length : Int) ∧ (a.length : Int) ≤ 64 := by
 have := k a List.mem_cons_self
 omega
theorem Sizes.tail {a : List Int} {m : List (List Int)} (k : Sizes (a :: m)) : Sizes m := fun b hb => k b (List.mem_cons_of_mem _ hb)
def MemOK (m : List (List Int)) : Prop := m.length ≤ 16 ∧ Sizes m
instance (m : List (List Int)) : Decidable (MemOK m) := by unfold MemOK; exact inferInstance
def arr_ (m : List (List Int)) (a : Int) : List Int := m.getD a.toNat []
def WinOK (m : List (List Int)) (a s l c : Int) : Prop := MemOK m ∧ 0 ≤ a ∧ a < (m.length : Int) ∧ 0 ≤ s ∧ 0 ≤ l ∧ l ≤ c ∧ s + c ≤ ((arr_ m a).length : Int)
instance (m : List (List Int)) (a s l c : Int) : Decidable (WinOK m a s l c) := by unfold WinOK; exact inferInstance
def Small (m : List (List Int)) : Prop := m.length ≤ 1048576 ∧ ∀ a ∈ m, a.length ≤ 1048576
theorem arr_mem {m : List (List Int)} {a : Int} (h0 : 0 ≤ a) (h1 : a < (m.length : Int)) : arr_ m a ∈ m := by
 unfold arr_
 rw [getD_lt m [] (by omega : a.toNat < m.length)]
 exact List.getElem_mem _
theorem arr_size {m : List (List Int)} (hm : MemOK m) {a : Int} (h0 : 0 ≤ a) (h1 : a < (m.length : Int)) : 1 ≤ (arr_ m a).length ∧ (arr_ m a).length ≤ 64 := hm.2 _ (arr_mem h0 h1)
theorem MemOK.small {m : List (List Int)} (hm : MemOK m) : Small m := ⟨by have := hm.1; omega, fun a ha => by have := hm.2 a ha; omega⟩
theorem WinOK.bounds {m : List (List Int)} {a s l c : Int} (h : WinOK m a s l c) : MemOK m ∧ 0 ≤ a ∧ a < 16 ∧ a < (m.length : Int) ∧ 0 ≤ s ∧ s ≤ 64 ∧ 0 ≤ l ∧ l ≤ c ∧ c ≤ 64 ∧ s + c ≤ ((arr_ m a).length : Int) ∧ ((arr_ m a).length : Int) ≤ 64 := by
 obtain ⟨hm, h0, h1, h2, h3, h4, h5⟩ := h
 have := arr_size hm h0 h1
 have := hm.1
 refine ⟨hm, h0, by omega, h1, h2, by omega, h3, h4, by omega, h5, by omega⟩
theorem dec_false {p : Prop} [Decidable p] (h : ¬ p) : some false = some (decide p) := by rw [decide_eq_false h]
def bytes (m : List (List Int)) (a s l : Int) : List Int := ((arr_ m a).take (s + l).toNat).drop s.toNat
theorem bytes_length {m : List (List Int)} {a s l c : Int} (h : WinOK m a s l c) : ((bytes m a s l).length : Int) = l := by
 have hb := h.bounds
 unfold bytes
 rw [List.length_drop, List.length_take]
 omega
theorem bytes_rd {m : List (List Int)} {a s l c : Int} (h : WinOK m a s l c) {i : Int} (h0 : 0 ≤ i) (h1 : i < l) : rd (bytes m a s l) i = rd (arr_ m a) (s + i) := by
 have hb := h.bounds
 unfold bytes rd
 rw [List.getD_eq_getElem?_getD, List.getD_eq_getElem?_getD, List.getElem?_drop, List.getElem?_take, if_pos (by omega)]
 congr 2
 omega
def slot (l f i : Int) : Int := (f + i) % l
theorem slot_range {l f i : Int} (h : 0 < l) : 0 ≤ slot l f i ∧ slot l f i < l := ⟨Int.emod_nonneg _ (by omega), Int.emod_lt_of_pos _ h⟩
theorem tmod_slot {l f i : Int} (h0 : 0 ≤ f) (h1 : 0 ≤ i) (h2 : f ≤ 1048576) (h3 : i ≤ 1048576) : Int.tmod (wrap64 (f + i)) l = slot l f i := by
 rw [wid (by omega) (by omega), Int.tmod_eq_emod_of_nonneg (by omega)]
 rfl
theorem spec_l1In_eq (a b c : Int) : spec_l1In.f a b c = some (decide (b ≤ a ∧ a ≤ c)) := by
 unfold spec_l1In.f
 by_cases h : a ≥ b
 ·rw [if_pos h]
  congr 1
  exact decide_eq_decide.mpr ⟨fun x => ⟨h, x⟩, fun x => x.2⟩
 ·rw [if_neg h]
  exact dec_false (fun x => h x.1)
theorem spec_l2Memory_l0 (m : List (List Int)) (hm : m.length ≤ 1048576) : ∀ (d i : Nat), i + d = m.length → Ev (fun k => spec_l2Memory.l0 k (i : Int) m) (decide (m.length ≤ 16 ∧ Sizes (m.drop i))) := by
 intro d
 induction d with
 | zero =>
  intro i hi
  have e : m.drop i = [] := List.drop_eq_nil_of_le (by omega)
  refine ev_succ (ev_eq (r := decide ((m.length : Int) ≤ 16)) ?_ ?_)
  ·simp only [spec_l2Memory.l0]
   refine ev_neg (by omega) (ev_succ ?_)
   simp only [spec_l2Memory.j1]
   exact ev_neg (by decide) (Ev.now _)
  ·rw [e]
   exact decide_eq_decide.mpr ⟨fun h => ⟨by omega, Sizes.nil⟩, fun h => by have := h.1; omega⟩
 | succ d ih =>
  intro i hi
  have h : i < m.length := by omega
  refine ev_succ ?_
  simp only [spec_l2Memory.l0]
  refine ev_pos (by omega) (ev_succ ?_)
  by_cases h16 : (i : Int) ≤ 16
  ·simp only [spec_l2Memory.j1, decide_eq_true h16]
   refine ev_pos (by first | trivial | rfl) (ev_pos (by omega) (ev_pos (by omega) ?_))
   have hr : rd_L1 m (i : Int) = m[i] := by
    unfold rd_L1
    exact getD_lt m [] h
   simp only [spec_l1In_eq, hr, Option.bind_some, decide_eq_true_eq]
   by_cases hs : (1 : Int) ≤ (m[i].length : Int) ∧ (m[i].length : Int) ≤ 64
   ·refine ev_pos hs (ev_eq (r := decide (m.length ≤ 16 ∧ Sizes (m.drop (i + 1)))) ?_ ?_)
    ·have := ih (i + 1) (by omega)
     rw [← wsucc (i := i) (by omega)] at this
     exact this
    ·rw [List.drop_eq_getElem_cons h]
     exact decide_eq_decide.mpr ⟨fun x => ⟨x.1, x.2.cons hs⟩, fun x => ⟨x.1, x.2.tail⟩⟩
   ·refine ev_neg hs (ev_eq (Ev.now false) ?_)
    rw [List.drop_eq_getElem_cons h]
    exact (decide_eq_false (fun x => hs x.2.head)).symm
  ·simp only [spec_l2Memory.j1, decide_eq_false h16]
   refine ev_neg (by decide) (ev_eq (Ev.now (decide ((m.length : Int) ≤ 16))) ?_)
   exact decide_eq_decide.mpr ⟨fun x => by omega, fun x => by have := x.1; omega⟩
theorem spec_l2Memory_ev (m : List (List Int)) (hm : m.length ≤ 1048576) : Ev (fun k => spec_l2Memory.f k m) (decide (MemOK m)) := by
 simp only [spec_l2Memory.f]
 have := spec_l2Memory_l0 m hm m.length 0 (by omega)
 rw [List.drop_zero] at this
 exact this
theorem spec_l2Window_ev (m : List (List Int)) (hm : m.length ≤ 1048576) (a s l c : Int) : Ev (fun k => spec_l2Window.f k m a s l c) (decide (WinOK m a s l c)) := by
 simp only [spec_l2Window.f, spec_l1In_eq, Option.bind_some]
 refine ev_bind (spec_l2Memory_ev m hm) ?_
 by_cases h : MemOK m
 ·refine ev_pos (decide_eq_true h) (ev_succ ?_)
  have hl := h.1
  simp only [spec_l2Window.j0]
  rw [wid (n := (m.length : Int) - 1) (by omega) (by omega)]
  by_cases h1 : 0 ≤ a ∧ a ≤ (m.length : Int) - 1
  ·have hz := arr_size h h1.1 (by omega)
   have hr : rd_L1 m a = arr_ m a := rfl
   simp only [decide_eq_true h1, spec_l1In_eq, Option.bind_some, hr, decide_eq_true_eq]
   refine ev_neg (by decide) (ev_pos h1.1 (ev_pos (by omega) ?_))
   by_cases h2 : 0 ≤ s ∧ s ≤ ((arr_ m a).length : Int)
   ·refine ev_pos h2 ?_
    rw [wid (n := ((arr_ m a).length : Int) - s) (by omega) (by omega)]
    by_cases h3 : 0 ≤ c ∧ c ≤ ((arr_ m a).length : Int) - s
    ·refine ev_pos h3 (ev_eq (Ev.now _) (decide_eq_decide.mpr ⟨fun x => ⟨h, by omega⟩, fun x => ⟨x.2.2.2.2.1, x.2.2.2.2.2.1⟩⟩))
    ·refine ev_neg h3 (ev_eq (Ev.now _) (decide_eq_false (fun x => h3 ?_)).symm)
     obtain ⟨_, x⟩ := x
     omega
   ·refine ev_neg h2 (ev_eq (Ev.now _) (decide_eq_false (fun x => h2 ?_)).symm)
    obtain ⟨_, x⟩ := x
    omega
  ·simp only [decide_eq_false h1]
   refine ev_pos (by first | trivial | rfl) (ev_eq (Ev.now _) (decide_eq_false (fun x => h1 ?_)).symm)
   obtain ⟨_, x⟩ := x
   omega
 ·refine ev_neg (by rw [decide_eq_false h]; decide) (ev_succ ?_)
  simp only [spec_l2Window.j0]
  exact ev_pos (by first | trivial | rfl) (ev_eq (Ev.now _) (decide_eq_false (fun x => h x.1)).symm)
theorem spec_l2At_eq {m : List (List Int)} {a s l c : Int} (h : WinOK m a s l c) {i : Int} (h0 : 0 ≤ i) (h1 : i < l) : spec_l2At.f m a s l c i = some (rd (bytes m a s l) i) := by
 have hb := h.bounds
 have hr : rd_L1 m a = arr_ m a := rfl
 rw [bytes_rd h h0 h1]
 unfold spec_l2At.f
 rw [wid (n := s + i) (by omega) (by omega), hr, if_pos (by omega), if_pos (by omega), if_pos (by omega), if_pos (by omega)]
def WinAt (m : List (List Int)) (w : S33) : Prop := WinOK m w.f0 w.f1 w.f2 w.f3
instance (m : List (List Int)) (w : S33) : Decidable (WinAt m w) := by unfold WinAt; exact inferInstance
def AllOn (m : List (List Int)) : List S33 → Prop
 | [] => True
 | w :: ws => WinAt m w ∧ AllOn m ws
instance allOnDec (m : List (List Int)) : (ws : List S33) → Decidable (AllOn m ws)
 | [] => isTrue trivial
 | w :: ws => by
  haveI := allOnDec m ws
  unfold AllOn
  exact inferInstance
theorem AllOn.mem {m : List (List Int)} : ∀ {ws : List S33}, AllOn m ws → ∀ w ∈ ws, WinAt m w
 | [], _, w, hw => by simp at hw
 | x :: ws, h, w, hw => by
  rcases List.mem_cons.1 hw with rfl | hw
  ·exact h.1
  ·exact AllOn.mem h.2 w hw
theorem AllOn.of {m : List (List Int)} : ∀ {ws : List S33}, (∀ w ∈ ws, WinAt m w) → AllOn m ws
 | [], _ => trivial
 | x :: ws, h => ⟨h x List.mem_cons_self, AllOn.of (fun w hw => h w (List.mem_cons_of_mem _ hw))⟩
theorem AllOn.drop {m : List (List Int)} {ws : List S33} (h : AllOn m ws) (i : Nat) : AllOn m (ws.drop i) := AllOn.of (fun w hw => h.mem w (List.mem_of_mem_drop hw))
theorem rdW {ws : List S33} {i : Nat} (h : i < ws.length) : rd_T33 ws (i : Int) = ws[i] := by
 unfold rd_T33
 exact getD_lt ws _ h
theorem impl_within_eq (a b c : Int) : impl_within.f a b c = some (decide (b ≤ a ∧ a ≤ c)) := by
 unfold impl_within.f
 by_cases h : a ≥ b
 ·rw [if_pos h]
  congr 1
  exact decide_eq_decide.mpr ⟨fun x => ⟨h, x⟩, fun x => x.2⟩
 ·rw [if_neg h]
  exact dec_false (fun x => h x.1)
theorem impl_Memory_hasWindow_eq (m : List (List Int)) (h : MemOK m) (a s l c : Int) : impl_Memory_hasWindow.f m a s l c = some (decide (WinOK m a s l c)) := by
 have hl := h.1
 simp only [impl_Memory_hasWindow.f, impl_Memory_hasArray.f, impl_within_eq, Option.bind_some, decide_eq_true_eq]
 rw [wid (n := (m.length : Int) - 1) (by omega) (by omega)]
 by_cases h1 : 0 ≤ a ∧ a ≤ (m.length : Int) - 1
 ·have hz := arr_size h h1.1 (by omega)
  have hr : rd_L1 m a = arr_ m a := rfl
  rw [if_pos h1, hr]
  by_cases h2 : 0 ≤ c ∧ c ≤ 64
  ·rw [if_pos h2]
   by_cases h3 : 0 ≤ l ∧ l ≤ c
   ·rw [if_pos h3, if_pos h1.1, if_pos (by omega), wid (n := ((arr_ m a).length : Int) - c) (by omega) (by omega)]
    congr 1
    exact decide_eq_decide.mpr ⟨fun x => ⟨h, by omega⟩, fun x => by obtain ⟨_, x⟩ := x; omega⟩
   ·rw [if_neg h3]
    exact dec_false (fun x => h3 (by obtain ⟨_, x⟩ := x; omega))
  ·rw [if_neg h2]
   exact dec_false (fun x => h2 (by obtain ⟨_, x⟩ := x; omega))
 ·rw [if_neg h1]
  exact dec_false (fun x => h1 (by obtain ⟨_, x⟩ := x; omega))
theorem impl_IsMemory_l0 (m : List (List Int)) (hm : m.length ≤ 1048576) : ∀ (d i : Nat), i + d = m.length → Ev (fun k => impl_IsMemory.l0 k m (m.length : Int) (i : Int) m) (decide (m.length ≤ 16 ∧ Sizes (m.drop i))) := by
 intro d
 induction d with
 | zero =>
  intro i hi
  have e : m.drop i = [] := List.drop_eq_nil_of_le (by omega)
  refine ev_succ (ev_eq (r := decide ((m.length : Int) ≤ 16)) ?_ ?_)
  ·simp only [impl_IsMemory.l0]
   exact ev_neg (by omega) (Ev.now _)
  ·rw [e]
   exact decide_eq_decide.mpr ⟨fun h => ⟨by omega, Sizes.nil⟩, fun h => by have := h.1; omega⟩
 | succ d ih =>
  intro i hi
  have h : i < m.length := by omega
  refine ev_succ ?_
  simp only [impl_IsMemory.l0]
  refine ev_pos (by omega) (ev_pos (by omega) (ev_pos (by omega) ?_))
  have hr : rd_L1 m (i : Int) = m[i] := by
   unfold rd_L1
   exact getD_lt m [] h
  simp only [impl_within_eq, hr, Option.bind_some, decide_eq_true_eq]
  by_cases hs : (1 : Int) ≤ (m[i].length : Int) ∧ (m[i].length : Int) ≤ 64
  ·refine ev_pos hs (ev_eq (r := decide (m.length ≤ 16 ∧ Sizes (m.drop (i + 1)))) ?_ ?_)
   ·have := ih (i + 1) (by omega)
    rw [← wsucc (i := i) (by omega)] at this
    exact this
   ·rw [List.drop_eq_getElem_cons h]
    exact decide_eq_decide.mpr ⟨fun x => ⟨x.1, x.2.cons hs⟩, fun x => ⟨x.1, x.2.tail⟩⟩
  ·refine ev_neg hs (ev_eq (Ev.now false) ?_)
   rw [List.drop_eq_getElem_cons h]
   exact (decide_eq_false (fun x => hs x.2.head)).symm
theorem impl_IsMemory_ev (m : List (List Int)) (hm : m.length ≤ 1048576) : Ev (fun k => impl_IsMemory.f k m) (decide (MemOK m)) := by
 simp only [impl_IsMemory.f]
 have := impl_IsMemory_l0 m hm m.length 0 (by omega)
 rw [List.drop_zero] at this
 exact this
theorem impl_areOn_any (m : List (List Int)) (h : MemOK m) : ∀ ws : List S33, Opn.anyO (fun x => (impl_Memory_hasWindow.f m x.f0 x.f1 x.f2 x.f3).bind fun b => some (!b)) ws = some (!decide (AllOn m ws))
 | [] => rfl
 | w :: ws => by
  unfold Opn.anyO
  rw [impl_Memory_hasWindow_eq m h, Option.bind_some, Option.bind_some, impl_areOn_any m h ws]
  by_cases hw : WinOK m w.f0 w.f1 w.f2 w.f3
  ·rw [decide_eq_true hw, if_neg (by decide)]
   congr 2
   exact decide_eq_decide.mpr ⟨fun x => ⟨hw, x⟩, fun x => x.2⟩
  ·rw [decide_eq_false hw, if_pos (by decide), decide_eq_false (fun x : AllOn m (w :: ws) => hw x.1)]
   rfl
theorem impl_areOn_ev (m : List (List Int)) (hm : m.length ≤ 1048576) (ws : List S33) : Ev (fun k => impl_areOn.f k m ws) (decide (MemOK m ∧ AllOn m ws)) := by
 simp only [impl_areOn.f]
 refine ev_bind (impl_IsMemory_ev m hm) ?_
 by_cases h : MemOK m
 ·refine ev_pos (decide_eq_true h) (ev_now (fun k => ?_))
  rw [impl_areOn_any m h, Option.bind_some, Bool.not_not]
  congr 1
  exact decide_eq_decide.mpr ⟨fun x => ⟨h, x⟩, fun x => x.2⟩
 ·exact ev_neg (by rw [decide_eq_false h]; decide) (ev_eq (Ev.now _) (decide_eq_false (fun x => h x.1)).symm)
theorem impl_areOn1_ev (m : List (List Int)) (hm : m.length ≤ 1048576) (a s l c : Int) : Ev (fun k => impl_areOn.f k m [(⟨a, s, l, c⟩ : S33)]) (decide (WinOK m a s l c)) :=
 ev_eq (impl_areOn_ev m hm _) (decide_eq_decide.mpr ⟨fun x => x.2.1, fun x => ⟨x.1, x, trivial⟩⟩)
theorem laws_szByteS_eq (l : List Int) (hl : l.length ≤ 9223372036854775807) (n : Int) (h0 : 0 ≤ n) (h1 : n ≤ 1048576) : laws_szByteS.f l n = some (if (l.length : Int) ≤ n then n - l.length else -1) := by
 unfold laws_szByteS.f
 rw [wid (n := n - l.length) (by omega) (by omega)]
 by_cases h : (l.length : Int) ≤ n
 ·rw [if_neg (by omega), if_pos h]
 ·rw [if_pos (by omega), if_neg h]
theorem laws_szByteSS_l0 (m : List (List Int)) (hl : m.length ≤ 9223372036854775807) (hm : ∀ a ∈ m, a.length ≤ 9223372036854775807) : ∀ (d i : Nat) (n : Int), i + d = m.length → 0 ≤ n → n ≤ 1048576 →
  ∃ r, Ev (fun k => laws_szByteSS.l0 k m n (i : Int)) r ∧ r ≤ n ∧ (0 ≤ r → ∀ a ∈ m.drop i, (a.length : Int) ≤ n) := by
 intro d
 induction d with
 | zero =>
  intro i n hi h0 h1
  refine ⟨n, ev_succ ?_, Int.le_refl _, fun _ a ha => ?_⟩
  ·simp only [laws_szByteSS.l0]
   exact ev_neg (by omega) (Ev.now _)
  ·rw [List.drop_eq_nil_of_le (by omega)] at ha
   simp at ha
 | succ d ih =>
  intro i n hi h0 h1
  have h : i < m.length := by omega
  have hr : rd_L1 m (i : Int) = m[i] := by
   unfold rd_L1
   exact getD_lt m [] h
  have ha := hm m[i] (List.getElem_mem h)
  by_cases hs : (m[i].length : Int) ≤ n
  ·obtain ⟨r, e, hr1, hr2⟩ := ih (i + 1) (n - m[i].length) (by omega) (by omega) (by omega)
   refine ⟨r, ev_succ ?_, by omega, fun hp a hx => ?_⟩
   ·simp only [laws_szByteSS.l0, hr, laws_szByteS_eq m[i] ha n h0 h1, if_pos hs, Option.bind_some]
    refine ev_pos (by omega) (ev_pos (by omega) (ev_neg (by omega) ?_))
    rw [wsucc (i := i) (by omega)]
    exact e
   ·rw [List.drop_eq_getElem_cons h] at hx
    rcases List.mem_cons.1 hx with rfl | hx
    ·exact hs
    ·have := hr2 hp a hx
     omega
  ·refine ⟨-1, ev_succ ?_, by omega, fun hp => by omega⟩
   simp only [laws_szByteSS.l0, hr, laws_szByteS_eq m[i] ha n h0 h1, if_neg hs, Option.bind_some]
   exact ev_pos (by omega) (ev_pos (by omega) (ev_pos (by omega) (Ev.now _)))
theorem laws_szByteSS_ev (m : List (List Int)) (hm : Row (Row U8) m) (n : Int) (h0 : 0 ≤ n) (h1 : n ≤ 1048576) : ∃ r, Ev (fun k => laws_szByteSS.f k m n) r ∧ r ≤ n ∧ (0 ≤ r → Small m) := by
 have hl := hm.1
 have hr : ∀ a ∈ m, a.length ≤ 9223372036854775807 := fun a ha => (hm.2 a ha).1
 simp only [laws_szByteSS.f]
 rw [wid (n := n - m.length) (by omega) (by omega)]
 by_cases h : (m.length : Int) ≤ n
 ·obtain ⟨r, e, hr1, hr2⟩ := laws_szByteSS_l0 m hl hr m.length 0 (n - m.length) (by omega) (by omega) (by omega)
  refine ⟨r, ev_neg (by omega) e, by omega, fun hp => ⟨by omega, fun a ha => ?_⟩⟩
  have := hr2 hp a (by simpa using ha)
  omega
 ·exact ⟨-1, ev_pos (by omega) (Ev.now _), by omega, fun hp => by omega⟩
theorem laws_szMemory_ev (m : List (List Int)) (hm : Row (Row U8) m) (n : Int) (h0 : 0 ≤ n) (h1 : n ≤ 1048576) : ∃ r, Ev (fun k => laws_szMemory.f k m n) r ∧ r ≤ n ∧ (0 ≤ r → Small m) := by
 obtain ⟨r, e, hr, hs⟩ := laws_szByteSS_ev m hm n h0 h1
 simp only [laws_szMemory.f]
 by_cases h : r < 0
 ·exact ⟨-1, ev_bind e (ev_pos h (Ev.now _)), by omega, fun hp => by omega⟩
 ·exact ⟨r, ev_bind e (ev_neg h (Ev.now _)), hr, hs⟩
theorem laws_toByteS_l0 (l : List Int) (hl : l.length ≤ 281474976710656) (x : List Int) (hx : x.length = l.length) : ∀ (d i : Nat), i + d = l.length → Ev (fun k => laws_toByteS.l0 k l (over l x i) (i : Int)) l := by
 intro d
 induction d with
 | zero =>
  intro i hi
  have e : over l x i = l := by rw [show i = l.length by omega]; exact over_all l x hx
  rw [e]
  refine ev_end (fun k => ?_)
  simp only [laws_toByteS.l0]
  rw [if_neg (by omega)]
 | succ d ih =>
  intro i hi
  refine Ev.step (fun k => ?_) (ih (i + 1) (by omega))
  simp only [laws_toByteS.l0]
  rw [if_pos (by omega), if_pos (by omega), if_pos (by rw [over_length l x i hx (by omega)]; omega), Int.toNat_natCast, rd_lt l (by omega : i < l.length), over_set l x i hx (by omega), wsucc (by omega)]
theorem laws_toByteS_ev (l : List Int) (hl : l.length ≤ 281474976710656) : Ev (fun k => laws_toByteS.f k l) l := by
 simp only [laws_toByteS.f]
 refine ev_pos (by omega) (ev_pos (by simpa using hl) ?_)
 have h := laws_toByteS_l0 l hl (List.replicate l.length 0) (by simp) l.length 0 (by omega)
 rw [over_zero] at h
 simpa using h
theorem laws_toByteSS_l0 (l : List (List Int)) (hl : Small l) (x : List (List Int)) (hx : x.length = l.length) : ∀ (d i : Nat), i + d = l.length → Ev (fun k => laws_toByteSS.l0 k l (over l x i) (i : Int)) l := by
 obtain ⟨hl, hs⟩ := hl
 intro d
 induction d with
 | zero =>
  intro i hi
  have e : over l x i = l := by rw [show i = l.length by omega]; exact over_all l x hx
  rw [e]
  refine ev_succ ?_
  simp only [laws_toByteSS.l0]
  exact ev_neg (by omega) (Ev.now _)
 | succ d ih =>
  intro i hi
  have h : i < l.length := by omega
  have hr : rd_L1 l (i : Int) = l[i] := by
   unfold rd_L1
   exact getD_lt l [] h
  refine ev_succ ?_
  simp only [laws_toByteSS.l0, hr]
  refine ev_pos (by omega) (ev_pos (by omega) (ev_bind (laws_toByteS_ev l[i] (by have := hs l[i] (List.getElem_mem h); omega)) (ev_pos (by rw [over_length l x i hx (by omega)]; omega) ?_)))
  rw [Int.toNat_natCast, over_set l x i hx h, wsucc (by omega)]
  exact ih (i + 1) (by omega)
theorem laws_toByteSS_ev (l : List (List Int)) (hl : Small l) : Ev (fun k => laws_toByteSS.f k l) l := by
 have h1 := hl.1
 simp only [laws_toByteSS.f]
 refine ev_pos (by omega) (ev_pos (by simp only [Int.toNat_natCast]; omega) ?_)
 have h := laws_toByteSS_l0 l hl (List.replicate l.length []) (by simp) l.length 0 (by omega)
 rw [over_zero] at h
 simpa using h
theorem laws_toMemory_ev (l : List (List Int)) (hl : Small l) : Ev (fun k => laws_toMemory.f k l) l := by
 simp only [laws_toMemory.f]
 exact ev_bind (laws_toByteSS_ev l hl) (Ev.now _)
theorem laws_eqByteS_l0 (a b : List Int) (hl : a.length = b.length) (hb : a.length ≤ 281474976710656) : ∀ (d i : Nat), i + d = a.length → Ev (fun k => laws_eqByteS.l0 k a b (i : Int)) (decide (a.drop i = b.drop i)) := by
 intro d
 induction d with
 | zero =>
  intro i hi
  have e1 : a.drop i = [] := List.drop_eq_nil_of_le (by omega)
  have e2 : b.drop i = [] := List.drop_eq_nil_of_le (by omega)
  rw [e1, e2]
  refine ev_end (fun k => ?_)
  simp only [laws_eqByteS.l0]
  rw [if_neg (by omega)]
  rfl
 | succ d ih =>
  intro i hi
  have ha : i < a.length := by omega
  have hb2 : i < b.length := by omega
  rw [List.drop_eq_getElem_cons ha, List.drop_eq_getElem_cons hb2]
  by_cases h : a[i] = b[i]
  ·refine ev_eq (Ev.step (fun k => ?_) (ih (i + 1) (by omega))) ?_
   ·simp only [laws_eqByteS.l0]
    rw [if_pos (by omega), if_pos (by omega), if_pos (by omega), rd_lt a ha, rd_lt b hb2, if_pos h, wsucc (by omega)]
   ·rw [h]; exact decide_eq_decide.mpr ⟨fun e => by rw [e], fun e => (List.cons.inj e).2⟩
  ·refine ev_eq (ev_end (r := false) (fun k => ?_)) (decide_eq_false (fun e => h (List.cons.inj e).1)).symm
   simp only [laws_eqByteS.l0]
   rw [if_pos (by omega), if_pos (by omega), if_pos (by omega), rd_lt a ha, rd_lt b hb2, if_neg h]
theorem laws_eqByteS_ev (a b : List Int) (hb : a.length ≤ 281474976710656) : Ev (fun k => laws_eqByteS.f k a b) (decide (a = b)) := by
 simp only [laws_eqByteS.f]
 by_cases h : a.length = b.length
 ·refine ev_pos (by omega) ?_
  have := laws_eqByteS_l0 a b h hb a.length 0 (by omega)
  simpa using this
 ·refine ev_neg (by omega) ?_
  have : ¬ a = b := fun e => h (by rw [e])
  rw [decide_eq_false this]
  exact Ev.now _
theorem laws_eqByteSS_l0 (l : List (List Int)) (hl : Small l) : ∀ (d i : Nat), i + d = l.length → Ev (fun k => laws_eqByteSS.l0 k l l (i : Int)) true := by
 obtain ⟨hl, hs⟩ := hl
 intro d
 induction d with
 | zero =>
  intro i hi
  refine ev_succ ?_
  simp only [laws_eqByteSS.l0]
  exact ev_neg (by omega) (Ev.now _)
 | succ d ih =>
  intro i hi
  have h : i < l.length := by omega
  have hr : rd_L1 l (i : Int) = l[i] := by
   unfold rd_L1
   exact getD_lt l [] h
  refine ev_succ ?_
  simp only [laws_eqByteSS.l0, hr]
  refine ev_pos (by omega) (ev_pos (by omega) (ev_pos (by omega) (ev_bind (laws_eqByteS_ev l[i] l[i] (by have := hs l[i] (List.getElem_mem h); omega)) (ev_pos (by simp) ?_))))
  rw [wsucc (by omega)]
  exact ih (i + 1) (by omega)
theorem laws_eqMemory_ev (l : List (List Int)) (hl : Small l) : Ev (fun k => laws_eqMemory.f k l l) true := by
 simp only [laws_eqMemory.f, laws_eqByteSS.f]
 have := laws_eqByteSS_l0 l hl l.length 0 (by omega)
 exact ev_bind (ev_pos (by first | trivial | rfl) (by simpa using this)) (ev_pos (by first | trivial | rfl) (Ev.now _))
def keyAt (m : List (List Int)) (a s l c i : Int) : List Int × Bool := if WinOK m a s l c ∧ 0 ≤ i ∧ i ≤ l - 16 then (((bytes m a s l).drop i.toNat).take 16, true) else (List.replicate 16 0, false)
theorem keyO_eq {g : Nat → Option Int} {xs : List Int} {i : Nat} : ∀ n : Nat, i + n ≤ xs.length → (∀ j, j < n → g j = some (xs.getD (i + j) 0)) → Ky.keyO g n = some ((xs.drop i).take n)
 | 0, _, _ => by simp [Ky.keyO]
 | n + 1, hn, h => by
  unfold Ky.keyO
  rw [keyO_eq n (by omega) (fun j hj => h j (by omega)), Option.bind_some, h n (by omega), Option.bind_some, List.take_add_one, List.getElem?_drop, List.getD_eq_getElem?_getD, List.getElem?_eq_getElem (show i + n < xs.length by omega)]
  rfl
theorem spec_KeyAt_ev (m : List (List Int)) (hm : m.length ≤ 1048576) (a s l c i : Int) : Ev (fun k => spec_KeyAt.f k m a s l c i) (keyAt m a s l c i) := by
 simp only [spec_KeyAt.f, spec_l9Has.f, spec_l1In_eq, Option.bind_some]
 refine ev_bind (a := decide (WinOK m a s l c ∧ 0 ≤ i ∧ i ≤ l - 16)) ?_ ?_
 ·refine ev_bind (spec_l2Window_ev m hm a s l c) ?_
  by_cases h : WinOK m a s l c
  ·have hb := h.bounds
   refine ev_pos (decide_eq_true h) (ev_eq (Ev.now _) ?_)
   rw [wid (n := l - 16) (by omega) (by omega)]
   exact decide_eq_decide.mpr ⟨fun x => ⟨h, x⟩, fun x => x.2⟩
  ·exact ev_neg (by rw [decide_eq_false h]; decide) (ev_eq (Ev.now _) (decide_eq_false (fun x => h x.1)).symm)
 by_cases h : WinOK m a s l c ∧ 0 ≤ i ∧ i ≤ l - 16
 ·have hb := h.1.bounds
  have hl := bytes_length h.1
  refine ev_pos (decide_eq_true h) (ev_now fun _ => ?_)
  unfold spec_l9Key.f
  rw [if_pos (by omega), keyO_eq (xs := bytes m a s l) (i := i.toNat) 16 (by omega) (fun j hj => ?_), Option.bind_some, keyAt, if_pos h]
  rw [spec_l2At_eq h.1 (by omega) (by omega)]
  unfold rd
  congr 2
  omega
 ·exact ev_neg (by rw [decide_eq_false h]; decide) (ev_eq (Ev.now _) (by rw [keyAt, if_neg h]))
theorem impl_KeyAt_ev (m : List (List Int)) (hm : m.length ≤ 1048576) (a s l c i : Int) : Ev (fun k => impl_KeyAt.f k m a s l c i) (keyAt m a s l c i) := by
 simp only [impl_KeyAt.f, impl_within_eq, Option.bind_some]
 refine ev_bind (impl_areOn1_ev m hm a s l c) ?_
 by_cases h : WinOK m a s l c
 ·have hb := h.bounds
  have hr : rd_L1 m a = arr_ m a := rfl
  refine ev_pos (decide_eq_true h) ?_
  rw [wid (n := l - 16) (by omega) (by omega), hr]
  by_cases hi : 0 ≤ i ∧ i ≤ l - 16
  ·refine ev_pos (decide_eq_true hi) (ev_now fun _ => ?_)
   rw [if_pos (by omega), keyAt, if_pos ⟨h, hi⟩]
   unfold bytes
   rw [List.drop_take (l := arr_ m a) (j := (s + l).toNat), show (s + l).toNat - s.toNat = l.toNat from by omega]
  ·exact ev_neg (by rw [decide_eq_false hi]; decide) (ev_eq (Ev.now _) (by rw [keyAt, if_neg (fun x => hi x.2)]))
 ·exact ev_neg (by rw [decide_eq_false h]; decide) (ev_eq (Ev.now _) (by rw [keyAt, if_neg (fun x => h x.1)]))
theorem FnExactKeyAt : laws_FnExactKeyAt.Pure := by
 intro m a s l c i hm _ _ _ _ _
 refine Ev.rounds ?_
 obtain ⟨r, e, hr, hs⟩ := laws_szMemory_ev m hm 1048576 (by omega) (by omega)
 simp only [laws_FnExactKeyAt.f, laws_toWindow.f, laws_eqByteA16.f, Option.bind_some]
 refine ev_bind e ?_
 by_cases h : r < 0
 ·exact ev_pos h (Ev.now _)
 have hsm := hs (by omega)
 refine ev_neg h ?_
 refine ev_bind (laws_toMemory_ev m hsm) ?_
 refine ev_bind (spec_KeyAt_ev m hsm.1 a s l c i) ?_
 refine ev_bind (impl_KeyAt_ev m hsm.1 a s l c i) ?_
 refine ev_bind (laws_eqMemory_ev m hsm) ?_
 exact ev_pos (by simp) (Ev.now _)
end Go.Proofs.Ytldkbeccpheckaa.Pure
