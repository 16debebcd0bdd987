/- What is proved here: the plain statement of the law FnExactFindInRing, over numbers and lists. No condition beyond those that it states. -/
import Derived.Test.YtdojnaghcfhadaaQFnExactFindInRing
import Derived.Test.YtdojnaghcfhadaaTk
namespace Go.Proofs.Ytdojnaghcfhadaa.Pure
open Go.RowKit Go.Proofs.Ytdojnaghcfhadaa.PFnExactFindInRing Go.Proofs.YtdojnaghcfhadaaW.PrintWords Go.Proofs.YtdojnaghcfhadaaW.PrintMore Go.Proofs.Ytdojnaghcfhadaa.Tk Go.Proofs.Ytdojnaghcfhadaa.Opn
set_option linter.unusedVariables false
set_option linter.unusedSimpArgs false
/-- Each array has 1 to 64 bytes. -/
def Sizes (m : List (List Int)) : Prop := ∀ a ∈ m, 1 ≤ a.length ∧ a.length ≤ 64
instance (m : List (List Int)) : Decidable (Sizes m) := by unfold Sizes; exact inferInstance
theorem Sizes.nil : Sizes [] := fun a ha => by simp at ha
theorem Sizes.cons {a : List Int} {m : List (List Int)} (h : (1 : Int) ≤ (a.length : Int) ∧ (a.length : Int) ≤ 64) (k : Sizes m) : Sizes (a :: m) := fun b hb => by
 rcases List.mem_cons.1 hb with rfl | hb
 ·omega
 ·exact k b hb
theorem Sizes.head {a : List Int} {m : List (List Int)} (k : Sizes (a :: m)) : (1 : Int) ≤ (a.length : Int) ∧ (a.length : Int) ≤ 64 := by
 have := k a List.mem_cons_self
 omega
theorem Sizes.tail {a : List Int} {m : List (List Int)} (k : Sizes (a :: m)) : Sizes m := fun b hb => k b (List.mem_cons_of_mem _ hb)
/-- A valid memory. -/
def MemOK (m : List (List Int)) : Prop := m.length ≤ 16 ∧ Sizes m
instance (m : List (List Int)) : Decidable (MemOK m) := by unfold MemOK; exact inferInstance
/-- The bytes of array a. -/
def arr_ (m : List (List Int)) (a : Int) : List Int := m.getD a.toNat []
/-- A window on a valid memory. -/
def WinOK (m : List (List Int)) (a s l c : Int) : Prop := MemOK m ∧ 0 ≤ a ∧ a < (m.length : Int) ∧ 0 ≤ s ∧ 0 ≤ l ∧ l ≤ c ∧ s + c ≤ ((arr_ m a).length : Int)
instance (m : List (List Int)) (a s l c : Int) : Decidable (WinOK m a s l c) := by unfold WinOK; exact inferInstance
/-- What the law's guard lets by. -/
def Small (m : List (List Int)) : Prop := m.length ≤ 1048576 ∧ ∀ a ∈ m, a.length ≤ 1048576
theorem arr_mem {m : List (List Int)} {a : Int} (h0 : 0 ≤ a) (h1 : a < (m.length : Int)) : arr_ m a ∈ m := by
 unfold arr_
 rw [getD_lt m [] (by omega : a.toNat < m.length)]
 exact List.getElem_mem _
theorem arr_size {m : List (List Int)} (hm : MemOK m) {a : Int} (h0 : 0 ≤ a) (h1 : a < (m.length : Int)) : 1 ≤ (arr_ m a).length ∧ (arr_ m a).length ≤ 64 := hm.2 _ (arr_mem h0 h1)
theorem MemOK.small {m : List (List Int)} (hm : MemOK m) : Small m := ⟨by have := hm.1; omega, fun a ha => by have := hm.2 a ha; omega⟩
theorem WinOK.bounds {m : List (List Int)} {a s l c : Int} (h : WinOK m a s l c) : MemOK m ∧ 0 ≤ a ∧ a < 16 ∧ a < (m.length : Int) ∧ 0 ≤ s ∧ s ≤ 64 ∧ 0 ≤ l ∧ l ≤ c ∧ c ≤ 64 ∧ s + c ≤ ((arr_ m a).length : Int) ∧ ((arr_ m a).length : Int) ≤ 64 := by
 obtain ⟨hm, h0, h1, h2, h3, h4, h5⟩ := h
 have := arr_size hm h0 h1
 have := hm.1
 refine ⟨hm, h0, by omega, h1, h2, by omega, h3, h4, by omega, h5, by omega⟩
theorem dec_false {p : Prop} [Decidable p] (h : ¬ p) : some false = some (decide p) := by rw [decide_eq_false h]
/-- A ring on a valid memory. -/
def RingOK (m : List (List Int)) (a s l c f n : Int) : Prop := WinOK m a s l c ∧ 0 ≤ f ∧ f < l ∧ 0 ≤ n ∧ n ≤ l
instance (m : List (List Int)) (a s l c f n : Int) : Decidable (RingOK m a s l c f n) := by unfold RingOK; exact inferInstance
theorem spec_l1In_eq (a b c : Int) : spec_l1In.f a b c = some (decide (b ≤ a ∧ a ≤ c)) := by
 unfold spec_l1In.f
 by_cases h : a ≥ b
 ·rw [if_pos h]
  congr 1
  exact decide_eq_decide.mpr ⟨fun x => ⟨h, x⟩, fun x => x.2⟩
 ·rw [if_neg h]
  exact dec_false (fun x => h x.1)
theorem spec_l2Memory_l0 (m : List (List Int)) (hm : m.length ≤ 1048576) : ∀ (d i : Nat), i + d = m.length → Ev (fun k => spec_l2Memory.l0 k (i : Int) m) (decide (m.length ≤ 16 ∧ Sizes (m.drop i))) := by
 intro d
 induction d with
 | zero =>
  intro i hi
  have e : m.drop i = [] := List.drop_eq_nil_of_le (by omega)
  refine ev_succ (ev_eq (r := decide ((m.length : Int) ≤ 16)) ?_ ?_)
  ·simp only [spec_l2Memory.l0]
   refine ev_neg (by omega) (ev_succ ?_)
   simp only [spec_l2Memory.j1]
   exact ev_neg (by decide) (Ev.now _)
  ·rw [e]
   exact decide_eq_decide.mpr ⟨fun h => ⟨by omega, Sizes.nil⟩, fun h => by have := h.1; omega⟩
 | succ d ih =>
  intro i hi
  have h : i < m.length := by omega
  refine ev_succ ?_
  simp only [spec_l2Memory.l0]
  refine ev_pos (by omega) (ev_succ ?_)
  by_cases h16 : (i : Int) ≤ 16
  ·simp only [spec_l2Memory.j1, decide_eq_true h16]
   refine ev_pos (by first | trivial | rfl) (ev_pos (by omega) (ev_pos (by omega) ?_))
   have hr : rd_L1 m (i : Int) = m[i] := by
    unfold rd_L1
    exact getD_lt m [] h
   simp only [spec_l1In_eq, hr, Option.bind_some, decide_eq_true_eq]
   by_cases hs : (1 : Int) ≤ (m[i].length : Int) ∧ (m[i].length : Int) ≤ 64
   ·refine ev_pos hs (ev_eq (r := decide (m.length ≤ 16 ∧ Sizes (m.drop (i + 1)))) ?_ ?_)
    ·have := ih (i + 1) (by omega)
     rw [← wsucc (i := i) (by omega)] at this
     exact this
    ·rw [List.drop_eq_getElem_cons h]
     exact decide_eq_decide.mpr ⟨fun x => ⟨x.1, x.2.cons hs⟩, fun x => ⟨x.1, x.2.tail⟩⟩
   ·refine ev_neg hs (ev_eq (Ev.now false) ?_)
    rw [List.drop_eq_getElem_cons h]
    exact (decide_eq_false (fun x => hs x.2.head)).symm
  ·simp only [spec_l2Memory.j1, decide_eq_false h16]
   refine ev_neg (by decide) (ev_eq (Ev.now (decide ((m.length : Int) ≤ 16))) ?_)
   exact decide_eq_decide.mpr ⟨fun x => by omega, fun x => by have := x.1; omega⟩
theorem spec_l2Memory_ev (m : List (List Int)) (hm : m.length ≤ 1048576) : Ev (fun k => spec_l2Memory.f k m) (decide (MemOK m)) := by
 simp only [spec_l2Memory.f]
 have := spec_l2Memory_l0 m hm m.length 0 (by omega)
 rw [List.drop_zero] at this
 exact this
theorem spec_l2Window_ev (m : List (List Int)) (hm : m.length ≤ 1048576) (a s l c : Int) : Ev (fun k => spec_l2Window.f k m a s l c) (decide (WinOK m a s l c)) := by
 simp only [spec_l2Window.f, spec_l1In_eq, Option.bind_some]
 refine ev_bind (spec_l2Memory_ev m hm) ?_
 by_cases h : MemOK m
 ·refine ev_pos (decide_eq_true h) (ev_succ ?_)
  have hl := h.1
  simp only [spec_l2Window.j0]
  rw [wid (n := (m.length : Int) - 1) (by omega) (by omega)]
  by_cases h1 : 0 ≤ a ∧ a ≤ (m.length : Int) - 1
  ·have hz := arr_size h h1.1 (by omega)
   have hr : rd_L1 m a = arr_ m a := rfl
   simp only [decide_eq_true h1, spec_l1In_eq, Option.bind_some, hr, decide_eq_true_eq]
   refine ev_neg (by decide) (ev_pos h1.1 (ev_pos (by omega) ?_))
   by_cases h2 : 0 ≤ s ∧ s ≤ ((arr_ m a).length : Int)
   ·refine ev_pos h2 ?_
    rw [wid (n := ((arr_ m a).length : Int) - s) (by omega) (by omega)]
    by_cases h3 : 0 ≤ c ∧ c ≤ ((arr_ m a).length : Int) - s
    ·refine ev_pos h3 (ev_eq (Ev.now _) (decide_eq_decide.mpr ⟨fun x => ⟨h, by omega⟩, fun x => ⟨x.2.2.2.2.1, x.2.2.2.2.2.1⟩⟩))
    ·refine ev_neg h3 (ev_eq (Ev.now _) (decide_eq_false (fun x => h3 ?_)).symm)
     obtain ⟨_, x⟩ := x
     omega
   ·refine ev_neg h2 (ev_eq (Ev.now _) (decide_eq_false (fun x => h2 ?_)).symm)
    obtain ⟨_, x⟩ := x
    omega
  ·simp only [decide_eq_false h1]
   refine ev_pos (by first | trivial | rfl) (ev_eq (Ev.now _) (decide_eq_false (fun x => h1 ?_)).symm)
   obtain ⟨_, x⟩ := x
   omega
 ·refine ev_neg (by rw [decide_eq_false h]; decide) (ev_succ ?_)
  simp only [spec_l2Window.j0]
  exact ev_pos (by first | trivial | rfl) (ev_eq (Ev.now _) (decide_eq_false (fun x => h x.1)).symm)
theorem spec_l5Ring_ev (m : List (List Int)) (hm : m.length ≤ 1048576) (a s l c f n : Int) : Ev (fun k => spec_l5Ring.f k m a s l c f n) (decide (RingOK m a s l c f n)) := by
 simp only [spec_l5Ring.f, spec_l1In_eq, Option.bind_some, decide_eq_true_eq]
 refine ev_bind (spec_l2Window_ev m hm a s l c) ?_
 by_cases h : WinOK m a s l c
 ·have hb := h.bounds
  refine ev_pos (decide_eq_true h) ?_
  by_cases h1 : l > 0
  ·refine ev_pos h1 ?_
   rw [wid (n := l - 1) (by omega) (by omega)]
   by_cases h2 : 0 ≤ f ∧ f ≤ l - 1
   ·refine ev_pos h2 (ev_eq (Ev.now _) (decide_eq_decide.mpr ⟨fun x => ⟨h, by omega⟩, fun x => by obtain ⟨_, x⟩ := x; omega⟩))
   ·refine ev_neg h2 (ev_eq (Ev.now _) (decide_eq_false (fun x => h2 ?_)).symm)
    obtain ⟨_, x⟩ := x
    omega
  ·refine ev_neg h1 (ev_eq (Ev.now _) (decide_eq_false (fun x => h1 ?_)).symm)
   obtain ⟨_, x⟩ := x
   omega
 ·exact ev_neg (by rw [decide_eq_false h]; decide) (ev_eq (Ev.now _) (decide_eq_false (fun x => h x.1)).symm)
theorem impl_within_eq (a b c : Int) : impl_within.f a b c = some (decide (b ≤ a ∧ a ≤ c)) := by
 unfold impl_within.f
 by_cases h : a ≥ b
 ·rw [if_pos h]
  congr 1
  exact decide_eq_decide.mpr ⟨fun x => ⟨h, x⟩, fun x => x.2⟩
 ·rw [if_neg h]
  exact dec_false (fun x => h x.1)
theorem impl_Memory_hasWindow_eq (m : List (List Int)) (h : MemOK m) (a s l c : Int) : impl_Memory_hasWindow.f m a s l c = some (decide (WinOK m a s l c)) := by
 have hl := h.1
 simp only [impl_Memory_hasWindow.f, impl_Memory_hasArray.f, impl_within_eq, Option.bind_some, decide_eq_true_eq]
 rw [wid (n := (m.length : Int) - 1) (by omega) (by omega)]
 by_cases h1 : 0 ≤ a ∧ a ≤ (m.length : Int) - 1
 ·have hz := arr_size h h1.1 (by omega)
  have hr : rd_L1 m a = arr_ m a := rfl
  rw [if_pos h1, hr]
  by_cases h2 : 0 ≤ c ∧ c ≤ 64
  ·rw [if_pos h2]
   by_cases h3 : 0 ≤ l ∧ l ≤ c
   ·rw [if_pos h3, if_pos h1.1, if_pos (by omega), wid (n := ((arr_ m a).length : Int) - c) (by omega) (by omega)]
    congr 1
    exact decide_eq_decide.mpr ⟨fun x => ⟨h, by omega⟩, fun x => by obtain ⟨_, x⟩ := x; omega⟩
   ·rw [if_neg h3]
    exact dec_false (fun x => h3 (by obtain ⟨_, x⟩ := x; omega))
  ·rw [if_neg h2]
   exact dec_false (fun x => h2 (by obtain ⟨_, x⟩ := x; omega))
 ·rw [if_neg h1]
  exact dec_false (fun x => h1 (by obtain ⟨_, x⟩ := x; omega))
theorem impl_Memory_hasRing_eq (m : List (List Int)) (hm : MemOK m) (a s l c f n : Int) : impl_Memory_hasRing.f m a s l c f n = some (decide (RingOK m a s l c f n)) := by
 simp only [impl_Memory_hasRing.f, impl_Memory_hasWindow_eq m hm, impl_within_eq, Option.bind_some, decide_eq_true_eq]
 by_cases h : WinOK m a s l c
 ·have hb := h.bounds
  rw [if_pos h, wid (n := l - 1) (by omega) (by omega)]
  by_cases h2 : 0 ≤ f ∧ f ≤ l - 1
  ·rw [if_pos h2]
   congr 1
   exact decide_eq_decide.mpr ⟨fun x => ⟨h, by omega⟩, fun x => by obtain ⟨_, x⟩ := x; omega⟩
  ·rw [if_neg h2]
   exact dec_false (fun x => h2 (by obtain ⟨_, x⟩ := x; omega))
 ·rw [if_neg h]
  exact dec_false (fun x => h x.1)
theorem impl_IsMemory_l0 (m : List (List Int)) (hm : m.length ≤ 1048576) : ∀ (d i : Nat), i + d = m.length → Ev (fun k => impl_IsMemory.l0 k m (m.length : Int) (i : Int) m) (decide (m.length ≤ 16 ∧ Sizes (m.drop i))) := by
 intro d
 induction d with
 | zero =>
  intro i hi
  have e : m.drop i = [] := List.drop_eq_nil_of_le (by omega)
  refine ev_succ (ev_eq (r := decide ((m.length : Int) ≤ 16)) ?_ ?_)
  ·simp only [impl_IsMemory.l0]
   exact ev_neg (by omega) (Ev.now _)
  ·rw [e]
   exact decide_eq_decide.mpr ⟨fun h => ⟨by omega, Sizes.nil⟩, fun h => by have := h.1; omega⟩
 | succ d ih =>
  intro i hi
  have h : i < m.length := by omega
  refine ev_succ ?_
  simp only [impl_IsMemory.l0]
  refine ev_pos (by omega) (ev_pos (by omega) (ev_pos (by omega) ?_))
  have hr : rd_L1 m (i : Int) = m[i] := by
   unfold rd_L1
   exact getD_lt m [] h
  simp only [impl_within_eq, hr, Option.bind_some, decide_eq_true_eq]
  by_cases hs : (1 : Int) ≤ (m[i].length : Int) ∧ (m[i].length : Int) ≤ 64
  ·refine ev_pos hs (ev_eq (r := decide (m.length ≤ 16 ∧ Sizes (m.drop (i + 1)))) ?_ ?_)
   ·have := ih (i + 1) (by omega)
    rw [← wsucc (i := i) (by omega)] at this
    exact this
   ·rw [List.drop_eq_getElem_cons h]
    exact decide_eq_decide.mpr ⟨fun x => ⟨x.1, x.2.cons hs⟩, fun x => ⟨x.1, x.2.tail⟩⟩
  ·refine ev_neg hs (ev_eq (Ev.now false) ?_)
   rw [List.drop_eq_getElem_cons h]
   exact (decide_eq_false (fun x => hs x.2.head)).symm
theorem impl_IsMemory_ev (m : List (List Int)) (hm : m.length ≤ 1048576) : Ev (fun k => impl_IsMemory.f k m) (decide (MemOK m)) := by
 simp only [impl_IsMemory.f]
 have := impl_IsMemory_l0 m hm m.length 0 (by omega)
 rw [List.drop_zero] at this
 exact this
theorem impl_isRing_ev (m : List (List Int)) (hm : m.length ≤ 1048576) (a s l c f n : Int) : Ev (fun k => impl_isRing.f k m a s l c f n) (decide (RingOK m a s l c f n)) := by
 simp only [impl_isRing.f]
 refine ev_bind (impl_IsMemory_ev m hm) ?_
 by_cases h : MemOK m
 ·simp only [impl_Memory_hasRing_eq m h, Option.bind_some]
  exact ev_pos (decide_eq_true h) (Ev.now _)
 ·exact ev_neg (by rw [decide_eq_false h]; decide) (ev_eq (Ev.now _) (by rw [decide_eq_false (fun x : RingOK m a s l c f n => h x.1.1)]))
/-- The bytes that a window sees. -/
def bytes (m : List (List Int)) (a s l : Int) : List Int := ((arr_ m a).take (s + l).toNat).drop s.toNat
theorem bytes_length {m : List (List Int)} {a s l c : Int} (h : WinOK m a s l c) : ((bytes m a s l).length : Int) = l := by
 have hb := h.bounds
 unfold bytes
 rw [List.length_drop, List.length_take]
 omega
theorem bytes_rd {m : List (List Int)} {a s l c : Int} (h : WinOK m a s l c) {i : Int} (h0 : 0 ≤ i) (h1 : i < l) : rd (bytes m a s l) i = rd (arr_ m a) (s + i) := by
 have hb := h.bounds
 unfold bytes rd
 rw [List.getD_eq_getElem?_getD, List.getD_eq_getElem?_getD, List.getElem?_drop, List.getElem?_take, if_pos (by omega)]
 congr 2
 omega
/-- The slot of an element. -/
def slot (l f i : Int) : Int := (f + i) % l
theorem slot_range {l f i : Int} (h : 0 < l) : 0 ≤ slot l f i ∧ slot l f i < l := ⟨Int.emod_nonneg _ (by omega), Int.emod_lt_of_pos _ h⟩
theorem tmod_slot {l f i : Int} (h0 : 0 ≤ f) (h1 : 0 ≤ i) (h2 : f ≤ 1048576) (h3 : i ≤ 1048576) : Int.tmod (wrap64 (f + i)) l = slot l f i := by
 rw [wid (by omega) (by omega), Int.tmod_eq_emod_of_nonneg (by omega)]
 rfl
/-- A list of bytes. -/
def IsBytes (l : List Int) : Prop := ∀ x ∈ l, U8 x
theorem ofNat_inj {x y : Int} (hx : U8 x) (hy : U8 y) (h : UInt8.ofNat x.toNat = UInt8.ofNat y.toNat) : x = y := by
 have h2 := congrArg UInt8.toNat h
 simp only [UInt8.toNat_ofNat'] at h2
 unfold U8 at hx hy
 omega
theorem map_ofNat_inj : ∀ {a b : List Int}, IsBytes a → IsBytes b → a.map (fun n => UInt8.ofNat n.toNat) = b.map (fun n => UInt8.ofNat n.toNat) → a = b
 | [], [], _, _, _ => rfl
 | [], _ :: _, _, _, h => by simp at h
 | _ :: _, [], _, _, h => by simp at h
 | x :: a, y :: b, ha, hb, h => by
  simp only [List.map_cons, List.cons.injEq] at h
  rw [ofNat_inj (ha x List.mem_cons_self) (hb y List.mem_cons_self) h.1, map_ofNat_inj (fun z hz => ha z (List.mem_cons_of_mem _ hz)) (fun z hz => hb z (List.mem_cons_of_mem _ hz)) h.2]
theorem str_eq {a b : List Int} (ha : IsBytes a) (hb : IsBytes b) : ((strOfNums a).toList == (strOfNums b).toList) = decide (a = b) := by
 have e : ∀ l : List Int, (strOfNums l).toList = l.map (fun n => UInt8.ofNat n.toNat) := fun l => by unfold strOfNums; exact ByteArray.toList_mk _
 rw [e, e]
 by_cases h : a = b
 ·rw [h]; simp
 ·rw [decide_eq_false h]
  exact beq_eq_false_iff_ne.mpr (fun x => h (map_ofNat_inj ha hb x))
theorem rd_bytes {l : List Int} (h : IsBytes l) (i : Int) : U8 (rd l i) := by
 unfold rd
 rw [List.getD_eq_getElem?_getD]
 cases e : l[i.toNat]? with
 | none => exact ⟨by decide, by decide⟩
 | some v => exact h v (List.mem_of_getElem? e)
theorem arr_bytes {m : List (List Int)} (hm : Row (Row U8) m) (a : Int) : IsBytes (arr_ m a) := by
 unfold arr_
 rw [List.getD_eq_getElem?_getD]
 cases e : m[a.toNat]? with
 | none => exact fun x hx => by simp at hx
 | some v => exact (hm.2 v (List.mem_of_getElem? e)).2
theorem bytes_bytes {m : List (List Int)} (hm : Row (Row U8) m) (a s l : Int) : IsBytes (bytes m a s l) := fun x hx => arr_bytes hm a x (List.mem_of_mem_take (List.mem_of_mem_drop hx))
/-- The elements of a ring, from element i on. -/
def elemsFrom (m : List (List Int)) (a s l f : Int) (i : Int) : Nat → List Int
 | 0 => []
 | d + 1 => rd (bytes m a s l) (slot l f i) :: elemsFrom m a s l f (i + 1) d
/-- The elements of a ring. -/
def elems (m : List (List Int)) (a s l f n : Int) : List Int := elemsFrom m a s l f 0 n.toNat
theorem elemsFrom_length (m : List (List Int)) (a s l f : Int) : ∀ (d : Nat) (i : Int), (elemsFrom m a s l f i d).length = d
 | 0, _ => rfl
 | d + 1, i => by rw [elemsFrom, List.length_cons, elemsFrom_length m a s l f d]
theorem elemsFrom_bytes {m : List (List Int)} (hm : Row (Row U8) m) (a s l f : Int) : ∀ (d : Nat) (i : Int), IsBytes (elemsFrom m a s l f i d)
 | 0, _ => fun x hx => by simp [elemsFrom] at hx
 | d + 1, i => fun x hx => by
  rcases List.mem_cons.1 hx with rfl | hx
  ·exact rd_bytes (bytes_bytes hm a s l) _
  ·exact elemsFrom_bytes hm a s l f d (i + 1) x hx
theorem elems_bytes {m : List (List Int)} (hm : Row (Row U8) m) (a s l f n : Int) : IsBytes (elems m a s l f n) := elemsFrom_bytes hm a s l f _ _
theorem elems_length {m : List (List Int)} {a s l c f n : Int} (h : RingOK m a s l c f n) : (elems m a s l f n).length ≤ 64 := by
 have := h.1.bounds
 have := h.2
 unfold elems
 rw [elemsFrom_length]
 omega
theorem spec_l2At_eq {m : List (List Int)} {a s l c : Int} (h : WinOK m a s l c) {i : Int} (h0 : 0 ≤ i) (h1 : i < l) : spec_l2At.f m a s l c i = some (rd (bytes m a s l) i) := by
 have hb := h.bounds
 have hr : rd_L1 m a = arr_ m a := rfl
 rw [bytes_rd h h0 h1]
 unfold spec_l2At.f
 rw [wid (n := s + i) (by omega) (by omega), hr, if_pos (by omega), if_pos (by omega), if_pos (by omega), if_pos (by omega)]
theorem spec_l5Bytes_l0 {m : List (List Int)} {a s l c f n : Int} (h : RingOK m a s l c f n) : ∀ (d : Nat) (i : Int) (x : List Int), i + d = n → 0 ≤ i → x.length = i.toNat → Ev (fun k => spec_l5Bytes.l0 k x i m a s l c f n) (x ++ elemsFrom m a s l f i d) := by
 obtain ⟨hw, hr⟩ := h
 have hb := hw.bounds
 intro d
 induction d with
 | zero =>
  intro i x hi h0 hx
  refine ev_succ ?_
  simp only [spec_l5Bytes.l0]
  exact ev_neg (by omega) (ev_eq (Ev.now _) (by simp [elemsFrom]))
 | succ d ih =>
  intro i x hi h0 hx
  have hs := slot_range (l := l) (f := f) (i := i) (by omega)
  refine ev_succ ?_
  simp only [spec_l5Bytes.l0, spec_l5Slot.f]
  rw [tmod_slot (l := l) (f := f) (i := i) (by omega) h0 (by omega) (by omega), wid (n := i + 1) (by omega) (by omega)]
  refine ev_pos (by omega) (ev_bind (ev_neg (by omega) (Ev.now _)) (ev_bind (ev_now (fun _ => spec_l2At_eq hw hs.1 hs.2)) (ev_pos (by omega) ?_)))
  refine ev_eq (ih (i + 1) (x ++ [rd (bytes m a s l) (slot l f i)]) (by omega) (by omega) (by rw [List.length_append, List.length_singleton]; omega)) ?_
  rw [List.append_assoc]
  rfl
theorem spec_l5Bytes_ev {m : List (List Int)} {a s l c f n : Int} (h : RingOK m a s l c f n) : Ev (fun k => spec_l5Bytes.f k m a s l c f n) (elems m a s l f n) := by
 simp only [spec_l5Bytes.f]
 have hr := h.2
 have := spec_l5Bytes_l0 h n.toNat 0 [] (by omega) (by omega) rfl
 rw [List.nil_append] at this
 exact this
theorem impl_Memory_seen_eq {m : List (List Int)} {a s l c : Int} (h : WinOK m a s l c) : impl_Memory_seen.f m a s l c = some (bytes m a s l) := by
 have hb := h.bounds
 have hr : rd_L1 m a = arr_ m a := rfl
 unfold impl_Memory_seen.f
 rw [wid (n := s + l) (by omega) (by omega), hr, if_pos (by omega), if_pos (by omega), if_pos (by omega), if_pos (by omega), if_pos (by omega)]
 rfl
theorem impl_Memory_elements_l0 {m : List (List Int)} {a s l c f n : Int} (h : RingOK m a s l c f n) : ∀ (d : Nat) (i : Int) (x : List Int), i + d = n → 0 ≤ i → x.length = i.toNat → Ev (fun k => impl_Memory_elements.l0 k x (bytes m a s l) n i a s l c f n) (x ++ elemsFrom m a s l f i d) := by
 obtain ⟨hw, hr⟩ := h
 have hb := hw.bounds
 have hl := bytes_length hw
 intro d
 induction d with
 | zero =>
  intro i x hi h0 hx
  refine ev_succ ?_
  simp only [impl_Memory_elements.l0]
  exact ev_neg (by omega) (ev_eq (Ev.now _) (by simp [elemsFrom]))
 | succ d ih =>
  intro i x hi h0 hx
  have hs := slot_range (l := l) (f := f) (i := i) (by omega)
  refine ev_succ ?_
  simp only [impl_Memory_elements.l0, impl_Ring_slot.f]
  rw [tmod_slot (l := l) (f := f) (i := i) (by omega) h0 (by omega) (by omega), wid (n := i + 1) (by omega) (by omega)]
  refine ev_pos (by omega) (ev_bind (ev_neg (by omega) (Ev.now _)) (ev_pos hs.1 (ev_pos (by omega) (ev_pos (by omega) ?_))))
  refine ev_eq (ih (i + 1) (x ++ [rd (bytes m a s l) (slot l f i)]) (by omega) (by omega) (by rw [List.length_append, List.length_singleton]; omega)) ?_
  rw [List.append_assoc]
  rfl
theorem impl_Memory_elements_ev {m : List (List Int)} {a s l c f n : Int} (h : RingOK m a s l c f n) : Ev (fun k => impl_Memory_elements.f k m a s l c f n) (elems m a s l f n) := by
 simp only [impl_Memory_elements.f]
 have hr := h.2
 have := impl_Memory_elements_l0 h n.toNat 0 [] (by omega) (by omega) rfl
 rw [List.nil_append] at this
 exact ev_bind (ev_now (fun _ => impl_Memory_seen_eq h.1)) this
theorem laws_szByteS_eq (l : List Int) (hl : l.length ≤ 9223372036854775807) (n : Int) (h0 : 0 ≤ n) (h1 : n ≤ 1048576) : laws_szByteS.f l n = some (if (l.length : Int) ≤ n then n - l.length else -1) := by
 unfold laws_szByteS.f
 rw [wid (n := n - l.length) (by omega) (by omega)]
 by_cases h : (l.length : Int) ≤ n
 ·rw [if_neg (by omega), if_pos h]
 ·rw [if_pos (by omega), if_neg h]
theorem laws_szByteSS_l0 (m : List (List Int)) (hl : m.length ≤ 9223372036854775807) (hm : ∀ a ∈ m, a.length ≤ 9223372036854775807) : ∀ (d i : Nat) (n : Int), i + d = m.length → 0 ≤ n → n ≤ 1048576 →
  ∃ r, Ev (fun k => laws_szByteSS.l0 k m n (i : Int)) r ∧ r ≤ n ∧ (0 ≤ r → ∀ a ∈ m.drop i, (a.length : Int) ≤ n) := by
 intro d
 induction d with
 | zero =>
  intro i n hi h0 h1
  refine ⟨n, ev_succ ?_, Int.le_refl _, fun _ a ha => ?_⟩
  ·simp only [laws_szByteSS.l0]
   exact ev_neg (by omega) (Ev.now _)
  ·rw [List.drop_eq_nil_of_le (by omega)] at ha
   simp at ha
 | succ d ih =>
  intro i n hi h0 h1
  have h : i < m.length := by omega
  have hr : rd_L1 m (i : Int) = m[i] := by
   unfold rd_L1
   exact getD_lt m [] h
  have ha := hm m[i] (List.getElem_mem h)
  by_cases hs : (m[i].length : Int) ≤ n
  ·obtain ⟨r, e, hr1, hr2⟩ := ih (i + 1) (n - m[i].length) (by omega) (by omega) (by omega)
   refine ⟨r, ev_succ ?_, by omega, fun hp a hx => ?_⟩
   ·simp only [laws_szByteSS.l0, hr, laws_szByteS_eq m[i] ha n h0 h1, if_pos hs, Option.bind_some]
    refine ev_pos (by omega) (ev_pos (by omega) (ev_neg (by omega) ?_))
    rw [wsucc (i := i) (by omega)]
    exact e
   ·rw [List.drop_eq_getElem_cons h] at hx
    rcases List.mem_cons.1 hx with rfl | hx
    ·exact hs
    ·have := hr2 hp a hx
     omega
  ·refine ⟨-1, ev_succ ?_, by omega, fun hp => by omega⟩
   simp only [laws_szByteSS.l0, hr, laws_szByteS_eq m[i] ha n h0 h1, if_neg hs, Option.bind_some]
   exact ev_pos (by omega) (ev_pos (by omega) (ev_pos (by omega) (Ev.now _)))
theorem laws_szByteSS_ev (m : List (List Int)) (hm : Row (Row U8) m) (n : Int) (h0 : 0 ≤ n) (h1 : n ≤ 1048576) : ∃ r, Ev (fun k => laws_szByteSS.f k m n) r ∧ r ≤ n ∧ (0 ≤ r → Small m) := by
 have hl := hm.1
 have hr : ∀ a ∈ m, a.length ≤ 9223372036854775807 := fun a ha => (hm.2 a ha).1
 simp only [laws_szByteSS.f]
 rw [wid (n := n - m.length) (by omega) (by omega)]
 by_cases h : (m.length : Int) ≤ n
 ·obtain ⟨r, e, hr1, hr2⟩ := laws_szByteSS_l0 m hl hr m.length 0 (n - m.length) (by omega) (by omega) (by omega)
  refine ⟨r, ev_neg (by omega) e, by omega, fun hp => ⟨by omega, fun a ha => ?_⟩⟩
  have := hr2 hp a (by simpa using ha)
  omega
 ·exact ⟨-1, ev_pos (by omega) (Ev.now _), by omega, fun hp => by omega⟩
theorem laws_szMemory_ev (m : List (List Int)) (hm : Row (Row U8) m) (n : Int) (h0 : 0 ≤ n) (h1 : n ≤ 1048576) : ∃ r, Ev (fun k => laws_szMemory.f k m n) r ∧ r ≤ n ∧ (0 ≤ r → Small m) := by
 obtain ⟨r, e, hr, hs⟩ := laws_szByteSS_ev m hm n h0 h1
 simp only [laws_szMemory.f]
 by_cases h : r < 0
 ·exact ⟨-1, ev_bind e (ev_pos h (Ev.now _)), by omega, fun hp => by omega⟩
 ·exact ⟨r, ev_bind e (ev_neg h (Ev.now _)), hr, hs⟩
theorem laws_toByteS_l0 (l : List Int) (hl : l.length ≤ 281474976710656) (x : List Int) (hx : x.length = l.length) : ∀ (d i : Nat), i + d = l.length → Ev (fun k => laws_toByteS.l0 k l (over l x i) (i : Int)) l := by
 intro d
 induction d with
 | zero =>
  intro i hi
  have e : over l x i = l := by rw [show i = l.length by omega]; exact over_all l x hx
  rw [e]
  refine ev_end (fun k => ?_)
  simp only [laws_toByteS.l0]
  rw [if_neg (by omega)]
 | succ d ih =>
  intro i hi
  refine Ev.step (fun k => ?_) (ih (i + 1) (by omega))
  simp only [laws_toByteS.l0]
  rw [if_pos (by omega), if_pos (by omega), if_pos (by rw [over_length l x i hx (by omega)]; omega), Int.toNat_natCast, rd_lt l (by omega : i < l.length), over_set l x i hx (by omega), wsucc (by omega)]
theorem laws_toByteS_ev (l : List Int) (hl : l.length ≤ 281474976710656) : Ev (fun k => laws_toByteS.f k l) l := by
 simp only [laws_toByteS.f]
 refine ev_pos (by omega) (ev_pos (by simpa using hl) ?_)
 have h := laws_toByteS_l0 l hl (List.replicate l.length 0) (by simp) l.length 0 (by omega)
 rw [over_zero] at h
 simpa using h
theorem laws_toByteSS_l0 (l : List (List Int)) (hl : Small l) (x : List (List Int)) (hx : x.length = l.length) : ∀ (d i : Nat), i + d = l.length → Ev (fun k => laws_toByteSS.l0 k l (over l x i) (i : Int)) l := by
 obtain ⟨hl, hs⟩ := hl
 intro d
 induction d with
 | zero =>
  intro i hi
  have e : over l x i = l := by rw [show i = l.length by omega]; exact over_all l x hx
  rw [e]
  refine ev_succ ?_
  simp only [laws_toByteSS.l0]
  exact ev_neg (by omega) (Ev.now _)
 | succ d ih =>
  intro i hi
  have h : i < l.length := by omega
  have hr : rd_L1 l (i : Int) = l[i] := by
   unfold rd_L1
   exact getD_lt l [] h
  refine ev_succ ?_
  simp only [laws_toByteSS.l0, hr]
  refine ev_pos (by omega) (ev_pos (by omega) (ev_bind (laws_toByteS_ev l[i] (by have := hs l[i] (List.getElem_mem h); omega)) (ev_pos (by rw [over_length l x i hx (by omega)]; omega) ?_)))
  rw [Int.toNat_natCast, over_set l x i hx h, wsucc (by omega)]
  exact ih (i + 1) (by omega)
theorem laws_toByteSS_ev (l : List (List Int)) (hl : Small l) : Ev (fun k => laws_toByteSS.f k l) l := by
 have h1 := hl.1
 simp only [laws_toByteSS.f]
 refine ev_pos (by omega) (ev_pos (by simp only [Int.toNat_natCast]; omega) ?_)
 have h := laws_toByteSS_l0 l hl (List.replicate l.length []) (by simp) l.length 0 (by omega)
 rw [over_zero] at h
 simpa using h
theorem laws_toMemory_ev (l : List (List Int)) (hl : Small l) : Ev (fun k => laws_toMemory.f k l) l := by
 simp only [laws_toMemory.f]
 exact ev_bind (laws_toByteSS_ev l hl) (Ev.now _)
theorem laws_eqByteS_l0 (a b : List Int) (hl : a.length = b.length) (hb : a.length ≤ 281474976710656) : ∀ (d i : Nat), i + d = a.length → Ev (fun k => laws_eqByteS.l0 k a b (i : Int)) (decide (a.drop i = b.drop i)) := by
 intro d
 induction d with
 | zero =>
  intro i hi
  have e1 : a.drop i = [] := List.drop_eq_nil_of_le (by omega)
  have e2 : b.drop i = [] := List.drop_eq_nil_of_le (by omega)
  rw [e1, e2]
  refine ev_end (fun k => ?_)
  simp only [laws_eqByteS.l0]
  rw [if_neg (by omega)]
  rfl
 | succ d ih =>
  intro i hi
  have ha : i < a.length := by omega
  have hb2 : i < b.length := by omega
  rw [List.drop_eq_getElem_cons ha, List.drop_eq_getElem_cons hb2]
  by_cases h : a[i] = b[i]
  ·refine ev_eq (Ev.step (fun k => ?_) (ih (i + 1) (by omega))) ?_
   ·simp only [laws_eqByteS.l0]
    rw [if_pos (by omega), if_pos (by omega), if_pos (by omega), rd_lt a ha, rd_lt b hb2, if_pos h, wsucc (by omega)]
   ·rw [h]; exact decide_eq_decide.mpr ⟨fun e => by rw [e], fun e => (List.cons.inj e).2⟩
  ·refine ev_eq (ev_end (r := false) (fun k => ?_)) (decide_eq_false (fun e => h (List.cons.inj e).1)).symm
   simp only [laws_eqByteS.l0]
   rw [if_pos (by omega), if_pos (by omega), if_pos (by omega), rd_lt a ha, rd_lt b hb2, if_neg h]
theorem laws_eqByteS_ev (a b : List Int) (hb : a.length ≤ 281474976710656) : Ev (fun k => laws_eqByteS.f k a b) (decide (a = b)) := by
 simp only [laws_eqByteS.f]
 by_cases h : a.length = b.length
 ·refine ev_pos (by omega) ?_
  have := laws_eqByteS_l0 a b h hb a.length 0 (by omega)
  simpa using this
 ·refine ev_neg (by omega) ?_
  have : ¬ a = b := fun e => h (by rw [e])
  rw [decide_eq_false this]
  exact Ev.now _
theorem laws_eqByteSS_l0 (l : List (List Int)) (hl : Small l) : ∀ (d i : Nat), i + d = l.length → Ev (fun k => laws_eqByteSS.l0 k l l (i : Int)) true := by
 obtain ⟨hl, hs⟩ := hl
 intro d
 induction d with
 | zero =>
  intro i hi
  refine ev_succ ?_
  simp only [laws_eqByteSS.l0]
  exact ev_neg (by omega) (Ev.now _)
 | succ d ih =>
  intro i hi
  have h : i < l.length := by omega
  have hr : rd_L1 l (i : Int) = l[i] := by
   unfold rd_L1
   exact getD_lt l [] h
  refine ev_succ ?_
  simp only [laws_eqByteSS.l0, hr]
  refine ev_pos (by omega) (ev_pos (by omega) (ev_pos (by omega) (ev_bind (laws_eqByteS_ev l[i] l[i] (by have := hs l[i] (List.getElem_mem h); omega)) (ev_pos (by simp) ?_))))
  rw [wsucc (by omega)]
  exact ih (i + 1) (by omega)
/-- A memory is told equal to itself. -/
theorem laws_eqMemory_ev (l : List (List Int)) (hl : Small l) : Ev (fun k => laws_eqMemory.f k l l) true := by
 simp only [laws_eqMemory.f, laws_eqByteSS.f]
 have := laws_eqByteSS_l0 l hl l.length 0 (by omega)
 exact ev_bind (ev_pos (by first | trivial | rfl) (by simpa using this)) (ev_pos (by first | trivial | rfl) (Ev.now _))
/-- The number of the first element that is b, or -1. -/
def firstOf (b : Int) : List Int → Int
 | [] => -1
 | x :: l => if x = b then 0 else if firstOf b l = -1 then -1 else firstOf b l + 1
theorem firstOf_ge (b : Int) : ∀ l, -1 ≤ firstOf b l
 | [] => by simp [firstOf]
 | x :: l => by
  have := firstOf_ge b l
  simp only [firstOf]
  split
  ·omega
  ·split <;> omega
theorem byte_inj {x b : Int} (hx : U8 x) (hb : U8 b) (h : UInt8.ofNat x.toNat = UInt8.ofNat b.toNat) : x = b := by
 have h2 := congrArg UInt8.toNat h
 simp only [UInt8.toNat_ofNat'] at h2
 have := hx.1
 have := hx.2
 have := hb.1
 have := hb.2
 omega
theorem indexByte_firstOf {b : Int} (hb : U8 b) : ∀ l : List Int, IsBytes l → Go.Lib.indexByte (Go.Lib.bytesOf l) b.toNat.toUInt8 = firstOf b l
 | [], _ => rfl
 | x :: l, h => by
  have ih := indexByte_firstOf hb l (fun y hy => h y (List.mem_cons_of_mem _ hy))
  have hx := h x List.mem_cons_self
  have e : Go.Lib.bytesOf (x :: l) = UInt8.ofNat x.toNat :: Go.Lib.bytesOf l := rfl
  rw [e]
  simp only [Go.Lib.indexByte, firstOf]
  by_cases c : x = b
  ·subst c
   rw [if_pos (beq_iff_eq.mpr rfl), if_pos rfl]
  ·rw [if_neg (fun z => c (byte_inj hx hb (beq_iff_eq.mp z))), if_neg c, ih]
   by_cases d : firstOf b l = -1
   ·rw [if_pos (beq_iff_eq.mpr d), if_pos d]
   ·rw [if_neg (fun z => d (beq_iff_eq.mp z)), if_neg d]
theorem spec_FindInRing_l0 (b : Int) (l : List Int) (hl : l.length ≤ 1048576) : ∀ (d i : Nat), i + d = l.length → Ev (fun k => spec_FindInRing.l0 k b l (i : Int)) (if firstOf b (l.drop i) = -1 then -1 else (i : Int) + firstOf b (l.drop i), true) := by
 intro d
 induction d with
 | zero =>
  intro i hi
  rw [List.drop_eq_nil_of_le (by omega)]
  refine ev_succ ?_
  simp only [spec_FindInRing.l0]
  exact ev_neg (by omega) (ev_eq (Ev.now _) (by simp [firstOf]))
 | succ d ih =>
  intro i hi
  have h : i < l.length := by omega
  rw [List.drop_eq_getElem_cons h]
  refine ev_succ ?_
  simp only [spec_FindInRing.l0, rd_lt l h]
  refine ev_pos (by omega) (ev_pos (by omega) ?_)
  by_cases c : l[i] = b
  ·exact ev_pos c (ev_eq (Ev.now _) (by simp [firstOf, c]))
  ·refine ev_neg c ?_
   rw [wsucc (by omega)]
   refine ev_eq (ih (i + 1) (by omega)) ?_
   have := firstOf_ge b (l.drop (i + 1))
   simp only [firstOf, if_neg c]
   by_cases d2 : firstOf b (l.drop (i + 1)) = -1
   ·simp [d2]
   ·rw [if_neg d2, if_neg d2, if_neg (by omega)]
    congr 1
    omega
def findInRing (m : List (List Int)) (a s l c f n b : Int) : Int × Bool := if RingOK m a s l c f n then (firstOf b (elems m a s l f n), true) else (0, false)
theorem spec_FindInRing_ev (m : List (List Int)) (hm : m.length ≤ 1048576) (a s l c f n b : Int) : Ev (fun k => spec_FindInRing.f k m a s l c f n b) (findInRing m a s l c f n b) := by
 simp only [spec_FindInRing.f, findInRing]
 refine ev_bind (spec_l5Ring_ev m hm a s l c f n) ?_
 by_cases h : RingOK m a s l c f n
 ·rw [if_pos h]
  refine ev_pos (decide_eq_true h) (ev_bind (spec_l5Bytes_ev h) ?_)
  have hlen : (elems m a s l f n).length ≤ 1048576 := by
   have := elems_length h
   have b := h.1.bounds
   have := h.2
   omega
  have := spec_FindInRing_l0 b (elems m a s l f n) hlen (elems m a s l f n).length 0 (by omega)
  rw [List.drop_zero] at this
  refine ev_eq this ?_
  congr 1
  split
  ·rename_i e
   exact e.symm
  ·omega
 ·rw [if_neg h]
  exact ev_neg (by rw [decide_eq_false h]; decide) (Ev.now _)
theorem impl_FindInRing_ev (m : List (List Int)) (hr : Row (Row U8) m) (hm : m.length ≤ 1048576) (a s l c f n b : Int) (hb : U8 b) : Ev (fun k => impl_FindInRing.f k m a s l c f n b) (findInRing m a s l c f n b) := by
 simp only [impl_FindInRing.f, findInRing]
 refine ev_bind (impl_isRing_ev m hm a s l c f n) ?_
 by_cases h : RingOK m a s l c f n
 ·rw [if_pos h]
  refine ev_pos (decide_eq_true h) (ev_bind (impl_Memory_elements_ev h) ?_)
  simp only [bytes_IndexByte.f, Option.bind_some]
  exact ev_eq (Ev.now _) (by rw [indexByte_firstOf hb _ (elems_bytes hr _ _ _ _ _)])
 ·rw [if_neg h]
  exact ev_neg (by rw [decide_eq_false h]; decide) (Ev.now _)
theorem FnExactFindInRing : laws_FnExactFindInRing.Pure := by
 intro m a s l c f n b hm _ _ _ _ _ _ hb
 refine Ev.rounds ?_
 obtain ⟨r, e, _, hs⟩ := laws_szMemory_ev m hm 1048576 (by omega) (by omega)
 simp only [laws_FnExactFindInRing.f, laws_toRing.f, laws_toWindow.f, Option.bind_some]
 refine ev_bind e ?_
 by_cases h : r < 0
 ·exact ev_pos h (Ev.now _)
 have hsm := hs (by omega)
 have t := laws_toMemory_ev m hsm
 refine ev_neg h ?_
 refine ev_bind t ?_
 refine ev_bind (spec_FindInRing_ev m hsm.1 a s l c f n b) ?_
 refine ev_bind t ?_
 refine ev_bind (impl_FindInRing_ev m hm hsm.1 a s l c f n b hb) ?_
 refine ev_pos rfl ?_
 refine ev_neg (by simp) ?_
 refine ev_bind t ?_
 refine ev_bind (laws_eqMemory_ev m hsm) ?_
 refine ev_pos rfl ?_
 exact Ev.now _
end Go.Proofs.Ytdojnaghcfhadaa.Pure
