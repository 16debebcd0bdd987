/- What is proved here: the plain statement of the law FnExactEditText, over numbers and lists. No condition beyond those that it states. -/
import Derived.Test.YtcanejjkgoaplaaQFnExactEditText
import Derived.Test.YtcanejjkgoaplaaTk
namespace Go.Proofs.Ytcanejjkgoaplaa.Pure
open Go.RowKit Go.Proofs.Ytcanejjkgoaplaa.PFnExactEditText Go.Proofs.YtcanejjkgoaplaaW.PrintWords Go.Proofs.YtcanejjkgoaplaaW.PrintMore Go.Proofs.Ytcanejjkgoaplaa.Tk Go.Proofs.Ytcanejjkgoaplaa.Opn
set_option linter.unusedVariables false
set_option linter.unusedSimpArgs false
def Sizes (m : List (List Int)) : Prop := ∀ a ∈ m, 1 ≤ a.length ∧ a.length ≤ 64
instance (m : List (List Int)) : Decidable (Sizes m) := by unfold Sizes; exact inferInstance
theorem Sizes.nil : Sizes [] := fun a ha => by simp at ha
theorem Sizes.cons {a : List Int} {m : List (List Int)} (h : (1 : Int) ≤ (a.length : Int) ∧ (a.length : Int) ≤ 64) (k : Sizes m) : Sizes (a :: m) := fun b hb => by
 rcases List.mem_cons.1 hb with rfl | hb
 ·omega
 ·exact k b hb
theorem Sizes.head {a : List Int} {m : List (List Int)} (k : Sizes (a :: m)) : (1 : Int) ≤ (a.length : Int) ∧ (a.length : Int) ≤ 64 := by
 have := k a List.mem_cons_self
 omega
theorem Sizes.tail {a : List Int} {m : List (List Int)} (k : Sizes (a :: m)) : Sizes m := fun b hb => k b (List.mem_cons_of_mem _ hb)
def MemOK (m : List (List Int)) : Prop := m.length ≤ 16 ∧ Sizes m
instance (m : List (List Int)) : Decidable (MemOK m) := by unfold MemOK; exact inferInstance
def arr_ (m : List (List Int)) (a : Int) : List Int := m.getD a.toNat []
def WinOK (m : List (List Int)) (a s l c : Int) : Prop := MemOK m ∧ 0 ≤ a ∧ a < (m.length : Int) ∧ 0 ≤ s ∧ 0 ≤ l ∧ l ≤ c ∧ s + c ≤ ((arr_ m a).length : Int)
instance (m : List (List Int)) (a s l c : Int) : Decidable (WinOK m a s l c) := by unfold WinOK; exact inferInstance
def Small (m : List (List Int)) : Prop := m.length ≤ 1048576 ∧ ∀ a ∈ m, a.length ≤ 1048576
theorem arr_mem {m : List (List Int)} {a : Int} (h0 : 0 ≤ a) (h1 : a < (m.length : Int)) : arr_ m a ∈ m := by
 unfold arr_
 rw [getD_lt m [] (by omega : a.toNat < m.length)]
 exact List.getElem_mem _
theorem arr_size {m : List (List Int)} (hm : MemOK m) {a : Int} (h0 : 0 ≤ a) (h1 : a < (m.length : Int)) : 1 ≤ (arr_ m a).length ∧ (arr_ m a).length ≤ 64 := hm.2 _ (arr_mem h0 h1)
theorem MemOK.small {m : List (List Int)} (hm : MemOK m) : Small m := ⟨by have := hm.1; omega, fun a ha => by have := hm.2 a ha; omega⟩
theorem WinOK.bounds {m : List (List Int)} {a s l c : Int} (h : WinOK m a s l c) : MemOK m ∧ 0 ≤ a ∧ a < 16 ∧ a < (m.length : Int) ∧ 0 ≤ s ∧ s ≤ 64 ∧ 0 ≤ l ∧ l ≤ c ∧ c ≤ 64 ∧ s + c ≤ ((arr_ m a).length : Int) ∧ ((arr_ m a).length : Int) ≤ 64 := by
 obtain ⟨hm, h0, h1, h2, h3, h4, h5⟩ := h
 have := arr_size hm h0 h1
 have := hm.1
 refine ⟨hm, h0, by omega, h1, h2, by omega, h3, h4, by omega, h5, by omega⟩
theorem dec_false {p : Prop} [Decidable p] (h : ¬ p) : some false = some (decide p) := by rw [decide_eq_false h]
theorem concat_l1 (m : List (List Int)) (hm : Small m) : ∀ (d i : Nat) (x : List Int), i + d = m.length → x.length ≤ i * 1048576 → Ev (fun k => slices_Concat_byte_byte.l1 k x m (m.length : Int) (i : Int)) (x ++ (m.drop i).flatten) := by
 intro d
 induction d with
 | zero =>
  intro i x hi hx
  rw [List.drop_eq_nil_of_le (by omega)]
  refine ev_end (fun k => ?_)
  simp only [slices_Concat_byte_byte.l1]
  rw [if_neg (by omega)]
  simp
 | succ d ih =>
  intro i x hi hx
  have h : i < m.length := by omega
  have hl := hm.2 m[i] (List.getElem_mem h)
  have hlen := hm.1
  have hr : rd_L1 m (i : Int) = m[i] := by
   unfold rd_L1
   exact getD_lt m _ h
  rw [List.drop_eq_getElem_cons h]
  refine ev_succ ?_
  simp only [slices_Concat_byte_byte.l1, hr]
  refine ev_pos (by omega) (ev_pos (by omega) (ev_pos (by omega) (ev_pos (by omega) ?_)))
  rw [wsucc (by omega)]
  refine ev_eq (ih (i + 1) (x ++ m[i]) (by omega) (by rw [List.length_append, Nat.add_mul]; omega)) ?_
  rw [List.flatten_cons, List.append_assoc]
theorem concat_l0 (m : List (List Int)) (hm : Small m) : ∀ (d i : Nat) (n : Int), i + d = m.length → 0 ≤ n → n ≤ i * 1048576 → Ev (fun k => slices_Concat_byte_byte.l0 k m n m (m.length : Int) (i : Int)) m.flatten := by
 have hlen := hm.1
 intro d
 induction d with
 | zero =>
  intro i n hi h0 h1
  refine ev_succ ?_
  simp only [slices_Concat_byte_byte.l0]
  refine ev_neg (by omega) (ev_bind (a := []) (ev_now fun _ => ?_) ?_)
  ·unfold slices_Grow_byte_byte.f
   rw [if_pos ⟨rfl, h0, by omega⟩]
  ·have := concat_l1 m hm m.length 0 [] (by omega) (by simp)
   simpa using this
 | succ d ih =>
  intro i n hi h0 h1
  have h : i < m.length := by omega
  have hl := hm.2 m[i] (List.getElem_mem h)
  have hr : rd_L1 m (i : Int) = m[i] := by
   unfold rd_L1
   exact getD_lt m _ h
  refine ev_succ ?_
  simp only [slices_Concat_byte_byte.l0, hr]
  rw [wid (n := n + (m[i].length : Int)) (by omega) (by omega), wsucc (by omega)]
  exact ev_pos (by omega) (ev_pos (by omega) (ev_pos (by omega) (ev_neg (by omega) (ih (i + 1) (n + m[i].length) (by omega) (by omega) (by rw [show ((i + 1 : Nat) : Int) = (i : Int) + 1 by omega, Int.add_mul]; omega)))))
theorem concat_ev (m : List (List Int)) (hm : Small m) : Ev (fun k => slices_Concat_byte_byte.f k m) m.flatten := by
 simp only [slices_Concat_byte_byte.f]
 exact concat_l0 m hm m.length 0 0 (by omega) (by omega) (by omega)
theorem spec_l1In_eq (a b c : Int) : spec_l1In.f a b c = some (decide (b ≤ a ∧ a ≤ c)) := by
 unfold spec_l1In.f
 by_cases h : a ≥ b
 ·rw [if_pos h]
  congr 1
  exact decide_eq_decide.mpr ⟨fun x => ⟨h, x⟩, fun x => x.2⟩
 ·rw [if_neg h]
  exact dec_false (fun x => h x.1)
theorem impl_within_eq (a b c : Int) : impl_within.f a b c = some (decide (b ≤ a ∧ a ≤ c)) := by
 unfold impl_within.f
 by_cases h : a ≥ b
 ·rw [if_pos h]
  congr 1
  exact decide_eq_decide.mpr ⟨fun x => ⟨h, x⟩, fun x => x.2⟩
 ·rw [if_neg h]
  exact dec_false (fun x => h x.1)
theorem laws_toByteS_l0 (l : List Int) (hl : l.length ≤ 281474976710656) (x : List Int) (hx : x.length = l.length) : ∀ (d i : Nat), i + d = l.length → Ev (fun k => laws_toByteS.l0 k l (over l x i) (i : Int)) l := by
 intro d
 induction d with
 | zero =>
  intro i hi
  have e : over l x i = l := by rw [show i = l.length by omega]; exact over_all l x hx
  rw [e]
  refine ev_end (fun k => ?_)
  simp only [laws_toByteS.l0]
  rw [if_neg (by omega)]
 | succ d ih =>
  intro i hi
  refine Ev.step (fun k => ?_) (ih (i + 1) (by omega))
  simp only [laws_toByteS.l0]
  rw [if_pos (by omega), if_pos (by omega), if_pos (by rw [over_length l x i hx (by omega)]; omega), Int.toNat_natCast, rd_lt l (by omega : i < l.length), over_set l x i hx (by omega), wsucc (by omega)]
theorem laws_toByteS_ev (l : List Int) (hl : l.length ≤ 281474976710656) : Ev (fun k => laws_toByteS.f k l) l := by
 simp only [laws_toByteS.f]
 refine ev_pos (by omega) (ev_pos (by simpa using hl) ?_)
 have h := laws_toByteS_l0 l hl (List.replicate l.length 0) (by simp) l.length 0 (by omega)
 rw [over_zero] at h
 simpa using h
theorem laws_eqByteS_l0 (a b : List Int) (hl : a.length = b.length) (hb : a.length ≤ 281474976710656) : ∀ (d i : Nat), i + d = a.length → Ev (fun k => laws_eqByteS.l0 k a b (i : Int)) (decide (a.drop i = b.drop i)) := by
 intro d
 induction d with
 | zero =>
  intro i hi
  have e1 : a.drop i = [] := List.drop_eq_nil_of_le (by omega)
  have e2 : b.drop i = [] := List.drop_eq_nil_of_le (by omega)
  rw [e1, e2]
  refine ev_end (fun k => ?_)
  simp only [laws_eqByteS.l0]
  rw [if_neg (by omega)]
  rfl
 | succ d ih =>
  intro i hi
  have ha : i < a.length := by omega
  have hb2 : i < b.length := by omega
  rw [List.drop_eq_getElem_cons ha, List.drop_eq_getElem_cons hb2]
  by_cases h : a[i] = b[i]
  ·refine ev_eq (Ev.step (fun k => ?_) (ih (i + 1) (by omega))) ?_
   ·simp only [laws_eqByteS.l0]
    rw [if_pos (by omega), if_pos (by omega), if_pos (by omega), rd_lt a ha, rd_lt b hb2, if_pos h, wsucc (by omega)]
   ·rw [h]; exact decide_eq_decide.mpr ⟨fun e => by rw [e], fun e => (List.cons.inj e).2⟩
  ·refine ev_eq (ev_end (r := false) (fun k => ?_)) (decide_eq_false (fun e => h (List.cons.inj e).1)).symm
   simp only [laws_eqByteS.l0]
   rw [if_pos (by omega), if_pos (by omega), if_pos (by omega), rd_lt a ha, rd_lt b hb2, if_neg h]
theorem laws_eqByteS_ev (a b : List Int) (hb : a.length ≤ 281474976710656) : Ev (fun k => laws_eqByteS.f k a b) (decide (a = b)) := by
 simp only [laws_eqByteS.f]
 by_cases h : a.length = b.length
 ·refine ev_pos (by omega) ?_
  have := laws_eqByteS_l0 a b h hb a.length 0 (by omega)
  simpa using this
 ·refine ev_neg (by omega) ?_
  have : ¬ a = b := fun e => h (by rw [e])
  rw [decide_eq_false this]
  exact Ev.now _
theorem laws_markByteS_l0 (n : Nat) (hn : n ≤ 281474976710656) : ∀ (d i : Nat) (x : List Int) (k0 : Int), i + d = n → x.length = n → 0 ≤ k0 → k0 + d ≤ 4611686018427387904 → Ev (fun k => laws_markByteS.l0 k x k0 (i : Int)) (k0 + d, x.take i ++ marks k0 d) := by
 intro d
 induction d with
 | zero =>
  intro i x k0 hi hx h0 h1
  refine ev_eq (ev_end (r := (k0, x)) (fun k => ?_)) ?_
  ·simp only [laws_markByteS.l0]
   rw [if_neg (by omega)]
  ·rw [List.take_of_length_le (by omega)]
   simp [marks]
 | succ d ih =>
  intro i x k0 hi hx h0 h1
  refine ev_eq (Ev.step (fun k => ?_) (ih (i + 1) (x.set i (k0 % 256)) (k0 + 1) (by omega) (by simpa using hx) (by omega) (by omega))) ?_
  ·simp only [laws_markByteS.l0]
   rw [if_pos (by omega), if_pos (by omega), Int.toNat_natCast, wid (n := k0 + 1) (by omega) (by omega), wsucc (by omega)]
  ·refine Prod.ext ?_ ?_
   ·simp; omega
   ·show (x.set i (k0 % 256)).take (i + 1) ++ marks (k0 + 1) d = x.take i ++ marks k0 (d + 1)
    rw [List.take_succ_eq_append_getElem (by simp; omega)]
    simp [marks, List.take_set]
    exact List.set_eq_of_length_le (by rw [List.length_take]; omega)
theorem laws_markByteS_ev (x : List Int) (k0 : Int) (hn : x.length ≤ 281474976710656) (h0 : 0 ≤ k0) (h1 : k0 + x.length ≤ 4611686018427387904) : Ev (fun k => laws_markByteS.f k x k0) (k0 + x.length, marks k0 x.length) := by
 simp only [laws_markByteS.f]
 have := laws_markByteS_l0 x.length hn x.length 0 x k0 (by omega) rfl h0 h1
 simpa using this
theorem laws_heldByteS_l0 (k1 : Int) (n : Nat) (hn : n ≤ 281474976710656) (h0 : 0 ≤ k1) (h1 : k1 + n ≤ 4611686018427387904) : ∀ (d i : Nat), i + d = n → Ev (fun k => laws_heldByteS.l0 k (marks k1 n) (k1 + i) (i : Int)) (k1 + n) := by
 intro d
 induction d with
 | zero =>
  intro i hi
  refine ev_eq (ev_end (r := k1 + i) (fun k => ?_)) (by omega)
  simp only [laws_heldByteS.l0]
  rw [marks_length, if_neg (by omega)]
 | succ d ih =>
  intro i hi
  refine Ev.step (fun k => ?_) (ih (i + 1) (by omega))
  simp only [laws_heldByteS.l0]
  rw [marks_length, if_pos (by omega), if_pos (by omega), rd_lt _ (by rw [marks_length]; omega), marks_get, if_pos rfl, wid (n := k1 + i + 1) (by omega) (by omega), wsucc (by omega)]
  congr 1
  omega
theorem laws_heldByteS_ev (k1 : Int) (n : Nat) (hn : n ≤ 281474976710656) (h0 : 0 ≤ k1) (h1 : k1 + n ≤ 4611686018427387904) : Ev (fun k => laws_heldByteS.f k (marks k1 n) k1) (k1 + n) := by
 simp only [laws_heldByteS.f]
 have := laws_heldByteS_l0 k1 n hn h0 h1 n 0 (by omega)
 simpa using this
def editText (l : List Int) (a n : Int) (x : List Int) : List Int × Bool := if (0 ≤ a ∧ a ≤ (l.length : Int)) ∧ 0 ≤ n ∧ n ≤ (l.length : Int) - a then (l.take a.toNat ++ x ++ l.drop (a + n).toNat, true) else ([], false)
theorem spec_EditText_eq (l : List Int) (hl : l.length ≤ 1048576) (a n : Int) (x : List Int) (hx : x.length ≤ 1048576) : spec_EditText.f l a n x = some (editText l a n x) := by
 unfold spec_EditText.f editText
 simp only [spec_l1In_eq, Option.bind_some, decide_eq_true_eq]
 by_cases h : 0 ≤ a ∧ a ≤ (l.length : Int)
 ·rw [if_pos h, wid (n := (l.length : Int) - a) (by omega) (by omega)]
  by_cases h2 : 0 ≤ n ∧ n ≤ (l.length : Int) - a
  ·have t1 : (l.take a.toNat).length ≤ 1048576 := by rw [List.length_take]; omega
   have t2 : (l.drop (a + n).toNat).length ≤ 1048576 := by rw [List.length_drop]; omega
   rw [if_pos h2, if_pos h.1, if_pos h.2, List.nil_append, if_pos (by simp only [List.length_nil]; omega), if_pos (by omega), wid (n := a + n) (by omega) (by omega), if_pos (by omega), if_pos (by omega), if_pos (by rw [List.length_append]; omega), if_pos ⟨h, h2⟩]
  ·rw [if_neg h2, if_neg (fun z => h2 z.2)]
 ·rw [if_neg h, if_neg (fun z => h z.1)]
theorem impl_EditText_ev (l : List Int) (hl : l.length ≤ 1048576) (a n : Int) (x : List Int) (hx : x.length ≤ 1048576) : Ev (fun k => impl_EditText.f k l a n x) (editText l a n x) := by
 simp only [impl_EditText.f, impl_Edit_isEditOf.f, impl_within_eq, Option.bind_some, decide_eq_true_eq]
 by_cases h : 0 ≤ a ∧ a ≤ (l.length : Int)
 ·have hw : wrap64 ((l.length : Int) - a) = (l.length : Int) - a := wid (by omega) (by omega)
  simp only [if_pos h, hw, Option.bind_some, decide_eq_true_eq]
  by_cases h2 : 0 ≤ n ∧ n ≤ (l.length : Int) - a
  ·have hs : Small [l.take a.toNat, x, l.drop (a + n).toNat] := ⟨by simp, fun y hy => by
    simp only [List.mem_cons, List.not_mem_nil, or_false] at hy
    rcases hy with rfl | rfl | rfl
    ·rw [List.length_take]; omega
    ·exact hx
    ·rw [List.length_drop]; omega⟩
   rw [wid (n := a + n) (by omega) (by omega)]
   refine ev_pos h2 (ev_pos h.1 (ev_pos h.2 (ev_pos (by omega) (ev_pos (by omega) (ev_bind (concat_ev _ hs) (ev_eq (Ev.now _) ?_))))))
   rw [editText, if_pos ⟨h, h2⟩]
   simp
  ·exact ev_neg h2 (ev_eq (Ev.now _) (by rw [editText, if_neg (fun z => h2 z.2)]))
 ·simp only [if_neg h, Option.bind_some]
  exact ev_neg (by decide) (ev_eq (Ev.now _) (by rw [editText, if_neg (fun z => h z.1)]))
theorem editText_length (l : List Int) (hl : l.length ≤ 1048576) (a n : Int) (x : List Int) (hx : x.length ≤ 1048576) : (editText l a n x).1.length ≤ 4194304 := by
 unfold editText
 by_cases h : (0 ≤ a ∧ a ≤ (l.length : Int)) ∧ 0 ≤ n ∧ n ≤ (l.length : Int) - a
 ·rw [if_pos h]
  show (l.take a.toNat ++ x ++ l.drop (a + n).toNat).length ≤ _
  rw [List.length_append, List.length_append, List.length_take, List.length_drop]
  omega
 ·rw [if_neg h]
  exact Nat.zero_le _
theorem FnExactEditText : laws_FnExactEditText.Pure := by
 intro l a n x h1 _ _ h2
 refine Ev.rounds ?_
 simp only [laws_FnExactEditText.f, laws_szEdit.f, laws_szByteS.f, laws_toEdit.f]
 by_cases hl : (l.length : Int) > 1048576
 ·exact ev_pos hl (Ev.now _)
 refine ev_neg hl ?_
 have hx64 : x.length ≤ 9223372036854775807 := h2.1
 rw [wid (n := 1048576 - (x.length : Int)) (by omega) (by omega)]
 by_cases hx : 1048576 - (x.length : Int) < 0
 ·simp only [if_pos hx, Option.bind_some]
  first | exact Ev.now _ | exact ev_now (fun _ => rfl) | exact ev_now (fun _ => by simp)
 simp only [if_neg hx, Option.bind_some]
 have t := laws_toByteS_ev l (by omega)
 have tx := laws_toByteS_ev x (by omega)
 have te : Ev (fun k => (laws_toByteS.f k x).bind fun t => some (a, n, t)) (a, n, x) := ev_bind tx (Ev.now _)
 have sp := spec_EditText_eq l (by omega) a n x (by omega)
 have im := impl_EditText_ev l (by omega) a n x (by omega)
 have fl := editText_length l (by omega) a n x (by omega)
 generalize editText l a n x = r at sp im fl
 obtain ⟨g, b⟩ := r
 replace fl : g.length ≤ 4194304 := fl
 have eg : Ev (fun k => laws_eqByteS.f k g g) true := ev_eq (laws_eqByteS_ev g g (by omega)) (by simp)
 have el : Ev (fun k => laws_eqByteS.f k l l) true := ev_eq (laws_eqByteS_ev l l (by omega)) (by simp)
 have ex : Ev (fun k => laws_eqByteS.f k x x) true := ev_eq (laws_eqByteS_ev x x (by omega)) (by simp)
 have ee : Ev (fun k => laws_eqEdit.f k a n x a n x) true := by
  simp only [laws_eqEdit.f]
  exact ev_pos (by trivial) (ev_pos (by trivial) (ev_bind ex (ev_pos rfl (Ev.now _))))
 have ml := laws_markByteS_ev l 1 (by omega) (by omega) (by omega)
 have mx := laws_markByteS_ev x (1 + l.length) (by omega) (by omega) (by omega)
 have me : Ev (fun k => laws_markEdit.f k a n x (1 + l.length)) (1 + (l.length : Int) + x.length, marks (1 + l.length) x.length) := by
  simp only [laws_markEdit.f]
  exact ev_bind mx (Ev.now _)
 have mg := laws_markByteS_ev g 1 (by omega) (by omega) (by omega)
 have he := laws_heldByteS_ev 1 g.length (by omega) (by omega) (by omega)
 have bb : ¬ (b != b) = true := by simp
 refine ev_bind t ?_
 refine ev_bind te ?_
 refine ev_bind (ev_now fun _ => sp) ?_
 refine ev_bind t ?_
 refine ev_bind te ?_
 refine ev_bind im ?_
 refine ev_bind eg ?_
 refine ev_pos rfl ?_
 refine ev_neg bb ?_
 refine ev_bind t ?_
 refine ev_bind el ?_
 refine ev_pos rfl ?_
 refine ev_bind te ?_
 refine ev_bind ee ?_
 refine ev_pos rfl ?_
 refine ev_bind ml ?_
 refine ev_bind me ?_
 refine ev_neg (by simp only []; omega) ?_
 refine ev_bind eg ?_
 refine ev_pos rfl ?_
 refine ev_bind mg ?_
 refine ev_bind he ?_
 refine ev_neg (by omega) ?_
 refine ev_pos rfl ?_
 refine ev_bind t ?_
 refine ev_bind te ?_
 refine ev_bind im ?_
 refine ev_bind eg ?_
 refine ev_pos rfl ?_
 refine ev_neg bb ?_
 refine ev_bind he ?_
 refine ev_neg (by omega) ?_
 refine ev_pos rfl ?_
 exact Ev.now _
end Go.Proofs.Ytcanejjkgoaplaa.Pure
