/- What is proved here: the plain statement of the law FnExactParseFrames, over numbers and lists. No condition beyond those that it states. -/
import Derived.Test.YtldkbeccpheckaaQFnExactParseFrames
import Derived.Test.YtldkbeccpheckaaTk
namespace Go.Proofs.Ytldkbeccpheckaa.Pure
open Go.RowKit Go.Proofs.Ytldkbeccpheckaa.PFnExactParseFrames Go.Proofs.YtldkbeccpheckaaW.PrintWords Go.Proofs.YtldkbeccpheckaaW.PrintMore Go.Proofs.Ytldkbeccpheckaa.Tk Go.Proofs.Ytldkbeccpheckaa.Opn
set_option linter.unusedVariables false
set_option linter.unusedSimpArgs false
def Sizes (m : List (List Int)) : Prop := ∀ a ∈ m, 1 ≤ a.length ∧ a.length ≤ 64
instance (m : List (List Int)) : Decidable (Sizes m) := by unfold Sizes; exact inferInstance
theorem Sizes.nil : Sizes [] := fun a ha => by simp at ha
theorem Sizes.cons {a : List Int} {m : List (List Int)} (h : (1 : Int) ≤ (a.length : Int) ∧ (a.length : Int) ≤ 64) (k : Sizes m) : Sizes (a :: m) := fun b hb => by
 rcases List.mem_cons.1 hb with rfl | hb
 ·omega
 ·exact k b hb
theorem Sizes.head {a : List Int} {m : List (List Int)} (k : Sizes (a :: m)) : (1 : Int) ≤ (a.length : Int) ∧ (a.length : Int) ≤ 64 := by
 have := k a List.mem_cons_self
 omega
theorem Sizes.tail {a : List Int} {m : List (List Int)} (k : Sizes (a :: m)) : Sizes m := fun b hb => k b (List.mem_cons_of_mem _ hb)
def MemOK (m : List (List Int)) : Prop := m.length ≤ 16 ∧ Sizes m
instance (m : List (List Int)) : Decidable (MemOK m) := by unfold MemOK; exact inferInstance
def arr_ (m : List (List Int)) (a : Int) : List Int := m.getD a.toNat []
def WinOK (m : List (List Int)) (a s l c : Int) : Prop := MemOK m ∧ 0 ≤ a ∧ a < (m.length : Int) ∧ 0 ≤ s ∧ 0 ≤ l ∧ l ≤ c ∧ s + c ≤ ((arr_ m a).length : Int)
instance (m : List (List Int)) (a s l c : Int) : Decidable (WinOK m a s l c) := by unfold WinOK; exact inferInstance
def Small (m : List (List Int)) : Prop := m.length ≤ 1048576 ∧ ∀ a ∈ m, a.length ≤ 1048576
theorem arr_mem {m : List (List Int)} {a : Int} (h0 : 0 ≤ a) (h1 : a < (m.length : Int)) : arr_ m a ∈ m := by
 unfold arr_
 rw [getD_lt m [] (by omega : a.toNat < m.length)]
 exact List.getElem_mem _
theorem arr_size {m : List (List Int)} (hm : MemOK m) {a : Int} (h0 : 0 ≤ a) (h1 : a < (m.length : Int)) : 1 ≤ (arr_ m a).length ∧ (arr_ m a).length ≤ 64 := hm.2 _ (arr_mem h0 h1)
theorem MemOK.small {m : List (List Int)} (hm : MemOK m) : Small m := ⟨by have := hm.1; omega, fun a ha => by have := hm.2 a ha; omega⟩
theorem WinOK.bounds {m : List (List Int)} {a s l c : Int} (h : WinOK m a s l c) : MemOK m ∧ 0 ≤ a ∧ a < 16 ∧ a < (m.length : Int) ∧ 0 ≤ s ∧ s ≤ 64 ∧ 0 ≤ l ∧ l ≤ c ∧ c ≤ 64 ∧ s + c ≤ ((arr_ m a).length : Int) ∧ ((arr_ m a).length : Int) ≤ 64 := by
 obtain ⟨hm, h0, h1, h2, h3, h4, h5⟩ := h
 have := arr_size hm h0 h1
 have := hm.1
 refine ⟨hm, h0, by omega, h1, h2, by omega, h3, h4, by omega, h5, by omega⟩
theorem dec_false {p : Prop} [Decidable p] (h : ¬ p) : some false = some (decide p) := by rw [decide_eq_false h]
def bytes (m : List (List Int)) (a s l : Int) : List Int := ((arr_ m a).take (s + l).toNat).drop s.toNat
theorem bytes_length {m : List (List Int)} {a s l c : Int} (h : WinOK m a s l c) : ((bytes m a s l).length : Int) = l := by
 have hb := h.bounds
 unfold bytes
 rw [List.length_drop, List.length_take]
 omega
theorem bytes_rd {m : List (List Int)} {a s l c : Int} (h : WinOK m a s l c) {i : Int} (h0 : 0 ≤ i) (h1 : i < l) : rd (bytes m a s l) i = rd (arr_ m a) (s + i) := by
 have hb := h.bounds
 unfold bytes rd
 rw [List.getD_eq_getElem?_getD, List.getD_eq_getElem?_getD, List.getElem?_drop, List.getElem?_take, if_pos (by omega)]
 congr 2
 omega
def slot (l f i : Int) : Int := (f + i) % l
theorem slot_range {l f i : Int} (h : 0 < l) : 0 ≤ slot l f i ∧ slot l f i < l := ⟨Int.emod_nonneg _ (by omega), Int.emod_lt_of_pos _ h⟩
theorem tmod_slot {l f i : Int} (h0 : 0 ≤ f) (h1 : 0 ≤ i) (h2 : f ≤ 1048576) (h3 : i ≤ 1048576) : Int.tmod (wrap64 (f + i)) l = slot l f i := by
 rw [wid (by omega) (by omega), Int.tmod_eq_emod_of_nonneg (by omega)]
 rfl
theorem spec_l2At_eq {m : List (List Int)} {a s l c : Int} (h : WinOK m a s l c) {i : Int} (h0 : 0 ≤ i) (h1 : i < l) : spec_l2At.f m a s l c i = some (rd (bytes m a s l) i) := by
 have hb := h.bounds
 have hr : rd_L1 m a = arr_ m a := rfl
 rw [bytes_rd h h0 h1]
 unfold spec_l2At.f
 rw [wid (n := s + i) (by omega) (by omega), hr, if_pos (by omega), if_pos (by omega), if_pos (by omega), if_pos (by omega)]
theorem spec_l2Bytes_l0 {m : List (List Int)} {a s l c : Int} (hw : WinOK m a s l c) : ∀ (d i : Nat), (i : Int) + d = l → Ev (fun k => spec_l2Bytes.l0 k ((bytes m a s l).take i) (i : Int) m a s l c) (bytes m a s l) := by
 have hb := hw.bounds
 have hl := bytes_length hw
 intro d
 induction d with
 | zero =>
  intro i hi
  refine ev_succ ?_
  simp only [spec_l2Bytes.l0]
  exact ev_neg (by omega) (ev_eq (Ev.now _) (List.take_of_length_le (by omega)))
 | succ d ih =>
  intro i hi
  have h : i < (bytes m a s l).length := by omega
  refine ev_succ ?_
  simp only [spec_l2Bytes.l0]
  refine ev_pos (by omega) (ev_bind (ev_now (fun _ => spec_l2At_eq hw (i := (i : Int)) (by omega) (by omega))) (ev_pos (by rw [List.length_take]; omega) ?_))
  rw [wsucc (by omega), rd_lt _ h, ← List.take_succ_eq_append_getElem h]
  exact ih (i + 1) (by omega)
theorem spec_l2Bytes_ev {m : List (List Int)} {a s l c : Int} (hw : WinOK m a s l c) : Ev (fun k => spec_l2Bytes.f k m a s l c) (bytes m a s l) := by
 have hb := hw.bounds
 simp only [spec_l2Bytes.f]
 exact spec_l2Bytes_l0 hw l.toNat 0 (by omega)
def chk (l : List Int) : Int := l.foldl (fun a b => Go.bits .xor .u8 a b) 0
theorem spec_l9Check_l0 (l : List Int) (hl : l.length ≤ 281474976710656) : ∀ (d i : Nat) (c : Int), i + d = l.length → Ev (fun k => spec_l9Check.l0 k l c (i : Int)) ((l.drop i).foldl (fun a b => Go.bits .xor .u8 a b) c) := by
 intro d
 induction d with
 | zero =>
  intro i c hi
  rw [List.drop_eq_nil_of_le (by omega)]
  refine ev_end (fun k => ?_)
  simp only [spec_l9Check.l0]
  rw [if_neg (by omega)]
  rfl
 | succ d ih =>
  intro i c hi
  have h : i < l.length := by omega
  rw [List.drop_eq_getElem_cons h, List.foldl_cons]
  refine Ev.step (fun k => ?_) (ih (i + 1) _ (by omega))
  simp only [spec_l9Check.l0]
  rw [if_pos (by omega), if_pos (by omega), rd_lt l h, wsucc (by omega)]
theorem spec_l9Check_ev (l : List Int) (hl : l.length ≤ 281474976710656) : Ev (fun k => spec_l9Check.f k l) (chk l) := by
 simp only [spec_l9Check.f]
 have := spec_l9Check_l0 l hl l.length 0 0 (by omega)
 simpa [chk] using this
theorem spec_l1In_eq (a b c : Int) : spec_l1In.f a b c = some (decide (b ≤ a ∧ a ≤ c)) := by
 unfold spec_l1In.f
 by_cases h : a ≥ b
 ·rw [if_pos h]
  congr 1
  exact decide_eq_decide.mpr ⟨fun x => ⟨h, x⟩, fun x => x.2⟩
 ·rw [if_neg h]
  exact dec_false (fun x => h x.1)
theorem spec_l2Memory_l0 (m : List (List Int)) (hm : m.length ≤ 1048576) : ∀ (d i : Nat), i + d = m.length → Ev (fun k => spec_l2Memory.l0 k (i : Int) m) (decide (m.length ≤ 16 ∧ Sizes (m.drop i))) := by
 intro d
 induction d with
 | zero =>
  intro i hi
  have e : m.drop i = [] := List.drop_eq_nil_of_le (by omega)
  refine ev_succ (ev_eq (r := decide ((m.length : Int) ≤ 16)) ?_ ?_)
  ·simp only [spec_l2Memory.l0]
   refine ev_neg (by omega) (ev_succ ?_)
   simp only [spec_l2Memory.j1]
   exact ev_neg (by decide) (Ev.now _)
  ·rw [e]
   exact decide_eq_decide.mpr ⟨fun h => ⟨by omega, Sizes.nil⟩, fun h => by have := h.1; omega⟩
 | succ d ih =>
  intro i hi
  have h : i < m.length := by omega
  refine ev_succ ?_
  simp only [spec_l2Memory.l0]
  refine ev_pos (by omega) (ev_succ ?_)
  by_cases h16 : (i : Int) ≤ 16
  ·simp only [spec_l2Memory.j1, decide_eq_true h16]
   refine ev_pos (by first | trivial | rfl) (ev_pos (by omega) (ev_pos (by omega) ?_))
   have hr : rd_L1 m (i : Int) = m[i] := by
    unfold rd_L1
    exact getD_lt m [] h
   simp only [spec_l1In_eq, hr, Option.bind_some, decide_eq_true_eq]
   by_cases hs : (1 : Int) ≤ (m[i].length : Int) ∧ (m[i].length : Int) ≤ 64
   ·refine ev_pos hs (ev_eq (r := decide (m.length ≤ 16 ∧ Sizes (m.drop (i + 1)))) ?_ ?_)
    ·have := ih (i + 1) (by omega)
     rw [← wsucc (i := i) (by omega)] at this
     exact this
    ·rw [List.drop_eq_getElem_cons h]
     exact decide_eq_decide.mpr ⟨fun x => ⟨x.1, x.2.cons hs⟩, fun x => ⟨x.1, x.2.tail⟩⟩
   ·refine ev_neg hs (ev_eq (Ev.now false) ?_)
    rw [List.drop_eq_getElem_cons h]
    exact (decide_eq_false (fun x => hs x.2.head)).symm
  ·simp only [spec_l2Memory.j1, decide_eq_false h16]
   refine ev_neg (by decide) (ev_eq (Ev.now (decide ((m.length : Int) ≤ 16))) ?_)
   exact decide_eq_decide.mpr ⟨fun x => by omega, fun x => by have := x.1; omega⟩
theorem spec_l2Memory_ev (m : List (List Int)) (hm : m.length ≤ 1048576) : Ev (fun k => spec_l2Memory.f k m) (decide (MemOK m)) := by
 simp only [spec_l2Memory.f]
 have := spec_l2Memory_l0 m hm m.length 0 (by omega)
 rw [List.drop_zero] at this
 exact this
theorem spec_l2Window_ev (m : List (List Int)) (hm : m.length ≤ 1048576) (a s l c : Int) : Ev (fun k => spec_l2Window.f k m a s l c) (decide (WinOK m a s l c)) := by
 simp only [spec_l2Window.f, spec_l1In_eq, Option.bind_some]
 refine ev_bind (spec_l2Memory_ev m hm) ?_
 by_cases h : MemOK m
 ·refine ev_pos (decide_eq_true h) (ev_succ ?_)
  have hl := h.1
  simp only [spec_l2Window.j0]
  rw [wid (n := (m.length : Int) - 1) (by omega) (by omega)]
  by_cases h1 : 0 ≤ a ∧ a ≤ (m.length : Int) - 1
  ·have hz := arr_size h h1.1 (by omega)
   have hr : rd_L1 m a = arr_ m a := rfl
   simp only [decide_eq_true h1, spec_l1In_eq, Option.bind_some, hr, decide_eq_true_eq]
   refine ev_neg (by decide) (ev_pos h1.1 (ev_pos (by omega) ?_))
   by_cases h2 : 0 ≤ s ∧ s ≤ ((arr_ m a).length : Int)
   ·refine ev_pos h2 ?_
    rw [wid (n := ((arr_ m a).length : Int) - s) (by omega) (by omega)]
    by_cases h3 : 0 ≤ c ∧ c ≤ ((arr_ m a).length : Int) - s
    ·refine ev_pos h3 (ev_eq (Ev.now _) (decide_eq_decide.mpr ⟨fun x => ⟨h, by omega⟩, fun x => ⟨x.2.2.2.2.1, x.2.2.2.2.2.1⟩⟩))
    ·refine ev_neg h3 (ev_eq (Ev.now _) (decide_eq_false (fun x => h3 ?_)).symm)
     obtain ⟨_, x⟩ := x
     omega
   ·refine ev_neg h2 (ev_eq (Ev.now _) (decide_eq_false (fun x => h2 ?_)).symm)
    obtain ⟨_, x⟩ := x
    omega
  ·simp only [decide_eq_false h1]
   refine ev_pos (by first | trivial | rfl) (ev_eq (Ev.now _) (decide_eq_false (fun x => h1 ?_)).symm)
   obtain ⟨_, x⟩ := x
   omega
 ·refine ev_neg (by rw [decide_eq_false h]; decide) (ev_succ ?_)
  simp only [spec_l2Window.j0]
  exact ev_pos (by first | trivial | rfl) (ev_eq (Ev.now _) (decide_eq_false (fun x => h x.1)).symm)
def WinAt (m : List (List Int)) (w : S33) : Prop := WinOK m w.f0 w.f1 w.f2 w.f3
instance (m : List (List Int)) (w : S33) : Decidable (WinAt m w) := by unfold WinAt; exact inferInstance
def AllOn (m : List (List Int)) : List S33 → Prop
 | [] => True
 | w :: ws => WinAt m w ∧ AllOn m ws
instance allOnDec (m : List (List Int)) : (ws : List S33) → Decidable (AllOn m ws)
 | [] => isTrue trivial
 | w :: ws => by
  haveI := allOnDec m ws
  unfold AllOn
  exact inferInstance
theorem AllOn.mem {m : List (List Int)} : ∀ {ws : List S33}, AllOn m ws → ∀ w ∈ ws, WinAt m w
 | [], _, w, hw => by simp at hw
 | x :: ws, h, w, hw => by
  rcases List.mem_cons.1 hw with rfl | hw
  ·exact h.1
  ·exact AllOn.mem h.2 w hw
theorem AllOn.of {m : List (List Int)} : ∀ {ws : List S33}, (∀ w ∈ ws, WinAt m w) → AllOn m ws
 | [], _ => trivial
 | x :: ws, h => ⟨h x List.mem_cons_self, AllOn.of (fun w hw => h w (List.mem_cons_of_mem _ hw))⟩
theorem AllOn.drop {m : List (List Int)} {ws : List S33} (h : AllOn m ws) (i : Nat) : AllOn m (ws.drop i) := AllOn.of (fun w hw => h.mem w (List.mem_of_mem_drop hw))
theorem rdW {ws : List S33} {i : Nat} (h : i < ws.length) : rd_T33 ws (i : Int) = ws[i] := by
 unfold rd_T33
 exact getD_lt ws _ h
theorem impl_within_eq (a b c : Int) : impl_within.f a b c = some (decide (b ≤ a ∧ a ≤ c)) := by
 unfold impl_within.f
 by_cases h : a ≥ b
 ·rw [if_pos h]
  congr 1
  exact decide_eq_decide.mpr ⟨fun x => ⟨h, x⟩, fun x => x.2⟩
 ·rw [if_neg h]
  exact dec_false (fun x => h x.1)
theorem impl_Memory_hasWindow_eq (m : List (List Int)) (h : MemOK m) (a s l c : Int) : impl_Memory_hasWindow.f m a s l c = some (decide (WinOK m a s l c)) := by
 have hl := h.1
 simp only [impl_Memory_hasWindow.f, impl_Memory_hasArray.f, impl_within_eq, Option.bind_some, decide_eq_true_eq]
 rw [wid (n := (m.length : Int) - 1) (by omega) (by omega)]
 by_cases h1 : 0 ≤ a ∧ a ≤ (m.length : Int) - 1
 ·have hz := arr_size h h1.1 (by omega)
  have hr : rd_L1 m a = arr_ m a := rfl
  rw [if_pos h1, hr]
  by_cases h2 : 0 ≤ c ∧ c ≤ 64
  ·rw [if_pos h2]
   by_cases h3 : 0 ≤ l ∧ l ≤ c
   ·rw [if_pos h3, if_pos h1.1, if_pos (by omega), wid (n := ((arr_ m a).length : Int) - c) (by omega) (by omega)]
    congr 1
    exact decide_eq_decide.mpr ⟨fun x => ⟨h, by omega⟩, fun x => by obtain ⟨_, x⟩ := x; omega⟩
   ·rw [if_neg h3]
    exact dec_false (fun x => h3 (by obtain ⟨_, x⟩ := x; omega))
  ·rw [if_neg h2]
   exact dec_false (fun x => h2 (by obtain ⟨_, x⟩ := x; omega))
 ·rw [if_neg h1]
  exact dec_false (fun x => h1 (by obtain ⟨_, x⟩ := x; omega))
theorem impl_IsMemory_l0 (m : List (List Int)) (hm : m.length ≤ 1048576) : ∀ (d i : Nat), i + d = m.length → Ev (fun k => impl_IsMemory.l0 k m (m.length : Int) (i : Int) m) (decide (m.length ≤ 16 ∧ Sizes (m.drop i))) := by
 intro d
 induction d with
 | zero =>
  intro i hi
  have e : m.drop i = [] := List.drop_eq_nil_of_le (by omega)
  refine ev_succ (ev_eq (r := decide ((m.length : Int) ≤ 16)) ?_ ?_)
  ·simp only [impl_IsMemory.l0]
   exact ev_neg (by omega) (Ev.now _)
  ·rw [e]
   exact decide_eq_decide.mpr ⟨fun h => ⟨by omega, Sizes.nil⟩, fun h => by have := h.1; omega⟩
 | succ d ih =>
  intro i hi
  have h : i < m.length := by omega
  refine ev_succ ?_
  simp only [impl_IsMemory.l0]
  refine ev_pos (by omega) (ev_pos (by omega) (ev_pos (by omega) ?_))
  have hr : rd_L1 m (i : Int) = m[i] := by
   unfold rd_L1
   exact getD_lt m [] h
  simp only [impl_within_eq, hr, Option.bind_some, decide_eq_true_eq]
  by_cases hs : (1 : Int) ≤ (m[i].length : Int) ∧ (m[i].length : Int) ≤ 64
  ·refine ev_pos hs (ev_eq (r := decide (m.length ≤ 16 ∧ Sizes (m.drop (i + 1)))) ?_ ?_)
   ·have := ih (i + 1) (by omega)
    rw [← wsucc (i := i) (by omega)] at this
    exact this
   ·rw [List.drop_eq_getElem_cons h]
    exact decide_eq_decide.mpr ⟨fun x => ⟨x.1, x.2.cons hs⟩, fun x => ⟨x.1, x.2.tail⟩⟩
  ·refine ev_neg hs (ev_eq (Ev.now false) ?_)
   rw [List.drop_eq_getElem_cons h]
   exact (decide_eq_false (fun x => hs x.2.head)).symm
theorem impl_IsMemory_ev (m : List (List Int)) (hm : m.length ≤ 1048576) : Ev (fun k => impl_IsMemory.f k m) (decide (MemOK m)) := by
 simp only [impl_IsMemory.f]
 have := impl_IsMemory_l0 m hm m.length 0 (by omega)
 rw [List.drop_zero] at this
 exact this
theorem impl_areOn_any (m : List (List Int)) (h : MemOK m) : ∀ ws : List S33, Opn.anyO (fun x => (impl_Memory_hasWindow.f m x.f0 x.f1 x.f2 x.f3).bind fun b => some (!b)) ws = some (!decide (AllOn m ws))
 | [] => rfl
 | w :: ws => by
  unfold Opn.anyO
  rw [impl_Memory_hasWindow_eq m h, Option.bind_some, Option.bind_some, impl_areOn_any m h ws]
  by_cases hw : WinOK m w.f0 w.f1 w.f2 w.f3
  ·rw [decide_eq_true hw, if_neg (by decide)]
   congr 2
   exact decide_eq_decide.mpr ⟨fun x => ⟨hw, x⟩, fun x => x.2⟩
  ·rw [decide_eq_false hw, if_pos (by decide), decide_eq_false (fun x : AllOn m (w :: ws) => hw x.1)]
   rfl
theorem impl_areOn_ev (m : List (List Int)) (hm : m.length ≤ 1048576) (ws : List S33) : Ev (fun k => impl_areOn.f k m ws) (decide (MemOK m ∧ AllOn m ws)) := by
 simp only [impl_areOn.f]
 refine ev_bind (impl_IsMemory_ev m hm) ?_
 by_cases h : MemOK m
 ·refine ev_pos (decide_eq_true h) (ev_now (fun k => ?_))
  rw [impl_areOn_any m h, Option.bind_some, Bool.not_not]
  congr 1
  exact decide_eq_decide.mpr ⟨fun x => ⟨h, x⟩, fun x => x.2⟩
 ·exact ev_neg (by rw [decide_eq_false h]; decide) (ev_eq (Ev.now _) (decide_eq_false (fun x => h x.1)).symm)
theorem impl_areOn1_ev (m : List (List Int)) (hm : m.length ≤ 1048576) (a s l c : Int) : Ev (fun k => impl_areOn.f k m [(⟨a, s, l, c⟩ : S33)]) (decide (WinOK m a s l c)) :=
 ev_eq (impl_areOn_ev m hm _) (decide_eq_decide.mpr ⟨fun x => x.2.1, fun x => ⟨x.1, x, trivial⟩⟩)
def IsBytes (l : List Int) : Prop := ∀ x ∈ l, U8 x
theorem ofNat_inj {x y : Int} (hx : U8 x) (hy : U8 y) (h : UInt8.ofNat x.toNat = UInt8.ofNat y.toNat) : x = y := by
 have h2 := congrArg UInt8.toNat h
 simp only [UInt8.toNat_ofNat'] at h2
 unfold U8 at hx hy
 omega
theorem map_ofNat_inj : ∀ {a b : List Int}, IsBytes a → IsBytes b → a.map (fun n => UInt8.ofNat n.toNat) = b.map (fun n => UInt8.ofNat n.toNat) → a = b
 | [], [], _, _, _ => rfl
 | [], _ :: _, _, _, h => by simp at h
 | _ :: _, [], _, _, h => by simp at h
 | x :: a, y :: b, ha, hb, h => by
  simp only [List.map_cons, List.cons.injEq] at h
  rw [ofNat_inj (ha x List.mem_cons_self) (hb y List.mem_cons_self) h.1, map_ofNat_inj (fun z hz => ha z (List.mem_cons_of_mem _ hz)) (fun z hz => hb z (List.mem_cons_of_mem _ hz)) h.2]
theorem str_eq {a b : List Int} (ha : IsBytes a) (hb : IsBytes b) : ((strOfNums a).toList == (strOfNums b).toList) = decide (a = b) := by
 have e : ∀ l : List Int, (strOfNums l).toList = l.map (fun n => UInt8.ofNat n.toNat) := fun l => by unfold strOfNums; exact ByteArray.toList_mk _
 rw [e, e]
 by_cases h : a = b
 ·rw [h]; simp
 ·rw [decide_eq_false h]
  exact beq_eq_false_iff_ne.mpr (fun x => h (map_ofNat_inj ha hb x))
theorem rd_bytes {l : List Int} (h : IsBytes l) (i : Int) : U8 (rd l i) := by
 unfold rd
 rw [List.getD_eq_getElem?_getD]
 cases e : l[i.toNat]? with
 | none => exact ⟨by decide, by decide⟩
 | some v => exact h v (List.mem_of_getElem? e)
theorem arr_bytes {m : List (List Int)} (hm : Row (Row U8) m) (a : Int) : IsBytes (arr_ m a) := by
 unfold arr_
 rw [List.getD_eq_getElem?_getD]
 cases e : m[a.toNat]? with
 | none => exact fun x hx => by simp at hx
 | some v => exact (hm.2 v (List.mem_of_getElem? e)).2
theorem bytes_bytes {m : List (List Int)} (hm : Row (Row U8) m) (a s l : Int) : IsBytes (bytes m a s l) := fun x hx => arr_bytes hm a x (List.mem_of_mem_take (List.mem_of_mem_drop hx))
theorem xor0 {a b : Int} (ha : 0 ≤ a ∧ a ≤ 255) (hb : 0 ≤ b ∧ b ≤ 255) : Go.bits .xor .u8 a b = 0 ↔ a = b := by
 rw [u8_xor a b ha.1 (by omega) hb.1 (by omega)]
 constructor
 ·intro h
  have h1 : a.toNat ^^^ b.toNat = 0 := by omega
  have h2 : a.toNat ^^^ (a.toNat ^^^ b.toNat) = a.toNat ^^^ 0 := by rw [h1]
  rw [← Nat.xor_assoc, Nat.xor_self, Nat.zero_xor, Nat.xor_zero] at h2
  omega
 ·rintro rfl
  rw [Nat.xor_self]
  rfl
theorem xor_in {a b : Int} (ha : 0 ≤ a ∧ a ≤ 255) (hb : 0 ≤ b ∧ b ≤ 255) : 0 ≤ Go.bits .xor .u8 a b ∧ Go.bits .xor .u8 a b ≤ 255 := by
 rw [u8_xor a b ha.1 (by omega) hb.1 (by omega)]
 have := Nat.xor_lt_two_pow (n := 8) (show a.toNat < 2 ^ 8 by omega) (show b.toNat < 2 ^ 8 by omega)
 omega
theorem chk_in' : ∀ (l : List Int) (c : Int), (∀ x ∈ l, 0 ≤ x ∧ x ≤ 255) → 0 ≤ c ∧ c ≤ 255 → 0 ≤ l.foldl (fun a b => Go.bits .xor .u8 a b) c ∧ l.foldl (fun a b => Go.bits .xor .u8 a b) c ≤ 255
 | [], c, _, hc => hc
 | x :: l, c, h, hc => chk_in' l _ (fun y hy => h y (List.mem_cons_of_mem _ hy)) (xor_in hc (h x List.mem_cons_self))
theorem chk_in {l : List Int} (h : ∀ x ∈ l, 0 ≤ x ∧ x ≤ 255) : 0 ≤ chk l ∧ chk l ≤ 255 := chk_in' l 0 h (by omega)
theorem chk_snoc (l : List Int) (x : Int) : chk (l ++ [x]) = Go.bits .xor .u8 (chk l) x := by
 unfold chk
 rw [List.foldl_append]
 rfl
def FrameAt (B : List Int) (i : Nat) : Prop := (B.getD (i + 1) 0).toNat ≤ 30 ∧ i + 2 + (B.getD (i + 1) 0).toNat < B.length ∧ chk ((B.drop i).take (2 + (B.getD (i + 1) 0).toNat)) = B.getD (i + 2 + (B.getD (i + 1) 0).toNat) 0
instance (B : List Int) (i : Nat) : Decidable (FrameAt B i) := by unfold FrameAt; exact inferInstance
theorem bytes_part {m : List (List Int)} {a s l c : Int} (hw : WinOK m a s l c) {i n : Nat} (h : (i : Int) + n ≤ l) : bytes m a (s + i) n = ((bytes m a s l).drop i).take n := by
 have hb := hw.bounds
 unfold bytes
 rw [List.drop_drop, List.drop_take, List.drop_take, List.take_take]
 rw [show (s + (i : Int)).toNat = s.toNat + i from by omega]
 congr 1
 omega
theorem spec_l9Frame_ev {m : List (List Int)} (hu : Row (Row U8) m) {a s l c : Int} (hw : WinOK m a s l c) (i : Nat) (hi : (i : Int) ≤ l) :
  Ev (fun k => spec_l9Frame.f k m a s l c (i : Int)) (if (i : Int) + 3 ≤ l ∧ FrameAt (bytes m a s l) i then (((bytes m a s l).getD (i + 1) 0).toNat : Int) + 3 else 0) := by
 have hb := hw.bounds
 have hl := bytes_length hw
 have hB := bytes_bytes hu a s l
 simp only [spec_l9Frame.f]
 rw [wid (n := l - (i : Int)) (by omega) (by omega)]
 by_cases h3 : l - (i : Int) < 3
 ·exact ev_pos h3 (ev_eq (Ev.now _) (if_neg (by omega)).symm)
 refine ev_neg h3 ?_
 rw [wid (n := (i : Int) + 1) (by omega) (by omega)]
 refine ev_bind (ev_now fun _ => spec_l2At_eq hw (i := (i : Int) + 1) (by omega) (by omega)) ?_
 have e1 : rd (bytes m a s l) ((i : Int) + 1) = (bytes m a s l).getD (i + 1) 0 := by
  unfold rd
  rw [show ((i : Int) + 1).toNat = i + 1 from by omega]
 rw [e1]
 have hlt : i + 1 < (bytes m a s l).length := by omega
 have hr : 0 ≤ (bytes m a s l).getD (i + 1) 0 ∧ (bytes m a s l).getD (i + 1) 0 ≤ 255 := by
  rw [getD_lt _ 0 hlt]
  exact hB _ (List.getElem_mem hlt)
 obtain ⟨n, hn⟩ : ∃ n : Nat, (bytes m a s l).getD (i + 1) 0 = (n : Int) := ⟨((bytes m a s l).getD (i + 1) 0).toNat, by omega⟩
 have hFA : FrameAt (bytes m a s l) i ↔ (n ≤ 30 ∧ i + 2 + n < (bytes m a s l).length ∧ chk (((bytes m a s l).drop i).take (2 + n)) = (bytes m a s l).getD (i + 2 + n) 0) := by
  unfold FrameAt
  rw [hn, Int.toNat_natCast]
 rw [hn, Int.toNat_natCast]
 rw [hn] at hr
 rw [wid (n := (n : Int)) (by omega) (by omega), wid (n := (n : Int) + 3) (by omega) (by omega)]
 by_cases h30 : (n : Int) > 30
 ·refine ev_pos h30 (ev_succ ?_)
  simp only [spec_l9Frame.j0]
  exact ev_pos (by simp) (ev_eq (Ev.now _) (if_neg (fun h => by have := hFA.1 h.2; omega)).symm)
 refine ev_neg h30 (ev_succ ?_)
 simp only [spec_l9Frame.j0]
 by_cases hf : l - (i : Int) < (n : Int) + 3
 ·exact ev_pos (decide_eq_true hf) (ev_eq (Ev.now _) (if_neg (fun h => by have := hFA.1 h.2; omega)).symm)
 refine ev_neg (by rw [decide_eq_false hf]; decide) ?_
 have hw2 : WinOK m a (s + (i : Int)) (((n + 3 : Nat) : Int)) (((n + 3 : Nat) : Int)) := by
  obtain ⟨p1, p2, p3, p4, p5, p6, p7⟩ := hw
  exact ⟨p1, p2, p3, by omega, by omega, by omega, by omega⟩
 simp only [spec_l2Slice.f, Option.bind_some]
 rw [wid (n := (i : Int) + (n : Int)) (by omega) (by omega), wid (n := (i : Int) + (n : Int) + 3) (by omega) (by omega), wid (n := s + (i : Int)) (by omega) (by omega), wid (n := (i : Int) + (n : Int) + 3 - (i : Int)) (by omega) (by omega), show (i : Int) + (n : Int) + 3 - (i : Int) = ((n + 3 : Nat) : Int) from by omega]
 refine ev_bind (spec_l2Bytes_ev hw2) ?_
 have hpart := bytes_part hw (i := i) (n := n + 3) (by omega)
 have hx : i + 2 + n < (bytes m a s l).length := by omega
 have hsn : ((bytes m a s l).drop i).take (n + 3) = ((bytes m a s l).drop i).take (2 + n) ++ [(bytes m a s l).getD (i + 2 + n) 0] := by
  rw [show n + 3 = (2 + n) + 1 from by omega, List.take_add_one, List.getElem?_drop, show i + (2 + n) = i + 2 + n from by omega, List.getElem?_eq_getElem hx, getD_lt _ 0 hx]
  rfl
 rw [hpart, hsn]
 refine ev_bind (spec_l9Check_ev _ (by simp; omega)) ?_
 rw [chk_snoc]
 have hin : ∀ x ∈ ((bytes m a s l).drop i).take (2 + n), 0 ≤ x ∧ x ≤ 255 := fun x hx => hB x (List.mem_of_mem_drop (List.mem_of_mem_take hx))
 have hlast : 0 ≤ (bytes m a s l).getD (i + 2 + n) 0 ∧ (bytes m a s l).getD (i + 2 + n) 0 ≤ 255 := by
  rw [getD_lt _ 0 hx]
  exact hB _ (List.getElem_mem hx)
 by_cases hc : chk (((bytes m a s l).drop i).take (2 + n)) = (bytes m a s l).getD (i + 2 + n) 0
 ·refine ev_pos ((xor0 (chk_in hin) hlast).2 hc) (ev_eq (Ev.now _) ?_)
  rw [if_pos (show (i : Int) + 3 ≤ l ∧ FrameAt (bytes m a s l) i from ⟨by omega, hFA.2 ⟨by omega, hx, hc⟩⟩)]
  exact wid (by omega) (by omega)
 ·refine ev_neg (fun h => hc ((xor0 (chk_in hin) hlast).1 h)) (ev_eq (Ev.now _) ?_)
  exact (if_neg (fun h => hc (hFA.1 h.2).2.2)).symm
theorem spec_l9Frames_l0 {m : List (List Int)} (hu : Row (Row U8) m) {a s l c : Int} (hw : WinOK m a s l c) : ∀ (f i : Nat) (xs : List Int) (tags : List Int) (pays : List S33), (i : Int) ≤ l → l + 1 - i ≤ f → xs.length ≤ i →
  ∃ S : List Nat, (∀ j ∈ S, (j : Int) + 3 ≤ l ∧ FrameAt (bytes m a s l) j) ∧ (S.length : Int) + i ≤ l ∧ Ev (fun k => spec_l9Frames.l0 k xs (i : Int) m a s l c) (xs ++ S.map (fun j : Nat => (j : Int)), (impl_Memory_frames.go a s (bytes m a s l) f i tags pays).2.2)
   ∧ (impl_Memory_frames.go a s (bytes m a s l) f i tags pays).1 = tags ++ S.map (fun j => (bytes m a s l).getD j 0)
   ∧ (impl_Memory_frames.go a s (bytes m a s l) f i tags pays).2.1 = pays ++ S.map (fun j : Nat => (⟨a, s + ((j : Int) + 2), (((bytes m a s l).getD (j + 1) 0).toNat : Int), (((bytes m a s l).getD (j + 1) 0).toNat : Int)⟩ : S33)) := by
 have hb := hw.bounds
 have hl := bytes_length hw
 intro f
 induction f with
 | zero => intro i xs tags pays h1 h2; omega
 | succ f ih =>
  intro i xs tags pays h1 h2 h3
  have ev := spec_l9Frame_ev hu hw i h1
  by_cases h : (i : Int) + 3 ≤ l ∧ FrameAt (bytes m a s l) i
  ·rw [if_pos h] at ev
   obtain ⟨hi3, hF⟩ := h
   have hF2 := hF
   unfold FrameAt at hF2
   have hgo : impl_Memory_frames.go a s (bytes m a s l) (f + 1) i tags pays = impl_Memory_frames.go a s (bytes m a s l) f (i + 2 + ((bytes m a s l).getD (i + 1) 0).toNat + 1) (tags ++ [(bytes m a s l).getD i 0]) (pays ++ [⟨a, s + ((i : Int) + 2), (((bytes m a s l).getD (i + 1) 0).toNat : Int), (((bytes m a s l).getD (i + 1) 0).toNat : Int)⟩]) := by
    rw [impl_Memory_frames.go, if_pos (by omega)]
    exact if_pos hF2
   rw [hgo]
   obtain ⟨q1, q2, _⟩ := hF2
   obtain ⟨S, k1, k2, k3, k4, k5⟩ := ih (i + 2 + ((bytes m a s l).getD (i + 1) 0).toNat + 1) (xs ++ [(i : Int)]) (tags ++ [(bytes m a s l).getD i 0]) (pays ++ [⟨a, s + ((i : Int) + 2), (((bytes m a s l).getD (i + 1) 0).toNat : Int), (((bytes m a s l).getD (i + 1) 0).toNat : Int)⟩]) (by omega) (by omega) (by simp; omega)
   refine ⟨i :: S, ?_, ?_, ?_, ?_, ?_⟩
   ·intro j hj
    rcases List.mem_cons.1 hj with rfl | hj
    ·exact ⟨hi3, hF⟩
    ·exact k1 j hj
   ·simp only [List.length_cons]
    omega
   ·refine ev_succ ?_
    simp only [spec_l9Frames.l0]
    refine ev_bind ev (ev_pos (by omega) (ev_pos (by omega) (ev_bind ev ?_)))
    rw [wid (by omega) (by omega), show (i : Int) + ((((bytes m a s l).getD (i + 1) 0).toNat : Int) + 3) = ((i + 2 + ((bytes m a s l).getD (i + 1) 0).toNat + 1 : Nat) : Int) from by omega]
    refine ev_eq k3 ?_
    rw [List.append_assoc]
    rfl
   ·rw [k4, List.append_assoc]
    rfl
   ·rw [k5, List.append_assoc]
    rfl
  ·rw [if_neg h] at ev
   have hgo : impl_Memory_frames.go a s (bytes m a s l) (f + 1) i tags pays = (tags, pays, (i : Int)) := by
    rw [impl_Memory_frames.go]
    by_cases hi3 : i + 3 ≤ (bytes m a s l).length
    ·rw [if_pos hi3]
     exact if_neg (fun hF => h ⟨by omega, hF⟩)
    ·rw [if_neg hi3]
   rw [hgo]
   refine ⟨[], by simp, by simpa using h1, ?_, by simp, by simp⟩
   refine ev_succ ?_
   simp only [spec_l9Frames.l0]
   refine ev_bind ev (ev_neg (by omega) (ev_eq (Ev.now _) (by simp)))
theorem frames_eq {m : List (List Int)} (hu : Row (Row U8) m) {a s l c : Int} (h : WinOK m a s l c) : impl_Memory_frames.f m a s l c = some (impl_Memory_frames.go a s (bytes m a s l) (l.toNat + 1) 0 [] []) := by
 have hb := h.bounds
 have hr : rd_L1 m a = arr_ m a := rfl
 have hB := arr_bytes hu a
 have hz := arr_size hb.1 hb.2.1 hb.2.2.2.1
 have hd : ((arr_ m a).drop s.toNat).take l.toNat = bytes m a s l := by
  unfold bytes
  rw [List.drop_take]
  congr 1
  omega
 unfold impl_Memory_frames.f
 rw [hr, if_pos ⟨by omega, by omega, by omega, by omega, by omega, by omega, by omega, List.all_eq_true.2 fun x hx => by have hh : 0 ≤ x ∧ x ≤ 255 := hB x hx; simp; omega⟩, hd]
theorem laws_szByteS_eq (l : List Int) (hl : l.length ≤ 9223372036854775807) (n : Int) (h0 : 0 ≤ n) (h1 : n ≤ 1048576) : laws_szByteS.f l n = some (if (l.length : Int) ≤ n then n - l.length else -1) := by
 unfold laws_szByteS.f
 rw [wid (n := n - l.length) (by omega) (by omega)]
 by_cases h : (l.length : Int) ≤ n
 ·rw [if_neg (by omega), if_pos h]
 ·rw [if_pos (by omega), if_neg h]
theorem laws_szByteSS_l0 (m : List (List Int)) (hl : m.length ≤ 9223372036854775807) (hm : ∀ a ∈ m, a.length ≤ 9223372036854775807) : ∀ (d i : Nat) (n : Int), i + d = m.length → 0 ≤ n → n ≤ 1048576 →
  ∃ r, Ev (fun k => laws_szByteSS.l0 k m n (i : Int)) r ∧ r ≤ n ∧ (0 ≤ r → ∀ a ∈ m.drop i, (a.length : Int) ≤ n) := by
 intro d
 induction d with
 | zero =>
  intro i n hi h0 h1
  refine ⟨n, ev_succ ?_, Int.le_refl _, fun _ a ha => ?_⟩
  ·simp only [laws_szByteSS.l0]
   exact ev_neg (by omega) (Ev.now _)
  ·rw [List.drop_eq_nil_of_le (by omega)] at ha
   simp at ha
 | succ d ih =>
  intro i n hi h0 h1
  have h : i < m.length := by omega
  have hr : rd_L1 m (i : Int) = m[i] := by
   unfold rd_L1
   exact getD_lt m [] h
  have ha := hm m[i] (List.getElem_mem h)
  by_cases hs : (m[i].length : Int) ≤ n
  ·obtain ⟨r, e, hr1, hr2⟩ := ih (i + 1) (n - m[i].length) (by omega) (by omega) (by omega)
   refine ⟨r, ev_succ ?_, by omega, fun hp a hx => ?_⟩
   ·simp only [laws_szByteSS.l0, hr, laws_szByteS_eq m[i] ha n h0 h1, if_pos hs, Option.bind_some]
    refine ev_pos (by omega) (ev_pos (by omega) (ev_neg (by omega) ?_))
    rw [wsucc (i := i) (by omega)]
    exact e
   ·rw [List.drop_eq_getElem_cons h] at hx
    rcases List.mem_cons.1 hx with rfl | hx
    ·exact hs
    ·have := hr2 hp a hx
     omega
  ·refine ⟨-1, ev_succ ?_, by omega, fun hp => by omega⟩
   simp only [laws_szByteSS.l0, hr, laws_szByteS_eq m[i] ha n h0 h1, if_neg hs, Option.bind_some]
   exact ev_pos (by omega) (ev_pos (by omega) (ev_pos (by omega) (Ev.now _)))
theorem laws_szByteSS_ev (m : List (List Int)) (hm : Row (Row U8) m) (n : Int) (h0 : 0 ≤ n) (h1 : n ≤ 1048576) : ∃ r, Ev (fun k => laws_szByteSS.f k m n) r ∧ r ≤ n ∧ (0 ≤ r → Small m) := by
 have hl := hm.1
 have hr : ∀ a ∈ m, a.length ≤ 9223372036854775807 := fun a ha => (hm.2 a ha).1
 simp only [laws_szByteSS.f]
 rw [wid (n := n - m.length) (by omega) (by omega)]
 by_cases h : (m.length : Int) ≤ n
 ·obtain ⟨r, e, hr1, hr2⟩ := laws_szByteSS_l0 m hl hr m.length 0 (n - m.length) (by omega) (by omega) (by omega)
  refine ⟨r, ev_neg (by omega) e, by omega, fun hp => ⟨by omega, fun a ha => ?_⟩⟩
  have := hr2 hp a (by simpa using ha)
  omega
 ·exact ⟨-1, ev_pos (by omega) (Ev.now _), by omega, fun hp => by omega⟩
theorem laws_szMemory_ev (m : List (List Int)) (hm : Row (Row U8) m) (n : Int) (h0 : 0 ≤ n) (h1 : n ≤ 1048576) : ∃ r, Ev (fun k => laws_szMemory.f k m n) r ∧ r ≤ n ∧ (0 ≤ r → Small m) := by
 obtain ⟨r, e, hr, hs⟩ := laws_szByteSS_ev m hm n h0 h1
 simp only [laws_szMemory.f]
 by_cases h : r < 0
 ·exact ⟨-1, ev_bind e (ev_pos h (Ev.now _)), by omega, fun hp => by omega⟩
 ·exact ⟨r, ev_bind e (ev_neg h (Ev.now _)), hr, hs⟩
theorem laws_toByteS_l0 (l : List Int) (hl : l.length ≤ 281474976710656) (x : List Int) (hx : x.length = l.length) : ∀ (d i : Nat), i + d = l.length → Ev (fun k => laws_toByteS.l0 k l (over l x i) (i : Int)) l := by
 intro d
 induction d with
 | zero =>
  intro i hi
  have e : over l x i = l := by rw [show i = l.length by omega]; exact over_all l x hx
  rw [e]
  refine ev_end (fun k => ?_)
  simp only [laws_toByteS.l0]
  rw [if_neg (by omega)]
 | succ d ih =>
  intro i hi
  refine Ev.step (fun k => ?_) (ih (i + 1) (by omega))
  simp only [laws_toByteS.l0]
  rw [if_pos (by omega), if_pos (by omega), if_pos (by rw [over_length l x i hx (by omega)]; omega), Int.toNat_natCast, rd_lt l (by omega : i < l.length), over_set l x i hx (by omega), wsucc (by omega)]
theorem laws_toByteS_ev (l : List Int) (hl : l.length ≤ 281474976710656) : Ev (fun k => laws_toByteS.f k l) l := by
 simp only [laws_toByteS.f]
 refine ev_pos (by omega) (ev_pos (by simpa using hl) ?_)
 have h := laws_toByteS_l0 l hl (List.replicate l.length 0) (by simp) l.length 0 (by omega)
 rw [over_zero] at h
 simpa using h
theorem laws_toByteSS_l0 (l : List (List Int)) (hl : Small l) (x : List (List Int)) (hx : x.length = l.length) : ∀ (d i : Nat), i + d = l.length → Ev (fun k => laws_toByteSS.l0 k l (over l x i) (i : Int)) l := by
 obtain ⟨hl, hs⟩ := hl
 intro d
 induction d with
 | zero =>
  intro i hi
  have e : over l x i = l := by rw [show i = l.length by omega]; exact over_all l x hx
  rw [e]
  refine ev_succ ?_
  simp only [laws_toByteSS.l0]
  exact ev_neg (by omega) (Ev.now _)
 | succ d ih =>
  intro i hi
  have h : i < l.length := by omega
  have hr : rd_L1 l (i : Int) = l[i] := by
   unfold rd_L1
   exact getD_lt l [] h
  refine ev_succ ?_
  simp only [laws_toByteSS.l0, hr]
  refine ev_pos (by omega) (ev_pos (by omega) (ev_bind (laws_toByteS_ev l[i] (by have := hs l[i] (List.getElem_mem h); omega)) (ev_pos (by rw [over_length l x i hx (by omega)]; omega) ?_)))
  rw [Int.toNat_natCast, over_set l x i hx h, wsucc (by omega)]
  exact ih (i + 1) (by omega)
theorem laws_toByteSS_ev (l : List (List Int)) (hl : Small l) : Ev (fun k => laws_toByteSS.f k l) l := by
 have h1 := hl.1
 simp only [laws_toByteSS.f]
 refine ev_pos (by omega) (ev_pos (by simp only [Int.toNat_natCast]; omega) ?_)
 have h := laws_toByteSS_l0 l hl (List.replicate l.length []) (by simp) l.length 0 (by omega)
 rw [over_zero] at h
 simpa using h
theorem laws_toMemory_ev (l : List (List Int)) (hl : Small l) : Ev (fun k => laws_toMemory.f k l) l := by
 simp only [laws_toMemory.f]
 exact ev_bind (laws_toByteSS_ev l hl) (Ev.now _)
theorem laws_eqByteS_l0 (a b : List Int) (hl : a.length = b.length) (hb : a.length ≤ 281474976710656) : ∀ (d i : Nat), i + d = a.length → Ev (fun k => laws_eqByteS.l0 k a b (i : Int)) (decide (a.drop i = b.drop i)) := by
 intro d
 induction d with
 | zero =>
  intro i hi
  have e1 : a.drop i = [] := List.drop_eq_nil_of_le (by omega)
  have e2 : b.drop i = [] := List.drop_eq_nil_of_le (by omega)
  rw [e1, e2]
  refine ev_end (fun k => ?_)
  simp only [laws_eqByteS.l0]
  rw [if_neg (by omega)]
  rfl
 | succ d ih =>
  intro i hi
  have ha : i < a.length := by omega
  have hb2 : i < b.length := by omega
  rw [List.drop_eq_getElem_cons ha, List.drop_eq_getElem_cons hb2]
  by_cases h : a[i] = b[i]
  ·refine ev_eq (Ev.step (fun k => ?_) (ih (i + 1) (by omega))) ?_
   ·simp only [laws_eqByteS.l0]
    rw [if_pos (by omega), if_pos (by omega), if_pos (by omega), rd_lt a ha, rd_lt b hb2, if_pos h, wsucc (by omega)]
   ·rw [h]; exact decide_eq_decide.mpr ⟨fun e => by rw [e], fun e => (List.cons.inj e).2⟩
  ·refine ev_eq (ev_end (r := false) (fun k => ?_)) (decide_eq_false (fun e => h (List.cons.inj e).1)).symm
   simp only [laws_eqByteS.l0]
   rw [if_pos (by omega), if_pos (by omega), if_pos (by omega), rd_lt a ha, rd_lt b hb2, if_neg h]
theorem laws_eqByteS_ev (a b : List Int) (hb : a.length ≤ 281474976710656) : Ev (fun k => laws_eqByteS.f k a b) (decide (a = b)) := by
 simp only [laws_eqByteS.f]
 by_cases h : a.length = b.length
 ·refine ev_pos (by omega) ?_
  have := laws_eqByteS_l0 a b h hb a.length 0 (by omega)
  simpa using this
 ·refine ev_neg (by omega) ?_
  have : ¬ a = b := fun e => h (by rw [e])
  rw [decide_eq_false this]
  exact Ev.now _
theorem laws_eqByteSS_l0 (l : List (List Int)) (hl : Small l) : ∀ (d i : Nat), i + d = l.length → Ev (fun k => laws_eqByteSS.l0 k l l (i : Int)) true := by
 obtain ⟨hl, hs⟩ := hl
 intro d
 induction d with
 | zero =>
  intro i hi
  refine ev_succ ?_
  simp only [laws_eqByteSS.l0]
  exact ev_neg (by omega) (Ev.now _)
 | succ d ih =>
  intro i hi
  have h : i < l.length := by omega
  have hr : rd_L1 l (i : Int) = l[i] := by
   unfold rd_L1
   exact getD_lt l [] h
  refine ev_succ ?_
  simp only [laws_eqByteSS.l0, hr]
  refine ev_pos (by omega) (ev_pos (by omega) (ev_pos (by omega) (ev_bind (laws_eqByteS_ev l[i] l[i] (by have := hs l[i] (List.getElem_mem h); omega)) (ev_pos (by simp) ?_))))
  rw [wsucc (by omega)]
  exact ih (i + 1) (by omega)
theorem laws_eqMemory_ev (l : List (List Int)) (hl : Small l) : Ev (fun k => laws_eqMemory.f k l l) true := by
 simp only [laws_eqMemory.f, laws_eqByteSS.f]
 have := laws_eqByteSS_l0 l hl l.length 0 (by omega)
 exact ev_bind (ev_pos (by first | trivial | rfl) (by simpa using this)) (ev_pos (by first | trivial | rfl) (Ev.now _))
theorem laws_markByteS_l0 (n : Nat) (hn : n ≤ 281474976710656) : ∀ (d i : Nat) (x : List Int) (k0 : Int), i + d = n → x.length = n → 0 ≤ k0 → k0 + d ≤ 4611686018427387904 → Ev (fun k => laws_markByteS.l0 k x k0 (i : Int)) (k0 + d, x.take i ++ marks k0 d) := by
 intro d
 induction d with
 | zero =>
  intro i x k0 hi hx h0 h1
  refine ev_eq (ev_end (r := (k0, x)) (fun k => ?_)) ?_
  ·simp only [laws_markByteS.l0]
   rw [if_neg (by omega)]
  ·rw [List.take_of_length_le (by omega)]
   simp [marks]
 | succ d ih =>
  intro i x k0 hi hx h0 h1
  refine ev_eq (Ev.step (fun k => ?_) (ih (i + 1) (x.set i (k0 % 256)) (k0 + 1) (by omega) (by simpa using hx) (by omega) (by omega))) ?_
  ·simp only [laws_markByteS.l0]
   rw [if_pos (by omega), if_pos (by omega), Int.toNat_natCast, wid (n := k0 + 1) (by omega) (by omega), wsucc (by omega)]
  ·refine Prod.ext ?_ ?_
   ·simp; omega
   ·show (x.set i (k0 % 256)).take (i + 1) ++ marks (k0 + 1) d = x.take i ++ marks k0 (d + 1)
    rw [List.take_succ_eq_append_getElem (by simp; omega)]
    simp [marks, List.take_set]
    exact List.set_eq_of_length_le (by rw [List.length_take]; omega)
theorem laws_markByteS_ev (x : List Int) (k0 : Int) (hn : x.length ≤ 281474976710656) (h0 : 0 ≤ k0) (h1 : k0 + x.length ≤ 4611686018427387904) : Ev (fun k => laws_markByteS.f k x k0) (k0 + x.length, marks k0 x.length) := by
 simp only [laws_markByteS.f]
 have := laws_markByteS_l0 x.length hn x.length 0 x k0 (by omega) rfl h0 h1
 simpa using this
theorem laws_markByteSS_l0 (m : List (List Int)) (hm : Small m) : ∀ (d i : Nat) (k0 : Int), i + d = m.length → 0 ≤ k0 → k0 + d * 1048576 ≤ 2305843009213693952 → ∃ r, Ev (fun k => laws_markByteSS.l0 k m k0 (i : Int)) r ∧ k0 ≤ r ∧ r ≤ k0 + d * 1048576 := by
 intro d
 induction d with
 | zero =>
  intro i k0 hi h0 h1
  exact ⟨k0, ev_end (fun k => by simp only [laws_markByteSS.l0]; rw [if_neg (by omega)]), by omega, by omega⟩
 | succ d ih =>
  intro i k0 hi h0 h1
  have h : i < m.length := by omega
  have hl := hm.2 m[i] (List.getElem_mem h)
  have hlen := hm.1
  have hr : rd_L1 m (i : Int) = m[i] := by
   unfold rd_L1
   exact getD_lt m _ h
  obtain ⟨r, e, h2, h3⟩ := ih (i + 1) (k0 + m[i].length) (by omega) (by omega) (by omega)
  refine ⟨r, ev_succ ?_, by omega, by omega⟩
  simp only [laws_markByteSS.l0, hr]
  refine ev_pos (by omega) (ev_pos (by omega) (ev_bind (laws_markByteS_ev m[i] k0 (by omega) h0 (by omega)) ?_))
  rw [wsucc (by omega)]
  exact e
theorem laws_markMemory_ev (m : List (List Int)) (hm : Small m) : ∃ r, Ev (fun k => laws_markMemory.f k m 1) r ∧ 1 ≤ r ∧ r ≤ 1099511627777 := by
 have hlen := hm.1
 obtain ⟨r, e, h1, h2⟩ := laws_markByteSS_l0 m hm m.length 0 1 (by omega) (by omega) (by omega)
 exact ⟨r, e, by omega, by omega⟩
theorem laws_eqWindow_self (a s l c : Int) : laws_eqWindow.f a s l c a s l c = some true := by
 unfold laws_eqWindow.f
 rw [if_pos rfl, if_pos rfl, if_pos rfl, if_pos rfl]
theorem laws_eqWindowS_self (ws : List S33) (hl : ws.length ≤ 1048576) : ∀ (d i : Nat), i + d = ws.length → Ev (fun k => laws_eqWindowS.l0 k ws ws (i : Int)) true := by
 intro d
 induction d with
 | zero =>
  intro i hi
  refine ev_succ ?_
  simp only [laws_eqWindowS.l0]
  exact ev_neg (by omega) (Ev.now _)
 | succ d ih =>
  intro i hi
  have h : i < ws.length := by omega
  refine ev_succ ?_
  simp only [laws_eqWindowS.l0, rdW h]
  refine ev_pos (by omega) (ev_pos (by omega) (ev_pos (by omega) (ev_bind (ev_now (fun _ => laws_eqWindow_self _ _ _ _)) (ev_pos rfl ?_))))
  rw [wsucc (by omega)]
  exact ih (i + 1) (by omega)
theorem laws_eqWindowS_ev (ws : List S33) (hl : ws.length ≤ 1048576) : Ev (fun k => laws_eqWindowS.f k ws ws) true := by
 simp only [laws_eqWindowS.f]
 have h := laws_eqWindowS_self ws hl ws.length 0 (by omega)
 exact ev_pos (by first | trivial | rfl) (by simpa using h)
def wmarks (k : Int) : Nat → List S33
 | 0 => []
 | n + 1 => ⟨k, k + 1, k + 2, k + 3⟩ :: wmarks (k + 4) n
theorem wmarks_length (n : Nat) : ∀ k : Int, (wmarks k n).length = n := by
 induction n with
 | zero => intro k; rfl
 | succ n ih => intro k; simp [wmarks, ih]
theorem rdW_set {x : List S33} {i : Nat} (h : i < x.length) (w : S33) : rd_T33 (x.set i w) (i : Int) = w := by
 rw [rdW (by rw [List.length_set]; exact h), List.getElem_set_self]
theorem laws_markWindowS_l0 (n : Nat) (hn : n ≤ 1099511627776) : ∀ (d i : Nat) (x : List S33) (k0 : Int), i + d = n → x.length = n → 0 ≤ k0 → k0 + 4 * d ≤ 4611686018427387904 → Ev (fun k => laws_markWindowS.l0 k x k0 (i : Int)) (k0 + 4 * d, x.take i ++ wmarks k0 d) := by
 intro d
 induction d with
 | zero =>
  intro i x k0 hi hx h0 h1
  refine ev_eq (ev_end (r := (k0, x)) (fun k => ?_)) ?_
  ·simp only [laws_markWindowS.l0]
   rw [if_neg (by omega)]
  ·rw [List.take_of_length_le (by omega)]
   simp [wmarks]
 | succ d ih =>
  intro i x k0 hi hx h0 h1
  have h : i < x.length := by omega
  refine ev_eq (Ev.step (fun k => ?_) (ih (i + 1) (x.set i ⟨k0, k0 + 1, k0 + 2, k0 + 3⟩) (k0 + 4) (by omega) (by simpa using hx) (by omega) (by omega))) ?_
  ·simp only [laws_markWindowS.l0, Int.toNat_natCast, Option.bind_some]
   rw [if_pos (by omega), if_pos (by omega), wid (n := k0 + 1) (by omega) (by omega), show k0 + 1 + 1 = k0 + 2 by omega, wid (n := k0 + 2) (by omega) (by omega), show k0 + 2 + 1 = k0 + 3 by omega, wid (n := k0 + 3) (by omega) (by omega), show k0 + 3 + 1 = k0 + 4 by omega, wid (n := k0 + 4) (by omega) (by omega), wsucc (by omega)]
   simp only [rdW_set h, List.set_set]
  ·refine Prod.ext ?_ ?_
   ·simp; omega
   ·show (x.set i ⟨k0, k0 + 1, k0 + 2, k0 + 3⟩).take (i + 1) ++ wmarks (k0 + 4) d = x.take i ++ wmarks k0 (d + 1)
    rw [List.take_succ_eq_append_getElem (by simp; omega)]
    simp [wmarks, List.take_set]
    exact List.set_eq_of_length_le (by rw [List.length_take]; omega)
theorem laws_markWindowS_ev (x : List S33) (k0 : Int) (hn : x.length ≤ 1099511627776) (h0 : 0 ≤ k0) (h1 : k0 + 4 * x.length ≤ 4611686018427387904) : Ev (fun k => laws_markWindowS.f k x k0) (k0 + 4 * x.length, wmarks k0 x.length) := by
 simp only [laws_markWindowS.f]
 have := laws_markWindowS_l0 x.length hn x.length 0 x k0 (by omega) rfl h0 h1
 simpa using this
theorem wmarks_get (n : Nat) : ∀ (k : Int) (i : Nat) (h : i < (wmarks k n).length), (wmarks k n)[i] = ⟨k + 4 * i, k + 4 * i + 1, k + 4 * i + 2, k + 4 * i + 3⟩ := by
 induction n with
 | zero => intro k i h; simp [wmarks] at h
 | succ n ih =>
  intro k i h
  cases i with
  | zero => simp [wmarks]
  | succ i =>
   have := ih (k + 4) i (by simp [wmarks_length] at h ⊢; omega)
   simp only [wmarks, List.getElem_cons_succ, this]
   congr 1 <;> omega
theorem laws_heldWindowS_l0 (k1 : Int) (n : Nat) (hn : n ≤ 1099511627776) (h0 : 0 ≤ k1) (h1 : k1 + 4 * n ≤ 4611686018427387904) : ∀ (d i : Nat), i + d = n → Ev (fun k => laws_heldWindowS.l0 k (wmarks k1 n) (k1 + 4 * i) (i : Int)) (k1 + 4 * n) := by
 intro d
 induction d with
 | zero =>
  intro i hi
  refine ev_eq (ev_end (r := k1 + 4 * i) (fun k => ?_)) (by omega)
  simp only [laws_heldWindowS.l0]
  rw [wmarks_length, if_neg (by omega)]
 | succ d ih =>
  intro i hi
  refine Ev.step (fun k => ?_) (ih (i + 1) (by omega))
  have h : i < (wmarks k1 n).length := by rw [wmarks_length]; omega
  simp only [laws_heldWindowS.l0]
  rw [wmarks_length, if_pos (by omega), if_pos (by omega), rdW h, wmarks_get]
  simp only []
  rw [wid (n := k1 + 4 * i + 1) (by omega) (by omega), show k1 + 4 * (i : Int) + 1 + 1 = k1 + 4 * i + 2 by omega, wid (n := k1 + 4 * i + 2) (by omega) (by omega), show k1 + 4 * (i : Int) + 2 + 1 = k1 + 4 * i + 3 by omega, wid (n := k1 + 4 * i + 3) (by omega) (by omega), show k1 + 4 * (i : Int) + 3 + 1 = k1 + 4 * ((i + 1 : Nat) : Int) by omega, wid (n := k1 + 4 * ((i + 1 : Nat) : Int)) (by omega) (by omega), wsucc (by omega)]
  simp only [if_true]
theorem laws_heldWindowS_ev (k1 : Int) (n : Nat) (hn : n ≤ 1099511627776) (h0 : 0 ≤ k1) (h1 : k1 + 4 * n ≤ 4611686018427387904) : Ev (fun k => laws_heldWindowS.f k (wmarks k1 n) k1) (k1 + 4 * n) := by
 simp only [laws_heldWindowS.f]
 have := laws_heldWindowS_l0 k1 n hn h0 h1 n 0 (by omega)
 simpa using this
def payAt (m : List (List Int)) (a s l : Int) (j : Nat) : S33 := ⟨a, s + ((j : Int) + 2), (((bytes m a s l).getD (j + 1) 0).toNat : Int), (((bytes m a s l).getD (j + 1) 0).toNat : Int)⟩
def parseF (m : List (List Int)) (a s l c : Int) : List S33 × Int × Bool := if WinOK m a s l c then ((impl_Memory_frames.go a s (bytes m a s l) (l.toNat + 1) 0 [] []).2.1, (impl_Memory_frames.go a s (bytes m a s l) (l.toNat + 1) 0 [] []).2.2, true) else ([], 0, false)
theorem spec_l9Payload_ev {m : List (List Int)} (hu : Row (Row U8) m) {a s l c : Int} (hw : WinOK m a s l c) (j : Nat) (h1 : (j : Int) + 3 ≤ l) (h2 : FrameAt (bytes m a s l) j) : Ev (fun k => spec_l9Payload.f k m a s l c (j : Int)) ((payAt m a s l j).f0, (payAt m a s l j).f1, (payAt m a s l j).f2, (payAt m a s l j).f3) := by
 have hb := hw.bounds
 have ev := spec_l9Frame_ev hu hw j (by omega)
 rw [if_pos ⟨h1, h2⟩] at ev
 have h3 := h2
 unfold FrameAt at h3
 have hl := bytes_length hw
 simp only [spec_l9Payload.f]
 refine ev_bind ev (ev_now fun _ => ?_)
 simp only [spec_l2Slice.f, Option.bind_some, payAt]
 rw [wid (n := (j : Int) + 2) (by omega) (by omega), wid (n := (j : Int) + ((((bytes m a s l).getD (j + 1) 0).toNat : Int) + 3)) (by omega) (by omega), wid (n := (j : Int) + ((((bytes m a s l).getD (j + 1) 0).toNat : Int) + 3) - 1) (by omega) (by omega), wid (n := (j : Int) + ((((bytes m a s l).getD (j + 1) 0).toNat : Int) + 3) - 1 - ((j : Int) + 2)) (by omega) (by omega), wid (n := s + ((j : Int) + 2)) (by omega) (by omega), show (j : Int) + ((((bytes m a s l).getD (j + 1) 0).toNat : Int) + 3) - 1 - ((j : Int) + 2) = (((bytes m a s l).getD (j + 1) 0).toNat : Int) from by omega]
theorem spec_ParseFrames_l0 {m : List (List Int)} (hu : Row (Row U8) m) {a s l c : Int} (hw : WinOK m a s l c) (S : List Nat) (at_ : Int) (hS : ∀ j ∈ S, (j : Int) + 3 ≤ l ∧ FrameAt (bytes m a s l) j) (h64 : S.length ≤ 64) : ∀ (d i : Nat) (out : List S33), i + d = S.length → out.length = i → Ev (fun k => spec_ParseFrames.l0 k out (S.map (fun j : Nat => (j : Int))) at_ (i : Int) m a s l c) (out ++ (S.drop i).map (payAt m a s l), at_, true) := by
 have hb := hw.bounds
 intro d
 induction d with
 | zero =>
  intro i out hi ho
  rw [List.drop_eq_nil_of_le (by omega)]
  refine ev_end (fun k => ?_)
  simp only [spec_ParseFrames.l0]
  rw [if_neg (by rw [List.length_map]; omega)]
  simp
 | succ d ih =>
  intro i out hi ho
  have h : i < S.length := by omega
  rw [List.drop_eq_getElem_cons h, List.map_cons]
  have hj := hS _ (List.getElem_mem h)
  have hrd : rd (S.map (fun j : Nat => (j : Int))) (i : Int) = (S[i] : Int) := by
   rw [rd_lt _ (by rw [List.length_map]; exact h), List.getElem_map]
  refine ev_succ ?_
  simp only [spec_ParseFrames.l0]
  refine ev_pos (by rw [List.length_map]; omega) (ev_pos (by omega) ?_)
  rw [hrd]
  refine ev_bind (spec_l9Payload_ev hu hw S[i] hj.1 hj.2) (ev_pos (by omega) ?_)
  rw [wsucc (by omega)]
  refine ev_eq (ih (i + 1) _ (by omega) (by simp; omega)) ?_
  rw [List.append_assoc]
  rfl
theorem spec_ParseFrames_ev {m : List (List Int)} (hm : m.length ≤ 1048576) (hu : Row (Row U8) m) (a s l c : Int) : Ev (fun k => spec_ParseFrames.f k m a s l c) (parseF m a s l c) := by
 simp only [spec_ParseFrames.f, parseF, Option.bind_some]
 refine ev_bind (spec_l2Window_ev m hm a s l c) ?_
 by_cases h : WinOK m a s l c
 ·have hb := h.bounds
  obtain ⟨S, k1, k2, k3, k4, k5⟩ := spec_l9Frames_l0 hu h (l.toNat + 1) 0 [] [] [] (by omega) (by omega) (by simp)
  rw [if_pos h]
  refine ev_pos (decide_eq_true h) (ev_bind k3 ?_)
  rw [k5]
  exact ev_eq (spec_ParseFrames_l0 hu h S _ k1 (by omega) S.length 0 [] (by omega) rfl) (by simp [payAt])
 ·rw [if_neg h]
  exact ev_neg (by rw [decide_eq_false h]; decide) (Ev.now _)
theorem impl_ParseFrames_ev {m : List (List Int)} (hm : m.length ≤ 1048576) (hu : Row (Row U8) m) (a s l c : Int) : Ev (fun k => impl_ParseFrames.f k m a s l c) (parseF m a s l c) := by
 simp only [impl_ParseFrames.f, parseF]
 refine ev_bind (impl_areOn1_ev m hm a s l c) ?_
 by_cases h : WinOK m a s l c
 ·rw [if_pos h]
  exact ev_pos (decide_eq_true h) (ev_bind (ev_now fun _ => frames_eq hu h) (Ev.now _))
 ·rw [if_neg h]
  exact ev_neg (by rw [decide_eq_false h]; decide) (Ev.now _)
theorem parseF_length {m : List (List Int)} (hu : Row (Row U8) m) (a s l c : Int) : (parseF m a s l c).1.length ≤ 1048576 := by
 unfold parseF
 by_cases h : WinOK m a s l c
 ·have hb := h.bounds
  obtain ⟨S, k1, k2, k3, k4, k5⟩ := spec_l9Frames_l0 hu h (l.toNat + 1) 0 [] [] [] (by omega) (by omega) (by simp)
  rw [if_pos h, k5]
  simp
  omega
 ·rw [if_neg h]
  exact Nat.zero_le _
theorem FnExactParseFrames : laws_FnExactParseFrames.Pure := by
 intro m a s l c hm _ _ _ _
 refine Ev.rounds ?_
 obtain ⟨r, e, hr, hs⟩ := laws_szMemory_ev m hm 1048576 (by omega) (by omega)
 simp only [laws_FnExactParseFrames.f]
 refine ev_bind e ?_
 by_cases h : r < 0
 ·exact ev_pos h (Ev.now _)
 have hsm := hs (by omega)
 have g := laws_toMemory_ev m hsm
 have w : laws_toWindow.f a s l c = some (a, s, l, c) := rfl
 have sp := spec_ParseFrames_ev hsm.1 hm a s l c
 have im := impl_ParseFrames_ev hsm.1 hm a s l c
 have fl := parseF_length hm a s l c
 generalize parseF m a s l c = q at sp im fl
 obtain ⟨x, n, b⟩ := q
 replace fl : x.length ≤ 1048576 := fl
 obtain ⟨mr, em, hmr, _⟩ := laws_markMemory_ev m hsm
 have eg := laws_eqWindowS_ev x fl
 have mg := laws_markWindowS_ev x 1 (by omega) (by omega) (by omega)
 have he := laws_heldWindowS_ev 1 x.length (by omega) (by omega) (by omega)
 refine ev_neg h ?_
 refine ev_bind g ?_
 refine ev_bind (ev_now fun _ => w) ?_
 refine ev_bind sp ?_
 refine ev_bind im ?_
 refine ev_bind eg ?_
 refine ev_bind (laws_eqMemory_ev m hsm) ?_
 refine ev_bind (a := mr) em ?_
 refine ev_bind mg ?_
 refine ev_bind he ?_
 exact ev_pos ⟨rfl, rfl, rfl, rfl, by omega, by omega, rfl⟩ (Ev.now _)
end Go.Proofs.Ytldkbeccpheckaa.Pure
