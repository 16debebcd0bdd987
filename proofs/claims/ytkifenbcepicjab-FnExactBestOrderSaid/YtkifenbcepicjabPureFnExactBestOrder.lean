/- What is proved here: the plain statement of the law FnExactBestOrder, over numbers and lists. No condition beyond those that it states. -/
import Derived.Test.YtkifenbcepicjabQFnExactBestOrder
import Derived.Test.YtkifenbcepicjabTk
namespace Go.Proofs.Ytkifenbcepicjab.Pure
open Go.RowKit Go.Proofs.Ytkifenbcepicjab.PFnExactBestOrder Go.Proofs.YtkifenbcepicjabW.PrintWords Go.Proofs.YtkifenbcepicjabW.PrintMore Go.Proofs.Ytkifenbcepicjab.Tk Go.Proofs.Ytkifenbcepicjab.Opn
set_option linter.unusedVariables false
set_option linter.unusedSimpArgs false
def Sizes (m : List (List Int)) : Prop := ∀ a ∈ m, 1 ≤ a.length ∧ a.length ≤ 64
instance (m : List (List Int)) : Decidable (Sizes m) := by unfold Sizes; exact inferInstance
theorem Sizes.nil : Sizes [] := fun a ha => by simp at ha
theorem Sizes.cons {a : List Int} {m : List (List Int)} (h : (1 : Int) ≤ (a.length : Int) ∧ (a.length : Int) ≤ 64) (k : Sizes m) : Sizes (a :: m) := fun b hb => by
 rcases List.mem_cons.1 hb with rfl | hb
 ·omega
 ·exact k b hb
theorem Sizes.head {a : List Int} {m : List (List Int)} (k : Sizes (a :: m)) : (1 : Int) ≤ (a.length : Int) ∧ (a.length : Int) ≤ 64 := by
 have := k a List.mem_cons_self
 omega
theorem Sizes.tail {a : List Int} {m : List (List Int)} (k : Sizes (a :: m)) : Sizes m := fun b hb => k b (List.mem_cons_of_mem _ hb)
def MemOK (m : List (List Int)) : Prop := m.length ≤ 16 ∧ Sizes m
instance (m : List (List Int)) : Decidable (MemOK m) := by unfold MemOK; exact inferInstance
def arr_ (m : List (List Int)) (a : Int) : List Int := m.getD a.toNat []
def WinOK (m : List (List Int)) (a s l c : Int) : Prop := MemOK m ∧ 0 ≤ a ∧ a < (m.length : Int) ∧ 0 ≤ s ∧ 0 ≤ l ∧ l ≤ c ∧ s + c ≤ ((arr_ m a).length : Int)
instance (m : List (List Int)) (a s l c : Int) : Decidable (WinOK m a s l c) := by unfold WinOK; exact inferInstance
def Small (m : List (List Int)) : Prop := m.length ≤ 1048576 ∧ ∀ a ∈ m, a.length ≤ 1048576
theorem arr_mem {m : List (List Int)} {a : Int} (h0 : 0 ≤ a) (h1 : a < (m.length : Int)) : arr_ m a ∈ m := by
 unfold arr_
 rw [getD_lt m [] (by omega : a.toNat < m.length)]
 exact List.getElem_mem _
theorem arr_size {m : List (List Int)} (hm : MemOK m) {a : Int} (h0 : 0 ≤ a) (h1 : a < (m.length : Int)) : 1 ≤ (arr_ m a).length ∧ (arr_ m a).length ≤ 64 := hm.2 _ (arr_mem h0 h1)
theorem MemOK.small {m : List (List Int)} (hm : MemOK m) : Small m := ⟨by have := hm.1; omega, fun a ha => by have := hm.2 a ha; omega⟩
theorem WinOK.bounds {m : List (List Int)} {a s l c : Int} (h : WinOK m a s l c) : MemOK m ∧ 0 ≤ a ∧ a < 16 ∧ a < (m.length : Int) ∧ 0 ≤ s ∧ s ≤ 64 ∧ 0 ≤ l ∧ l ≤ c ∧ c ≤ 64 ∧ s + c ≤ ((arr_ m a).length : Int) ∧ ((arr_ m a).length : Int) ≤ 64 := by
 obtain ⟨hm, h0, h1, h2, h3, h4, h5⟩ := h
 have := arr_size hm h0 h1
 have := hm.1
 refine ⟨hm, h0, by omega, h1, h2, by omega, h3, h4, by omega, h5, by omega⟩
theorem dec_false {p : Prop} [Decidable p] (h : ¬ p) : some false = some (decide p) := by rw [decide_eq_false h]
def convA (q : S97) : S95 := ⟨q.f0, q.f1⟩
theorem rdQ {l : List S97} {i : Nat} (h : i < l.length) : rd_T97 l (i : Int) = l[i] := by
 unfold rd_T97
 exact getD_lt l _ h
theorem rdA {l : List S95} {i : Nat} (h : i < l.length) : rd_T95 l (i : Int) = l[i] := by
 unfold rd_T95
 exact getD_lt l _ h
theorem laws_toAskedS_l0 (l : List S97) (hl : l.length ≤ 1048576) (x : List S95) (hx : x.length = (l.map convA).length) : ∀ (d i : Nat), i + d = l.length → Ev (fun k => laws_toAskedS.l0 k l (over (l.map convA) x i) (i : Int)) (l.map convA) := by
 have hx2 : x.length = l.length := by rw [hx, List.length_map]
 intro d
 induction d with
 | zero =>
  intro i hi
  have e : over (l.map convA) x i = l.map convA := by rw [show i = (l.map convA).length by rw [List.length_map]; omega]; exact over_all _ x hx
  rw [e]
  refine ev_succ ?_
  simp only [laws_toAskedS.l0]
  exact ev_neg (by omega) (Ev.now _)
 | succ d ih =>
  intro i hi
  have h : i < l.length := by omega
  have h2 : i < (l.map convA).length := by rw [List.length_map]; omega
  refine ev_succ ?_
  simp only [laws_toAskedS.l0, laws_toAsked.f, Option.bind_some, rdQ h]
  refine ev_pos (by omega) (ev_pos (by omega) (ev_pos (by rw [over_length _ x i hx (by omega), List.length_map]; omega) ?_))
  have hs := over_set (l.map convA) x i hx h2
  rw [List.getElem_map] at hs
  rw [Int.toNat_natCast, show (⟨l[i].f0, l[i].f1⟩ : S95) = convA l[i] from rfl, hs, wsucc (by omega)]
  exact ih (i + 1) (by omega)
theorem laws_toAskedS_ev (l : List S97) (hl : l.length ≤ 1048576) : Ev (fun k => laws_toAskedS.f k l) (l.map convA) := by
 simp only [laws_toAskedS.f]
 have h := laws_toAskedS_l0 l hl (List.replicate l.length z95) (by simp) l.length 0 (by omega)
 rw [over_zero] at h
 exact ev_pos (by omega) (ev_pos (by simp only [Int.toNat_natCast]; omega) (by simpa using h))
theorem laws_szAskedS_eq (l : List S97) (hl : l.length ≤ 9223372036854775807) (n : Int) (h0 : 0 ≤ n) (h1 : n ≤ 1048576) : laws_szAskedS.f l n = some (if (l.length : Int) ≤ n then n - l.length else -1) := by
 unfold laws_szAskedS.f
 rw [wid (n := n - l.length) (by omega) (by omega)]
 by_cases h : (l.length : Int) ≤ n
 ·rw [if_neg (by omega), if_pos h]
 ·rw [if_pos (by omega), if_neg h]
theorem laws_eqAskedS_ev (l : List S95) (hl : l.length ≤ 1048576) : Ev (fun k => laws_eqAskedS.f k l l) true := by
 have go : ∀ (d i : Nat), i + d = l.length → Ev (fun k => laws_eqAskedS.l0 k l l (i : Int)) true := by
  intro d
  induction d with
  | zero =>
   intro i hi
   refine ev_succ ?_
   simp only [laws_eqAskedS.l0]
   exact ev_neg (by omega) (Ev.now _)
  | succ d ih =>
   intro i hi
   have h : i < l.length := by omega
   refine ev_succ ?_
   simp only [laws_eqAskedS.l0, rdA h, laws_eqAsked.f]
   refine ev_pos (by omega) (ev_pos (by omega) (ev_pos (by omega) ?_))
   rw [wsucc (by omega)]
   exact ih (i + 1) (by omega)
 simp only [laws_eqAskedS.f]
 exact ev_pos (by first | trivial | rfl) (go l.length 0 (by omega))
theorem laws_markAskedS_l0 (n : Nat) (hn : n ≤ 1048576) : ∀ (d i : Nat) (x : List S95) (k0 : Int), i + d = n → x.length = n → 0 ≤ k0 → k0 + 2 * d ≤ 4611686018427387904 → ∃ y, Ev (fun k => laws_markAskedS.l0 k x k0 (i : Int)) (k0 + 2 * d, y) := by
 intro d
 induction d with
 | zero =>
  intro i x k0 hi hx h0 h1
  refine ⟨x, ev_eq (ev_end (r := (k0, x)) (fun k => ?_)) (by simp)⟩
  simp only [laws_markAskedS.l0]
  rw [if_neg (by omega)]
 | succ d ih =>
  intro i x k0 hi hx h0 h1
  obtain ⟨y, hy⟩ := ih (i + 1) ((x.set i ⟨k0, (rd_T95 x (i : Int)).f1⟩).set i ⟨(rd_T95 (x.set i ⟨k0, (rd_T95 x (i : Int)).f1⟩) (i : Int)).f0, k0 + 1⟩) (k0 + 2) (by omega) (by simpa using hx) (by omega) (by omega)
  refine ⟨y, ev_eq (Ev.step (fun k => ?_) hy) (by rw [Prod.mk.injEq]; exact ⟨by omega, rfl⟩)⟩
  simp only [laws_markAskedS.l0]
  rw [if_pos (by omega), if_pos (by omega), Int.toNat_natCast, Option.bind_some, wid (n := k0 + 1) (by omega) (by omega), wid (n := k0 + 1 + 1) (by omega) (by omega), wsucc (by omega), show k0 + 1 + 1 = k0 + 2 by omega]
theorem laws_markAskedS_ev (x : List S95) (k0 : Int) (hn : x.length ≤ 1048576) (h0 : 0 ≤ k0) (h1 : k0 + 2 * x.length ≤ 4611686018427387904) : ∃ y, Ev (fun k => laws_markAskedS.f k x k0) (k0 + 2 * x.length, y) := by
 simp only [laws_markAskedS.f]
 exact laws_markAskedS_l0 x.length hn x.length 0 x k0 (by omega) rfl h0 h1
def first (u al : Int) : Int := wrap64 (wrap64 (Int.tdiv (wrap64 (wrap64 (u + al) - 1)) al) * al)
theorem first_bounds {u al : Int} (h : 0 ≤ u ∧ u ≤ 64) (ha : 1 ≤ al ∧ al ≤ 16) : 0 ≤ first u al ∧ first u al ≤ 79 := by
 unfold first
 rw [wid (n := u + al) (by omega) (by omega), wid (n := u + al - 1) (by omega) (by omega), Int.tdiv_eq_ediv_of_nonneg (by omega)]
 have h1 := Int.ediv_mul_le (u + al - 1) (show al ≠ 0 by omega)
 have h2 : 0 ≤ (u + al - 1) / al := Int.ediv_nonneg (by omega) (by omega)
 have h3 : (u + al - 1) / al ≤ (u + al - 1) / al * al := by
  have := Int.mul_le_mul_of_nonneg_left ha.1 h2
  omega
 have h4 : 0 ≤ (u + al - 1) / al * al := by omega
 rw [wid (n := (u + al - 1) / al) (by omega) (by omega), wid (n := (u + al - 1) / al * al) (by omega) (by omega)]
 omega
def fit (L u : Int) (q : S95) : Option Int := if first u q.f1 ≤ L ∧ q.f0 ≤ L - first u q.f1 then some (first u q.f1 + q.f0) else none
def AskOK (q : S95) : Prop := 0 ≤ q.f0 ∧ q.f0 ≤ 9223372036854775807 ∧ 1 ≤ q.f1 ∧ q.f1 ≤ 16
theorem fit_bounds {L u u2 : Int} {q : S95} (hL : L ≤ 64) (hu : 0 ≤ u ∧ u ≤ L) (hq : AskOK q) (h : fit L u q = some u2) : 0 ≤ u2 ∧ u2 ≤ L := by
 unfold fit at h
 by_cases hc : first u q.f1 ≤ L ∧ q.f0 ≤ L - first u q.f1
 ·rw [if_pos hc] at h
  obtain rfl := Option.some.inj h
  have := first_bounds (u := u) (al := q.f1) (by omega) hq.2.2
  have := hq.1
  omega
 ·rw [if_neg hc] at h; cases h
def usedO (L : Int) (l : List S95) : List Int → Int → Option Int
 | [], u => some u
 | i :: is, u => (fit L u (l.getD i.toNat z95)).bind (usedO L l is)
theorem usedO_append (L : Int) (l : List S95) : ∀ (a b : List Int) (u : Int), usedO L l (a ++ b) u = (usedO L l a u).bind (usedO L l b)
 | [], _, _ => rfl
 | i :: a, b, u => by
  rw [List.cons_append, usedO, usedO]
  cases fit L u (l.getD i.toNat z95) with
  | none => rfl
  | some u2 => exact usedO_append L l a b u2
def ords (n : Nat) : Nat → List Int → List (List Int)
 | 0, _ => []
 | d + 1, b => if b.length = n then [b] else (List.range' 0 n).flatMap (fun i : Nat => if (i : Int) ∈ b then [] else ords n d (b ++ [(i : Int)]))
theorem ords_prefix (n : Nat) : ∀ (d : Nat) (b o : List Int), o ∈ ords n d b → ∃ t, o = b ++ t
 | 0, _, _, h => by simp [ords] at h
 | d + 1, b, o, h => by
  unfold ords at h
  by_cases hb : b.length = n
  ·rw [if_pos hb, List.mem_singleton] at h
   exact ⟨[], by rw [h, List.append_nil]⟩
  ·rw [if_neg hb, List.mem_flatMap] at h
   obtain ⟨i, _, h⟩ := h
   by_cases hi : (i : Int) ∈ b
   ·rw [if_pos hi] at h; simp at h
   ·rw [if_neg hi] at h
    obtain ⟨t, rfl⟩ := ords_prefix n d _ o h
    exact ⟨(i : Int) :: t, by simp⟩
theorem ords_below (n : Nat) : ∀ (d : Nat) (b o : List Int), (∀ x ∈ b, 0 ≤ x ∧ x < (n : Int)) → o ∈ ords n d b → (∀ x ∈ o, 0 ≤ x ∧ x < (n : Int)) ∧ o.length = n
 | 0, _, _, _, h => by simp [ords] at h
 | d + 1, b, o, hb, h => by
  unfold ords at h
  by_cases hl : b.length = n
  ·rw [if_pos hl, List.mem_singleton] at h
   subst h
   exact ⟨hb, hl⟩
  ·rw [if_neg hl, List.mem_flatMap] at h
   obtain ⟨i, hr, h⟩ := h
   by_cases hi : (i : Int) ∈ b
   ·rw [if_pos hi] at h; simp at h
   ·rw [if_neg hi] at h
    refine ords_below n d _ o (fun x hx => ?_) h
    rcases List.mem_append.1 hx with hx | hx
    ·exact hb x hx
    ·obtain rfl := List.mem_singleton.1 hx
     have := List.mem_range'_1.1 hr
     omega
theorem flat_len {f : Nat → List (List Int)} {m : Nat} : ∀ (c i : Nat), (∀ j, (f j).length ≤ m) → ((List.range' i c).flatMap f).length ≤ c * m
 | 0, _, _ => by simp
 | c + 1, i, h => by
  rw [List.range'_succ, List.flatMap_cons, List.length_append, Nat.succ_mul]
  have := flat_len c (i + 1) h
  have := h i
  omega
theorem ords_length (n : Nat) (hn : n ≤ 6) : ∀ (d : Nat) (b : List Int), (ords n d b).length ≤ 6 ^ d
 | 0, _ => by simp [ords]
 | d + 1, b => by
  unfold ords
  by_cases hb : b.length = n
  ·rw [if_pos hb]
   exact Nat.one_le_pow _ _ (by decide)
  ·rw [if_neg hb]
   refine Nat.le_trans (flat_len (m := 6 ^ d) n 0 (fun j => ?_)) ?_
   ·by_cases hj : (j : Int) ∈ b
    ·rw [if_pos hj]; exact Nat.zero_le _
    ·rw [if_neg hj]; exact ords_length n hn d _
   ·rw [Nat.pow_succ, Nat.mul_comm (6 ^ d)]
    exact Nat.mul_le_mul_right _ hn
def upd (st : List Int × Int) (o : List Int) (u : Int) : List Int × Int := if st.2 < 0 ∨ u < st.2 then (o, u) else st
def stepO (L : Int) (l : List S95) (u0 : Int) (st : List Int × Int) (o : List Int) : List Int × Int := match usedO L l o u0 with
 | some u => upd st o u
 | none => st
def search (L : Int) (l : List S95) : Nat → List Int → Int → List Int × Int → List Int × Int
 | 0, _, _, st => st
 | d + 1, o, u, st => if o.length = l.length then upd st o u else (List.range' 0 l.length).foldl (fun s (j : Nat) => if (j : Int) ∈ o then s else match fit L u (l.getD j z95) with
  | some u2 => search L l d (o ++ [(j : Int)]) u2 s
  | none => s) st
theorem step_none {L : Int} {l : List S95} {u0 : Int} : ∀ (os : List (List Int)) (st : List Int × Int), (∀ o ∈ os, usedO L l o u0 = none) → os.foldl (stepO L l u0) st = st
 | [], _, _ => rfl
 | o :: os, st, h => by
  have h1 : stepO L l u0 st o = st := by unfold stepO; rw [h o List.mem_cons_self]
  rw [List.foldl_cons, h1]
  exact step_none os st (fun o' ho => h o' (List.mem_cons_of_mem _ ho))
theorem search_all {L : Int} {l : List S95} {u0 : Int} : ∀ (d : Nat) (o : List Int) (u : Int) (st : List Int × Int), usedO L l o u0 = some u → search L l d o u st = (ords l.length d o).foldl (stepO L l u0) st
 | 0, _, _, _, _ => rfl
 | d + 1, o, u, st, h => by
  unfold search ords
  by_cases hl : o.length = l.length
  ·rw [if_pos hl, if_pos hl]
   show _ = stepO L l u0 st o
   unfold stepO
   rw [h]
  ·rw [if_neg hl, if_neg hl]
   have go : ∀ (c i : Nat) (s : List Int × Int), (List.range' i c).foldl (fun s (j : Nat) => if (j : Int) ∈ o then s else match fit L u (l.getD j z95) with
     | some u2 => search L l d (o ++ [(j : Int)]) u2 s
     | none => s) s = ((List.range' i c).flatMap (fun i : Nat => if (i : Int) ∈ o then [] else ords l.length d (o ++ [(i : Int)]))).foldl (stepO L l u0) s := by
    intro c
    induction c with
    | zero => intro i s; rfl
    | succ c ih =>
     intro i s
     rw [List.range'_succ, List.foldl_cons, List.flatMap_cons, List.foldl_append, ih (i + 1)]
     congr 1
     by_cases hi : (i : Int) ∈ o
     ·rw [if_pos hi, if_pos hi]; rfl
     ·rw [if_neg hi, if_neg hi]
      have hu : usedO L l (o ++ [(i : Int)]) u0 = fit L u (l.getD i z95) := by
       rw [usedO_append, h, Option.bind_some, usedO, Int.toNat_natCast]
       cases fit L u (l.getD i z95) <;> rfl
      cases hf : fit L u (l.getD i z95) with
      | some u2 =>
       rw [hf] at hu
       exact search_all d _ u2 s hu
      | none =>
       rw [hf] at hu
       refine (step_none _ s (fun o' ho => ?_)).symm
       obtain ⟨t, rfl⟩ := ords_prefix _ _ _ _ ho
       rw [usedO_append, hu]
       rfl
   exact go l.length 0 st
def MarkAt (u : Int) (ms : List Int) (j : Nat) : Prop := 0 ≤ ms.getD j 0 ∧ ms.getD j 0 ≤ u ∧ (0 < j → ms.getD (j - 1) 0 ≤ ms.getD j 0)
instance (u : Int) (ms : List Int) (j : Nat) : Decidable (MarkAt u ms j) := by unfold MarkAt; exact inferInstance
def ArenaOK (m : List (List Int)) (a s l c u : Int) (ms : List Int) : Prop := WinOK m a s l c ∧ 0 ≤ u ∧ u ≤ l ∧ ms.length ≤ 8 ∧ ∀ j, j < ms.length → MarkAt u ms j
instance (m : List (List Int)) (a s l c u : Int) (ms : List Int) : Decidable (ArenaOK m a s l c u ms) := by unfold ArenaOK; exact inferInstance
theorem dec_of {b : Bool} {p : Prop} [Decidable p] (h : b = true ↔ p) : b = decide p := by
 by_cases hp : p
 ·rw [h.2 hp, decide_eq_true hp]
 ·cases b with
  | true => exact absurd (h.1 rfl) hp
  | false => rw [decide_eq_false hp]
theorem spec_l1In_eq (a b c : Int) : spec_l1In.f a b c = some (decide (b ≤ a ∧ a ≤ c)) := by
 unfold spec_l1In.f
 by_cases h : a ≥ b
 ·rw [if_pos h]
  congr 1
  exact decide_eq_decide.mpr ⟨fun x => ⟨h, x⟩, fun x => x.2⟩
 ·rw [if_neg h]
  exact dec_false (fun x => h x.1)
theorem spec_l2Memory_l0 (m : List (List Int)) (hm : m.length ≤ 1048576) : ∀ (d i : Nat), i + d = m.length → Ev (fun k => spec_l2Memory.l0 k (i : Int) m) (decide (m.length ≤ 16 ∧ Sizes (m.drop i))) := by
 intro d
 induction d with
 | zero =>
  intro i hi
  have e : m.drop i = [] := List.drop_eq_nil_of_le (by omega)
  refine ev_succ (ev_eq (r := decide ((m.length : Int) ≤ 16)) ?_ ?_)
  ·simp only [spec_l2Memory.l0]
   refine ev_neg (by omega) (ev_succ ?_)
   simp only [spec_l2Memory.j1]
   exact ev_neg (by decide) (Ev.now _)
  ·rw [e]
   exact decide_eq_decide.mpr ⟨fun h => ⟨by omega, Sizes.nil⟩, fun h => by have := h.1; omega⟩
 | succ d ih =>
  intro i hi
  have h : i < m.length := by omega
  refine ev_succ ?_
  simp only [spec_l2Memory.l0]
  refine ev_pos (by omega) (ev_succ ?_)
  by_cases h16 : (i : Int) ≤ 16
  ·simp only [spec_l2Memory.j1, decide_eq_true h16]
   refine ev_pos (by first | trivial | rfl) (ev_pos (by omega) (ev_pos (by omega) ?_))
   have hr : rd_L1 m (i : Int) = m[i] := by
    unfold rd_L1
    exact getD_lt m [] h
   simp only [spec_l1In_eq, hr, Option.bind_some, decide_eq_true_eq]
   by_cases hs : (1 : Int) ≤ (m[i].length : Int) ∧ (m[i].length : Int) ≤ 64
   ·refine ev_pos hs (ev_eq (r := decide (m.length ≤ 16 ∧ Sizes (m.drop (i + 1)))) ?_ ?_)
    ·have := ih (i + 1) (by omega)
     rw [← wsucc (i := i) (by omega)] at this
     exact this
    ·rw [List.drop_eq_getElem_cons h]
     exact decide_eq_decide.mpr ⟨fun x => ⟨x.1, x.2.cons hs⟩, fun x => ⟨x.1, x.2.tail⟩⟩
   ·refine ev_neg hs (ev_eq (Ev.now false) ?_)
    rw [List.drop_eq_getElem_cons h]
    exact (decide_eq_false (fun x => hs x.2.head)).symm
  ·simp only [spec_l2Memory.j1, decide_eq_false h16]
   refine ev_neg (by decide) (ev_eq (Ev.now (decide ((m.length : Int) ≤ 16))) ?_)
   exact decide_eq_decide.mpr ⟨fun x => by omega, fun x => by have := x.1; omega⟩
theorem spec_l2Memory_ev (m : List (List Int)) (hm : m.length ≤ 1048576) : Ev (fun k => spec_l2Memory.f k m) (decide (MemOK m)) := by
 simp only [spec_l2Memory.f]
 have := spec_l2Memory_l0 m hm m.length 0 (by omega)
 rw [List.drop_zero] at this
 exact this
theorem spec_l2Window_ev (m : List (List Int)) (hm : m.length ≤ 1048576) (a s l c : Int) : Ev (fun k => spec_l2Window.f k m a s l c) (decide (WinOK m a s l c)) := by
 simp only [spec_l2Window.f, spec_l1In_eq, Option.bind_some]
 refine ev_bind (spec_l2Memory_ev m hm) ?_
 by_cases h : MemOK m
 ·refine ev_pos (decide_eq_true h) (ev_succ ?_)
  have hl := h.1
  simp only [spec_l2Window.j0]
  rw [wid (n := (m.length : Int) - 1) (by omega) (by omega)]
  by_cases h1 : 0 ≤ a ∧ a ≤ (m.length : Int) - 1
  ·have hz := arr_size h h1.1 (by omega)
   have hr : rd_L1 m a = arr_ m a := rfl
   simp only [decide_eq_true h1, spec_l1In_eq, Option.bind_some, hr, decide_eq_true_eq]
   refine ev_neg (by decide) (ev_pos h1.1 (ev_pos (by omega) ?_))
   by_cases h2 : 0 ≤ s ∧ s ≤ ((arr_ m a).length : Int)
   ·refine ev_pos h2 ?_
    rw [wid (n := ((arr_ m a).length : Int) - s) (by omega) (by omega)]
    by_cases h3 : 0 ≤ c ∧ c ≤ ((arr_ m a).length : Int) - s
    ·refine ev_pos h3 (ev_eq (Ev.now _) (decide_eq_decide.mpr ⟨fun x => ⟨h, by omega⟩, fun x => ⟨x.2.2.2.2.1, x.2.2.2.2.2.1⟩⟩))
    ·refine ev_neg h3 (ev_eq (Ev.now _) (decide_eq_false (fun x => h3 ?_)).symm)
     obtain ⟨_, x⟩ := x
     omega
   ·refine ev_neg h2 (ev_eq (Ev.now _) (decide_eq_false (fun x => h2 ?_)).symm)
    obtain ⟨_, x⟩ := x
    omega
  ·simp only [decide_eq_false h1]
   refine ev_pos (by first | trivial | rfl) (ev_eq (Ev.now _) (decide_eq_false (fun x => h1 ?_)).symm)
   obtain ⟨_, x⟩ := x
   omega
 ·refine ev_neg (by rw [decide_eq_false h]; decide) (ev_succ ?_)
  simp only [spec_l2Window.j0]
  exact ev_pos (by first | trivial | rfl) (ev_eq (Ev.now _) (decide_eq_false (fun x => h x.1)).symm)
theorem spec_l8Arena_l0 (m : List (List Int)) (a s l c u : Int) (ms : List Int) (hl : ms.length ≤ 1048576) : ∀ (d i : Nat), i + d = ms.length →
  ∃ b, Ev (fun k => spec_l8Arena.l0 k (i : Int) m a s l c u ms) b ∧ (b = true ↔ ∀ j, i ≤ j → j < ms.length → MarkAt u ms j) := by
 intro d
 induction d with
 | zero =>
  intro i hi
  refine ⟨true, ev_succ ?_, fun _ j h0 h1 => by omega, fun _ => rfl⟩
  simp only [spec_l8Arena.l0]
  exact ev_neg (by omega) (Ev.now _)
 | succ d ih =>
  intro i hi
  obtain ⟨b, hb, hq⟩ := ih (i + 1) (by omega)
  have hnext : (0 ≤ ms.getD i 0 ∧ ms.getD i 0 ≤ u) → (0 < i → ms.getD (i - 1) 0 ≤ ms.getD i 0) → (b = true ↔ ∀ j, i ≤ j → j < ms.length → MarkAt u ms j) := by
   intro h1 h2
   rw [hq]
   constructor
   ·intro h j h0 h3
    by_cases e : j = i
    ·rw [e]; exact ⟨h1.1, h1.2, h2⟩
    ·exact h j (by omega) h3
   ·intro h j h0 h3
    exact h j (by omega) h3
  have hd := rdn ms i
  by_cases hr : 0 ≤ ms.getD i 0 ∧ ms.getD i 0 ≤ u
  ·by_cases h0 : i = 0
   ·refine ⟨b, ev_succ ?_, hnext hr (fun h => by omega)⟩
    simp only [spec_l8Arena.l0, hd, spec_l1In_eq, Option.bind_some]
    refine ev_pos (by omega) (ev_pos (by omega) (ev_pos (decide_eq_true hr) (ev_neg (by omega) ?_)))
    rw [wsucc (by omega)]
    exact hb
   ·have hp : rd ms ((i : Int) - 1) = ms.getD (i - 1) 0 := by
     rw [show (i : Int) - 1 = ((i - 1 : Nat) : Int) by omega]; rfl
    by_cases hs : ms.getD (i - 1) 0 ≤ ms.getD i 0
    ·refine ⟨b, ev_succ ?_, hnext hr (fun _ => hs)⟩
     simp only [spec_l8Arena.l0, hd, spec_l1In_eq, Option.bind_some]
     rw [wid (n := (i : Int) - 1) (by omega) (by omega), hp]
     refine ev_pos (by omega) (ev_pos (by omega) (ev_pos (decide_eq_true hr) (ev_pos (by omega) (ev_pos (by omega) (ev_pos (by omega) (ev_neg (by omega) ?_))))))
     rw [wsucc (by omega)]
     exact hb
    ·refine ⟨false, ev_succ ?_, fun h => by simp at h, fun h => absurd ((h i (Nat.le_refl _) (by omega)).2.2 (by omega)) hs⟩
     simp only [spec_l8Arena.l0, hd, spec_l1In_eq, Option.bind_some]
     rw [wid (n := (i : Int) - 1) (by omega) (by omega), hp]
     exact ev_pos (by omega) (ev_pos (by omega) (ev_pos (decide_eq_true hr) (ev_pos (by omega) (ev_pos (by omega) (ev_pos (by omega) (ev_pos (by omega) (Ev.now _)))))))
  ·refine ⟨false, ev_succ ?_, fun h => by simp at h, fun h => absurd ⟨(h i (Nat.le_refl _) (by omega)).1, (h i (Nat.le_refl _) (by omega)).2.1⟩ hr⟩
   simp only [spec_l8Arena.l0, hd, spec_l1In_eq, Option.bind_some]
   exact ev_pos (by omega) (ev_pos (by omega) (ev_neg (by rw [decide_eq_false hr]; decide) (Ev.now _)))
theorem spec_l8Arena_ev (m : List (List Int)) (hm : m.length ≤ 1048576) (a s l c u : Int) (ms : List Int) (hl : ms.length ≤ 1048576) : Ev (fun k => spec_l8Arena.f k m a s l c u ms) (decide (ArenaOK m a s l c u ms)) := by
 simp only [spec_l8Arena.f, spec_l1In_eq, Option.bind_some]
 refine ev_bind (spec_l2Window_ev m hm a s l c) ?_
 by_cases h : WinOK m a s l c
 ·refine ev_pos (decide_eq_true h) ?_
  by_cases h2 : 0 ≤ u ∧ u ≤ l
  ·refine ev_pos (decide_eq_true h2) (ev_succ ?_)
   by_cases h8 : (ms.length : Int) > 8
   ·simp only [spec_l8Arena.j0, decide_eq_true h8]
    exact ev_pos (by first | trivial | rfl) (ev_eq (Ev.now _) (decide_eq_false (fun x => by have := x.2.2.2.1; omega)).symm)
   ·simp only [spec_l8Arena.j0, decide_eq_false h8]
    obtain ⟨b, hb, hq⟩ := spec_l8Arena_l0 m a s l c u ms hl ms.length 0 (by omega)
    refine ev_neg (by decide) (ev_eq hb (dec_of ?_))
    rw [hq]
    exact ⟨fun x => ⟨h, h2.1, h2.2, by omega, fun j hj => x j (Nat.zero_le _) hj⟩, fun x j _ hj => x.2.2.2.2 j hj⟩
  ·refine ev_neg (by rw [decide_eq_false h2]; decide) (ev_succ ?_)
   simp only [spec_l8Arena.j0]
   exact ev_pos (by first | trivial | rfl) (ev_eq (Ev.now _) (decide_eq_false (fun x => h2 ⟨x.2.1, x.2.2.1⟩)).symm)
 ·refine ev_neg (by rw [decide_eq_false h]; decide) (ev_succ ?_)
  simp only [spec_l8Arena.j0]
  exact ev_pos (by first | trivial | rfl) (ev_eq (Ev.now _) (decide_eq_false (fun x => h x.1)).symm)
def WinAt (m : List (List Int)) (w : S36) : Prop := WinOK m w.f0 w.f1 w.f2 w.f3
instance (m : List (List Int)) (w : S36) : Decidable (WinAt m w) := by unfold WinAt; exact inferInstance
def AllOn (m : List (List Int)) : List S36 → Prop
 | [] => True
 | w :: ws => WinAt m w ∧ AllOn m ws
instance allOnDec (m : List (List Int)) : (ws : List S36) → Decidable (AllOn m ws)
 | [] => isTrue trivial
 | w :: ws => by
  haveI := allOnDec m ws
  unfold AllOn
  exact inferInstance
theorem AllOn.mem {m : List (List Int)} : ∀ {ws : List S36}, AllOn m ws → ∀ w ∈ ws, WinAt m w
 | [], _, w, hw => by simp at hw
 | x :: ws, h, w, hw => by
  rcases List.mem_cons.1 hw with rfl | hw
  ·exact h.1
  ·exact AllOn.mem h.2 w hw
theorem AllOn.of {m : List (List Int)} : ∀ {ws : List S36}, (∀ w ∈ ws, WinAt m w) → AllOn m ws
 | [], _ => trivial
 | x :: ws, h => ⟨h x List.mem_cons_self, AllOn.of (fun w hw => h w (List.mem_cons_of_mem _ hw))⟩
theorem AllOn.drop {m : List (List Int)} {ws : List S36} (h : AllOn m ws) (i : Nat) : AllOn m (ws.drop i) := AllOn.of (fun w hw => h.mem w (List.mem_of_mem_drop hw))
theorem rdW {ws : List S36} {i : Nat} (h : i < ws.length) : rd_T36 ws (i : Int) = ws[i] := by
 unfold rd_T36
 exact getD_lt ws _ h
theorem impl_within_eq (a b c : Int) : impl_within.f a b c = some (decide (b ≤ a ∧ a ≤ c)) := by
 unfold impl_within.f
 by_cases h : a ≥ b
 ·rw [if_pos h]
  congr 1
  exact decide_eq_decide.mpr ⟨fun x => ⟨h, x⟩, fun x => x.2⟩
 ·rw [if_neg h]
  exact dec_false (fun x => h x.1)
theorem impl_Memory_hasWindow_eq (m : List (List Int)) (h : MemOK m) (a s l c : Int) : impl_Memory_hasWindow.f m a s l c = some (decide (WinOK m a s l c)) := by
 have hl := h.1
 simp only [impl_Memory_hasWindow.f, impl_Memory_hasArray.f, impl_within_eq, Option.bind_some, decide_eq_true_eq]
 rw [wid (n := (m.length : Int) - 1) (by omega) (by omega)]
 by_cases h1 : 0 ≤ a ∧ a ≤ (m.length : Int) - 1
 ·have hz := arr_size h h1.1 (by omega)
  have hr : rd_L1 m a = arr_ m a := rfl
  rw [if_pos h1, hr]
  by_cases h2 : 0 ≤ c ∧ c ≤ 64
  ·rw [if_pos h2]
   by_cases h3 : 0 ≤ l ∧ l ≤ c
   ·rw [if_pos h3, if_pos h1.1, if_pos (by omega), wid (n := ((arr_ m a).length : Int) - c) (by omega) (by omega)]
    congr 1
    exact decide_eq_decide.mpr ⟨fun x => ⟨h, by omega⟩, fun x => by obtain ⟨_, x⟩ := x; omega⟩
   ·rw [if_neg h3]
    exact dec_false (fun x => h3 (by obtain ⟨_, x⟩ := x; omega))
  ·rw [if_neg h2]
   exact dec_false (fun x => h2 (by obtain ⟨_, x⟩ := x; omega))
 ·rw [if_neg h1]
  exact dec_false (fun x => h1 (by obtain ⟨_, x⟩ := x; omega))
theorem impl_IsMemory_l0 (m : List (List Int)) (hm : m.length ≤ 1048576) : ∀ (d i : Nat), i + d = m.length → Ev (fun k => impl_IsMemory.l0 k m (m.length : Int) (i : Int) m) (decide (m.length ≤ 16 ∧ Sizes (m.drop i))) := by
 intro d
 induction d with
 | zero =>
  intro i hi
  have e : m.drop i = [] := List.drop_eq_nil_of_le (by omega)
  refine ev_succ (ev_eq (r := decide ((m.length : Int) ≤ 16)) ?_ ?_)
  ·simp only [impl_IsMemory.l0]
   exact ev_neg (by omega) (Ev.now _)
  ·rw [e]
   exact decide_eq_decide.mpr ⟨fun h => ⟨by omega, Sizes.nil⟩, fun h => by have := h.1; omega⟩
 | succ d ih =>
  intro i hi
  have h : i < m.length := by omega
  refine ev_succ ?_
  simp only [impl_IsMemory.l0]
  refine ev_pos (by omega) (ev_pos (by omega) (ev_pos (by omega) ?_))
  have hr : rd_L1 m (i : Int) = m[i] := by
   unfold rd_L1
   exact getD_lt m [] h
  simp only [impl_within_eq, hr, Option.bind_some, decide_eq_true_eq]
  by_cases hs : (1 : Int) ≤ (m[i].length : Int) ∧ (m[i].length : Int) ≤ 64
  ·refine ev_pos hs (ev_eq (r := decide (m.length ≤ 16 ∧ Sizes (m.drop (i + 1)))) ?_ ?_)
   ·have := ih (i + 1) (by omega)
    rw [← wsucc (i := i) (by omega)] at this
    exact this
   ·rw [List.drop_eq_getElem_cons h]
    exact decide_eq_decide.mpr ⟨fun x => ⟨x.1, x.2.cons hs⟩, fun x => ⟨x.1, x.2.tail⟩⟩
  ·refine ev_neg hs (ev_eq (Ev.now false) ?_)
   rw [List.drop_eq_getElem_cons h]
   exact (decide_eq_false (fun x => hs x.2.head)).symm
theorem impl_IsMemory_ev (m : List (List Int)) (hm : m.length ≤ 1048576) : Ev (fun k => impl_IsMemory.f k m) (decide (MemOK m)) := by
 simp only [impl_IsMemory.f]
 have := impl_IsMemory_l0 m hm m.length 0 (by omega)
 rw [List.drop_zero] at this
 exact this
theorem impl_areOn_any (m : List (List Int)) (h : MemOK m) : ∀ ws : List S36, Opn.anyO (fun x => (impl_Memory_hasWindow.f m x.f0 x.f1 x.f2 x.f3).bind fun b => some (!b)) ws = some (!decide (AllOn m ws))
 | [] => rfl
 | w :: ws => by
  unfold Opn.anyO
  rw [impl_Memory_hasWindow_eq m h, Option.bind_some, Option.bind_some, impl_areOn_any m h ws]
  by_cases hw : WinOK m w.f0 w.f1 w.f2 w.f3
  ·rw [decide_eq_true hw, if_neg (by decide)]
   congr 2
   exact decide_eq_decide.mpr ⟨fun x => ⟨hw, x⟩, fun x => x.2⟩
  ·rw [decide_eq_false hw, if_pos (by decide), decide_eq_false (fun x : AllOn m (w :: ws) => hw x.1)]
   rfl
theorem impl_areOn_ev (m : List (List Int)) (hm : m.length ≤ 1048576) (ws : List S36) : Ev (fun k => impl_areOn.f k m ws) (decide (MemOK m ∧ AllOn m ws)) := by
 simp only [impl_areOn.f]
 refine ev_bind (impl_IsMemory_ev m hm) ?_
 by_cases h : MemOK m
 ·refine ev_pos (decide_eq_true h) (ev_now (fun k => ?_))
  rw [impl_areOn_any m h, Option.bind_some, Bool.not_not]
  congr 1
  exact decide_eq_decide.mpr ⟨fun x => ⟨h, x⟩, fun x => x.2⟩
 ·exact ev_neg (by rw [decide_eq_false h]; decide) (ev_eq (Ev.now _) (decide_eq_false (fun x => h x.1)).symm)
theorem impl_areOn1_ev (m : List (List Int)) (hm : m.length ≤ 1048576) (a s l c : Int) : Ev (fun k => impl_areOn.f k m [(⟨a, s, l, c⟩ : S36)]) (decide (WinOK m a s l c)) :=
 ev_eq (impl_areOn_ev m hm _) (decide_eq_decide.mpr ⟨fun x => x.2.1, fun x => ⟨x.1, x, trivial⟩⟩)
theorem impl_allWithin_l0 (u : Int) (ms : List Int) (hl : ms.length ≤ 1048576) : ∀ (d i : Nat), i + d = ms.length →
  ∃ b, Ev (fun k => impl_allWithin.l0 k 0 u ms (ms.length : Int) (i : Int)) b ∧ (b = true ↔ ∀ j, i ≤ j → j < ms.length → 0 ≤ ms.getD j 0 ∧ ms.getD j 0 ≤ u) := by
 intro d
 induction d with
 | zero =>
  intro i hi
  refine ⟨true, ev_succ ?_, fun _ j h0 h1 => by omega, fun _ => rfl⟩
  simp only [impl_allWithin.l0]
  exact ev_neg (by omega) (Ev.now _)
 | succ d ih =>
  intro i hi
  obtain ⟨b, hb, hq⟩ := ih (i + 1) (by omega)
  have hd := rdn ms i
  by_cases hr : 0 ≤ ms.getD i 0 ∧ ms.getD i 0 ≤ u
  ·refine ⟨b, ev_succ ?_, ?_⟩
   ·simp only [impl_allWithin.l0, hd, impl_within_eq, Option.bind_some]
    refine ev_pos (by omega) (ev_pos (by omega) (ev_pos (by omega) (ev_pos (decide_eq_true hr) ?_)))
    rw [wsucc (by omega)]
    exact hb
   ·rw [hq]
    constructor
    ·intro h j h0 h3
     by_cases e : j = i
     ·rw [e]; exact hr
     ·exact h j (by omega) h3
    ·intro h j h0 h3
     exact h j (by omega) h3
  ·refine ⟨false, ev_succ ?_, fun h => by simp at h, fun h => absurd (h i (Nat.le_refl _) (by omega)) hr⟩
   simp only [impl_allWithin.l0, hd, impl_within_eq, Option.bind_some]
   exact ev_pos (by omega) (ev_pos (by omega) (ev_pos (by omega) (ev_neg (by rw [decide_eq_false hr]; decide) (Ev.now _))))
theorem cmp_Less_int_eq (a b : Int) : cmp_Less_int.f a b = some (decide (a < b)) := by
 unfold cmp_Less_int.f cmp_isNaN_int.f
 simp
theorem slices_IsSorted_l0 (ms : List Int) (hl : ms.length ≤ 1048576) : ∀ (i : Nat), i < ms.length →
  ∃ b, Ev (fun k => slices_IsSorted_int_int.l0 k ms (i : Int)) b ∧ (b = true ↔ ∀ j, 0 < j → j ≤ i → ms.getD (j - 1) 0 ≤ ms.getD j 0) := by
 intro i
 induction i with
 | zero =>
  intro hi
  refine ⟨true, ev_succ ?_, fun _ j h0 h1 => by omega, fun _ => rfl⟩
  simp only [slices_IsSorted_int_int.l0]
  exact ev_neg (by omega) (Ev.now _)
 | succ i ih =>
  intro hi
  obtain ⟨b, hb, hq⟩ := ih (by omega)
  have hd : rd ms ((i + 1 : Nat) : Int) = ms.getD (i + 1) 0 := rdn ms (i + 1)
  have hw : wrap64 (((i + 1 : Nat) : Int) - 1) = (i : Int) := by rw [wid (by omega) (by omega)]; omega
  by_cases hr : ms.getD (i + 1) 0 < ms.getD i 0
  ·refine ⟨false, ev_succ ?_, fun h => by simp at h, fun h => absurd (h (i + 1) (by omega) (Nat.le_refl _)) (by simpa using hr)⟩
   simp only [slices_IsSorted_int_int.l0, hd, hw, rdn ms i, cmp_Less_int_eq, Option.bind_some]
   exact ev_pos (by omega) (ev_pos (by omega) (ev_pos (by omega) (ev_pos (by omega) (ev_pos (by omega) (ev_pos (decide_eq_true hr) (Ev.now _))))))
  ·refine ⟨b, ev_succ ?_, ?_⟩
   ·simp only [slices_IsSorted_int_int.l0, hd, hw, rdn ms i, cmp_Less_int_eq, Option.bind_some]
    exact ev_pos (by omega) (ev_pos (by omega) (ev_pos (by omega) (ev_pos (by omega) (ev_pos (by omega) (ev_neg (by rw [decide_eq_false hr]; decide) hb)))))
   ·rw [hq]
    constructor
    ·intro h j h0 h3
     by_cases e : j = i + 1
     ·rw [e]
      simpa using hr
     ·exact h j h0 (by omega)
    ·intro h j h0 h3
     exact h j h0 (by omega)
theorem slices_IsSorted_ev (ms : List Int) (hl : ms.length ≤ 1048576) : ∃ b, Ev (fun k => slices_IsSorted_int_int.f k ms) b ∧ (b = true ↔ ∀ j, 0 < j → j < ms.length → ms.getD (j - 1) 0 ≤ ms.getD j 0) := by
 simp only [slices_IsSorted_int_int.f]
 rw [wid (n := (ms.length : Int) - 1) (by omega) (by omega)]
 by_cases h : ms.length = 0
 ·refine ⟨true, ev_succ ?_, fun _ j h0 h1 => by omega, fun _ => rfl⟩
  simp only [slices_IsSorted_int_int.l0]
  exact ev_neg (by omega) (Ev.now _)
 ·obtain ⟨b, hb, hq⟩ := slices_IsSorted_l0 ms hl (ms.length - 1) (by omega)
  refine ⟨b, ?_, ?_⟩
  ·rw [show (ms.length : Int) - 1 = ((ms.length - 1 : Nat) : Int) by omega]
   exact hb
  ·rw [hq]
   exact ⟨fun x j h0 h1 => x j h0 (by omega), fun x j h0 h1 => x j h0 (by omega)⟩
theorem impl_IsArena_ev (m : List (List Int)) (hm : m.length ≤ 1048576) (a s l c u : Int) (ms : List Int) (hl : ms.length ≤ 1048576) : Ev (fun k => impl_IsArena.f k m a s l c u ms) (decide (ArenaOK m a s l c u ms)) := by
 simp only [impl_IsArena.f, impl_within_eq, Option.bind_some]
 refine ev_bind (impl_areOn1_ev m hm a s l c) ?_
 by_cases h : WinOK m a s l c
 ·refine ev_pos (decide_eq_true h) ?_
  by_cases h2 : 0 ≤ u ∧ u ≤ l
  ·refine ev_pos (decide_eq_true h2) (ev_succ ?_)
   by_cases h8 : (ms.length : Int) > 8
   ·simp only [impl_IsArena.j0, decide_eq_true h8]
    exact ev_pos (by first | trivial | rfl) (ev_eq (Ev.now _) (decide_eq_false (fun x => by have := x.2.2.2.1; omega)).symm)
   ·simp only [impl_IsArena.j0, decide_eq_false h8, impl_allWithin.f]
    obtain ⟨b, hb, hq⟩ := impl_allWithin_l0 u ms hl ms.length 0 (by omega)
    refine ev_neg (by decide) (ev_bind hb ?_)
    cases b with
    | true =>
     obtain ⟨b2, hb2, hq2⟩ := slices_IsSorted_ev ms hl
     refine ev_pos rfl (ev_bind hb2 (ev_eq (Ev.now _) (dec_of ?_)))
     rw [hq2]
     exact ⟨fun x => ⟨h, h2.1, h2.2, by omega, fun j hj => ⟨(hq.1 rfl j (Nat.zero_le _) hj).1, (hq.1 rfl j (Nat.zero_le _) hj).2, fun h0 => x j h0 hj⟩⟩, fun x j h0 hj => (x.2.2.2.2 j hj).2.2 h0⟩
    | false =>
     refine ev_neg (by decide) (ev_eq (Ev.now _) (decide_eq_false (fun x => ?_)).symm)
     have := hq.2 (fun j _ hj => ⟨(x.2.2.2.2 j hj).1, (x.2.2.2.2 j hj).2.1⟩)
     simp at this
  ·refine ev_neg (by rw [decide_eq_false h2]; decide) (ev_succ ?_)
   simp only [impl_IsArena.j0]
   exact ev_pos (by first | trivial | rfl) (ev_eq (Ev.now _) (decide_eq_false (fun x => h2 ⟨x.2.1, x.2.2.1⟩)).symm)
 ·refine ev_neg (by rw [decide_eq_false h]; decide) (ev_succ ?_)
  simp only [impl_IsArena.j0]
  exact ev_pos (by first | trivial | rfl) (ev_eq (Ev.now _) (decide_eq_false (fun x => h x.1)).symm)
theorem laws_szByteS_eq (l : List Int) (hl : l.length ≤ 9223372036854775807) (n : Int) (h0 : 0 ≤ n) (h1 : n ≤ 1048576) : laws_szByteS.f l n = some (if (l.length : Int) ≤ n then n - l.length else -1) := by
 unfold laws_szByteS.f
 rw [wid (n := n - l.length) (by omega) (by omega)]
 by_cases h : (l.length : Int) ≤ n
 ·rw [if_neg (by omega), if_pos h]
 ·rw [if_pos (by omega), if_neg h]
theorem laws_szByteSS_l0 (m : List (List Int)) (hl : m.length ≤ 9223372036854775807) (hm : ∀ a ∈ m, a.length ≤ 9223372036854775807) : ∀ (d i : Nat) (n : Int), i + d = m.length → 0 ≤ n → n ≤ 1048576 →
  ∃ r, Ev (fun k => laws_szByteSS.l0 k m n (i : Int)) r ∧ r ≤ n ∧ (0 ≤ r → ∀ a ∈ m.drop i, (a.length : Int) ≤ n) := by
 intro d
 induction d with
 | zero =>
  intro i n hi h0 h1
  refine ⟨n, ev_succ ?_, Int.le_refl _, fun _ a ha => ?_⟩
  ·simp only [laws_szByteSS.l0]
   exact ev_neg (by omega) (Ev.now _)
  ·rw [List.drop_eq_nil_of_le (by omega)] at ha
   simp at ha
 | succ d ih =>
  intro i n hi h0 h1
  have h : i < m.length := by omega
  have hr : rd_L1 m (i : Int) = m[i] := by
   unfold rd_L1
   exact getD_lt m [] h
  have ha := hm m[i] (List.getElem_mem h)
  by_cases hs : (m[i].length : Int) ≤ n
  ·obtain ⟨r, e, hr1, hr2⟩ := ih (i + 1) (n - m[i].length) (by omega) (by omega) (by omega)
   refine ⟨r, ev_succ ?_, by omega, fun hp a hx => ?_⟩
   ·simp only [laws_szByteSS.l0, hr, laws_szByteS_eq m[i] ha n h0 h1, if_pos hs, Option.bind_some]
    refine ev_pos (by omega) (ev_pos (by omega) (ev_neg (by omega) ?_))
    rw [wsucc (i := i) (by omega)]
    exact e
   ·rw [List.drop_eq_getElem_cons h] at hx
    rcases List.mem_cons.1 hx with rfl | hx
    ·exact hs
    ·have := hr2 hp a hx
     omega
  ·refine ⟨-1, ev_succ ?_, by omega, fun hp => by omega⟩
   simp only [laws_szByteSS.l0, hr, laws_szByteS_eq m[i] ha n h0 h1, if_neg hs, Option.bind_some]
   exact ev_pos (by omega) (ev_pos (by omega) (ev_pos (by omega) (Ev.now _)))
theorem laws_szByteSS_ev (m : List (List Int)) (hm : Row (Row U8) m) (n : Int) (h0 : 0 ≤ n) (h1 : n ≤ 1048576) : ∃ r, Ev (fun k => laws_szByteSS.f k m n) r ∧ r ≤ n ∧ (0 ≤ r → Small m) := by
 have hl := hm.1
 have hr : ∀ a ∈ m, a.length ≤ 9223372036854775807 := fun a ha => (hm.2 a ha).1
 simp only [laws_szByteSS.f]
 rw [wid (n := n - m.length) (by omega) (by omega)]
 by_cases h : (m.length : Int) ≤ n
 ·obtain ⟨r, e, hr1, hr2⟩ := laws_szByteSS_l0 m hl hr m.length 0 (n - m.length) (by omega) (by omega) (by omega)
  refine ⟨r, ev_neg (by omega) e, by omega, fun hp => ⟨by omega, fun a ha => ?_⟩⟩
  have := hr2 hp a (by simpa using ha)
  omega
 ·exact ⟨-1, ev_pos (by omega) (Ev.now _), by omega, fun hp => by omega⟩
theorem laws_szMemory_ev (m : List (List Int)) (hm : Row (Row U8) m) (n : Int) (h0 : 0 ≤ n) (h1 : n ≤ 1048576) : ∃ r, Ev (fun k => laws_szMemory.f k m n) r ∧ r ≤ n ∧ (0 ≤ r → Small m) := by
 obtain ⟨r, e, hr, hs⟩ := laws_szByteSS_ev m hm n h0 h1
 simp only [laws_szMemory.f]
 by_cases h : r < 0
 ·exact ⟨-1, ev_bind e (ev_pos h (Ev.now _)), by omega, fun hp => by omega⟩
 ·exact ⟨r, ev_bind e (ev_neg h (Ev.now _)), hr, hs⟩
theorem laws_toByteS_l0 (l : List Int) (hl : l.length ≤ 281474976710656) (x : List Int) (hx : x.length = l.length) : ∀ (d i : Nat), i + d = l.length → Ev (fun k => laws_toByteS.l0 k l (over l x i) (i : Int)) l := by
 intro d
 induction d with
 | zero =>
  intro i hi
  have e : over l x i = l := by rw [show i = l.length by omega]; exact over_all l x hx
  rw [e]
  refine ev_end (fun k => ?_)
  simp only [laws_toByteS.l0]
  rw [if_neg (by omega)]
 | succ d ih =>
  intro i hi
  refine Ev.step (fun k => ?_) (ih (i + 1) (by omega))
  simp only [laws_toByteS.l0]
  rw [if_pos (by omega), if_pos (by omega), if_pos (by rw [over_length l x i hx (by omega)]; omega), Int.toNat_natCast, rd_lt l (by omega : i < l.length), over_set l x i hx (by omega), wsucc (by omega)]
theorem laws_toByteS_ev (l : List Int) (hl : l.length ≤ 281474976710656) : Ev (fun k => laws_toByteS.f k l) l := by
 simp only [laws_toByteS.f]
 refine ev_pos (by omega) (ev_pos (by simpa using hl) ?_)
 have h := laws_toByteS_l0 l hl (List.replicate l.length 0) (by simp) l.length 0 (by omega)
 rw [over_zero] at h
 simpa using h
theorem laws_toByteSS_l0 (l : List (List Int)) (hl : Small l) (x : List (List Int)) (hx : x.length = l.length) : ∀ (d i : Nat), i + d = l.length → Ev (fun k => laws_toByteSS.l0 k l (over l x i) (i : Int)) l := by
 obtain ⟨hl, hs⟩ := hl
 intro d
 induction d with
 | zero =>
  intro i hi
  have e : over l x i = l := by rw [show i = l.length by omega]; exact over_all l x hx
  rw [e]
  refine ev_succ ?_
  simp only [laws_toByteSS.l0]
  exact ev_neg (by omega) (Ev.now _)
 | succ d ih =>
  intro i hi
  have h : i < l.length := by omega
  have hr : rd_L1 l (i : Int) = l[i] := by
   unfold rd_L1
   exact getD_lt l [] h
  refine ev_succ ?_
  simp only [laws_toByteSS.l0, hr]
  refine ev_pos (by omega) (ev_pos (by omega) (ev_bind (laws_toByteS_ev l[i] (by have := hs l[i] (List.getElem_mem h); omega)) (ev_pos (by rw [over_length l x i hx (by omega)]; omega) ?_)))
  rw [Int.toNat_natCast, over_set l x i hx h, wsucc (by omega)]
  exact ih (i + 1) (by omega)
theorem laws_toByteSS_ev (l : List (List Int)) (hl : Small l) : Ev (fun k => laws_toByteSS.f k l) l := by
 have h1 := hl.1
 simp only [laws_toByteSS.f]
 refine ev_pos (by omega) (ev_pos (by simp only [Int.toNat_natCast]; omega) ?_)
 have h := laws_toByteSS_l0 l hl (List.replicate l.length []) (by simp) l.length 0 (by omega)
 rw [over_zero] at h
 simpa using h
theorem laws_toMemory_ev (l : List (List Int)) (hl : Small l) : Ev (fun k => laws_toMemory.f k l) l := by
 simp only [laws_toMemory.f]
 exact ev_bind (laws_toByteSS_ev l hl) (Ev.now _)
theorem laws_eqByteS_l0 (a b : List Int) (hl : a.length = b.length) (hb : a.length ≤ 281474976710656) : ∀ (d i : Nat), i + d = a.length → Ev (fun k => laws_eqByteS.l0 k a b (i : Int)) (decide (a.drop i = b.drop i)) := by
 intro d
 induction d with
 | zero =>
  intro i hi
  have e1 : a.drop i = [] := List.drop_eq_nil_of_le (by omega)
  have e2 : b.drop i = [] := List.drop_eq_nil_of_le (by omega)
  rw [e1, e2]
  refine ev_end (fun k => ?_)
  simp only [laws_eqByteS.l0]
  rw [if_neg (by omega)]
  rfl
 | succ d ih =>
  intro i hi
  have ha : i < a.length := by omega
  have hb2 : i < b.length := by omega
  rw [List.drop_eq_getElem_cons ha, List.drop_eq_getElem_cons hb2]
  by_cases h : a[i] = b[i]
  ·refine ev_eq (Ev.step (fun k => ?_) (ih (i + 1) (by omega))) ?_
   ·simp only [laws_eqByteS.l0]
    rw [if_pos (by omega), if_pos (by omega), if_pos (by omega), rd_lt a ha, rd_lt b hb2, if_pos h, wsucc (by omega)]
   ·rw [h]; exact decide_eq_decide.mpr ⟨fun e => by rw [e], fun e => (List.cons.inj e).2⟩
  ·refine ev_eq (ev_end (r := false) (fun k => ?_)) (decide_eq_false (fun e => h (List.cons.inj e).1)).symm
   simp only [laws_eqByteS.l0]
   rw [if_pos (by omega), if_pos (by omega), if_pos (by omega), rd_lt a ha, rd_lt b hb2, if_neg h]
theorem laws_eqByteS_ev (a b : List Int) (hb : a.length ≤ 281474976710656) : Ev (fun k => laws_eqByteS.f k a b) (decide (a = b)) := by
 simp only [laws_eqByteS.f]
 by_cases h : a.length = b.length
 ·refine ev_pos (by omega) ?_
  have := laws_eqByteS_l0 a b h hb a.length 0 (by omega)
  simpa using this
 ·refine ev_neg (by omega) ?_
  have : ¬ a = b := fun e => h (by rw [e])
  rw [decide_eq_false this]
  exact Ev.now _
theorem laws_eqByteSS_l0 (l : List (List Int)) (hl : Small l) : ∀ (d i : Nat), i + d = l.length → Ev (fun k => laws_eqByteSS.l0 k l l (i : Int)) true := by
 obtain ⟨hl, hs⟩ := hl
 intro d
 induction d with
 | zero =>
  intro i hi
  refine ev_succ ?_
  simp only [laws_eqByteSS.l0]
  exact ev_neg (by omega) (Ev.now _)
 | succ d ih =>
  intro i hi
  have h : i < l.length := by omega
  have hr : rd_L1 l (i : Int) = l[i] := by
   unfold rd_L1
   exact getD_lt l [] h
  refine ev_succ ?_
  simp only [laws_eqByteSS.l0, hr]
  refine ev_pos (by omega) (ev_pos (by omega) (ev_pos (by omega) (ev_bind (laws_eqByteS_ev l[i] l[i] (by have := hs l[i] (List.getElem_mem h); omega)) (ev_pos (by simp) ?_))))
  rw [wsucc (by omega)]
  exact ih (i + 1) (by omega)
theorem laws_eqMemory_ev (l : List (List Int)) (hl : Small l) : Ev (fun k => laws_eqMemory.f k l l) true := by
 simp only [laws_eqMemory.f, laws_eqByteSS.f]
 have := laws_eqByteSS_l0 l hl l.length 0 (by omega)
 exact ev_bind (ev_pos (by first | trivial | rfl) (by simpa using this)) (ev_pos (by first | trivial | rfl) (Ev.now _))
theorem laws_eqWindow_self (a s l c : Int) : laws_eqWindow.f a s l c a s l c = some true := by
 unfold laws_eqWindow.f
 rw [if_pos rfl, if_pos rfl, if_pos rfl, if_pos rfl]
theorem laws_toIntS_l0 (l : List Int) (hl : l.length ≤ 35184372088832) (x : List Int) (hx : x.length = l.length) : ∀ (d i : Nat), i + d = l.length → Ev (fun k => laws_toIntS.l0 k l (over l x i) (i : Int)) l := by
 intro d
 induction d with
 | zero =>
  intro i hi
  have e : over l x i = l := by rw [show i = l.length by omega]; exact over_all l x hx
  rw [e]
  refine ev_end (fun k => ?_)
  simp only [laws_toIntS.l0]
  rw [if_neg (by omega)]
 | succ d ih =>
  intro i hi
  refine Ev.step (fun k => ?_) (ih (i + 1) (by omega))
  simp only [laws_toIntS.l0]
  rw [if_pos (by omega), if_pos (by omega), if_pos (by rw [over_length l x i hx (by omega)]; omega), Int.toNat_natCast, rd_lt l (by omega : i < l.length), over_set l x i hx (by omega), wsucc (by omega)]
theorem laws_toIntS_ev (l : List Int) (hl : l.length ≤ 35184372088832) : Ev (fun k => laws_toIntS.f k l) l := by
 simp only [laws_toIntS.f]
 refine ev_pos (by omega) (ev_pos (by simpa using hl) ?_)
 have h := laws_toIntS_l0 l hl (List.replicate l.length 0) (by simp) l.length 0 (by omega)
 rw [over_zero] at h
 simpa using h
theorem laws_eqIntS_l0 (a b : List Int) (hl : a.length = b.length) (hb : a.length ≤ 281474976710656) : ∀ (d i : Nat), i + d = a.length → Ev (fun k => laws_eqIntS.l0 k a b (i : Int)) (decide (a.drop i = b.drop i)) := by
 intro d
 induction d with
 | zero =>
  intro i hi
  have e1 : a.drop i = [] := List.drop_eq_nil_of_le (by omega)
  have e2 : b.drop i = [] := List.drop_eq_nil_of_le (by omega)
  rw [e1, e2]
  refine ev_end (fun k => ?_)
  simp only [laws_eqIntS.l0]
  rw [if_neg (by omega)]
  rfl
 | succ d ih =>
  intro i hi
  have ha : i < a.length := by omega
  have hb2 : i < b.length := by omega
  rw [List.drop_eq_getElem_cons ha, List.drop_eq_getElem_cons hb2]
  by_cases h : a[i] = b[i]
  ·refine ev_eq (Ev.step (fun k => ?_) (ih (i + 1) (by omega))) ?_
   ·simp only [laws_eqIntS.l0]
    rw [if_pos (by omega), if_pos (by omega), if_pos (by omega), rd_lt a ha, rd_lt b hb2, if_pos h, wsucc (by omega)]
   ·rw [h]; exact decide_eq_decide.mpr ⟨fun e => by rw [e], fun e => (List.cons.inj e).2⟩
  ·refine ev_eq (ev_end (r := false) (fun k => ?_)) (decide_eq_false (fun e => h (List.cons.inj e).1)).symm
   simp only [laws_eqIntS.l0]
   rw [if_pos (by omega), if_pos (by omega), if_pos (by omega), rd_lt a ha, rd_lt b hb2, if_neg h]
theorem laws_eqIntS_ev (a b : List Int) (hb : a.length ≤ 281474976710656) : Ev (fun k => laws_eqIntS.f k a b) (decide (a = b)) := by
 simp only [laws_eqIntS.f]
 by_cases h : a.length = b.length
 ·refine ev_pos (by omega) ?_
  have := laws_eqIntS_l0 a b h hb a.length 0 (by omega)
  simpa using this
 ·refine ev_neg (by omega) ?_
  have : ¬ a = b := fun e => h (by rw [e])
  rw [decide_eq_false this]
  exact Ev.now _
theorem laws_szIntS_eq (l : List Int) (hl : l.length ≤ 9223372036854775807) (n : Int) (h0 : 0 ≤ n) (h1 : n ≤ 1048576) : laws_szIntS.f l n = some (if (l.length : Int) ≤ n then n - l.length else -1) := by
 unfold laws_szIntS.f
 rw [wid (n := n - l.length) (by omega) (by omega)]
 by_cases h : (l.length : Int) ≤ n
 ·rw [if_neg (by omega), if_pos h]
 ·rw [if_pos (by omega), if_neg h]
theorem laws_szArena_ev (m : List (List Int)) (hm : Row (Row U8) m) (a s l c u : Int) (ms : List Int) (hs : Row I64 ms) (n : Int) (h0 : 0 ≤ n) (h1 : n ≤ 1048576) : ∃ r, Ev (fun k => laws_szArena.f k m a s l c u ms n) r ∧ r ≤ n ∧ (0 ≤ r → Small m ∧ ms.length ≤ 1048576) := by
 obtain ⟨r, e, hr, hsm⟩ := laws_szMemory_ev m hm n h0 h1
 simp only [laws_szArena.f]
 by_cases h : r < 0
 ·exact ⟨-1, ev_bind e (ev_pos h (Ev.now _)), by omega, fun hp => by omega⟩
 ·by_cases h2 : (ms.length : Int) ≤ r
  ·refine ⟨r - ms.length, ev_bind e (ev_neg h ?_), by omega, fun hp => ⟨hsm (by omega), by omega⟩⟩
   refine ev_now (fun k => ?_)
   rw [laws_szIntS_eq ms hs.1 r (by omega) (by omega), if_pos h2, Option.bind_some, if_neg (by omega)]
  ·refine ⟨-1, ev_bind e (ev_neg h ?_), by omega, fun hp => by omega⟩
   refine ev_now (fun k => ?_)
   rw [laws_szIntS_eq ms hs.1 r (by omega) (by omega), if_neg h2, Option.bind_some, if_pos (by omega)]
theorem laws_toArena_ev (m : List (List Int)) (hm : Small m) (a s l c u : Int) (ms : List Int) (hl : ms.length ≤ 1048576) : Ev (fun k => laws_toArena.f k m a s l c u ms) (m, a, s, l, c, u, ms) := by
 simp only [laws_toArena.f, laws_toWindow.f, Option.bind_some]
 exact ev_bind (laws_toMemory_ev m hm) (ev_bind (laws_toIntS_ev ms (by omega)) (Ev.now _))
theorem laws_eqArena_self (m : List (List Int)) (hm : Small m) (a s l c u : Int) (ms : List Int) (hl : ms.length ≤ 1048576) : Ev (fun k => laws_eqArena.f k m a s l c u ms m a s l c u ms) true := by
 have h : ∀ k, laws_eqArena.f k m a s l c u ms m a s l c u ms = (laws_eqMemory.f k m m).bind fun q => if q = true then (laws_eqIntS.f k ms ms).bind (fun q2 => if q2 = true then some true else some false) else some false := by
  intro k
  unfold laws_eqArena.f
  congr 1
  funext q
  rw [laws_eqWindow_self, Option.bind_some, if_pos rfl, if_pos rfl]
 exact Ev.congr h (ev_bind (laws_eqMemory_ev m hm) (ev_pos rfl (ev_bind (ev_eq (laws_eqIntS_ev ms ms (by omega)) (by simp)) (ev_pos rfl (Ev.now _)))))
theorem laws_markByteS_l0 (n : Nat) (hn : n ≤ 281474976710656) : ∀ (d i : Nat) (x : List Int) (k0 : Int), i + d = n → x.length = n → 0 ≤ k0 → k0 + d ≤ 4611686018427387904 → Ev (fun k => laws_markByteS.l0 k x k0 (i : Int)) (k0 + d, x.take i ++ marks k0 d) := by
 intro d
 induction d with
 | zero =>
  intro i x k0 hi hx h0 h1
  refine ev_eq (ev_end (r := (k0, x)) (fun k => ?_)) ?_
  ·simp only [laws_markByteS.l0]
   rw [if_neg (by omega)]
  ·rw [List.take_of_length_le (by omega)]
   simp [marks]
 | succ d ih =>
  intro i x k0 hi hx h0 h1
  refine ev_eq (Ev.step (fun k => ?_) (ih (i + 1) (x.set i (k0 % 256)) (k0 + 1) (by omega) (by simpa using hx) (by omega) (by omega))) ?_
  ·simp only [laws_markByteS.l0]
   rw [if_pos (by omega), if_pos (by omega), Int.toNat_natCast, wid (n := k0 + 1) (by omega) (by omega), wsucc (by omega)]
  ·refine Prod.ext ?_ ?_
   ·simp; omega
   ·show (x.set i (k0 % 256)).take (i + 1) ++ marks (k0 + 1) d = x.take i ++ marks k0 (d + 1)
    rw [List.take_succ_eq_append_getElem (by simp; omega)]
    simp [marks, List.take_set]
    exact List.set_eq_of_length_le (by rw [List.length_take]; omega)
theorem laws_markByteS_ev (x : List Int) (k0 : Int) (hn : x.length ≤ 281474976710656) (h0 : 0 ≤ k0) (h1 : k0 + x.length ≤ 4611686018427387904) : Ev (fun k => laws_markByteS.f k x k0) (k0 + x.length, marks k0 x.length) := by
 simp only [laws_markByteS.f]
 have := laws_markByteS_l0 x.length hn x.length 0 x k0 (by omega) rfl h0 h1
 simpa using this
theorem laws_markByteSS_l0 (m : List (List Int)) (hm : Small m) : ∀ (d i : Nat) (k0 : Int), i + d = m.length → 0 ≤ k0 → k0 + d * 1048576 ≤ 2305843009213693952 → ∃ r, Ev (fun k => laws_markByteSS.l0 k m k0 (i : Int)) r ∧ k0 ≤ r ∧ r ≤ k0 + d * 1048576 := by
 intro d
 induction d with
 | zero =>
  intro i k0 hi h0 h1
  exact ⟨k0, ev_end (fun k => by simp only [laws_markByteSS.l0]; rw [if_neg (by omega)]), by omega, by omega⟩
 | succ d ih =>
  intro i k0 hi h0 h1
  have h : i < m.length := by omega
  have hl := hm.2 m[i] (List.getElem_mem h)
  have hlen := hm.1
  have hr : rd_L1 m (i : Int) = m[i] := by
   unfold rd_L1
   exact getD_lt m _ h
  obtain ⟨r, e, h2, h3⟩ := ih (i + 1) (k0 + m[i].length) (by omega) (by omega) (by omega)
  refine ⟨r, ev_succ ?_, by omega, by omega⟩
  simp only [laws_markByteSS.l0, hr]
  refine ev_pos (by omega) (ev_pos (by omega) (ev_bind (laws_markByteS_ev m[i] k0 (by omega) h0 (by omega)) ?_))
  rw [wsucc (by omega)]
  exact e
theorem laws_markMemory_ev (m : List (List Int)) (hm : Small m) : ∃ r, Ev (fun k => laws_markMemory.f k m 1) r ∧ 1 ≤ r ∧ r ≤ 1099511627777 := by
 have hlen := hm.1
 obtain ⟨r, e, h1, h2⟩ := laws_markByteSS_l0 m hm m.length 0 1 (by omega) (by omega) (by omega)
 exact ⟨r, e, by omega, by omega⟩
def imarks (k : Int) : Nat → List Int
 | 0 => []
 | n + 1 => k :: imarks (k + 1) n
theorem imarks_length (k : Int) (n : Nat) : (imarks k n).length = n := by
 induction n generalizing k with
 | zero => rfl
 | succ n ih => simp [imarks, ih]
theorem imarks_get (n : Nat) : ∀ (k : Int) (i : Nat) (h : i < (imarks k n).length), (imarks k n)[i] = k + i := by
 induction n with
 | zero => intro k i h; simp [imarks] at h
 | succ n ih =>
  intro k i h
  cases i with
  | zero => simp [imarks]
  | succ i =>
   have := ih (k + 1) i (by simp [imarks_length] at h ⊢; omega)
   simp only [imarks, List.getElem_cons_succ, this]
   omega
theorem laws_markIntS_l0 (n : Nat) (hn : n ≤ 281474976710656) : ∀ (d i : Nat) (x : List Int) (k0 : Int), i + d = n → x.length = n → 0 ≤ k0 → k0 + d ≤ 4611686018427387904 → Ev (fun k => laws_markIntS.l0 k x k0 (i : Int)) (k0 + d, x.take i ++ imarks k0 d) := by
 intro d
 induction d with
 | zero =>
  intro i x k0 hi hx h0 h1
  refine ev_eq (ev_end (r := (k0, x)) (fun k => ?_)) ?_
  ·simp only [laws_markIntS.l0]
   rw [if_neg (by omega)]
  ·rw [List.take_of_length_le (by omega)]
   simp [imarks]
 | succ d ih =>
  intro i x k0 hi hx h0 h1
  refine ev_eq (Ev.step (fun k => ?_) (ih (i + 1) (x.set i k0) (k0 + 1) (by omega) (by simpa using hx) (by omega) (by omega))) ?_
  ·simp only [laws_markIntS.l0]
   rw [if_pos (by omega), if_pos (by omega), Int.toNat_natCast, wid (n := k0 + 1) (by omega) (by omega), wsucc (by omega)]
  ·refine Prod.ext ?_ ?_
   ·simp; omega
   ·show (x.set i k0).take (i + 1) ++ imarks (k0 + 1) d = x.take i ++ imarks k0 (d + 1)
    rw [List.take_succ_eq_append_getElem (by simp; omega)]
    simp [imarks, List.take_set]
    exact List.set_eq_of_length_le (by rw [List.length_take]; omega)
theorem laws_markIntS_ev (x : List Int) (k0 : Int) (hn : x.length ≤ 281474976710656) (h0 : 0 ≤ k0) (h1 : k0 + x.length ≤ 4611686018427387904) : Ev (fun k => laws_markIntS.f k x k0) (k0 + x.length, imarks k0 x.length) := by
 simp only [laws_markIntS.f]
 have := laws_markIntS_l0 x.length hn x.length 0 x k0 (by omega) rfl h0 h1
 simpa using this
theorem laws_markArena_ev (m : List (List Int)) (hm : Small m) (a s l c u : Int) (ms : List Int) (hl : ms.length ≤ 1048576) : ∃ r, Ev (fun k => laws_markArena.f k m a s l c u ms 1) (r, imarks (r - ms.length) ms.length) ∧ 1 ≤ r ∧ r ≤ 1099511627777 + 1048576 := by
 obtain ⟨r, e, h1, h2⟩ := laws_markMemory_ev m hm
 refine ⟨r + ms.length, ?_, by omega, by omega⟩
 simp only [laws_markArena.f]
 rw [show r + (ms.length : Int) - ms.length = r by omega]
 exact ev_bind e (laws_markIntS_ev ms r (by omega) (by omega) (by omega))
theorem laws_heldIntS_l0 (k1 : Int) (n : Nat) (hn : n ≤ 281474976710656) (h0 : 0 ≤ k1) (h1 : k1 + n ≤ 4611686018427387904) : ∀ (d i : Nat), i + d = n → Ev (fun k => laws_heldIntS.l0 k (imarks k1 n) (k1 + i) (i : Int)) (k1 + n) := by
 intro d
 induction d with
 | zero =>
  intro i hi
  refine ev_eq (ev_end (r := k1 + i) (fun k => ?_)) (by omega)
  simp only [laws_heldIntS.l0]
  rw [imarks_length, if_neg (by omega)]
 | succ d ih =>
  intro i hi
  refine Ev.step (fun k => ?_) (ih (i + 1) (by omega))
  simp only [laws_heldIntS.l0]
  rw [imarks_length, if_pos (by omega), if_pos (by omega), rd_lt _ (by rw [imarks_length]; omega), imarks_get, if_pos rfl, wid (n := k1 + i + 1) (by omega) (by omega), wsucc (by omega)]
  congr 1
  omega
theorem laws_heldIntS_ev (k1 : Int) (n : Nat) (hn : n ≤ 281474976710656) (h0 : 0 ≤ k1) (h1 : k1 + n ≤ 4611686018427387904) : Ev (fun k => laws_heldIntS.f k (imarks k1 n) k1) (k1 + n) := by
 simp only [laws_heldIntS.f]
 have := laws_heldIntS_l0 k1 n hn h0 h1 n 0 (by omega)
 simpa using this
theorem getD_app {α : Type} (l : List α) (z : α) {i : Nat} (h : i < l.length) : l.getD i z = l[i] := getD_lt l z h
instance (q : S95) : Decidable (AskOK q) := by unfold AskOK; exact inferInstance
def askB (q : S95) : Bool := decide (0 ≤ q.f0) && decide (1 ≤ q.f1 ∧ q.f1 ≤ 16)
theorem spec_l8Asked_eq (q : S95) : spec_l8Asked.f q.f0 q.f1 = some (askB q) := by
 unfold spec_l8Asked.f askB
 by_cases h : q.f0 ≥ 0
 ·rw [if_pos h, spec_l1In_eq, Option.bind_some, decide_eq_true (show 0 ≤ q.f0 from h), Bool.true_and]
 ·rw [if_neg h, decide_eq_false (show ¬ 0 ≤ q.f0 from h), Bool.false_and]
theorem impl_isAsked_eq (q : S95) : impl_isAsked.f q.f0 q.f1 = some (askB q) := by
 unfold impl_isAsked.f askB
 by_cases h : q.f0 ≥ 0
 ·rw [if_pos h, impl_within_eq, Option.bind_some, decide_eq_true (show 0 ≤ q.f0 from h), Bool.true_and]
 ·rw [if_neg h, decide_eq_false (show ¬ 0 ≤ q.f0 from h), Bool.false_and]
theorem impl_areAsked_any : ∀ l : List S95, Opn.anyO impl_areAsked.bad l = some (!l.all askB)
 | [] => rfl
 | q :: l => by
  unfold Opn.anyO impl_areAsked.bad
  rw [impl_isAsked_eq, Option.bind_some, Option.bind_some, List.all_cons]
  cases askB q with
  | true => rw [if_neg (by decide), Bool.true_and]; exact impl_areAsked_any l
  | false => rw [if_pos (show (!false) = true from rfl)]; rfl
def listB (m : List (List Int)) (a s l c u : Int) (ms : List Int) (qs : List S95) : Bool := decide (ArenaOK m a s l c u ms) && (decide (qs.length ≤ 6) && qs.all askB)
theorem impl_areAsked_ev (m : List (List Int)) (hm : m.length ≤ 1048576) (a s l c u : Int) (ms : List Int) (hl : ms.length ≤ 1048576) (qs : List S95) (hq : qs.length ≤ 1048576) : Ev (fun k => impl_areAsked.f k m a s l c u ms qs) (listB m a s l c u ms qs) := by
 simp only [impl_areAsked.f, listB]
 refine ev_pos hq (ev_bind (impl_IsArena_ev m hm a s l c u ms hl) ?_)
 by_cases h : ArenaOK m a s l c u ms
 ·refine ev_pos (decide_eq_true h) ?_
  rw [decide_eq_true h, Bool.true_and]
  by_cases h6 : qs.length ≤ 6
  ·refine ev_pos (by omega) (ev_now fun _ => ?_)
   rw [impl_areAsked_any, Option.bind_some, Bool.not_not, decide_eq_true h6, Bool.true_and]
  ·refine ev_neg (by omega) (ev_eq (Ev.now _) ?_)
   rw [decide_eq_false h6, Bool.false_and]
 ·refine ev_neg (by rw [decide_eq_false h]; decide) (ev_eq (Ev.now _) ?_)
  rw [decide_eq_false h, Bool.false_and]
theorem spec_l8List_ev (m : List (List Int)) (hm : m.length ≤ 1048576) (a s l c u : Int) (ms : List Int) (hl : ms.length ≤ 1048576) (qs : List S95) (hq : qs.length ≤ 1048576) : Ev (fun k => spec_l8List.f k m a s l c u ms qs) (listB m a s l c u ms qs) := by
 have go : ∀ (d i : Nat), i + d = qs.length → Ev (fun k => spec_l8List.l0 k qs (i : Int) m a s l c u ms) ((qs.drop i).all askB && (decide (ArenaOK m a s l c u ms) && decide (qs.length ≤ 6))) := by
  intro d
  induction d with
  | zero =>
   intro i hi
   rw [List.drop_eq_nil_of_le (by omega), List.all_nil, Bool.true_and]
   refine ev_succ ?_
   simp only [spec_l8List.l0]
   refine ev_neg (by omega) (ev_bind (spec_l8Arena_ev m hm a s l c u ms hl) ?_)
   by_cases h : ArenaOK m a s l c u ms
   ·refine ev_pos (decide_eq_true h) (ev_eq (Ev.now _) ?_)
    rw [decide_eq_true h, Bool.true_and]
    exact decide_eq_decide.mpr ⟨fun x => by omega, fun x => by omega⟩
   ·refine ev_neg (by rw [decide_eq_false h]; decide) (ev_eq (Ev.now _) ?_)
    rw [decide_eq_false h, Bool.false_and]
  | succ d ih =>
   intro i hi
   have h : i < qs.length := by omega
   rw [List.drop_eq_getElem_cons h, List.all_cons]
   refine ev_succ ?_
   simp only [spec_l8List.l0, rdA h, spec_l8Asked_eq]
   refine ev_pos (by omega) (ev_pos (by omega) (ev_some ?_))
   cases hb : askB qs[i] with
   | true =>
    refine ev_pos rfl ?_
    rw [Bool.true_and, wsucc (by omega)]
    exact ih (i + 1) (by omega)
   | false => exact ev_neg (by decide) (ev_eq (Ev.now _) (by simp))
 simp only [spec_l8List.f]
 refine ev_eq (go qs.length 0 (by omega)) ?_
 rw [List.drop_zero, listB]
 cases decide (ArenaOK m a s l c u ms) <;> cases decide (qs.length ≤ 6) <;> cases qs.all askB <;> rfl
theorem slices_Index_l0 (o : List Int) (x : Int) (ho : o.length ≤ 1048576) : ∀ (d i : Nat), i + d = o.length → ∃ r, Ev (fun k => slices_Index_int_int.l0 k o x (o.length : Int) (i : Int)) r ∧ (r ≥ 0 ↔ x ∈ o.drop i) := by
 intro d
 induction d with
 | zero =>
  intro i hi
  refine ⟨-1, ev_succ ?_, ?_⟩
  ·simp only [slices_Index_int_int.l0]
   exact ev_neg (by omega) (Ev.now _)
  ·rw [List.drop_eq_nil_of_le (by omega)]
   simp
 | succ d ih =>
  intro i hi
  have h : i < o.length := by omega
  by_cases e : x = o[i]
  ·refine ⟨(i : Int), ev_succ ?_, ?_⟩
   ·simp only [slices_Index_int_int.l0, rd_lt o h]
    exact ev_pos (by omega) (ev_pos (by omega) (ev_pos (by omega) (ev_pos e (Ev.now _))))
   ·rw [List.drop_eq_getElem_cons h]
    exact ⟨fun _ => by rw [e]; exact List.mem_cons_self, fun _ => by omega⟩
  ·obtain ⟨r, h1, h2⟩ := ih (i + 1) (by omega)
   refine ⟨r, ev_succ ?_, ?_⟩
   ·simp only [slices_Index_int_int.l0, rd_lt o h]
    refine ev_pos (by omega) (ev_pos (by omega) (ev_pos (by omega) (ev_neg e ?_)))
    rw [wsucc (by omega)]
    exact h1
   ·rw [h2, List.drop_eq_getElem_cons h, List.mem_cons]
    exact ⟨fun x => .inr x, fun x => x.elim (fun y => absurd y e) id⟩
theorem slices_Contains_ev (o : List Int) (x : Int) (ho : o.length ≤ 1048576) : Ev (fun k => slices_Contains_int_int.f k o x) (decide (x ∈ o)) := by
 obtain ⟨r, h1, h2⟩ := slices_Index_l0 o x ho o.length 0 (by omega)
 simp only [slices_Contains_int_int.f, slices_Index_int_int.f]
 refine ev_bind h1 (ev_eq (Ev.now _) (decide_eq_decide.mpr ?_))
 rw [h2, List.drop_zero]
theorem spec_l1Has_ev (o : List Int) (x : Int) (ho : o.length ≤ 1048576) : Ev (fun k => spec_l1Has.f k o x) (decide (x ∈ o)) := by
 have go : ∀ (d i : Nat), i + d = o.length → Ev (fun k => spec_l1Has.l0 k o x (i : Int)) (decide (x ∈ o.drop i)) := by
  intro d
  induction d with
  | zero =>
   intro i hi
   refine ev_succ ?_
   simp only [spec_l1Has.l0]
   rw [List.drop_eq_nil_of_le (by omega)]
   exact ev_neg (by omega) (ev_eq (Ev.now _) (by simp))
  | succ d ih =>
   intro i hi
   have h : i < o.length := by omega
   refine ev_succ ?_
   simp only [spec_l1Has.l0, rd_lt o h]
   refine ev_pos (by omega) (ev_pos (by omega) ?_)
   rw [List.drop_eq_getElem_cons h]
   by_cases e : o[i] = x
   ·exact ev_pos e (ev_eq (Ev.now _) (decide_eq_true (by rw [e]; exact List.mem_cons_self)).symm)
   ·refine ev_neg e ?_
    rw [wsucc (by omega)]
    refine ev_eq (ih (i + 1) (by omega)) (decide_eq_decide.mpr ?_)
    rw [List.mem_cons]
    exact ⟨fun y => .inr y, fun y => y.elim (fun z => absurd z.symm e) id⟩
 simp only [spec_l1Has.f]
 exact ev_eq (go o.length 0 (by omega)) (by rw [List.drop_zero])
section
variable {a1 a2 a3 a4 : Int} {l : List S95}
theorem gv_eq {u : Int} {q : S95} (hL : 0 ≤ a3 ∧ a3 ≤ 64) (hu : 0 ≤ u ∧ u ≤ a3) (hq : AskOK q) : impl_BestOrder.gv a1 a2 a3 a4 u q.f0 q.f1 = some (match fit a3 u q with | some u2 => (true, u2) | none => (false, u)) := by
 have hb := first_bounds (u := u) (al := q.f1) (by omega) hq.2.2
 unfold impl_BestOrder.gv impl_Arena_begin.f fit
 rw [if_neg (show ¬ q.f1 = 0 by have := hq.2.2.1; omega), Option.bind_some]
 show (if q.f0 > wrap64 (a3 - first u q.f1) then _ else _) = _
 rw [wid (n := a3 - first u q.f1) (by omega) (by omega)]
 by_cases h : q.f0 > a3 - first u q.f1
 ·rw [if_pos h, if_neg (by omega)]
 ·rw [if_neg h, if_pos (by have := hq.1; omega)]
  unfold impl_Window_part.f
  rw [Option.bind_some]
  show some (true, wrap64 (first u q.f1 + q.f0)) = _
  rw [wid (n := first u q.f1 + q.f0) (by have := hq.1; omega) (by omega)]
theorem loop_ev {α β : Type} {f : Nat → α → Int → β → Option α} {g : α → Nat → β → α} {l : List β} (z : β) (P : α → Prop) (h : ∀ s (j : Nat) (hj : j < l.length), P s → Ev (fun k => f k s (j : Int) l[j]) (g s j l[j]) ∧ P (g s j l[j])) : ∀ (d i : Nat) (s : α), i + d = l.length → P s → Ev (fun k => impl_BestOrder.loop (f k) (l.drop i) (i : Int) s) ((List.range' i d).foldl (fun s j => g s j (l.getD j z)) s) := by
 intro d
 induction d with
 | zero =>
  intro i s hi _
  rw [List.drop_eq_nil_of_le (by omega)]
  exact Ev.now _
 | succ d ih =>
  intro i s hi hp
  have hil : i < l.length := by omega
  rw [List.drop_eq_getElem_cons hil, List.range'_succ, List.foldl_cons, getD_app l z hil]
  simp only [impl_BestOrder.loop]
  obtain ⟨h1, h2⟩ := h s i hil hp
  exact ev_bind h1 (ih (i + 1) _ (by omega) h2)
theorem dfs_ev (hL : 0 ≤ a3 ∧ a3 ≤ 64) (hq : ∀ q ∈ l, AskOK q) (hn : l.length ≤ 6) : ∀ (d : Nat) (o : List Int) (u : Int) (st : List Int × Int), o.length + d = l.length + 1 → o.length ≤ l.length → 0 ≤ u ∧ u ≤ a3 → Ev (fun k => impl_BestOrder.dfs k a1 a2 a3 a4 l d o u st) (search a3 l d o u st) := by
 intro d
 induction d with
 | zero =>
  intro o u st ho hle hu
  omega
 | succ d ih =>
  intro o u st ho hle hu
  simp only [impl_BestOrder.dfs, search]
  by_cases hl : o.length = l.length
  ·rw [if_pos hl]
   exact ev_pos hl (Ev.now _)
  ·rw [if_neg hl]
   refine ev_neg hl ?_
   have := loop_ev (l := l) (f := fun k s i q => (slices_Contains_int_int.f k o i).bind fun b => if b = true then some s else (impl_BestOrder.gv a1 a2 a3 a4 u q.f0 q.f1).bind fun y => if y.1 = true then impl_BestOrder.dfs k a1 a2 a3 a4 l d (o ++ [i]) y.2 s else some s)
    (g := fun s (j : Nat) q => if (j : Int) ∈ o then s else match fit a3 u q with | some u2 => search a3 l d (o ++ [(j : Int)]) u2 s | none => s) z95 (fun _ => True) (fun s j hj _ => ⟨?_, trivial⟩) l.length 0 st (by omega) trivial
   ·rw [List.drop_zero] at this
    exact this
   ·refine ev_bind (slices_Contains_ev o (j : Int) (by omega)) ?_
    by_cases hc : (j : Int) ∈ o
    ·rw [if_pos hc]
     exact ev_pos (decide_eq_true hc) (Ev.now _)
    ·rw [if_neg hc]
     refine ev_neg (by rw [decide_eq_false hc]; decide) (ev_bind (ev_now fun _ => gv_eq hL hu (hq _ (List.getElem_mem hj))) ?_)
     cases hf : fit a3 u l[j] with
     | some u2 => exact ev_pos rfl (ih _ _ _ (by rw [List.length_append]; simp; omega) (by rw [List.length_append]; simp; omega) (fit_bounds hL.2 hu (hq _ (List.getElem_mem hj)) hf))
     | none => exact ev_neg (show ¬ (false = true) by decide) (Ev.now _)
theorem spec_l8Used_ev (m : List (List Int)) (ms : List Int) (u0 : Int) (hL : 0 ≤ a3 ∧ a3 ≤ 64) (hq : ∀ q ∈ l, AskOK q) (hu0 : 0 ≤ u0 ∧ u0 ≤ a3) (o : List Int) (ho : ∀ x ∈ o, 0 ≤ x ∧ x < (l.length : Int)) (hol : o.length ≤ 1048576) : Ev (fun k => spec_l8Used.f k m a1 a2 a3 a4 u0 ms l o) ((usedO a3 l o u0).getD (-1)) := by
 have go : ∀ (d i : Nat) (u : Int), i + d = o.length → 0 ≤ u ∧ u ≤ a3 → Ev (fun k => spec_l8Used.l0 k l o u (i : Int) m a1 a2 a3 a4 u0 ms) ((usedO a3 l (o.drop i) u).getD (-1)) := by
  intro d
  induction d with
  | zero =>
   intro i u hi hu
   rw [List.drop_eq_nil_of_le (by omega)]
   refine ev_succ ?_
   simp only [spec_l8Used.l0]
   exact ev_neg (by omega) (Ev.now _)
  | succ d ih =>
   intro i u hi hu
   have h : i < o.length := by omega
   have hx := ho _ (List.getElem_mem h)
   obtain ⟨j, hj⟩ : ∃ j : Nat, o[i] = (j : Int) := ⟨o[i].toNat, by omega⟩
   rw [hj] at hx
   have hjl : j < l.length := by omega
   have hqj := hq _ (List.getElem_mem hjl)
   have hb := first_bounds (u := u) (al := l[j].f1) (by omega) hqj.2.2
   rw [List.drop_eq_getElem_cons h, hj, usedO, Int.toNat_natCast, getD_app l _ hjl]
   refine ev_succ ?_
   simp only [spec_l8Used.l0, rd_lt o h, hj, rdA hjl, spec_l8Fits.f, spec_l8First.f]
   refine ev_pos (by omega) (ev_pos (by omega) (ev_pos (by omega) (ev_pos (by omega) ?_)))
   rw [if_neg (show ¬ l[j].f1 = 0 by have := hqj.2.2.1; omega)]
   simp only [Option.bind_some]
   rw [show wrap64 (wrap64 (Int.tdiv (wrap64 (wrap64 (u + l[j].f1) - 1)) l[j].f1) * l[j].f1) = first u l[j].f1 from rfl, wid (n := a3 - first u l[j].f1) (by omega) (by omega)]
   by_cases h1 : first u l[j].f1 ≤ a3
   ·by_cases h2 : l[j].f0 ≤ a3 - first u l[j].f1
    ·have hf : fit a3 u l[j] = some (first u l[j].f1 + l[j].f0) := by unfold fit; rw [if_pos ⟨h1, h2⟩]
     rw [if_pos h1]
     refine ev_some ?_
     rw [hf, Option.bind_some, wid (n := first u l[j].f1 + l[j].f0) (by have := hqj.1; omega) (by omega), wsucc (by omega)]
     exact ev_pos (decide_eq_true h2) (ih (i + 1) _ (by omega) (fit_bounds hL.2 hu hqj hf))
    ·have hf : fit a3 u l[j] = none := by unfold fit; rw [if_neg (fun x => h2 x.2)]
     rw [if_pos h1]
     refine ev_some ?_
     rw [hf]
     exact ev_neg (by rw [decide_eq_false h2]; decide) (Ev.now _)
   ·have hf : fit a3 u l[j] = none := by unfold fit; rw [if_neg (fun x => h1 x.1)]
    rw [if_neg h1]
    refine ev_some ?_
    rw [hf]
    exact ev_neg (by decide) (Ev.now _)
 simp only [spec_l8Used.f]
 exact ev_eq (go o.length 0 u0 (by omega) hu0) (by rw [List.drop_zero])
theorem usedO_bounds (hL : a3 ≤ 64) (hq : ∀ q ∈ l, AskOK q) : ∀ (o : List Int) (u u2 : Int), (∀ x ∈ o, 0 ≤ x ∧ x < (l.length : Int)) → 0 ≤ u ∧ u ≤ a3 → usedO a3 l o u = some u2 → 0 ≤ u2 ∧ u2 ≤ a3
 | [], u, u2, _, hu, h => by
  obtain rfl := Option.some.inj h
  exact hu
 | i :: o, u, u2, ho, hu, h => by
  obtain ⟨u3, h1, h2⟩ := Option.bind_eq_some_iff.mp h
  have hi := ho i List.mem_cons_self
  have hil : i.toNat < l.length := by omega
  rw [getD_app l _ hil] at h1
  exact usedO_bounds hL hq o u3 u2 (fun x hx => ho x (List.mem_cons_of_mem _ hx)) (fit_bounds hL hu (hq _ (List.getElem_mem hil)) h1) h2
theorem spec_l8Orders_ev (n : Nat) (hn : n ≤ 6) : ∀ (d : Nat) (b : List Int), b.length + d = n + 1 → b.length ≤ n → Ev (fun k => spec_l8Orders.f k (n : Int) b) (ords n d b) := by
 intro d
 induction d with
 | zero =>
  intro b hb hbn
  omega
 | succ d ih =>
  intro b hb hbn
  refine ev_succ ?_
  simp only [spec_l8Orders.f, ords]
  by_cases hl : b.length = n
  ·rw [if_pos hl]
   exact ev_pos (by omega) (Ev.now _)
  ·rw [if_neg hl]
   refine ev_neg (by omega) ?_
   have p6 : 6 ^ d ≤ 46656 := Nat.le_trans (Nat.pow_le_pow_right (by decide) (show d ≤ 6 by omega)) (by simp)
   have go : ∀ (c i : Nat) (acc : List (List Int)), i + c = n → acc.length ≤ i * 46656 → Ev (fun k => spec_l8Orders.l0 k (n : Int) b acc (i : Int)) (acc ++ (List.range' i c).flatMap (fun i : Nat => if (i : Int) ∈ b then [] else ords n d (b ++ [(i : Int)]))) := by
    intro c
    induction c with
    | zero =>
     intro i acc hi _
     refine ev_succ ?_
     simp only [spec_l8Orders.l0]
     exact ev_neg (by omega) (ev_eq (Ev.now _) (by simp))
    | succ c ihc =>
     intro i acc hi hacc
     rw [List.range'_succ, List.flatMap_cons]
     refine ev_succ ?_
     simp only [spec_l8Orders.l0]
     refine ev_pos (by omega) (ev_bind (spec_l1Has_ev b (i : Int) (by omega)) ?_)
     by_cases hc : (i : Int) ∈ b
     ·rw [if_pos hc, List.nil_append]
      refine ev_pos (decide_eq_true hc) ?_
      rw [wsucc (by omega)]
      exact ihc (i + 1) acc (by omega) (Nat.le_trans hacc (Nat.mul_le_mul_right _ (Nat.le_succ i)))
     ·rw [if_neg hc]
      refine ev_neg (by rw [decide_eq_false hc]; decide) ?_
      simp only [spec_l1Own.f, Option.bind_some, List.length_nil, List.nil_append]
      rw [if_pos (show 0 + b.length < 17592186044416 by omega)]
      refine ev_some (ev_pos (by omega) (ev_bind (ih (b ++ [(i : Int)]) (by rw [List.length_append]; simp; omega) (by rw [List.length_append]; simp; omega)) ?_))
      have hlen := ords_length n hn d (b ++ [(i : Int)])
      have hb1 : acc.length + (ords n d (b ++ [(i : Int)])).length ≤ (i + 1) * 46656 := by rw [Nat.succ_mul]; exact Nat.add_le_add hacc (Nat.le_trans hlen p6)
      refine ev_pos (Nat.lt_of_le_of_lt hb1 (Nat.lt_of_le_of_lt (Nat.mul_le_mul_right _ (show i + 1 ≤ 6 by omega)) (by decide))) ?_
      rw [wsucc (by omega)]
      refine ev_eq (ihc (i + 1) _ (by omega) (by rw [List.length_append]; exact hb1)) ?_
      rw [List.append_assoc]
   exact ev_eq (go n 0 [] (by omega) (Nat.zero_le _)) (List.nil_append _)
def bestOf (u0 : Int) (l : List S95) (a3 : Int) : List Int × Int := (ords l.length (l.length + 1) []).foldl (stepO a3 l u0) ([], -1)
theorem spec_BestOrder_l0 (m : List (List Int)) (ms : List Int) (u0 : Int) (hL : 0 ≤ a3 ∧ a3 ≤ 64) (hq : ∀ q ∈ l, AskOK q) (hu0 : 0 ≤ u0 ∧ u0 ≤ a3) (os : List (List Int)) (hos : os.length ≤ 1048576) (ho : ∀ o ∈ os, (∀ x ∈ o, 0 ≤ x ∧ x < (l.length : Int)) ∧ o.length ≤ 1048576) : ∀ (d i : Nat) (st : List Int × Int), i + d = os.length → Ev (fun k => spec_BestOrder.l0 k l os st.1 st.2 (i : Int) m a1 a2 a3 a4 u0 ms) (((os.drop i).foldl (stepO a3 l u0) st).1, decide (((os.drop i).foldl (stepO a3 l u0) st).2 ≥ 0)) := by
 intro d
 induction d with
 | zero =>
  intro i st hi
  rw [List.drop_eq_nil_of_le (by omega)]
  refine ev_succ ?_
  simp only [spec_BestOrder.l0]
  exact ev_neg (by omega) (Ev.now _)
 | succ d ih =>
  intro i st hi
  have h : i < os.length := by omega
  have hrd : rd_L5 os (i : Int) = os[i] := by
   unfold rd_L5
   exact getD_lt os _ h
  have ho2 := ho _ (List.getElem_mem h)
  rw [List.drop_eq_getElem_cons h, List.foldl_cons]
  refine ev_succ ?_
  simp only [spec_BestOrder.l0, hrd]
  refine ev_pos (by omega) (ev_pos (by omega) (ev_bind (spec_l8Used_ev m ms u0 hL hq hu0 os[i] ho2.1 ho2.2) ?_))
  have next := fun st2 => ih (i + 1) st2 (by omega)
  rw [wsucc (by omega)]
  cases hus : usedO a3 l os[i] u0 with
  | none =>
   have hs : stepO a3 l u0 st os[i] = st := by unfold stepO; rw [hus]
   rw [hs]
   exact ev_neg (by decide) (next st)
  | some u =>
   have hub := usedO_bounds hL.2 hq os[i] u0 u ho2.1 hu0 hus
   have hs : stepO a3 l u0 st os[i] = upd st os[i] u := by unfold stepO; rw [hus]
   rw [hs]
   refine ev_pos (show (some u).getD (-1) ≥ 0 from hub.1) ?_
   show Ev (fun n => if st.2 < 0 then spec_BestOrder.l0 n l os os[i] u _ m a1 a2 a3 a4 u0 ms else if u < st.2 then _ else _) _
   by_cases h1 : st.2 < 0
   ·have e : upd st os[i] u = (os[i], u) := by unfold upd; rw [if_pos (Or.inl h1)]
    rw [e]
    exact ev_pos h1 (next (os[i], u))
   ·refine ev_neg h1 ?_
    by_cases h2 : u < st.2
    ·have e : upd st os[i] u = (os[i], u) := by unfold upd; rw [if_pos (Or.inr h2)]
     rw [e]
     exact ev_pos h2 (next (os[i], u))
    ·have e : upd st os[i] u = st := by unfold upd; rw [if_neg (fun x => x.elim h1 h2)]
     rw [e]
     exact ev_neg h2 (next st)
end
def best (m : List (List Int)) (a s l c u : Int) (ms : List Int) (qs : List S95) : List Int × Bool := if listB m a s l c u ms qs = true then ((bestOf u qs l).1, decide ((bestOf u qs l).2 ≥ 0)) else ([], false)
theorem listB_spec {m : List (List Int)} {a s l c u : Int} {ms : List Int} {qs : List S95} (h : listB m a s l c u ms qs = true) (hb : ∀ q ∈ qs, q.f0 ≤ 9223372036854775807) : (0 ≤ l ∧ l ≤ 64) ∧ (0 ≤ u ∧ u ≤ l) ∧ qs.length ≤ 6 ∧ ∀ q ∈ qs, AskOK q := by
 unfold listB at h
 rw [Bool.and_eq_true, Bool.and_eq_true, decide_eq_true_iff, decide_eq_true_iff, List.all_eq_true] at h
 have hw := h.1.1.bounds
 have h1 := h.1.2.1
 have h2 := h.1.2.2.1
 refine ⟨by omega, by omega, h.2.1, fun q hq => ?_⟩
 have := h.2.2 q hq
 unfold askB at this
 rw [Bool.and_eq_true, decide_eq_true_iff, decide_eq_true_iff] at this
 exact ⟨this.1, hb q hq, this.2.1, this.2.2⟩
theorem spec_BestOrder_ev (m : List (List Int)) (hm : m.length ≤ 1048576) (a s l c u : Int) (ms : List Int) (hl : ms.length ≤ 1048576) (qs : List S95) (hq : qs.length ≤ 1048576) (hb : ∀ q ∈ qs, q.f0 ≤ 9223372036854775807) : Ev (fun k => spec_BestOrder.f k m a s l c u ms qs) (best m a s l c u ms qs) := by
 simp only [spec_BestOrder.f, best]
 refine ev_bind (spec_l8List_ev m hm a s l c u ms hl qs hq) ?_
 cases h : listB m a s l c u ms qs with
 | false => exact ev_neg (by decide) (Ev.now _)
 | true =>
  obtain ⟨hL, hu, h6, hok⟩ := listB_spec h hb
  refine ev_pos rfl (ev_bind (spec_l8Orders_ev qs.length h6 (qs.length + 1) [] (by simp) (by simp)) ?_)
  have hlen := ords_length qs.length h6 (qs.length + 1) []
  have p6 : 6 ^ (qs.length + 1) ≤ 279936 := Nat.le_trans (Nat.pow_le_pow_right (by decide) (show qs.length + 1 ≤ 7 by omega)) (by simp)
  have := spec_BestOrder_l0 (a1 := a) (a2 := s) (a4 := c) m ms u hL hok hu (ords qs.length (qs.length + 1) []) (by omega) (fun o ho => by
   have := ords_below _ _ _ _ (fun x hx => by simp at hx) ho
   exact ⟨this.1, by omega⟩) (ords qs.length (qs.length + 1) []).length 0 ([], -1) (by omega)
  rw [List.drop_zero] at this
  exact this
theorem impl_BestOrder_ev (m : List (List Int)) (hm : m.length ≤ 1048576) (a s l c u : Int) (ms : List Int) (hl : ms.length ≤ 1048576) (qs : List S95) (hq : qs.length ≤ 1048576) (hb : ∀ q ∈ qs, q.f0 ≤ 9223372036854775807) : Ev (fun k => impl_BestOrder.f k m a s l c u ms qs) (best m a s l c u ms qs) := by
 simp only [impl_BestOrder.f, best]
 refine ev_bind (impl_areAsked_ev m hm a s l c u ms hl qs hq) ?_
 cases h : listB m a s l c u ms qs with
 | false => exact ev_neg (by decide) (Ev.now _)
 | true =>
  obtain ⟨hL, hu, h6, hok⟩ := listB_spec h hb
  refine ev_pos rfl (ev_pos h6 (ev_bind (dfs_ev (a1 := a) (a2 := s) (a4 := c) hL hok h6 (qs.length + 1) [] u ([], -1) (by simp) (by simp) hu) (ev_eq (Ev.now _) ?_)))
  rw [search_all (u0 := u) (qs.length + 1) [] u ([], -1) rfl]
  rfl
theorem upd_len {st : List Int × Int} {o : List Int} {u : Int} (h : st.1.length ≤ 1048576) (ho : o.length ≤ 1048576) : (upd st o u).1.length ≤ 1048576 := by
 unfold upd
 split
 ·exact ho
 ·exact h
theorem fold_len {L u0 : Int} {l : List S95} : ∀ (os : List (List Int)) (st : List Int × Int), (∀ o ∈ os, o.length ≤ 1048576) → st.1.length ≤ 1048576 → (os.foldl (stepO L l u0) st).1.length ≤ 1048576
 | [], _, _, h => h
 | o :: os, st, ho, h => by
  rw [List.foldl_cons]
  refine fold_len os _ (fun o' h' => ho o' (List.mem_cons_of_mem _ h')) ?_
  unfold stepO
  split
  ·exact upd_len h (ho o List.mem_cons_self)
  ·exact h
theorem best_length (m : List (List Int)) (a s l c u : Int) (ms : List Int) {qs : List S95} (hq : qs.length ≤ 1048576) : (best m a s l c u ms qs).1.length ≤ 1048576 := by
 unfold best
 by_cases h : listB m a s l c u ms qs = true
 ·rw [if_pos h]
  exact fold_len _ _ (fun o ho => by have := (ords_below _ _ _ _ (fun x hx => by simp at hx) ho).2; omega) (by simp)
 ·rw [if_neg h]; exact Nat.zero_le _
theorem FnExactBestOrder : laws_FnExactBestOrder.Pure := by
 intro m a s l c u ms vs hm _ _ _ _ _ hms hv
 refine Ev.rounds ?_
 obtain ⟨r, e, hr, hs⟩ := laws_szArena_ev m hm a s l c u ms hms 1048576 (by omega) (by omega)
 simp only [laws_FnExactBestOrder.f]
 refine ev_bind e ?_
 by_cases h : r < 0
 ·exact ev_pos h (Ev.now _)
 refine ev_neg h (ev_bind (ev_now (fun _ => laws_szAskedS_eq vs hv.1 r (by omega) (by omega))) ?_)
 by_cases h2 : (vs.length : Int) ≤ r
 case neg =>
  rw [if_neg h2]
  exact ev_pos (by omega) (Ev.now _)
 rw [if_pos h2]
 obtain ⟨hsm, hmsl⟩ := hs (by omega)
 have t := laws_toArena_ev m hsm a s l c u ms hmsl
 have la : (vs.map convA).length ≤ 1048576 := by rw [List.length_map]; omega
 have hb : ∀ q ∈ vs.map convA, q.f0 ≤ 9223372036854775807 := fun q hq => by
  obtain ⟨v, hv2, rfl⟩ := List.mem_map.1 hq
  exact (hv.2 v hv2).1.2
 have ta := laws_toAskedS_ev vs (by omega)
 have ea := laws_eqAskedS_ev _ la
 have sp := spec_BestOrder_ev m hsm.1 a s l c u ms hmsl _ la hb
 have im := impl_BestOrder_ev m hsm.1 a s l c u ms hmsl _ la hb
 have fl := best_length m a s l c u ms la
 generalize vs.map convA = ws at *
 generalize best m a s l c u ms ws = q at sp im fl
 obtain ⟨g, o⟩ := q
 replace fl : g.length ≤ 1048576 := fl
 obtain ⟨mr, em, hmr, hmr2⟩ := laws_markArena_ev m hsm a s l c u ms hmsl
 obtain ⟨y, ma⟩ := laws_markAskedS_ev ws mr la (by omega) (by omega)
 have eg : Ev (fun k => laws_eqIntS.f k g g) true := ev_eq (laws_eqIntS_ev g g (by omega)) (by simp)
 have mg := laws_markIntS_ev g 1 (by omega) (by omega) (by omega)
 have he := laws_heldIntS_ev 1 g.length (by omega) (by omega) (by omega)
 refine ev_neg (by omega) ?_
 refine ev_bind t ?_
 refine ev_bind ta ?_
 refine ev_bind sp ?_
 refine ev_bind im ?_
 refine ev_bind eg ?_
 refine ev_bind (laws_eqArena_self m hsm a s l c u ms hmsl) ?_
 refine ev_bind ea ?_
 refine ev_bind em ?_
 refine ev_bind ma ?_
 refine ev_bind mg ?_
 refine ev_bind he ?_
 exact ev_pos ⟨rfl, rfl, rfl, rfl, by simp only []; omega, by omega, rfl⟩ (Ev.now _)
end Go.Proofs.Ytkifenbcepicjab.Pure
