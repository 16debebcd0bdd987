/- What is proved here: the plain statement of the law FnExactEncodeFrame, over numbers and lists. No condition beyond those that it states. -/
import Derived.Test.YtcanejjkgoaplaaQFnExactEncodeFrame
import Derived.Test.YtcanejjkgoaplaaTk
namespace Go.Proofs.Ytcanejjkgoaplaa.Pure
open Go.RowKit Go.Proofs.Ytcanejjkgoaplaa.PFnExactEncodeFrame Go.Proofs.YtcanejjkgoaplaaW.PrintWords Go.Proofs.YtcanejjkgoaplaaW.PrintMore Go.Proofs.Ytcanejjkgoaplaa.Tk Go.Proofs.Ytcanejjkgoaplaa.Opn
set_option linter.unusedVariables false
set_option linter.unusedSimpArgs false
/-- The check of bytes. -/
def chk (l : List Int) : Int := l.foldl (fun a b => Go.bits .xor .u8 a b) 0
theorem spec_l9Check_l0 (l : List Int) (hl : l.length ≤ 281474976710656) : ∀ (d i : Nat) (c : Int), i + d = l.length → Ev (fun k => spec_l9Check.l0 k l c (i : Int)) ((l.drop i).foldl (fun a b => Go.bits .xor .u8 a b) c) := by
  intro d
  induction d with
  | zero =>
    intro i c hi
    rw [List.drop_eq_nil_of_le (by omega)]
    refine ev_end (fun k => ?_)
    simp only [spec_l9Check.l0]
    rw [if_neg (by omega)]
    rfl
  | succ d ih =>
    intro i c hi
    have h : i < l.length := by omega
    rw [List.drop_eq_getElem_cons h, List.foldl_cons]
    refine Ev.step (fun k => ?_) (ih (i + 1) _ (by omega))
    simp only [spec_l9Check.l0]
    rw [if_pos (by omega), if_pos (by omega), rd_lt l h, wsucc (by omega)]
theorem spec_l9Check_ev (l : List Int) (hl : l.length ≤ 281474976710656) : Ev (fun k => spec_l9Check.f k l) (chk l) := by
  simp only [spec_l9Check.f]
  have := spec_l9Check_l0 l hl l.length 0 0 (by omega)
  simpa [chk] using this
/-- A frame. -/
def frame (a : Int) (l : List Int) : List Int × Bool := if (l.length : Int) > 30 then ([], false) else ([a, (l.length : Int) % 256] ++ l ++ [chk ([a, (l.length : Int) % 256] ++ l)], true)
theorem spec_EncodeFrame_ev (a : Int) (l : List Int) : Ev (fun k => spec_EncodeFrame.f k a l) (frame a l) := by
  simp only [spec_EncodeFrame.f, frame]
  by_cases h : (l.length : Int) > 30
  · rw [if_pos h]
    exact ev_pos h (Ev.now _)
  · rw [if_neg h]
    have hc := spec_l9Check_ev ([a, (l.length : Int) % 256] ++ l) (by simp; omega)
    refine ev_neg h (ev_some (ev_pos (by simp; omega) (ev_some (ev_bind hc (ev_pos (by simp; omega) (Ev.now _))))))
theorem impl_checkOf_l0 (l : List Int) (hl : l.length ≤ 281474976710656) : ∀ (d i : Nat) (c : Int), i + d = l.length → Ev (fun k => impl_checkOf.l0 k c l (l.length : Int) (i : Int)) ((l.drop i).foldl (fun a b => Go.bits .xor .u8 a b) c) := by
  intro d
  induction d with
  | zero =>
    intro i c hi
    rw [List.drop_eq_nil_of_le (by omega)]
    refine ev_end (fun k => ?_)
    simp only [impl_checkOf.l0]
    rw [if_neg (by omega)]
    rfl
  | succ d ih =>
    intro i c hi
    have h : i < l.length := by omega
    rw [List.drop_eq_getElem_cons h, List.foldl_cons]
    refine Ev.step (fun k => ?_) (ih (i + 1) _ (by omega))
    simp only [impl_checkOf.l0]
    rw [if_pos (by omega), if_pos (by omega), if_pos (by omega), rd_lt l h, wsucc (by omega)]
theorem impl_checkOf_ev (l : List Int) (hl : l.length ≤ 281474976710656) : Ev (fun k => impl_checkOf.f k l) (chk l) := by
  simp only [impl_checkOf.f]
  have := impl_checkOf_l0 l hl l.length 0 0 (by omega)
  simpa [chk] using this
theorem impl_EncodeFrame_ev (a : Int) (l : List Int) : Ev (fun k => impl_EncodeFrame.f k a l) (frame a l) := by
  simp only [impl_EncodeFrame.f, frame]
  by_cases h : (l.length : Int) > 30
  · rw [if_pos h]
    exact ev_pos h (Ev.now _)
  · rw [if_neg h]
    have hc := impl_checkOf_ev ([a, (l.length : Int) % 256] ++ l) (by simp; omega)
    refine ev_neg h (ev_some (ev_pos (by simp; omega) (ev_some (ev_bind hc (ev_pos (by simp; omega) (Ev.now _))))))
theorem frame_length (a : Int) (l : List Int) : (frame a l).1.length ≤ 33 := by
  unfold frame
  split
  · simp
  · simp; omega
theorem laws_toByteS_l0 (l : List Int) (hl : l.length ≤ 281474976710656) (x : List Int) (hx : x.length = l.length) : ∀ (d i : Nat), i + d = l.length → Ev (fun k => laws_toByteS.l0 k l (over l x i) (i : Int)) l := by
  intro d
  induction d with
  | zero =>
    intro i hi
    have e : over l x i = l := by rw [show i = l.length by omega]; exact over_all l x hx
    rw [e]
    refine ev_end (fun k => ?_)
    simp only [laws_toByteS.l0]
    rw [if_neg (by omega)]
  | succ d ih =>
    intro i hi
    refine Ev.step (fun k => ?_) (ih (i + 1) (by omega))
    simp only [laws_toByteS.l0]
    rw [if_pos (by omega), if_pos (by omega), if_pos (by rw [over_length l x i hx (by omega)]; omega), Int.toNat_natCast, rd_lt l (by omega : i < l.length), over_set l x i hx (by omega), wsucc (by omega)]
theorem laws_toByteS_ev (l : List Int) (hl : l.length ≤ 281474976710656) : Ev (fun k => laws_toByteS.f k l) l := by
  simp only [laws_toByteS.f]
  refine ev_pos (by omega) (ev_pos (by simpa using hl) ?_)
  have h := laws_toByteS_l0 l hl (List.replicate l.length 0) (by simp) l.length 0 (by omega)
  rw [over_zero] at h
  simpa using h
theorem laws_eqByteS_l0 (a b : List Int) (hl : a.length = b.length) (hb : a.length ≤ 281474976710656) : ∀ (d i : Nat), i + d = a.length → Ev (fun k => laws_eqByteS.l0 k a b (i : Int)) (decide (a.drop i = b.drop i)) := by
  intro d
  induction d with
  | zero =>
    intro i hi
    have e1 : a.drop i = [] := List.drop_eq_nil_of_le (by omega)
    have e2 : b.drop i = [] := List.drop_eq_nil_of_le (by omega)
    rw [e1, e2]
    refine ev_end (fun k => ?_)
    simp only [laws_eqByteS.l0]
    rw [if_neg (by omega)]
    rfl
  | succ d ih =>
    intro i hi
    have ha : i < a.length := by omega
    have hb2 : i < b.length := by omega
    rw [List.drop_eq_getElem_cons ha, List.drop_eq_getElem_cons hb2]
    by_cases h : a[i] = b[i]
    · refine ev_eq (Ev.step (fun k => ?_) (ih (i + 1) (by omega))) ?_
      · simp only [laws_eqByteS.l0]
        rw [if_pos (by omega), if_pos (by omega), if_pos (by omega), rd_lt a ha, rd_lt b hb2, if_pos h, wsucc (by omega)]
      · rw [h]; exact decide_eq_decide.mpr ⟨fun e => by rw [e], fun e => (List.cons.inj e).2⟩
    · refine ev_eq (ev_end (r := false) (fun k => ?_)) (decide_eq_false (fun e => h (List.cons.inj e).1)).symm
      simp only [laws_eqByteS.l0]
      rw [if_pos (by omega), if_pos (by omega), if_pos (by omega), rd_lt a ha, rd_lt b hb2, if_neg h]
theorem laws_eqByteS_ev (a b : List Int) (hb : a.length ≤ 281474976710656) : Ev (fun k => laws_eqByteS.f k a b) (decide (a = b)) := by
  simp only [laws_eqByteS.f]
  by_cases h : a.length = b.length
  · refine ev_pos (by omega) ?_
    have := laws_eqByteS_l0 a b h hb a.length 0 (by omega)
    simpa using this
  · refine ev_neg (by omega) ?_
    have : ¬ a = b := fun e => h (by rw [e])
    rw [decide_eq_false this]
    exact Ev.now _
theorem laws_markByteS_l0 (n : Nat) (hn : n ≤ 281474976710656) : ∀ (d i : Nat) (x : List Int) (k0 : Int), i + d = n → x.length = n → 0 ≤ k0 → k0 + d ≤ 4611686018427387904 → Ev (fun k => laws_markByteS.l0 k x k0 (i : Int)) (k0 + d, x.take i ++ marks k0 d) := by
  intro d
  induction d with
  | zero =>
    intro i x k0 hi hx h0 h1
    refine ev_eq (ev_end (r := (k0, x)) (fun k => ?_)) ?_
    · simp only [laws_markByteS.l0]
      rw [if_neg (by omega)]
    · rw [List.take_of_length_le (by omega)]
      simp [marks]
  | succ d ih =>
    intro i x k0 hi hx h0 h1
    refine ev_eq (Ev.step (fun k => ?_) (ih (i + 1) (x.set i (k0 % 256)) (k0 + 1) (by omega) (by simpa using hx) (by omega) (by omega))) ?_
    · simp only [laws_markByteS.l0]
      rw [if_pos (by omega), if_pos (by omega), Int.toNat_natCast, wid (n := k0 + 1) (by omega) (by omega), wsucc (by omega)]
    · refine Prod.ext ?_ ?_
      · simp; omega
      · show (x.set i (k0 % 256)).take (i + 1) ++ marks (k0 + 1) d = x.take i ++ marks k0 (d + 1)
        rw [List.take_succ_eq_append_getElem (by simp; omega)]
        simp [marks, List.take_set]
        exact List.set_eq_of_length_le (by rw [List.length_take]; omega)
theorem laws_markByteS_ev (x : List Int) (k0 : Int) (hn : x.length ≤ 281474976710656) (h0 : 0 ≤ k0) (h1 : k0 + x.length ≤ 4611686018427387904) : Ev (fun k => laws_markByteS.f k x k0) (k0 + x.length, marks k0 x.length) := by
  simp only [laws_markByteS.f]
  have := laws_markByteS_l0 x.length hn x.length 0 x k0 (by omega) rfl h0 h1
  simpa using this
theorem laws_heldByteS_l0 (k1 : Int) (n : Nat) (hn : n ≤ 281474976710656) (h0 : 0 ≤ k1) (h1 : k1 + n ≤ 4611686018427387904) : ∀ (d i : Nat), i + d = n → Ev (fun k => laws_heldByteS.l0 k (marks k1 n) (k1 + i) (i : Int)) (k1 + n) := by
  intro d
  induction d with
  | zero =>
    intro i hi
    refine ev_eq (ev_end (r := k1 + i) (fun k => ?_)) (by omega)
    simp only [laws_heldByteS.l0]
    rw [marks_length, if_neg (by omega)]
  | succ d ih =>
    intro i hi
    refine Ev.step (fun k => ?_) (ih (i + 1) (by omega))
    simp only [laws_heldByteS.l0]
    rw [marks_length, if_pos (by omega), if_pos (by omega), rd_lt _ (by rw [marks_length]; omega), marks_get, if_pos rfl, wid (n := k1 + i + 1) (by omega) (by omega), wsucc (by omega)]
    congr 1
    omega
theorem laws_heldByteS_ev (k1 : Int) (n : Nat) (hn : n ≤ 281474976710656) (h0 : 0 ≤ k1) (h1 : k1 + n ≤ 4611686018427387904) : Ev (fun k => laws_heldByteS.f k (marks k1 n) k1) (k1 + n) := by
  simp only [laws_heldByteS.f]
  have := laws_heldByteS_l0 k1 n hn h0 h1 n 0 (by omega)
  simpa using this
theorem FnExactEncodeFrame : laws_FnExactEncodeFrame.Pure := by
  intro a l h1 h2
  refine Ev.rounds ?_
  simp only [laws_FnExactEncodeFrame.f]
  by_cases hl : (l.length : Int) > 1048576
  · exact ev_pos hl (Ev.now _)
  refine ev_neg hl ?_
  have t := laws_toByteS_ev l (by omega)
  have sp := spec_EncodeFrame_ev a l
  have im := impl_EncodeFrame_ev a l
  have fl := frame_length a l
  generalize frame a l = r at sp im fl
  obtain ⟨g, b⟩ := r
  replace fl : g.length ≤ 33 := fl
  have eg : Ev (fun k => laws_eqByteS.f k g g) true := ev_eq (laws_eqByteS_ev g g (by omega)) (by simp)
  have el : Ev (fun k => laws_eqByteS.f k l l) true := ev_eq (laws_eqByteS_ev l l (by omega)) (by simp)
  have mg := laws_markByteS_ev g 1 (by omega) (by omega) (by omega)
  have ml := laws_markByteS_ev l 1 (by omega) (by omega) (by omega)
  have he := laws_heldByteS_ev 1 g.length (by omega) (by omega) (by omega)
  have bb : ¬ (b != b) = true := by simp
  exact ev_bind t (ev_bind sp (ev_bind t (ev_bind im (ev_bind eg (ev_pos rfl (ev_neg bb (ev_bind t (ev_bind el (ev_pos rfl (ev_bind ml (ev_neg (by simp; omega) (ev_bind eg (ev_pos rfl (ev_bind mg (ev_bind he (ev_neg (by omega) (ev_pos rfl
    (ev_bind t (ev_bind im (ev_bind eg (ev_pos rfl (ev_neg bb (ev_bind he (ev_neg (by omega) (ev_pos rfl (Ev.now _))))))))))))))))))))))))))
end Go.Proofs.Ytcanejjkgoaplaa.Pure
