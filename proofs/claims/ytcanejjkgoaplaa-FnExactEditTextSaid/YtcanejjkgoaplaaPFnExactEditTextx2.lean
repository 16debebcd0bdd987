/- What is proved here: each Go function that is named below answers, and leaves memory, as the theorem of its name says; no condition beyond those that each theorem states. Laid by this session's own program (wip/driver.py) over the kit's print. -/
import Derived.Test.YtcanejjkgoaplaaPFnExactEditTextx0
import Derived.Test.YtcanejjkgoaplaaPFnExactEditTextx1
namespace Go.Proofs.Ytcanejjkgoaplaa.PFnExactEditText
open Go.RowKit Go.Proofs.YtcanejjkgoaplaaW.PrintWords Go.Proofs.YtcanejjkgoaplaaW.PrintLast Go.Proofs.YtcanejjkgoaplaaW.PrintMore
attribute [local go_sem] max2_int min2_int max_two min_two max_three min_three max_four min_four   -- for this text's walks alone
set_option linter.unusedVariables false
set_option linter.unusedSimpArgs false

open Go.Proofs.Ytcanejjkgoaplaa.Cp
/-! ### impl_EditText: function 26 -/
def impl_EditText.f (k : Nat) (l0 : List Int) (a1_0 : Int) (a1_1 : Int) (l1_2 : List Int) : Option (List Int × Bool) := (impl_Edit_isEditOf.f a1_0 a1_1 l1_2 (l0.length : Int)).bind fun t153 => (if t153 = true then (if 0 ≤ a1_0 then (if a1_0 ≤ (l0.length : Int) then (if 0 ≤ (wrap64 (a1_0 + a1_1)) then (if (wrap64 (a1_0 + a1_1)) ≤ (l0.length : Int) then ((slices_Concat_byte_byte.f k (([(l0.take (a1_0 : Int).toNat), l1_2, (l0.drop ((wrap64 (a1_0 + a1_1)) : Int).toNat)] : List (List Int)))).bind fun t167 => (some (t167, true))) else (none)) else (none)) else (none)) else (none)) else (some (([] : List Int), false)))
theorem impl_EditText.mono : ∀ a0 a1 a2 a3 k, LeO (impl_EditText.f k a0 a1 a2 a3) (impl_EditText.f (k + 1) a0 a1 a2 a3) := by
 intro a0 a1 a2 a3 k
 unfold impl_EditText.f
 repeat' first
   | (with_reducible exact slices_Concat_byte_byte.mono _ _)
   | (with_reducible exact LeO.refl _)
   | (with_reducible exact LeO.none _)
   | (with_reducible refine LeO.ite ?_ ?_)
   | (with_reducible refine LeO.bind ?_ (fun _ => ?_))
   | exact slices_Concat_byte_byte.mono _ _
   | exact LeO.none _
   | refine LeO.ite ?_ ?_
   | refine LeO.bind ?_ (fun _ => ?_)
def impl_EditText.T3 : Bool × List (List Nat × List Nat) := (true, [([], []), ([], []), ([1], [1]), ([0, 2], [0, 2]), ([], []), ([4], [4]), ([], []), ([], []), ([7], [7]), ([], []), ([9], [9]), ([8, 10], [8, 10]), ([6, 11], [6, 11]), ([3, 5, 12], [3, 5, 12]), ([13], [13]), ([14, 14, 0, 1, 2, 3, 4, 5, 6, 7, 8, 9, 10, 11, 12, 13, 14], [14]), ([15, 0, 1, 2, 3, 4, 5, 6, 7, 8, 9, 10, 11, 12, 13, 14, 15], [])])
def impl_EditText.B3 : List Nat := [0, 0, 2, 7, 0, 16, 0, 0, 128, 0, 512, 1920, 4032, 8191, 16383, 32767, 65535]
theorem impl_EditText.tab3 : rtab .any (opsOf Try.f26 3) = impl_EditText.T3 := by kernel_rfl
theorem impl_EditText.bits3 : waitsOk impl_EditText.T3.2 impl_EditText.B3 = true := by kernel_rfl
set_option maxHeartbeats 8000000 in
set_option maxRecDepth 100000 in
theorem impl_EditText.calls (k : Nat) (P0_ : Nat → Prop) (A0 : Option Addr) (c0 : Nat) (l0 : List Int) (a1_0 : Int) (a1_1 : Int) (P1_2_ : Nat → Prop) (A1_2 : Option Addr) (c1_2 : Nat) (l1_2 : List Int) (r1 : List Int) (r2 : Bool) (w : World) (hs0 : Kd.V (Kd.int .u8) 5 w w.heap.size (fun k_ => P0_ k_) (.slice A0 l0.length c0) l0) (hs1_2 : Kd.V (Kd.int .u8) 5 w w.heap.size (fun k_ => P1_2_ k_) (.slice A1_2 l1_2.length c1_2) l1_2) (h : impl_EditText.f k l0 a1_0 a1_1 l1_2 = some (r1, r2)) :
  Calls Try.prog 26 #[.slice A0 l0.length c0, .agg #[.int .i64 a1_0, .int .i64 a1_1, .slice A1_2 l1_2.length c1_2]] w fun e w' => ∃ v0_ : Value, e = .returned (.tuple #[v0_, .bool r2]) ∧ Kd.R (Kd.int .u8) 5 w' w.heap.size (fun k_ => (w.heap.size ≤ k_)) v0_ r1 ∧ Below w.heap.size w w' := by
 have hu40 := Try.underlying40
 have HO0 := Aside0.mk (show Kd.V (Kd.int .u8) 5 w w.heap.size (fun k_ => ((P0_ k_ ∨ P1_2_ k_) ∨ w.heap.size ≤ k_)) (.slice A0 l0.length c0) l0 from Kd.V_mono hs0 (fun k_ hk => .inl (.inl hk)))
 have HO1_2 := Aside0.mk (show Kd.V (Kd.int .u8) 5 w w.heap.size (fun k_ => ((P0_ k_ ∨ P1_2_ k_) ∨ w.heap.size ≤ k_)) (.slice A1_2 l1_2.length c1_2) l1_2 from Kd.V_mono hs1_2 (fun k_ hk => .inl (.inr hk)))
 have HB := Aside0.mk (Below.refl w.heap.size w)
 have H : ((impl_Edit_isEditOf.f a1_0 a1_1 l1_2 (l0.length : Int)).bind fun t153 => (if t153 = true then (if 0 ≤ a1_0 then (if a1_0 ≤ (l0.length : Int) then (if 0 ≤ (wrap64 (a1_0 + a1_1)) then (if (wrap64 (a1_0 + a1_1)) ≤ (l0.length : Int) then ((slices_Concat_byte_byte.f k (([(l0.take (a1_0 : Int).toNat), l1_2, (l0.drop ((wrap64 (a1_0 + a1_1)) : Int).toNat)] : List (List Int)))).bind fun t167 => (some (t167, true))) else (none)) else (none)) else (none)) else (none)) else (some (([] : List Int), false)))) = some (r1, r2) := h
 clear h
 replace H := Option.bind_eq_some_iff.mp H
 obtain ⟨t153, A30, H⟩ := H
 replace H : (if t153 = true then (if 0 ≤ a1_0 then (if a1_0 ≤ (l0.length : Int) then (if 0 ≤ (wrap64 (a1_0 + a1_1)) then (if (wrap64 (a1_0 + a1_1)) ≤ (l0.length : Int) then ((slices_Concat_byte_byte.f k (([(l0.take (a1_0 : Int).toNat), l1_2, (l0.drop ((wrap64 (a1_0 + a1_1)) : Int).toNat)] : List (List Int)))).bind fun t167 => (some (t167, true))) else (none)) else (none)) else (none)) else (none)) else (some (([] : List Int), false))) = some (r1, r2) := H
 have A3 := Aside0.mk A30
 clear A30
 by_cases c4 : t153 = true
 ·subst c4
  have H1 : (if 0 ≤ a1_0 then (if a1_0 ≤ (l0.length : Int) then (if 0 ≤ (wrap64 (a1_0 + a1_1)) then (if (wrap64 (a1_0 + a1_1)) ≤ (l0.length : Int) then ((slices_Concat_byte_byte.f k (([(l0.take (a1_0 : Int).toNat), l1_2, (l0.drop ((wrap64 (a1_0 + a1_1)) : Int).toNat)] : List (List Int)))).bind fun t167 => (some (t167, true))) else (none)) else (none)) else (none)) else (none)) = some (r1, r2) := by rw [if_pos rfl] at H; exact H
  clear H
  have H := H1
  clear H1
  by_cases c5 : 0 ≤ a1_0
  ·rw [if_pos c5] at H
   have c5b0 := eq_true c5
   have c5b1 : decide (0 ≤ a1_0) = true := decide_eq_true c5
   clear c5
   by_cases c6 : a1_0 ≤ (l0.length : Int)
   ·rw [if_pos c6] at H
    have c6b0 := eq_true c6
    have c6b1 : decide (a1_0 ≤ (l0.length : Int)) = true := decide_eq_true c6
    clear c6
    obtain ⟨y154, hy154⟩ : ∃ y_ : List Int, y_ = (l0.take (a1_0 : Int).toNat) := ⟨_, rfl⟩
    replace H : (if 0 ≤ (wrap64 (a1_0 + a1_1)) then (if (wrap64 (a1_0 + a1_1)) ≤ (l0.length : Int) then ((slices_Concat_byte_byte.f k (([y154, l1_2, (l0.drop ((wrap64 (a1_0 + a1_1)) : Int).toNat)] : List (List Int)))).bind fun t167 => (some (t167, true))) else (none)) else (none)) = some (r1, r2) := by first | (rw [hy154]; with_reducible exact H) | (have H2_ := (Option.bind_some _ _).symm.trans H; rw [hy154]; with_reducible exact H2_) | (have H2_ := (Option.bind_some _ _).symm.trans H; with_reducible exact H2_) | with_reducible exact H | (rw [hy154]; exact H) | exact H
    have Ny154 := Aside0.mk hy154
    clear hy154
    obtain ⟨ji7, hji7⟩ : ∃ j_ : Int, (wrap64 (a1_0 + a1_1)) = j_ := ⟨_, rfl⟩
    replace H : (if 0 ≤ (ji7) then (if (ji7) ≤ (l0.length : Int) then ((slices_Concat_byte_byte.f k (([y154, l1_2, (l0.drop ((ji7) : Int).toNat)] : List (List Int)))).bind fun t167 => (some (t167, true))) else (none)) else (none)) = some (r1, r2) := by first | (rw [hji7] at H; exact H) | (simp only [hji7] at H ⊢; exact H)
    (try rw [hji7] at A3)
    have hji7w : (IntKind.i64.wrap (a1_0 + a1_1)) = ji7 := (i64_w _).trans hji7
    by_cases c8 : 0 ≤ (ji7)
    ·rw [if_pos c8] at H
     have c8b0 := eq_true c8
     have c8b1 : decide (0 ≤ (ji7)) = true := decide_eq_true c8
     clear c8
     by_cases c9 : (ji7) ≤ (l0.length : Int)
     ·rw [if_pos c9] at H
      have c9b0 := eq_true c9
      have c9b1 : decide ((ji7) ≤ (l0.length : Int)) = true := decide_eq_true c9
      clear c9
      obtain ⟨y159, hy159⟩ : ∃ y_ : List Int, y_ = (l0.drop ((ji7) : Int).toNat) := ⟨_, rfl⟩
      replace H : ((slices_Concat_byte_byte.f k (([y154, l1_2, y159] : List (List Int)))).bind fun t167 => (some (t167, true))) = some (r1, r2) := by first | (rw [hy159]; with_reducible exact H) | (have H2_ := (Option.bind_some _ _).symm.trans H; rw [hy159]; with_reducible exact H2_) | (have H2_ := (Option.bind_some _ _).symm.trans H; with_reducible exact H2_) | with_reducible exact H | (rw [hy159]; exact H) | exact H
      have Ny159 := Aside0.mk hy159
      clear hy159
      obtain ⟨y164, hy164⟩ : ∃ y_ : List (List Int), y_ = (([y154, l1_2, y159] : List (List Int))) := ⟨_, rfl⟩
      replace H : ((slices_Concat_byte_byte.f k y164).bind fun t167 => (some (t167, true))) = some (r1, r2) := by first | (rw [hy164]; with_reducible exact H) | (have H2_ := (Option.bind_some _ _).symm.trans H; rw [hy164]; with_reducible exact H2_) | (have H2_ := (Option.bind_some _ _).symm.trans H; with_reducible exact H2_) | with_reducible exact H | (rw [hy164]; exact H) | exact H
      have Ny164 := Aside0.mk hy164
      clear hy164
      replace H := Option.bind_eq_some_iff.mp H
      obtain ⟨t167, A100, H⟩ := H
      replace H : (some (t167, true)) = some (r1, r2) := H
      have A10 := Aside0.mk A100
      clear A100
      simp only [Option.some.injEq, Prod.mk.injEq] at H
      obtain ⟨rfl, rfl⟩ := H
      go_enter Try.func26, Try.ntmps26
      try go_wp2_with (first | ((with_reducible refine gate_dst (N := 3) rfl ?_); refine box_event ?hg (N := 3) ?hd (cs := #[.int .i64 a1_0, .int .i64 a1_1, .slice A1_2 l1_2.length c1_2]) (t := 40) ?hr ?_; (case hd => rfl); (case hg => rfl); (case hr => first | (go_simp; done) | (go_simp; rfl)); intro gb152 hg w11 hbox hb; have BK152 := Aside0.mk (hbox); have GW152 := zge HB hg; have GE152 := zge HB hg; replace HO0 := Aside0.mk (Kd.V_below (Kd.V_elderB (by (with_reducible repeat (first | apply Kd.V_alloc | apply Kd.V_drewN | apply Kd.V_drew)); exact HO0.out) gb152 (Nat.le_of_eq hg.symm)) hb); replace HO1_2 := Aside0.mk (Kd.V_below (Kd.V_elderB (by (with_reducible repeat (first | apply Kd.V_alloc | apply Kd.V_drewN | apply Kd.V_drew)); exact HO1_2.out) gb152 (Nat.le_of_eq hg.symm)) hb); replace HB := zhs HB hb; clear hb hbox hg; have hcz12_0 : w11.cell? ⟨gb152, 0, none⟩ = some (.int .i64 a1_0) := zc0 BK152 0 rfl; have hcz12_1 : w11.cell? ⟨gb152, 1, none⟩ = some (.int .i64 a1_1) := zc0 BK152 1 rfl; have hcz12_2 : w11.cell? ⟨gb152, 2, none⟩ = some (.slice A1_2 l1_2.length c1_2) := zc0 BK152 2 rfl; have hfz12_0 := blk_frozen BK152.out 0; have hfz12_1 := blk_frozen BK152.out 1; have hfz12_2 := blk_frozen BK152.out 2) | ((with_reducible refine gate_callee (f := 46) rfl ?_); refine goesL_ (some 9) rfl rfl Try.func46 (by kernel_rfl) rfl #[.agg #[.int .i64 a1_0, .int .i64 a1_1, .slice A1_2 l1_2.length c1_2], .int .i64 (l0.length : Int)] rfl (by (try simp only [List.map_toArray, List.map_cons, List.map_nil]); first | done | rfl | (simp only [List.length_drop, List.length_take]; rfl)) ?_; (with_reducible refine (impl_Edit_isEditOf.calls a1_0 a1_1 _ _ l1_2 (l0.length : Int) true _ ?side1 ?side2 A3.out).mono ?_); (case side1 => repeat (first | exact (Kd.V_reads' HO1_2.out).2.2 | (with_reducible refine Kd.C_alloc ?_ _) | (with_reducible refine Kd.C_drewN ?_ _) | (with_reducible refine Kd.C_drew ?_))); (case side2 => exact (Kd.V_reads' HO1_2.out).2.1); rintro e w13 ⟨rfl, hb⟩; refine ⟨_, rfl, ?_⟩; replace HO0 := Aside0.mk (Kd.V_below (by (with_reducible repeat (first | apply Kd.V_alloc | apply Kd.V_drewN | apply Kd.V_drew)); exact HO0.out) hb); replace HO1_2 := Aside0.mk (Kd.V_below (by (with_reducible repeat (first | apply Kd.V_alloc | apply Kd.V_drewN | apply Kd.V_drew)); exact HO1_2.out) hb); replace BK152 := zb0 BK152 hb; replace HB := zhs HB hb; (try clear hb); (try clear hb2); (try clear hk); (try clear hi)))
      replace HO0 := Aside0.mk (Kd.V_drew HO0.out)
      replace HO1_2 := Aside0.mk (Kd.V_drew HO1_2.out)
      replace BK152 := Aside0.mk (blk_drew BK152.out)
      replace HB := Aside0.mk (below_drew1 HB.out)
      have q15 : (a1_0 : Int) ≤ ((l0.length : Int) : Int) := of_decide_eq_true (by first | (with_reducible assumption) | assumption)
      obtain ⟨i015, hi015, _, hsz15, _⟩ := info_parts info5
      have hroom15 : l0.length ≤ c0 := (Kd.V_reads' HO0.out).2.1
      have hC15 : Kd.F (Kd.int .u8) _ _ A0 l0.length l0 := (Kd.V_at (base := w.heap.size) HO0.out).2.2
      have hcut15 := cut_to (P := Try.prog) 29 5 .i64 Try.underlying29 hi015 A0 l0.length c0 a1_0 (of_decide_eq_true (by first | (with_reducible assumption) | assumption)) q15 hroom15
      have hr15 := Kd.F_take (m := (a1_0 : Int).toNat) hC15 (by omega)
      have hy15 : y154.length = (a1_0 : Int).toNat := (by rw [Ny154.out, List.length_take]; omega)
      rw [← Ny154.out] at hr15
      rw [← hy15] at hcut15
      have HO158 := Aside0.mk (show Kd.V (Kd.int .u8) 5 _ w.heap.size _ (.slice A0 y154.length c0) y154 from Kd.V_mk (by omega) hr15)
      have HC158 := Aside0.mk (show y154.length ≤ c0 from by omega)
      clear hr15 hC15 hroom15 hi015 hsz15
      have KY15 := Aside0.mk hy15
      clear hy15
      replace q15 := eq_true q15
      have q16 : ((ji7) : Int) ≤ ((l0.length : Int) : Int) := of_decide_eq_true (by first | (with_reducible assumption) | assumption)
      obtain ⟨i016, hi016, _, hsz16, _⟩ := info_parts info5
      have hroom16 : l0.length ≤ c0 := (Kd.V_reads' HO0.out).2.1
      have hC16 : Kd.F (Kd.int .u8) _ _ A0 l0.length l0 := (Kd.V_at (base := w.heap.size) HO0.out).2.2
      have q016 : (0 : Int) ≤ ((ji7) : Int) := of_decide_eq_true (by first | (with_reducible assumption) | assumption)
      have hcut16 := cut_from (P := Try.prog) 29 5 .i64 Try.underlying29 hi016 1 hsz16 A0 l0.length c0 (ji7) q016 q16
      have hr16 := Kd.F_cut (m := ((ji7) : Int).toNat) (c := c0) hC16 (by omega) hroom16
      obtain ⟨A16, hA16⟩ : ∃ A1, A1 = (if c0 = ((ji7) : Int).toNat then A0 else (A0 : Option Addr).map (·.add (((ji7) : Int).toNat * 1))) := ⟨_, rfl⟩
      obtain ⟨c16, hc16⟩ : ∃ c1, c1 = c0 - ((ji7) : Int).toNat := ⟨_, rfl⟩
      have hy16 : y159.length = l0.length - ((ji7) : Int).toNat := (by rw [Ny159.out, List.length_drop] <;> omega)
      rw [show (l0).drop ((ji7) : Int).toNat = y159 from Ny159.out.symm] at hr16
      replace hr16 : Kd.F (Kd.int .u8) _ _ A16 y159.length y159 := (by rw [hA16]; exact hr16)
      rw [← hy16, ← hA16, ← hc16] at hcut16
      have HO163 := Aside0.mk (show Kd.V (Kd.int .u8) 5 _ w.heap.size _ (.slice A16 y159.length c16) y159 from Kd.V_mk (by rw [hy16, hc16]; exact Nat.sub_le_sub_right hroom16 _) hr16)
      have HC163 := Aside0.mk (show y159.length ≤ c16 from by rw [hy16, hc16]; exact Nat.sub_le_sub_right hroom16 _)
      clear hr16 hC16 hroom16 hi016 hsz16 hc16
      have KY16 := Aside0.mk hy16
      have KA16 := Aside0.mk hA16
      clear hy16 hA16
      replace q16 := eq_true q16
      refine start_ (n := 17) (S := fun w' => w'.cell? ⟨gb152, 0, none⟩ = some (.int .i64 a1_0) ∧ w'.cell? ⟨gb152, 1, none⟩ = some (.int .i64 a1_1) ∧ w'.cell? ⟨gb152, 2, none⟩ = some (.slice A1_2 l1_2.length c1_2)) (ds := []) #[false, false, false, false, false, false, false, false, false, false, false, false, false, false, false, false, false] (by kernel_rfl) rfl rfl ⟨zc0 BK152 0 rfl, zc0 BK152 1 rfl, zc0 BK152 2 rfl⟩ (fun hHeld => ?_); refine with_tabW impl_EditText.tab3 impl_EditText.bits3 (fun HT_ HW_ => ?_)
      generalize w13.drew = w14 at HO0 HO1_2 BK152 HB HO158 HO163 hHeld ⊢
      refine pure_ (i := 0) (N := some 11) (v := ?_) (a' := ?_) #[true, false, false, false, false, false, false, false, false, false, false, false, false, false, false, false, false] rfl rfl (any_of HT_.out (by kernel_rfl)) (fun _ _ _ h => h) (Or.inl ⟨by rfl, ?_⟩) ?_ ?_
      rotate_left
      ·intro w'
       go_simp
       with_reducible rfl
      rotate_left
      ·simp only [Act.put, zp1, zp2, zp3, i64_w, i32_w]
       rfl
      refine pure_ (i := 1) (N := some 12) (v := ?_) (a' := ?_) #[true, true, false, false, false, false, false, false, false, false, false, false, false, false, false, false, false] rfl rfl (any_of HT_.out (by kernel_rfl)) (fun _ _ _ h => h) (Or.inl ⟨by rfl, ?_⟩) ?_ ?_
      rotate_left
      ·intro w'
       go_simp
       with_reducible rfl
      rotate_left
      ·simp only [Act.put, zp1, zp2, zp3, i64_w, i32_w]
       rfl
      refine pure_ (i := 4) (N := some 15) (v := ?_) (a' := ?_) #[true, true, false, false, true, false, false, false, false, false, false, false, false, false, false, false, false] rfl rfl (any_of HT_.out (by kernel_rfl)) (fun _ _ _ h => h) (Or.inl ⟨by rfl, ?_⟩) ?_ ?_
      rotate_left
      ·intro w'
       go_simp
       with_reducible rfl
      rotate_left
      ·simp only [Act.put, zp1, zp2, zp3, i64_w, i32_w]
       rfl
      refine pure_ (i := 6) (N := some 17) (v := ?_) (a' := ?_) #[true, true, false, false, true, false, true, false, false, false, false, false, false, false, false, false, false] rfl rfl (any_of HT_.out (by kernel_rfl)) (fun _ _ _ h => h) (Or.inl ⟨by rfl, ?_⟩) ?_ ?_
      rotate_left
      ·intro w'
       go_simp
       with_reducible rfl
      rotate_left
      ·simp only [Act.put, zp1, zp2, zp3, i64_w, i32_w]
       rfl
      refine pure_ (i := 7) (N := some 18) (v := ?_) (a' := ?_) #[true, true, false, false, true, false, true, true, false, false, false, false, false, false, false, false, false] rfl rfl (any_of HT_.out (by kernel_rfl)) (fun _ _ _ h => h) (Or.inl ⟨by rfl, ?_⟩) ?_ ?_
      rotate_left
      ·intro w'
       go_simp
       with_reducible rfl
      rotate_left
      ·simp only [Act.put, zp1, zp2, zp3, i64_w, i32_w]
       rfl
      refine pure_ (i := 9) (N := some 20) (v := ?_) (a' := ?_) #[true, true, false, false, true, false, true, true, false, true, false, false, false, false, false, false, false] rfl rfl (any_of HT_.out (by kernel_rfl)) (fun _ _ _ h => h) (Or.inl ⟨by rfl, ?_⟩) ?_ ?_
      rotate_left
      ·intro w'
       go_simp
       with_reducible rfl
      rotate_left
      ·simp only [Act.put, zp1, zp2, zp3, i64_w, i32_w]
       rfl
      refine take_ (i := 2) (N := some 13) (v := ?_) (a' := ?_) #[true, true, true, false, true, false, true, true, false, true, false, false, false, false, false, false, false] rfl rfl (take_ofW HT_.out HW_.out (by kernel_rfl)) (fun _ _ _ h => h) (Or.inl ⟨by rfl, ?_⟩) hHeld ?_ ?_
      rotate_left
      ·rintro w' ⟨s0, s1, s2⟩
       go_simp
       with_reducible rfl
      rotate_left
      ·simp only [Act.put, zp1, zp2, zp3, i64_w, i32_w]
       rfl
      refine pure_ (i := 3) (N := some 14) (v := ?_) (a' := ?_) #[true, true, true, true, true, false, true, true, false, true, false, false, false, false, false, false, false] rfl rfl (any_of HT_.out (by kernel_rfl)) (fun _ _ _ h => h) (Or.inl ⟨by rfl, ?_⟩) ?_ ?_
      rotate_left
      ·intro w'
       go_simp
       with_reducible rfl
      rotate_left
      ·simp only [Act.put, zp1, zp2, zp3, i64_w, i32_w]
       rfl
      refine take_ (i := 5) (N := some 16) (v := ?_) (a' := ?_) #[true, true, true, true, true, true, true, true, false, true, false, false, false, false, false, false, false] rfl rfl (take_ofW HT_.out HW_.out (by kernel_rfl)) (fun _ _ _ h => h) (Or.inl ⟨by rfl, ?_⟩) hHeld ?_ ?_
      rotate_left
      ·rintro w' ⟨s0, s1, s2⟩
       go_simp
       with_reducible rfl
      rotate_left
      ·simp only [Act.put, zp1, zp2, zp3, i64_w, i32_w]
       rfl
      refine take_ (i := 8) (N := some 19) (v := ?_) (a' := ?_) #[true, true, true, true, true, true, true, true, true, true, false, false, false, false, false, false, false] rfl rfl (take_ofW HT_.out HW_.out (by kernel_rfl)) (fun _ _ _ h => h) (Or.inl ⟨by rfl, ?_⟩) hHeld ?_ ?_
      rotate_left
      ·rintro w' ⟨s0, s1, s2⟩
       go_simp
       with_reducible rfl
      rotate_left
      ·simp only [Act.put, zp1, zp2, zp3, i64_w, i32_w]
       rfl
      refine take_ (i := 10) (N := some 21) (v := ?_) (a' := ?_) #[true, true, true, true, true, true, true, true, true, true, true, false, false, false, false, false, false] rfl rfl (take_ofW HT_.out HW_.out (by kernel_rfl)) (fun _ _ _ h => h) (Or.inl ⟨by rfl, ?_⟩) hHeld ?_ ?_
      rotate_left
      ·rintro w' ⟨s0, s1, s2⟩
       go_simp
       with_reducible rfl
      rotate_left
      ·simp only [Act.put, zp1, zp2, zp3, i64_w, i32_w]
       rfl
      refine pure_ (i := 11) (N := some 22) (v := ?_) (a' := ?_) #[true, true, true, true, true, true, true, true, true, true, true, true, false, false, false, false, false] rfl rfl (any_of HT_.out (by kernel_rfl)) (fun _ _ _ h => h) (Or.inl ⟨by rfl, ?_⟩) ?_ ?_
      rotate_left
      ·intro w'
       go_simp
       with_reducible rfl
      rotate_left
      ·simp only [Act.put, zp1, zp2, zp3, i64_w, i32_w]
       rfl
      refine pure_ (i := 12) (N := some 23) (v := ?_) (a' := ?_) #[true, true, true, true, true, true, true, true, true, true, true, true, true, false, false, false, false] rfl rfl (any_of HT_.out (by kernel_rfl)) (fun _ _ _ h => h) (Or.inl ⟨by rfl, ?_⟩) ?_ ?_
      rotate_left
      ·intro w'
       go_simp
       with_reducible rfl
      rotate_left
      ·simp only [Act.put, zp1, zp2, zp3, i64_w, i32_w]
       rfl
      refine one_ (i := 13) (N := some 24) #[true, true, true, true, true, true, true, true, true, true, true, true, true, true, false, false, false] rfl rfl (one_of HT_.out (by kernel_rfl)) (by decide) (fun K hK => ?_)
      refine Kd.N_lit_step (Kd.slice 5 (Kd.int .u8)) _ 29 ?hg (N' := 24) ?hd (xs := ([y154, l1_2, y159] : List (List Int))) (inner := [.slice A0 y154.length c0, .slice A1_2 l1_2.length c1_2, .slice A16 y159.length c16]) (ok := (fun k_ => ((P0_ k_ ∨ P1_2_ k_) ∨ w.heap.size ≤ k_) ∧ k_ ≠ gb152)) (okp := (fun k_ => ((P0_ k_ ∨ P1_2_ k_) ∨ w.heap.size ≤ k_) ∧ k_ ≠ gb152)) ?hr ?hp (fun _ hk => hk) ((show ∀ k_, w14.heap.size ≤ k_ → (fun k_ => ((P0_ k_ ∨ P1_2_ k_) ∨ w.heap.size ≤ k_) ∧ k_ ≠ gb152) k_ from fun k_ hk => ⟨(.inr (Nat.le_trans (below_size (zh0 HB)) hk)), Kd.freshB (g := gb152) (o := .cells #[.int .i64 a1_0, .int .i64 a1_1, .slice A1_2 l1_2.length c1_2] 40 (0, 0)) (zk0 BK152) k_ hk⟩) _ (Nat.le_refl _)) (Below.refl _ _) (Nat.le_refl _) (by simp) ?_; (case hd => rfl); (case hg => rfl); (case hr => first | (go_simp; done) | (go_simp; rfl)); (case hp => exact (Reps.one (show Kd.FK (Kd.slice 5 (Kd.int .u8)) _ _ y154 [.slice A0 y154.length c0] from (Kd.FK_slice_mk (Kd.V_reads' (Kd.V_mono (ok' := (fun k_ => ((P0_ k_ ∨ P1_2_ k_) ∨ w.heap.size ≤ k_) ∧ k_ ≠ gb152)) (HO158.out) (fun k_ hk => ⟨hk.1, hk.2⟩))).2.1 (Kd.V_F (Kd.V_mono (ok' := (fun k_ => ((P0_ k_ ∨ P1_2_ k_) ∨ w.heap.size ≤ k_) ∧ k_ ≠ gb152)) (HO158.out) (fun k_ hk => ⟨hk.1, hk.2⟩))))) (Reps.one (show Kd.FK (Kd.slice 5 (Kd.int .u8)) _ _ l1_2 [.slice A1_2 l1_2.length c1_2] from (Kd.FK_slice_mk (Kd.V_reads' (Kd.V_mono (ok' := (fun k_ => ((P0_ k_ ∨ P1_2_ k_) ∨ w.heap.size ≤ k_) ∧ k_ ≠ gb152)) (HO1_2.out) (fun k_ hk => ⟨hk.1, hk.2⟩))).2.1 (Kd.V_F (Kd.V_mono (ok' := (fun k_ => ((P0_ k_ ∨ P1_2_ k_) ∨ w.heap.size ≤ k_) ∧ k_ ≠ gb152)) (HO1_2.out) (fun k_ hk => ⟨hk.1, hk.2⟩))))) (Reps.one (show Kd.FK (Kd.slice 5 (Kd.int .u8)) _ _ y159 [.slice A16 y159.length c16] from (Kd.FK_slice_mk (Kd.V_reads' (Kd.V_mono (ok' := (fun k_ => ((P0_ k_ ∨ P1_2_ k_) ∨ w.heap.size ≤ k_) ∧ k_ ≠ gb152)) (HO163.out) (fun k_ hk => ⟨hk.1, hk.2⟩))).2.1 (Kd.V_F (Kd.V_mono (ok' := (fun k_ => ((P0_ k_ ∨ P1_2_ k_) ∨ w.heap.size ≤ k_) ∧ k_ ≠ gb152)) (HO163.out) (fun k_ hk => ⟨hk.1, hk.2⟩))))) (Reps.none _ _)))))
      intro v165 w17 ho18 hb hg_ hnew_
      clear hg_ hnew_
      (first | rw [← Ny164.out] at ho18 | (simp only [Int.reduceToNat] at ho18; rw [← Ny164.out] at ho18))
      have HO166 := Aside0.mk (Kd.N_lower ho18 (below_size (zh0 HB)))
      replace HO0 := Aside0.mk (Kd.V_elder' (by (with_reducible repeat (first | apply Kd.V_alloc | apply Kd.V_drewN | apply Kd.V_drew)); exact HO0.out) (Kd.N_base ho18) hb)
      replace HO1_2 := Aside0.mk (Kd.V_elder' (by (with_reducible repeat (first | apply Kd.V_alloc | apply Kd.V_drewN | apply Kd.V_drew)); exact HO1_2.out) (Kd.N_base ho18) hb)
      replace HO158 := Aside0.mk (Kd.V_elder' (by (with_reducible repeat (first | apply Kd.V_alloc | apply Kd.V_drewN | apply Kd.V_drew)); exact HO158.out) (Kd.N_base ho18) hb)
      replace HO163 := Aside0.mk (Kd.V_elder' (by (with_reducible repeat (first | apply Kd.V_alloc | apply Kd.V_drewN | apply Kd.V_drew)); exact HO163.out) (Kd.N_base ho18) hb)
      replace BK152 := zb0 BK152 hb
      replace HB := zhs HB hb
      clear hb ho18
      obtain ⟨Ao19, co19, eo19⟩ := Kd.N_slice HO166.out
      (first | subst eo19 | (injection eo19 with f1_ f2_ f3_; have f4_ := f1_.symm; have f5_ := f3_.symm; clear f1_ f2_ f3_; subst f4_; subst f5_))
      refine hK.out _ _ ⟨zc0 BK152 0 rfl, zc0 BK152 1 rfl, zc0 BK152 2 rfl⟩ (fun hHeld => ?_)
      clear hK K
      refine norm_ (a' := ?_) ?_ ?_
      rotate_left
      ·show Act.put _ (some 24) _ = _
       simp only [Act.put, zp1, zp2, zp3, i64_w, i32_w]
       rfl
      refine one_ (i := 14) (N := some 25) #[true, true, true, true, true, true, true, true, true, true, true, true, true, true, true, false, false] rfl rfl (one_of HT_.out (by kernel_rfl)) (by decide) (fun K hK => ?_)
      refine goes_ Try.func47 (by kernel_rfl) rfl #[.slice Ao19 y164.length co19] (by rfl) rfl rfl (by (try simp only [List.map_toArray, List.map_cons, List.map_nil]); first | done | rfl | (simp only [List.length_drop, List.length_take]; rfl)) ?_
      with_reducible refine (slices_Concat_byte_byte.calls k _ _ y164 t167 _ ?side1 ?side2 A10.out).mono ?_
      (case side1 => repeat (first | exact (Kd.N_reads' HO166.out).2.2 | (with_reducible refine Kd.C_alloc ?_ _) | (with_reducible refine Kd.C_drewN ?_ _) | (with_reducible refine Kd.C_drew ?_)))
      (case side2 => exact (Kd.N_reads' HO166.out).2.1)
      rintro e w20 ⟨v168, rfl, ho0, hb⟩
      refine ⟨_, rfl, ?_⟩
      have HO169 := Aside0.mk (Kd.R_lower (Kd.R_newM (M := fun k_ => (w.heap.size ≤ k_)) ho0 (below_size (zh0 HB)) (fun k_ h_ => h_)) (below_size (zh0 HB)))
      replace HO0 := Aside0.mk (Kd.V_elder' (by (with_reducible repeat (first | apply Kd.V_alloc | apply Kd.V_drewN | apply Kd.V_drew)); exact HO0.out) (Kd.R_base ho0) hb)
      replace HO1_2 := Aside0.mk (Kd.V_elder' (by (with_reducible repeat (first | apply Kd.V_alloc | apply Kd.V_drewN | apply Kd.V_drew)); exact HO1_2.out) (Kd.R_base ho0) hb)
      replace HO158 := Aside0.mk (Kd.V_elder' (by (with_reducible repeat (first | apply Kd.V_alloc | apply Kd.V_drewN | apply Kd.V_drew)); exact HO158.out) (Kd.R_base ho0) hb)
      replace HO163 := Aside0.mk (Kd.V_elder' (by (with_reducible repeat (first | apply Kd.V_alloc | apply Kd.V_drewN | apply Kd.V_drew)); exact HO163.out) (Kd.R_base ho0) hb)
      replace HO166 := Aside0.mk (Kd.N_elder' (by (with_reducible repeat (first | apply Kd.N_alloc | apply Kd.N_drewN | apply Kd.N_drew)); exact HO166.out) (Kd.R_base ho0) hb)
      replace BK152 := zb0 BK152 hb
      replace HB := zhs HB hb
      (try clear hb)
      (try clear hb2)
      (try clear hk)
      (try clear hi)
      (try clear ho0)
      refine hK.out _ _ ⟨zc0 BK152 0 rfl, zc0 BK152 1 rfl, zc0 BK152 2 rfl⟩ (fun hHeld => ?_)
      clear hK K
      refine norm_ (a' := ?_) ?_ ?_
      rotate_left
      ·show Act.put _ (some 25) _ = _
       simp only [Act.put, zp1, zp2, zp3, i64_w, i32_w]
       rfl
      refine pure_ (i := 15) (N := some 4) (v := ?_) (a' := ?_) #[true, true, true, true, true, true, true, true, true, true, true, true, true, true, true, true, false] rfl rfl (any_of HT_.out (by kernel_rfl)) (fun _ _ _ h => h) (Or.inl ⟨by rfl, ?_⟩) ?_ ?_
      rotate_left
      ·intro w'
       go_simp
       with_reducible rfl
      rotate_left
      ·simp only [Act.put, zp1, zp2, zp3, i64_w, i32_w]
       rfl
      refine pure_ (i := 16) (N := some 5) (v := ?_) (a' := ?_) #[true, true, true, true, true, true, true, true, true, true, true, true, true, true, true, true, true] rfl rfl (any_of HT_.out (by kernel_rfl)) (fun _ _ _ h => h) (Or.inl ⟨by rfl, ?_⟩) ?_ ?_
      rotate_left
      ·intro w'
       go_simp
       with_reducible rfl
      rotate_left
      ·simp only [Act.put, zp1, zp2, zp3, i64_w, i32_w]
       rfl
      refine done_ (done_of HT_.out (by kernel_rfl)) ?_
      try go_wp2
      go_ret2
      exact ⟨_, by first | rfl | (simp [errW_none, errW_some] <;> rfl) | (simp only [← hji7]; first | rfl | (simp [errW_none, errW_some] <;> rfl)) | (simp [*, errW_none, errW_some] <;> rfl), by (with_reducible repeat (first | apply Kd.R_alloc | apply Kd.R_drewN | apply Kd.R_drew)); exact Kd.R_mono HO169.out (fun _ hk => hk.1), by repeat (first | (with_reducible first | exact HB.out | apply below_alloc | apply pw_below_drewN | apply below_drew1 | refine below_set ?_ GE152.out) | exact HB.out)⟩
     ·rw [if_neg c9] at H
      exact absurd H (by simp)
    ·rw [if_neg c8] at H
     exact absurd H (by simp)
   ·rw [if_neg c6] at H
    exact absurd H (by simp)
  ·rw [if_neg c5] at H
   exact absurd H (by simp)
 ·replace c4 := Bool.eq_false_iff.mpr c4
  subst c4
  have H1 : (some (([] : List Int), false)) = some (r1, r2) := by rw [if_neg (show ¬ (false = true) by decide)] at H; exact H
  clear H
  have H := H1
  clear H1
  simp only [Option.some.injEq, Prod.mk.injEq] at H
  obtain ⟨rfl, rfl⟩ := H
  go_enter Try.func26, Try.ntmps26
  go_wp2_with (first | ((with_reducible refine gate_dst (N := 3) rfl ?_); refine box_event ?hg (N := 3) ?hd (cs := #[.int .i64 a1_0, .int .i64 a1_1, .slice A1_2 l1_2.length c1_2]) (t := 40) ?hr ?_; (case hd => rfl); (case hg => rfl); (case hr => first | (go_simp; done) | (go_simp; rfl)); intro gb152 hg w21 hbox hb; have BK152 := Aside0.mk (hbox); have GW152 := zge HB hg; have GE152 := zge HB hg; replace HO0 := Aside0.mk (Kd.V_below (Kd.V_elderB (by (with_reducible repeat (first | apply Kd.V_alloc | apply Kd.V_drewN | apply Kd.V_drew)); exact HO0.out) gb152 (Nat.le_of_eq hg.symm)) hb); replace HO1_2 := Aside0.mk (Kd.V_below (Kd.V_elderB (by (with_reducible repeat (first | apply Kd.V_alloc | apply Kd.V_drewN | apply Kd.V_drew)); exact HO1_2.out) gb152 (Nat.le_of_eq hg.symm)) hb); replace HB := zhs HB hb; clear hb hbox hg; have hcz22_0 : w21.cell? ⟨gb152, 0, none⟩ = some (.int .i64 a1_0) := zc0 BK152 0 rfl; have hcz22_1 : w21.cell? ⟨gb152, 1, none⟩ = some (.int .i64 a1_1) := zc0 BK152 1 rfl; have hcz22_2 : w21.cell? ⟨gb152, 2, none⟩ = some (.slice A1_2 l1_2.length c1_2) := zc0 BK152 2 rfl; have hfz22_0 := blk_frozen BK152.out 0; have hfz22_1 := blk_frozen BK152.out 1; have hfz22_2 := blk_frozen BK152.out 2) | ((with_reducible refine gate_callee (f := 46) rfl ?_); refine goesL_ (some 9) rfl rfl Try.func46 (by kernel_rfl) rfl #[.agg #[.int .i64 a1_0, .int .i64 a1_1, .slice A1_2 l1_2.length c1_2], .int .i64 (l0.length : Int)] rfl (by (try simp only [List.map_toArray, List.map_cons, List.map_nil]); first | done | rfl | (simp only [List.length_drop, List.length_take]; rfl)) ?_; (with_reducible refine (impl_Edit_isEditOf.calls a1_0 a1_1 _ _ l1_2 (l0.length : Int) false _ ?side1 ?side2 A3.out).mono ?_); (case side1 => repeat (first | exact (Kd.V_reads' HO1_2.out).2.2 | (with_reducible refine Kd.C_alloc ?_ _) | (with_reducible refine Kd.C_drewN ?_ _) | (with_reducible refine Kd.C_drew ?_))); (case side2 => exact (Kd.V_reads' HO1_2.out).2.1); rintro e w23 ⟨rfl, hb⟩; refine ⟨_, rfl, ?_⟩; replace HO0 := Aside0.mk (Kd.V_below (by (with_reducible repeat (first | apply Kd.V_alloc | apply Kd.V_drewN | apply Kd.V_drew)); exact HO0.out) hb); replace HO1_2 := Aside0.mk (Kd.V_below (by (with_reducible repeat (first | apply Kd.V_alloc | apply Kd.V_drewN | apply Kd.V_drew)); exact HO1_2.out) hb); replace BK152 := zb0 BK152 hb; replace HB := zhs HB hb; (try clear hb); (try clear hb2); (try clear hk); (try clear hi)))
  go_ret2
  exact ⟨_, by first | rfl | (simp [errW_none, errW_some] <;> rfl) | (simp [*, errW_none, errW_some] <;> rfl), by first | exact Kd.R_nil _ _ _ _ _ | exact Kd.N_nil _ _ _ _ _ | exact Kd.V_nil _ _ _ _ _ | exact Kd.Q_nil _ _ _ _ _ | exact Kd.S_nil _ _ _ _ _, by repeat (first | (with_reducible first | exact HB.out | apply below_alloc | apply pw_below_drewN | apply below_drew1 | refine below_set ?_ GE152.out) | exact HB.out)⟩

open Go.Proofs.Ytcanejjkgoaplaa.Cp
/-! ### laws_eqEdit: function 27 -/
def laws_eqEdit.f (k : Nat) (a0_0 : Int) (a0_1 : Int) (l0_2 : List Int) (a1_0 : Int) (a1_1 : Int) (l1_2 : List Int) : Option (Bool) := if a0_0 = a1_0 then (if a0_1 = a1_1 then ((laws_eqByteS.f k l0_2 l1_2).bind fun t172 => (if t172 = true then (some true) else (some false))) else (some false)) else (some false)
theorem laws_eqEdit.mono : ∀ a0 a1 a2 a3 a4 a5 k, LeO (laws_eqEdit.f k a0 a1 a2 a3 a4 a5) (laws_eqEdit.f (k + 1) a0 a1 a2 a3 a4 a5) := by
 intro a0 a1 a2 a3 a4 a5 k
 unfold laws_eqEdit.f
 repeat' first
   | (with_reducible exact laws_eqByteS.mono _ _ _)
   | (with_reducible exact LeO.refl _)
   | (with_reducible exact LeO.none _)
   | (with_reducible refine LeO.ite ?_ ?_)
   | (with_reducible refine LeO.bind ?_ (fun _ => ?_))
   | exact laws_eqByteS.mono _ _ _
   | exact LeO.none _
   | refine LeO.ite ?_ ?_
   | refine LeO.bind ?_ (fun _ => ?_)
set_option maxHeartbeats 8000000 in
set_option maxRecDepth 100000 in
theorem laws_eqEdit.calls (k : Nat) (a0_0 : Int) (a0_1 : Int) (A0_2 : Option Addr) (c0_2 : Nat) (l0_2 : List Int) (a1_0 : Int) (a1_1 : Int) (A1_2 : Option Addr) (c1_2 : Nat) (l1_2 : List Int) (r : Bool) (w : World) (hr0_2 : Kd.C (Kd.int .u8) w A0_2 l0_2.length l0_2) (hc0_2 : l0_2.length ≤ c0_2) (hr1_2 : Kd.C (Kd.int .u8) w A1_2 l1_2.length l1_2) (hc1_2 : l1_2.length ≤ c1_2) (h : laws_eqEdit.f k a0_0 a0_1 l0_2 a1_0 a1_1 l1_2 = some r) :
  Calls Try.prog 27 #[.agg #[.int .i64 a0_0, .int .i64 a0_1, .slice A0_2 l0_2.length c0_2], .agg #[.int .i64 a1_0, .int .i64 a1_1, .slice A1_2 l1_2.length c1_2]] w fun e w' => e = .returned (.bool r) ∧ Below w.heap.size w w' := by
 have hu40 := Try.underlying40
 have HR0_2 := Aside0.mk hr0_2
 have HC0_2 := Aside0.mk hc0_2
 clear hr0_2 hc0_2
 have HR1_2 := Aside0.mk hr1_2
 have HC1_2 := Aside0.mk hc1_2
 clear hr1_2 hc1_2
 have HB := Aside0.mk (Below.refl w.heap.size w)
 have H : (if a0_0 = a1_0 then (if a0_1 = a1_1 then ((laws_eqByteS.f k l0_2 l1_2).bind fun t172 => (if t172 = true then (some true) else (some false))) else (some false)) else (some false)) = some r := h
 clear h
 by_cases c3 : a0_0 = a1_0
 ·rw [if_pos c3] at H
  have c3b0 : (a0_0 == a1_0) = true := beq_iff_eq.mpr c3
  have c3b1 : (a0_0 != a1_0) = false := bne_eq_false_iff_eq.mpr c3
  clear c3
  by_cases c4 : a0_1 = a1_1
  ·rw [if_pos c4] at H
   have c4b0 : (a0_1 == a1_1) = true := beq_iff_eq.mpr c4
   have c4b1 : (a0_1 != a1_1) = false := bne_eq_false_iff_eq.mpr c4
   clear c4
   replace H := Option.bind_eq_some_iff.mp H
   obtain ⟨t172, A50, H⟩ := H
   replace H : (if t172 = true then (some true) else (some false)) = some r := H
   have A5 := Aside0.mk A50
   clear A50
   by_cases c6 : t172 = true
   ·subst c6
    have H1 : (some true) = some r := by rw [if_pos rfl] at H; exact H
    clear H
    have H := H1
    clear H1
    obtain rfl := Option.some.inj H
    go_enter Try.func27, Try.ntmps27
    go_wp2_with (first | ((with_reducible refine gate_dst (N := 2) rfl ?_); refine box_event ?hg (N := 2) ?hd (cs := #[.int .i64 a0_0, .int .i64 a0_1, .slice A0_2 l0_2.length c0_2]) (t := 40) ?hr ?_; (case hd => rfl); (case hg => rfl); (case hr => first | (go_simp; done) | (go_simp; rfl)); intro gb170 hg w7 hbox hb; have BK170 := Aside0.mk (hbox); have GW170 := zge HB hg; have GE170 := zge HB hg; replace HB := zhs HB hb; clear hb hbox hg) | ((with_reducible refine gate_dst (N := 3) rfl ?_); refine box_event ?hg (N := 3) ?hd (cs := #[.int .i64 a1_0, .int .i64 a1_1, .slice A1_2 l1_2.length c1_2]) (t := 40) ?hr ?_; (case hd => rfl); (case hg => rfl); (case hr => first | (go_simp; done) | (go_simp; rfl)); intro gb171 hg w8 hbox hb; have BK171 := Aside0.mk (hbox); have GW171 := zge HB hg; have GE171 := zge HB hg; have NB170_171 := znl BK170 hg; have NB171_170 := znr BK170 hg; replace BK170 := zb0 BK170 hb; replace HB := zhs HB hb; clear hb hbox hg; have hnb9 := NB170_171.out; have hnc9 := NB171_170.out; have hcz10_0 : w8.cell? ⟨gb170, 0, none⟩ = some (.int .i64 a0_0) := zc0 BK170 0 rfl; have hcz10_1 : w8.cell? ⟨gb170, 1, none⟩ = some (.int .i64 a0_1) := zc0 BK170 1 rfl; have hcz10_2 : w8.cell? ⟨gb170, 2, none⟩ = some (.slice A0_2 l0_2.length c0_2) := zc0 BK170 2 rfl; have hfz10_0 := blk_frozen BK170.out 0; have hfz10_1 := blk_frozen BK170.out 1; have hfz10_2 := blk_frozen BK170.out 2; have hcz11_0 : w8.cell? ⟨gb171, 0, none⟩ = some (.int .i64 a1_0) := zc0 BK171 0 rfl; have hcz11_1 : w8.cell? ⟨gb171, 1, none⟩ = some (.int .i64 a1_1) := zc0 BK171 1 rfl; have hcz11_2 : w8.cell? ⟨gb171, 2, none⟩ = some (.slice A1_2 l1_2.length c1_2) := zc0 BK171 2 rfl; have hfz11_0 := blk_frozen BK171.out 0; have hfz11_1 := blk_frozen BK171.out 1; have hfz11_2 := blk_frozen BK171.out 2) | ((with_reducible refine gate_callee (f := 20) rfl ?_); refine goesL_ (some 19) rfl rfl Try.func20 (by kernel_rfl) rfl #[.slice A0_2 l0_2.length c0_2, .slice A1_2 l1_2.length c1_2] rfl (by (try simp only [List.map_toArray, List.map_cons, List.map_nil]); first | done | rfl | (simp only [List.length_drop, List.length_take]; rfl)) ?_; (with_reducible refine (laws_eqByteS.calls k _ _ l0_2 _ _ l1_2 true _ ?side1 ?side2 ?side3 ?side4 A5.out).mono ?_); (case side1 => repeat (first | exact (Kd.C_below HR0_2.out HB.out) | (with_reducible refine Kd.C_alloc ?_ _) | (with_reducible refine Kd.C_drewN ?_ _) | (with_reducible refine Kd.C_drew ?_))); (case side2 => exact HC0_2.out); (case side3 => repeat (first | exact (Kd.C_below HR1_2.out HB.out) | (with_reducible refine Kd.C_alloc ?_ _) | (with_reducible refine Kd.C_drewN ?_ _) | (with_reducible refine Kd.C_drew ?_))); (case side4 => exact HC1_2.out); rintro e w' ⟨rfl, ⟨nd, rfl⟩⟩; refine ⟨_, rfl, ?_⟩))
    go_ret
    exact ⟨by first | rfl | (simp [errW_none, errW_some] <;> rfl) | (simp [*, errW_none, errW_some] <;> rfl), by repeat (first | (with_reducible first | exact HB.out | apply below_alloc | apply pw_below_drewN | apply below_drew1 | refine below_set ?_ GE170.out | refine below_set ?_ GE171.out) | exact HB.out)⟩
   ·replace c6 := Bool.eq_false_iff.mpr c6
    subst c6
    have H1 : (some false) = some r := by rw [if_neg (show ¬ (false = true) by decide)] at H; exact H
    clear H
    have H := H1
    clear H1
    obtain rfl := Option.some.inj H
    go_enter Try.func27, Try.ntmps27
    go_wp2_with (first | ((with_reducible refine gate_dst (N := 2) rfl ?_); refine box_event ?hg (N := 2) ?hd (cs := #[.int .i64 a0_0, .int .i64 a0_1, .slice A0_2 l0_2.length c0_2]) (t := 40) ?hr ?_; (case hd => rfl); (case hg => rfl); (case hr => first | (go_simp; done) | (go_simp; rfl)); intro gb170 hg w12 hbox hb; have BK170 := Aside0.mk (hbox); have GW170 := zge HB hg; have GE170 := zge HB hg; replace HB := zhs HB hb; clear hb hbox hg) | ((with_reducible refine gate_dst (N := 3) rfl ?_); refine box_event ?hg (N := 3) ?hd (cs := #[.int .i64 a1_0, .int .i64 a1_1, .slice A1_2 l1_2.length c1_2]) (t := 40) ?hr ?_; (case hd => rfl); (case hg => rfl); (case hr => first | (go_simp; done) | (go_simp; rfl)); intro gb171 hg w13 hbox hb; have BK171 := Aside0.mk (hbox); have GW171 := zge HB hg; have GE171 := zge HB hg; have NB170_171 := znl BK170 hg; have NB171_170 := znr BK170 hg; replace BK170 := zb0 BK170 hb; replace HB := zhs HB hb; clear hb hbox hg; have hnb14 := NB170_171.out; have hnc14 := NB171_170.out; have hcz15_0 : w13.cell? ⟨gb170, 0, none⟩ = some (.int .i64 a0_0) := zc0 BK170 0 rfl; have hcz15_1 : w13.cell? ⟨gb170, 1, none⟩ = some (.int .i64 a0_1) := zc0 BK170 1 rfl; have hcz15_2 : w13.cell? ⟨gb170, 2, none⟩ = some (.slice A0_2 l0_2.length c0_2) := zc0 BK170 2 rfl; have hfz15_0 := blk_frozen BK170.out 0; have hfz15_1 := blk_frozen BK170.out 1; have hfz15_2 := blk_frozen BK170.out 2; have hcz16_0 : w13.cell? ⟨gb171, 0, none⟩ = some (.int .i64 a1_0) := zc0 BK171 0 rfl; have hcz16_1 : w13.cell? ⟨gb171, 1, none⟩ = some (.int .i64 a1_1) := zc0 BK171 1 rfl; have hcz16_2 : w13.cell? ⟨gb171, 2, none⟩ = some (.slice A1_2 l1_2.length c1_2) := zc0 BK171 2 rfl; have hfz16_0 := blk_frozen BK171.out 0; have hfz16_1 := blk_frozen BK171.out 1; have hfz16_2 := blk_frozen BK171.out 2) | ((with_reducible refine gate_callee (f := 20) rfl ?_); refine goesL_ (some 19) rfl rfl Try.func20 (by kernel_rfl) rfl #[.slice A0_2 l0_2.length c0_2, .slice A1_2 l1_2.length c1_2] rfl (by (try simp only [List.map_toArray, List.map_cons, List.map_nil]); first | done | rfl | (simp only [List.length_drop, List.length_take]; rfl)) ?_; (with_reducible refine (laws_eqByteS.calls k _ _ l0_2 _ _ l1_2 false _ ?side1 ?side2 ?side3 ?side4 A5.out).mono ?_); (case side1 => repeat (first | exact (Kd.C_below HR0_2.out HB.out) | (with_reducible refine Kd.C_alloc ?_ _) | (with_reducible refine Kd.C_drewN ?_ _) | (with_reducible refine Kd.C_drew ?_))); (case side2 => exact HC0_2.out); (case side3 => repeat (first | exact (Kd.C_below HR1_2.out HB.out) | (with_reducible refine Kd.C_alloc ?_ _) | (with_reducible refine Kd.C_drewN ?_ _) | (with_reducible refine Kd.C_drew ?_))); (case side4 => exact HC1_2.out); rintro e w' ⟨rfl, ⟨nd, rfl⟩⟩; refine ⟨_, rfl, ?_⟩))
    go_ret
    exact ⟨by first | rfl | (simp [errW_none, errW_some] <;> rfl) | (simp [*, errW_none, errW_some] <;> rfl), by repeat (first | (with_reducible first | exact HB.out | apply below_alloc | apply pw_below_drewN | apply below_drew1 | refine below_set ?_ GE170.out | refine below_set ?_ GE171.out) | exact HB.out)⟩
  ·rw [if_neg c4] at H
   have c4b0 : (a0_1 == a1_1) = false := beq_eq_false_iff_ne.mpr c4
   have c4b1 : (a0_1 != a1_1) = true := bne_iff_ne.mpr c4
   obtain rfl := Option.some.inj H
   go_enter Try.func27, Try.ntmps27
   go_wp2_with (first | ((with_reducible refine gate_dst (N := 2) rfl ?_); refine box_event ?hg (N := 2) ?hd (cs := #[.int .i64 a0_0, .int .i64 a0_1, .slice A0_2 l0_2.length c0_2]) (t := 40) ?hr ?_; (case hd => rfl); (case hg => rfl); (case hr => first | (go_simp; done) | (go_simp; rfl)); intro gb170 hg w17 hbox hb; have BK170 := Aside0.mk (hbox); have GW170 := zge HB hg; have GE170 := zge HB hg; replace HB := zhs HB hb; clear hb hbox hg) | ((with_reducible refine gate_dst (N := 3) rfl ?_); refine box_event ?hg (N := 3) ?hd (cs := #[.int .i64 a1_0, .int .i64 a1_1, .slice A1_2 l1_2.length c1_2]) (t := 40) ?hr ?_; (case hd => rfl); (case hg => rfl); (case hr => first | (go_simp; done) | (go_simp; rfl)); intro gb171 hg w18 hbox hb; have BK171 := Aside0.mk (hbox); have GW171 := zge HB hg; have GE171 := zge HB hg; have NB170_171 := znl BK170 hg; have NB171_170 := znr BK170 hg; replace BK170 := zb0 BK170 hb; replace HB := zhs HB hb; clear hb hbox hg; have hnb19 := NB170_171.out; have hnc19 := NB171_170.out; have hcz20_0 : w18.cell? ⟨gb170, 0, none⟩ = some (.int .i64 a0_0) := zc0 BK170 0 rfl; have hcz20_1 : w18.cell? ⟨gb170, 1, none⟩ = some (.int .i64 a0_1) := zc0 BK170 1 rfl; have hcz20_2 : w18.cell? ⟨gb170, 2, none⟩ = some (.slice A0_2 l0_2.length c0_2) := zc0 BK170 2 rfl; have hfz20_0 := blk_frozen BK170.out 0; have hfz20_1 := blk_frozen BK170.out 1; have hfz20_2 := blk_frozen BK170.out 2; have hcz21_0 : w18.cell? ⟨gb171, 0, none⟩ = some (.int .i64 a1_0) := zc0 BK171 0 rfl; have hcz21_1 : w18.cell? ⟨gb171, 1, none⟩ = some (.int .i64 a1_1) := zc0 BK171 1 rfl; have hcz21_2 : w18.cell? ⟨gb171, 2, none⟩ = some (.slice A1_2 l1_2.length c1_2) := zc0 BK171 2 rfl; have hfz21_0 := blk_frozen BK171.out 0; have hfz21_1 := blk_frozen BK171.out 1; have hfz21_2 := blk_frozen BK171.out 2))
   go_ret
   exact ⟨by first | rfl | (simp [errW_none, errW_some] <;> rfl) | (simp [*, errW_none, errW_some] <;> rfl), by repeat (first | (with_reducible first | exact HB.out | apply below_alloc | apply pw_below_drewN | apply below_drew1 | refine below_set ?_ GE170.out | refine below_set ?_ GE171.out) | exact HB.out)⟩
 ·rw [if_neg c3] at H
  have c3b0 : (a0_0 == a1_0) = false := beq_eq_false_iff_ne.mpr c3
  have c3b1 : (a0_0 != a1_0) = true := bne_iff_ne.mpr c3
  obtain rfl := Option.some.inj H
  go_enter Try.func27, Try.ntmps27
  go_wp2_with (first | ((with_reducible refine gate_dst (N := 2) rfl ?_); refine box_event ?hg (N := 2) ?hd (cs := #[.int .i64 a0_0, .int .i64 a0_1, .slice A0_2 l0_2.length c0_2]) (t := 40) ?hr ?_; (case hd => rfl); (case hg => rfl); (case hr => first | (go_simp; done) | (go_simp; rfl)); intro gb170 hg w22 hbox hb; have BK170 := Aside0.mk (hbox); have GW170 := zge HB hg; have GE170 := zge HB hg; replace HB := zhs HB hb; clear hb hbox hg) | ((with_reducible refine gate_dst (N := 3) rfl ?_); refine box_event ?hg (N := 3) ?hd (cs := #[.int .i64 a1_0, .int .i64 a1_1, .slice A1_2 l1_2.length c1_2]) (t := 40) ?hr ?_; (case hd => rfl); (case hg => rfl); (case hr => first | (go_simp; done) | (go_simp; rfl)); intro gb171 hg w23 hbox hb; have BK171 := Aside0.mk (hbox); have GW171 := zge HB hg; have GE171 := zge HB hg; have NB170_171 := znl BK170 hg; have NB171_170 := znr BK170 hg; replace BK170 := zb0 BK170 hb; replace HB := zhs HB hb; clear hb hbox hg; have hnb24 := NB170_171.out; have hnc24 := NB171_170.out; have hcz25_0 : w23.cell? ⟨gb170, 0, none⟩ = some (.int .i64 a0_0) := zc0 BK170 0 rfl; have hcz25_1 : w23.cell? ⟨gb170, 1, none⟩ = some (.int .i64 a0_1) := zc0 BK170 1 rfl; have hcz25_2 : w23.cell? ⟨gb170, 2, none⟩ = some (.slice A0_2 l0_2.length c0_2) := zc0 BK170 2 rfl; have hfz25_0 := blk_frozen BK170.out 0; have hfz25_1 := blk_frozen BK170.out 1; have hfz25_2 := blk_frozen BK170.out 2; have hcz26_0 : w23.cell? ⟨gb171, 0, none⟩ = some (.int .i64 a1_0) := zc0 BK171 0 rfl; have hcz26_1 : w23.cell? ⟨gb171, 1, none⟩ = some (.int .i64 a1_1) := zc0 BK171 1 rfl; have hcz26_2 : w23.cell? ⟨gb171, 2, none⟩ = some (.slice A1_2 l1_2.length c1_2) := zc0 BK171 2 rfl; have hfz26_0 := blk_frozen BK171.out 0; have hfz26_1 := blk_frozen BK171.out 1; have hfz26_2 := blk_frozen BK171.out 2))
  go_ret
  exact ⟨by first | rfl | (simp [errW_none, errW_some] <;> rfl) | (simp [*, errW_none, errW_some] <;> rfl), by repeat (first | (with_reducible first | exact HB.out | apply below_alloc | apply pw_below_drewN | apply below_drew1 | refine below_set ?_ GE170.out | refine below_set ?_ GE171.out) | exact HB.out)⟩

open Go.Proofs.Ytcanejjkgoaplaa.Cp
/-! ### laws_markEdit: function 28 -/
def laws_markEdit.f (k : Nat) (a0_0 : Int) (a0_1 : Int) (l0_2 : List Int) (a1 : Int) : Option (Int × List Int) := (laws_markByteS.f k l0_2 a1).bind fun bt174 => (some (bt174.1, bt174.2))
theorem laws_markEdit.mono : ∀ a0 a1 a2 a3 k, LeO (laws_markEdit.f k a0 a1 a2 a3) (laws_markEdit.f (k + 1) a0 a1 a2 a3) := by
 intro a0 a1 a2 a3 k
 unfold laws_markEdit.f
 repeat' first
   | (with_reducible exact laws_markByteS.mono _ _ _)
   | (with_reducible exact LeO.refl _)
   | (with_reducible exact LeO.none _)
   | (with_reducible refine LeO.ite ?_ ?_)
   | (with_reducible refine LeO.bind ?_ (fun _ => ?_))
   | exact laws_markByteS.mono _ _ _
   | exact LeO.none _
   | refine LeO.ite ?_ ?_
   | refine LeO.bind ?_ (fun _ => ?_)
set_option maxHeartbeats 8000000 in
set_option maxRecDepth 100000 in
theorem laws_markEdit.calls (k : Nat) (a0_0 : Int) (a0_1 : Int) (P0_2_ : Nat → Prop) (u9000_ : Value) (l0_2 : List Int) (a1 : Int) (r1 : Int) (r2 : List Int) (w0 w : World) (hB : Below w0.heap.size w0 w) (ho0_2 : Kd.R (Kd.int .u8) 5 w w0.heap.size P0_2_ u9000_ l0_2) (h : laws_markEdit.f k a0_0 a0_1 l0_2 a1 = some (r1, r2)) :
  Calls Try.prog 28 #[.agg #[.int .i64 a0_0, .int .i64 a0_1, u9000_], .int .i64 a1] w fun e w' => e = .returned (.int .i64 r1) ∧ Kd.R (Kd.int .u8) 5 w' w0.heap.size (fun k_ => (P0_2_ k_ ∨ w.heap.size ≤ k_)) u9000_ r2 ∧ Below w0.heap.size w0 w' ∧ Kept w w' (fun k_ => P0_2_ k_) := by
 have hu40 := Try.underlying40
 have HO0_2 := Aside0.mk (show Kd.R (Kd.int .u8) 5 w w0.heap.size (fun k_ => (P0_2_ k_ ∨ w.heap.size ≤ k_)) u9000_ l0_2 from Kd.R_mono ho0_2 (fun k_ hk => (.inl hk)))
 have HK := Aside0.mk (Kept.refl w (fun k_ => P0_2_ k_))
 have HW0 := Aside0.mk hB.size
 have HB := Aside0.mk hB
 clear hB
 have H : ((laws_markByteS.f k l0_2 a1).bind fun bt174 => (some (bt174.1, bt174.2))) = some (r1, r2) := h
 clear h
 replace H := Option.bind_eq_some_iff.mp H
 obtain ⟨⟨t174, t175⟩, A30, H⟩ := H
 replace H : (some (t174, t175)) = some (r1, r2) := H
 have A3 := Aside0.mk A30
 clear A30
 simp only [Option.some.injEq, Prod.mk.injEq] at H
 obtain ⟨rfl, rfl⟩ := H
 obtain ⟨Ao4, co4, eo4⟩ := Kd.R_slice HO0_2.out
 subst eo4
 go_enter Try.func28, Try.ntmps28
 go_wp2_with (first | ((with_reducible refine gate_dst (N := 2) rfl ?_); refine box_event ?hg (N := 2) ?hd (cs := #[.int .i64 a0_0, .int .i64 a0_1, .slice Ao4 l0_2.length co4]) (t := 40) ?hr ?_; (case hd => rfl); (case hg => rfl); (case hr => first | (go_simp; done) | (go_simp; rfl)); intro gb173 hg w5 hbox hb; have BK173 := Aside0.mk (hbox); have GW173 := Aside0.mk ((by rw [hg]; exact (by first | exact HK.out.1 | exact (show Kept w _ (fun k_ => P0_2_ k_) from by repeat (first | (with_reducible first | exact HK.out | apply Kept.alloc | apply Kept.drewN | apply Kept.drew) | exact HK.out)).1) : w.heap.size ≤ gb173)); have GE173 := Aside0.mk ((by rw [hg]; exact (below_size (zh0 HB)) : w0.heap.size ≤ gb173)); replace HO0_2 := zrb HO0_2 hb; replace HK := Aside0.mk (Kept.below (S := (fun k_ => P0_2_ k_)) (by repeat (first | (with_reducible first | exact HK.out | apply Kept.alloc | apply Kept.drewN | apply Kept.drew) | exact HK.out)) hb); replace HB := zhs HB hb; clear hb hbox hg; have hcz6_0 : w5.cell? ⟨gb173, 0, none⟩ = some (.int .i64 a0_0) := zc0 BK173 0 rfl; have hcz6_1 : w5.cell? ⟨gb173, 1, none⟩ = some (.int .i64 a0_1) := zc0 BK173 1 rfl; have hcz6_2 : w5.cell? ⟨gb173, 2, none⟩ = some (.slice Ao4 l0_2.length co4) := zc0 BK173 2 rfl; have hfz6_0 := blk_frozen BK173.out 0; have hfz6_1 := blk_frozen BK173.out 1; have hfz6_2 := blk_frozen BK173.out 2) | ((with_reducible refine gate_callee (f := 21) rfl ?_); refine goesL_ (some 8) rfl rfl Try.func21 (by kernel_rfl) rfl #[.slice Ao4 l0_2.length co4, .int .i64 a1] rfl (by (try simp only [List.map_toArray, List.map_cons, List.map_nil]); first | done | rfl | (simp only [List.length_drop, List.length_take]; rfl)) ?_; (with_reducible refine (laws_markByteS.calls k (fun k_ => some k_ = (.slice Ao4 l0_2.length co4 : Value).ownBlock) (.slice Ao4 l0_2.length co4) l0_2 a1 t174 t175 w0 _ ?side1 ?side2 A3.out).mono ?_); (case side1 => repeat (first | (with_reducible first | exact HB.out | apply below_alloc | apply pw_below_drewN | apply below_drew1 | refine below_set ?_ GE173.out) | exact HB.out)); (case side2 => exact Kd.R_tight rfl HO0_2.out); rintro e w7 ⟨rfl, hy0, hb, hkp⟩; refine ⟨_, rfl, ?_⟩; have n0_ := Aside0.mk (Kd.R_reok rfl hy0 (fun k_ e_ => HO0_2.out.1 k_ e_)); have n1_ := Aside0.mk (blk_kept (zk0 BK173) hkp (fun hs_ => (fun e_ => (Kd.R_ne HO0_2.out BK173.out (by decide)) e_) hs_)); have n2_ := Aside0.mk (Kept.then_ (S := (fun k_ => P0_2_ k_)) (by repeat (first | (with_reducible first | exact HK.out | apply Kept.alloc | apply Kept.drewN | apply Kept.drew | refine Kept.setCell ?_ (.inr GW173.out) _) | exact HK.out)) hkp (fun k_ hs_ => (fun e_ => (HO0_2.out.1 k_ e_.symm)) hs_)); have n3_ := Aside0.mk (hb); clear HO0_2; clear BK173; clear HK; clear HB; have HO0_2 := n0_; have BK173 := n1_; have HK := n2_; have HB := n3_; clear n0_ n1_ n2_ n3_; (try clear hb); (try clear hkp); (try clear hy0)))
 go_ret
 exact ⟨by first | rfl | (simp [errW_none, errW_some] <;> rfl) | (simp [*, errW_none, errW_some] <;> rfl), zr0 HO0_2, by repeat (first | (with_reducible first | exact HB.out | apply below_alloc | apply pw_below_drewN | apply below_drew1 | refine below_set ?_ GE173.out) | exact HB.out), by repeat (first | (with_reducible first | exact HK.out | apply Kept.alloc | apply Kept.drewN | apply Kept.drew | refine Kept.setCell ?_ (.inr GW173.out) _) | exact HK.out)⟩

open Go.Proofs.Ytcanejjkgoaplaa.Cp
/-! ### laws_FnExactEditText: function 7 -/
def laws_FnExactEditText.f (k : Nat) (l0 : List Int) (a1_0 : Int) (a1_1 : Int) (l1_2 : List Int) : Option (Bool) := if (l0.length : Int) > 1048576 then (some true) else ((laws_szEdit.f a1_0 a1_1 l1_2 1048576).bind fun t177 => (if t177 < 0 then (some true) else ((laws_toByteS.f k l0).bind fun t178 => ((laws_toEdit.f k a1_0 a1_1 l1_2).bind fun bt181 => ((spec_EditText.f t178 bt181.1 bt181.2.1 bt181.2.2).bind fun bt186 => ((laws_toByteS.f k l0).bind fun t190 => ((laws_toEdit.f k a1_0 a1_1 l1_2).bind fun bt193 => ((impl_EditText.f k t190 bt193.1 bt193.2.1 bt193.2.2).bind fun bt199 => ((laws_eqByteS.f k bt199.1 bt186.1).bind fun t203 => (if t203 = true then (if (bt199.2 != bt186.2) = true then (none) else ((laws_toByteS.f k l0).bind fun t204 => ((laws_eqByteS.f k t190 t204).bind fun t207 => (if t207 = true then ((laws_toEdit.f k a1_0 a1_1 l1_2).bind fun bt208 => ((laws_eqEdit.f k bt193.1 bt193.2.1 bt193.2.2 bt208.1 bt208.2.1 bt208.2.2).bind fun t213 => (if t213 = true then ((laws_markByteS.f k t190 1).bind fun bt214 => ((laws_markEdit.f k bt193.1 bt193.2.1 bt193.2.2 bt214.1).bind fun bt216 => (if bt216.1 < 0 then (none) else ((laws_eqByteS.f k bt199.1 bt186.1).bind fun t218 => (if t218 = true then ((laws_markByteS.f k bt199.1 1).bind fun bt219 => ((laws_heldByteS.f k bt219.2 1).bind fun t221 => (if t221 < 0 then (none) else (if t221 = bt219.1 then ((laws_toByteS.f k l0).bind fun t222 => ((laws_toEdit.f k a1_0 a1_1 l1_2).bind fun bt225 => ((impl_EditText.f k t222 bt225.1 bt225.2.1 bt225.2.2).bind fun bt230 => ((laws_eqByteS.f k bt230.1 bt186.1).bind fun t234 => (if t234 = true then (if (bt230.2 != bt186.2) = true then (none) else ((laws_heldByteS.f k bt219.2 1).bind fun t235 => (if t235 < 0 then (none) else (if t235 = bt219.1 then (some true) else (none))))) else (none)))))) else (none))))) else (none)))))) else (none)))) else (none))))) else (none)))))))))))
theorem laws_FnExactEditText.mono : ∀ a0 a1 a2 a3 k, LeO (laws_FnExactEditText.f k a0 a1 a2 a3) (laws_FnExactEditText.f (k + 1) a0 a1 a2 a3) := by
 intro a0 a1 a2 a3 k
 unfold laws_FnExactEditText.f
 repeat' first
   | (with_reducible exact impl_EditText.mono _ _ _ _ _)
   | (with_reducible exact laws_eqByteS.mono _ _ _)
   | (with_reducible exact laws_eqEdit.mono _ _ _ _ _ _ _)
   | (with_reducible exact laws_heldByteS.mono _ _ _)
   | (with_reducible exact laws_markByteS.mono _ _ _)
   | (with_reducible exact laws_markEdit.mono _ _ _ _ _)
   | (with_reducible exact laws_toByteS.mono _ _)
   | (with_reducible exact laws_toEdit.mono _ _ _ _)
   | (with_reducible exact LeO.refl _)
   | (with_reducible exact LeO.none _)
   | (with_reducible refine LeO.ite ?_ ?_)
   | (with_reducible refine LeO.bind ?_ (fun _ => ?_))
   | exact impl_EditText.mono _ _ _ _ _
   | exact laws_eqByteS.mono _ _ _
   | exact laws_eqEdit.mono _ _ _ _ _ _ _
   | exact laws_heldByteS.mono _ _ _
   | exact laws_markByteS.mono _ _ _
   | exact laws_markEdit.mono _ _ _ _ _
   | exact laws_toByteS.mono _ _
   | exact laws_toEdit.mono _ _ _ _
   | exact LeO.none _
   | refine LeO.ite ?_ ?_
   | refine LeO.bind ?_ (fun _ => ?_)
def laws_FnExactEditText.T7 : Bool × List (List Nat × List Nat) := (true, [([], []), ([0], [0]), ([], []), ([2, 1], [2]), ([1, 3, 3], [1, 3]), ([4], [4]), ([5], [5]), ([5], [5]), ([6, 4, 0, 1, 2, 3, 4, 5, 6], [6]), ([7, 8, 0, 1, 2, 3, 4, 5, 6, 7, 8], [7])])
def laws_FnExactEditText.B7 : List Nat := [0, 1, 0, 7, 15, 31, 63, 63, 127, 511]
theorem laws_FnExactEditText.tab7 : rtab .any (opsOf Try.f7 7) = laws_FnExactEditText.T7 := by kernel_rfl
theorem laws_FnExactEditText.bits7 : waitsOk laws_FnExactEditText.T7.2 laws_FnExactEditText.B7 = true := by kernel_rfl
def laws_FnExactEditText.T30 : Bool × List (List Nat × List Nat) := (true, [([], []), ([0], [0]), ([], []), ([2, 1], [2]), ([1, 3, 3], [1, 3]), ([4], [4]), ([5], [5]), ([5], [5]), ([6, 4, 0, 1, 2, 3, 4, 5, 6], [6]), ([7, 8, 0, 1, 2, 3, 4, 5, 6, 7, 8], [7])])
def laws_FnExactEditText.B30 : List Nat := [0, 1, 0, 7, 15, 31, 63, 63, 127, 511]
theorem laws_FnExactEditText.tab30 : rtab .any (opsOf Try.f7 30) = laws_FnExactEditText.T30 := by kernel_rfl
theorem laws_FnExactEditText.bits30 : waitsOk laws_FnExactEditText.T30.2 laws_FnExactEditText.B30 = true := by kernel_rfl
set_option maxHeartbeats 8000000 in
set_option maxRecDepth 100000 in
theorem laws_FnExactEditText.calls (k : Nat) (A0 : Option Addr) (c0 : Nat) (l0 : List Int) (a1_0 : Int) (a1_1 : Int) (A1_2 : Option Addr) (c1_2 : Nat) (l1_2 : List Int) (r : Bool) (w : World) (hr0 : Kd.C (Kd.int .u8) w A0 l0.length l0) (hc0 : l0.length ≤ c0) (hr1_2 : Kd.C (Kd.int .u8) w A1_2 l1_2.length l1_2) (hc1_2 : l1_2.length ≤ c1_2) (h : laws_FnExactEditText.f k l0 a1_0 a1_1 l1_2 = some r) :
  Calls Try.prog 7 #[.slice A0 l0.length c0, .agg #[.int .i64 a1_0, .int .i64 a1_1, .slice A1_2 l1_2.length c1_2]] w fun e w' => e = .returned (.bool r) ∧ Below w.heap.size w w' := by
 have hu37 := Try.underlying37
 have hu40 := Try.underlying40
 have HR0 := Aside0.mk hr0
 have HC0 := Aside0.mk hc0
 clear hr0 hc0
 have HR1_2 := Aside0.mk hr1_2
 have HC1_2 := Aside0.mk hc1_2
 clear hr1_2 hc1_2
 have HB := Aside0.mk (Below.refl w.heap.size w)
 have H : (if (l0.length : Int) > 1048576 then (some true) else ((laws_szEdit.f a1_0 a1_1 l1_2 1048576).bind fun t177 => (if t177 < 0 then (some true) else ((laws_toByteS.f k l0).bind fun t178 => ((laws_toEdit.f k a1_0 a1_1 l1_2).bind fun bt181 => ((spec_EditText.f t178 bt181.1 bt181.2.1 bt181.2.2).bind fun bt186 => ((laws_toByteS.f k l0).bind fun t190 => ((laws_toEdit.f k a1_0 a1_1 l1_2).bind fun bt193 => ((impl_EditText.f k t190 bt193.1 bt193.2.1 bt193.2.2).bind fun bt199 => ((laws_eqByteS.f k bt199.1 bt186.1).bind fun t203 => (if t203 = true then (if (bt199.2 != bt186.2) = true then (none) else ((laws_toByteS.f k l0).bind fun t204 => ((laws_eqByteS.f k t190 t204).bind fun t207 => (if t207 = true then ((laws_toEdit.f k a1_0 a1_1 l1_2).bind fun bt208 => ((laws_eqEdit.f k bt193.1 bt193.2.1 bt193.2.2 bt208.1 bt208.2.1 bt208.2.2).bind fun t213 => (if t213 = true then ((laws_markByteS.f k t190 1).bind fun bt214 => ((laws_markEdit.f k bt193.1 bt193.2.1 bt193.2.2 bt214.1).bind fun bt216 => (if bt216.1 < 0 then (none) else ((laws_eqByteS.f k bt199.1 bt186.1).bind fun t218 => (if t218 = true then ((laws_markByteS.f k bt199.1 1).bind fun bt219 => ((laws_heldByteS.f k bt219.2 1).bind fun t221 => (if t221 < 0 then (none) else (if t221 = bt219.1 then ((laws_toByteS.f k l0).bind fun t222 => ((laws_toEdit.f k a1_0 a1_1 l1_2).bind fun bt225 => ((impl_EditText.f k t222 bt225.1 bt225.2.1 bt225.2.2).bind fun bt230 => ((laws_eqByteS.f k bt230.1 bt186.1).bind fun t234 => (if t234 = true then (if (bt230.2 != bt186.2) = true then (none) else ((laws_heldByteS.f k bt219.2 1).bind fun t235 => (if t235 < 0 then (none) else (if t235 = bt219.1 then (some true) else (none))))) else (none)))))) else (none))))) else (none)))))) else (none)))) else (none))))) else (none)))))))))))) = some r := h
 clear h
 by_cases c3 : (l0.length : Int) > 1048576
 ·rw [if_pos c3] at H
  have c3b0 : decide (1048576 < (l0.length : Int)) = true := decide_eq_true c3
  have c3b1 : decide (1048576 < l0.length) = true := decide_eq_true (by omega)
  clear c3
  obtain rfl := Option.some.inj H
  go_enter Try.func7, Try.ntmps7
  go_wp2_with (first | ((with_reducible refine gate_dst (N := 3) rfl ?_); refine box_event ?hg (N := 3) ?hd (cs := #[.int .i64 a1_0, .int .i64 a1_1, .slice A1_2 l1_2.length c1_2]) (t := 37) ?hr ?_; (case hd => rfl); (case hg => rfl); (case hr => first | (go_simp; done) | (go_simp; rfl)); intro gb176 hg w4 hbox hb; have BK176 := Aside0.mk (hbox); have GW176 := zge HB hg; have GE176 := zge HB hg; replace HB := zhs HB hb; clear hb hbox hg))
  go_ret
  exact ⟨by first | rfl | (simp [errW_none, errW_some] <;> rfl) | (simp [*, errW_none, errW_some] <;> rfl), by repeat (first | (with_reducible first | exact HB.out | apply below_alloc | apply pw_below_drewN | apply below_drew1 | refine below_set ?_ GE176.out) | exact HB.out)⟩
 ·rw [if_neg c3] at H
  have c3b0 : decide (1048576 < (l0.length : Int)) = false := decide_eq_false c3
  have c3b1 : decide (1048576 < l0.length) = false := decide_eq_false (by omega)
  clear c3
  replace H := Option.bind_eq_some_iff.mp H
  obtain ⟨t177, A50, H⟩ := H
  replace H : (if t177 < 0 then (some true) else ((laws_toByteS.f k l0).bind fun t178 => ((laws_toEdit.f k a1_0 a1_1 l1_2).bind fun bt181 => ((spec_EditText.f t178 bt181.1 bt181.2.1 bt181.2.2).bind fun bt186 => ((laws_toByteS.f k l0).bind fun t190 => ((laws_toEdit.f k a1_0 a1_1 l1_2).bind fun bt193 => ((impl_EditText.f k t190 bt193.1 bt193.2.1 bt193.2.2).bind fun bt199 => ((laws_eqByteS.f k bt199.1 bt186.1).bind fun t203 => (if t203 = true then (if (bt199.2 != bt186.2) = true then (none) else ((laws_toByteS.f k l0).bind fun t204 => ((laws_eqByteS.f k t190 t204).bind fun t207 => (if t207 = true then ((laws_toEdit.f k a1_0 a1_1 l1_2).bind fun bt208 => ((laws_eqEdit.f k bt193.1 bt193.2.1 bt193.2.2 bt208.1 bt208.2.1 bt208.2.2).bind fun t213 => (if t213 = true then ((laws_markByteS.f k t190 1).bind fun bt214 => ((laws_markEdit.f k bt193.1 bt193.2.1 bt193.2.2 bt214.1).bind fun bt216 => (if bt216.1 < 0 then (none) else ((laws_eqByteS.f k bt199.1 bt186.1).bind fun t218 => (if t218 = true then ((laws_markByteS.f k bt199.1 1).bind fun bt219 => ((laws_heldByteS.f k bt219.2 1).bind fun t221 => (if t221 < 0 then (none) else (if t221 = bt219.1 then ((laws_toByteS.f k l0).bind fun t222 => ((laws_toEdit.f k a1_0 a1_1 l1_2).bind fun bt225 => ((impl_EditText.f k t222 bt225.1 bt225.2.1 bt225.2.2).bind fun bt230 => ((laws_eqByteS.f k bt230.1 bt186.1).bind fun t234 => (if t234 = true then (if (bt230.2 != bt186.2) = true then (none) else ((laws_heldByteS.f k bt219.2 1).bind fun t235 => (if t235 < 0 then (none) else (if t235 = bt219.1 then (some true) else (none))))) else (none)))))) else (none))))) else (none)))))) else (none)))) else (none))))) else (none)))))))))) = some r := H
  have A5 := Aside0.mk A50
  clear A50
  by_cases c6 : t177 < 0
  ·rw [if_pos c6] at H
   have c6b0 : decide (t177 < 0) = true := decide_eq_true c6
   clear c6
   obtain rfl := Option.some.inj H
   go_enter Try.func7, Try.ntmps7
   go_wp2_with (first | ((with_reducible refine gate_dst (N := 3) rfl ?_); refine box_event ?hg (N := 3) ?hd (cs := #[.int .i64 a1_0, .int .i64 a1_1, .slice A1_2 l1_2.length c1_2]) (t := 37) ?hr ?_; (case hd => rfl); (case hg => rfl); (case hr => first | (go_simp; done) | (go_simp; rfl)); intro gb176 hg w7 hbox hb; have BK176 := Aside0.mk (hbox); have GW176 := zge HB hg; have GE176 := zge HB hg; replace HB := zhs HB hb; clear hb hbox hg; have hcz8_0 : w7.cell? ⟨gb176, 0, none⟩ = some (.int .i64 a1_0) := zc0 BK176 0 rfl; have hcz8_1 : w7.cell? ⟨gb176, 1, none⟩ = some (.int .i64 a1_1) := zc0 BK176 1 rfl; have hcz8_2 : w7.cell? ⟨gb176, 2, none⟩ = some (.slice A1_2 l1_2.length c1_2) := zc0 BK176 2 rfl; have hfz8_0 := blk_frozen BK176.out 0; have hfz8_1 := blk_frozen BK176.out 1; have hfz8_2 := blk_frozen BK176.out 2) | ((with_reducible refine gate_callee (f := 23) rfl ?_); refine goesL_ (some 22) rfl rfl Try.func23 (by kernel_rfl) rfl #[.agg #[.int .i64 a1_0, .int .i64 a1_1, .slice A1_2 l1_2.length c1_2], .int .i64 1048576] rfl (by (try simp only [List.map_toArray, List.map_cons, List.map_nil]); first | done | rfl | (simp only [List.length_drop, List.length_take]; rfl)) ?_; (with_reducible refine (laws_szEdit.calls a1_0 a1_1 _ _ l1_2 1048576 t177 _ ?side1 ?side2 A5.out).mono ?_); (case side1 => repeat (first | exact (Kd.C_below HR1_2.out HB.out) | (with_reducible refine Kd.C_alloc ?_ _) | (with_reducible refine Kd.C_drewN ?_ _) | (with_reducible refine Kd.C_drew ?_))); (case side2 => exact HC1_2.out); rintro e w9 ⟨rfl, hb⟩; refine ⟨_, rfl, ?_⟩; replace BK176 := zb0 BK176 hb; replace HB := zhs HB hb; (try clear hb); (try clear hb2); (try clear hk); (try clear hi)))
   go_ret
   exact ⟨by first | rfl | (simp [errW_none, errW_some] <;> rfl) | (simp [*, errW_none, errW_some] <;> rfl), by repeat (first | (with_reducible first | exact HB.out | apply below_alloc | apply pw_below_drewN | apply below_drew1 | refine below_set ?_ GE176.out) | exact HB.out)⟩
  ·rw [if_neg c6] at H
   have c6b0 : decide (t177 < 0) = false := decide_eq_false c6
   clear c6
   replace H := Option.bind_eq_some_iff.mp H
   obtain ⟨t178, A100, H⟩ := H
   replace H : ((laws_toEdit.f k a1_0 a1_1 l1_2).bind fun bt181 => ((spec_EditText.f t178 bt181.1 bt181.2.1 bt181.2.2).bind fun bt186 => ((laws_toByteS.f k l0).bind fun t190 => ((laws_toEdit.f k a1_0 a1_1 l1_2).bind fun bt193 => ((impl_EditText.f k t190 bt193.1 bt193.2.1 bt193.2.2).bind fun bt199 => ((laws_eqByteS.f k bt199.1 bt186.1).bind fun t203 => (if t203 = true then (if (bt199.2 != bt186.2) = true then (none) else ((laws_toByteS.f k l0).bind fun t204 => ((laws_eqByteS.f k t190 t204).bind fun t207 => (if t207 = true then ((laws_toEdit.f k a1_0 a1_1 l1_2).bind fun bt208 => ((laws_eqEdit.f k bt193.1 bt193.2.1 bt193.2.2 bt208.1 bt208.2.1 bt208.2.2).bind fun t213 => (if t213 = true then ((laws_markByteS.f k t190 1).bind fun bt214 => ((laws_markEdit.f k bt193.1 bt193.2.1 bt193.2.2 bt214.1).bind fun bt216 => (if bt216.1 < 0 then (none) else ((laws_eqByteS.f k bt199.1 bt186.1).bind fun t218 => (if t218 = true then ((laws_markByteS.f k bt199.1 1).bind fun bt219 => ((laws_heldByteS.f k bt219.2 1).bind fun t221 => (if t221 < 0 then (none) else (if t221 = bt219.1 then ((laws_toByteS.f k l0).bind fun t222 => ((laws_toEdit.f k a1_0 a1_1 l1_2).bind fun bt225 => ((impl_EditText.f k t222 bt225.1 bt225.2.1 bt225.2.2).bind fun bt230 => ((laws_eqByteS.f k bt230.1 bt186.1).bind fun t234 => (if t234 = true then (if (bt230.2 != bt186.2) = true then (none) else ((laws_heldByteS.f k bt219.2 1).bind fun t235 => (if t235 < 0 then (none) else (if t235 = bt219.1 then (some true) else (none))))) else (none)))))) else (none))))) else (none)))))) else (none)))) else (none))))) else (none)))))))) = some r := H
   have A10 := Aside0.mk A100
   clear A100
   replace H := Option.bind_eq_some_iff.mp H
   obtain ⟨⟨t181, t182, t183⟩, A110, H⟩ := H
   replace H : ((spec_EditText.f t178 t181 t182 t183).bind fun bt186 => ((laws_toByteS.f k l0).bind fun t190 => ((laws_toEdit.f k a1_0 a1_1 l1_2).bind fun bt193 => ((impl_EditText.f k t190 bt193.1 bt193.2.1 bt193.2.2).bind fun bt199 => ((laws_eqByteS.f k bt199.1 bt186.1).bind fun t203 => (if t203 = true then (if (bt199.2 != bt186.2) = true then (none) else ((laws_toByteS.f k l0).bind fun t204 => ((laws_eqByteS.f k t190 t204).bind fun t207 => (if t207 = true then ((laws_toEdit.f k a1_0 a1_1 l1_2).bind fun bt208 => ((laws_eqEdit.f k bt193.1 bt193.2.1 bt193.2.2 bt208.1 bt208.2.1 bt208.2.2).bind fun t213 => (if t213 = true then ((laws_markByteS.f k t190 1).bind fun bt214 => ((laws_markEdit.f k bt193.1 bt193.2.1 bt193.2.2 bt214.1).bind fun bt216 => (if bt216.1 < 0 then (none) else ((laws_eqByteS.f k bt199.1 bt186.1).bind fun t218 => (if t218 = true then ((laws_markByteS.f k bt199.1 1).bind fun bt219 => ((laws_heldByteS.f k bt219.2 1).bind fun t221 => (if t221 < 0 then (none) else (if t221 = bt219.1 then ((laws_toByteS.f k l0).bind fun t222 => ((laws_toEdit.f k a1_0 a1_1 l1_2).bind fun bt225 => ((impl_EditText.f k t222 bt225.1 bt225.2.1 bt225.2.2).bind fun bt230 => ((laws_eqByteS.f k bt230.1 bt186.1).bind fun t234 => (if t234 = true then (if (bt230.2 != bt186.2) = true then (none) else ((laws_heldByteS.f k bt219.2 1).bind fun t235 => (if t235 < 0 then (none) else (if t235 = bt219.1 then (some true) else (none))))) else (none)))))) else (none))))) else (none)))))) else (none)))) else (none))))) else (none))))))) = some r := H
   have A11 := Aside0.mk A110
   clear A110
   replace H := Option.bind_eq_some_iff.mp H
   obtain ⟨⟨t186, t189⟩, A120, H⟩ := H
   replace H : ((laws_toByteS.f k l0).bind fun t190 => ((laws_toEdit.f k a1_0 a1_1 l1_2).bind fun bt193 => ((impl_EditText.f k t190 bt193.1 bt193.2.1 bt193.2.2).bind fun bt199 => ((laws_eqByteS.f k bt199.1 t186).bind fun t203 => (if t203 = true then (if (bt199.2 != t189) = true then (none) else ((laws_toByteS.f k l0).bind fun t204 => ((laws_eqByteS.f k t190 t204).bind fun t207 => (if t207 = true then ((laws_toEdit.f k a1_0 a1_1 l1_2).bind fun bt208 => ((laws_eqEdit.f k bt193.1 bt193.2.1 bt193.2.2 bt208.1 bt208.2.1 bt208.2.2).bind fun t213 => (if t213 = true then ((laws_markByteS.f k t190 1).bind fun bt214 => ((laws_markEdit.f k bt193.1 bt193.2.1 bt193.2.2 bt214.1).bind fun bt216 => (if bt216.1 < 0 then (none) else ((laws_eqByteS.f k bt199.1 t186).bind fun t218 => (if t218 = true then ((laws_markByteS.f k bt199.1 1).bind fun bt219 => ((laws_heldByteS.f k bt219.2 1).bind fun t221 => (if t221 < 0 then (none) else (if t221 = bt219.1 then ((laws_toByteS.f k l0).bind fun t222 => ((laws_toEdit.f k a1_0 a1_1 l1_2).bind fun bt225 => ((impl_EditText.f k t222 bt225.1 bt225.2.1 bt225.2.2).bind fun bt230 => ((laws_eqByteS.f k bt230.1 t186).bind fun t234 => (if t234 = true then (if (bt230.2 != t189) = true then (none) else ((laws_heldByteS.f k bt219.2 1).bind fun t235 => (if t235 < 0 then (none) else (if t235 = bt219.1 then (some true) else (none))))) else (none)))))) else (none))))) else (none)))))) else (none)))) else (none))))) else (none)))))) = some r := H
   have A12 := Aside0.mk A120
   clear A120
   replace H := Option.bind_eq_some_iff.mp H
   obtain ⟨t190, A130, H⟩ := H
   replace H : ((laws_toEdit.f k a1_0 a1_1 l1_2).bind fun bt193 => ((impl_EditText.f k t190 bt193.1 bt193.2.1 bt193.2.2).bind fun bt199 => ((laws_eqByteS.f k bt199.1 t186).bind fun t203 => (if t203 = true then (if (bt199.2 != t189) = true then (none) else ((laws_toByteS.f k l0).bind fun t204 => ((laws_eqByteS.f k t190 t204).bind fun t207 => (if t207 = true then ((laws_toEdit.f k a1_0 a1_1 l1_2).bind fun bt208 => ((laws_eqEdit.f k bt193.1 bt193.2.1 bt193.2.2 bt208.1 bt208.2.1 bt208.2.2).bind fun t213 => (if t213 = true then ((laws_markByteS.f k t190 1).bind fun bt214 => ((laws_markEdit.f k bt193.1 bt193.2.1 bt193.2.2 bt214.1).bind fun bt216 => (if bt216.1 < 0 then (none) else ((laws_eqByteS.f k bt199.1 t186).bind fun t218 => (if t218 = true then ((laws_markByteS.f k bt199.1 1).bind fun bt219 => ((laws_heldByteS.f k bt219.2 1).bind fun t221 => (if t221 < 0 then (none) else (if t221 = bt219.1 then ((laws_toByteS.f k l0).bind fun t222 => ((laws_toEdit.f k a1_0 a1_1 l1_2).bind fun bt225 => ((impl_EditText.f k t222 bt225.1 bt225.2.1 bt225.2.2).bind fun bt230 => ((laws_eqByteS.f k bt230.1 t186).bind fun t234 => (if t234 = true then (if (bt230.2 != t189) = true then (none) else ((laws_heldByteS.f k bt219.2 1).bind fun t235 => (if t235 < 0 then (none) else (if t235 = bt219.1 then (some true) else (none))))) else (none)))))) else (none))))) else (none)))))) else (none)))) else (none))))) else (none))))) = some r := H
   have A13 := Aside0.mk A130
   clear A130
   replace H := Option.bind_eq_some_iff.mp H
   obtain ⟨⟨t193, t194, t195⟩, A140, H⟩ := H
   replace H : ((impl_EditText.f k t190 t193 t194 t195).bind fun bt199 => ((laws_eqByteS.f k bt199.1 t186).bind fun t203 => (if t203 = true then (if (bt199.2 != t189) = true then (none) else ((laws_toByteS.f k l0).bind fun t204 => ((laws_eqByteS.f k t190 t204).bind fun t207 => (if t207 = true then ((laws_toEdit.f k a1_0 a1_1 l1_2).bind fun bt208 => ((laws_eqEdit.f k t193 t194 t195 bt208.1 bt208.2.1 bt208.2.2).bind fun t213 => (if t213 = true then ((laws_markByteS.f k t190 1).bind fun bt214 => ((laws_markEdit.f k t193 t194 t195 bt214.1).bind fun bt216 => (if bt216.1 < 0 then (none) else ((laws_eqByteS.f k bt199.1 t186).bind fun t218 => (if t218 = true then ((laws_markByteS.f k bt199.1 1).bind fun bt219 => ((laws_heldByteS.f k bt219.2 1).bind fun t221 => (if t221 < 0 then (none) else (if t221 = bt219.1 then ((laws_toByteS.f k l0).bind fun t222 => ((laws_toEdit.f k a1_0 a1_1 l1_2).bind fun bt225 => ((impl_EditText.f k t222 bt225.1 bt225.2.1 bt225.2.2).bind fun bt230 => ((laws_eqByteS.f k bt230.1 t186).bind fun t234 => (if t234 = true then (if (bt230.2 != t189) = true then (none) else ((laws_heldByteS.f k bt219.2 1).bind fun t235 => (if t235 < 0 then (none) else (if t235 = bt219.1 then (some true) else (none))))) else (none)))))) else (none))))) else (none)))))) else (none)))) else (none))))) else (none)))) = some r := H
   have A14 := Aside0.mk A140
   clear A140
   replace H := Option.bind_eq_some_iff.mp H
   obtain ⟨⟨t199, t202⟩, A150, H⟩ := H
   replace H : ((laws_eqByteS.f k t199 t186).bind fun t203 => (if t203 = true then (if (t202 != t189) = true then (none) else ((laws_toByteS.f k l0).bind fun t204 => ((laws_eqByteS.f k t190 t204).bind fun t207 => (if t207 = true then ((laws_toEdit.f k a1_0 a1_1 l1_2).bind fun bt208 => ((laws_eqEdit.f k t193 t194 t195 bt208.1 bt208.2.1 bt208.2.2).bind fun t213 => (if t213 = true then ((laws_markByteS.f k t190 1).bind fun bt214 => ((laws_markEdit.f k t193 t194 t195 bt214.1).bind fun bt216 => (if bt216.1 < 0 then (none) else ((laws_eqByteS.f k t199 t186).bind fun t218 => (if t218 = true then ((laws_markByteS.f k t199 1).bind fun bt219 => ((laws_heldByteS.f k bt219.2 1).bind fun t221 => (if t221 < 0 then (none) else (if t221 = bt219.1 then ((laws_toByteS.f k l0).bind fun t222 => ((laws_toEdit.f k a1_0 a1_1 l1_2).bind fun bt225 => ((impl_EditText.f k t222 bt225.1 bt225.2.1 bt225.2.2).bind fun bt230 => ((laws_eqByteS.f k bt230.1 t186).bind fun t234 => (if t234 = true then (if (bt230.2 != t189) = true then (none) else ((laws_heldByteS.f k bt219.2 1).bind fun t235 => (if t235 < 0 then (none) else (if t235 = bt219.1 then (some true) else (none))))) else (none)))))) else (none))))) else (none)))))) else (none)))) else (none))))) else (none))) = some r := H
   have A15 := Aside0.mk A150
   clear A150
   replace H := Option.bind_eq_some_iff.mp H
   obtain ⟨t203, A160, H⟩ := H
   replace H : (if t203 = true then (if (t202 != t189) = true then (none) else ((laws_toByteS.f k l0).bind fun t204 => ((laws_eqByteS.f k t190 t204).bind fun t207 => (if t207 = true then ((laws_toEdit.f k a1_0 a1_1 l1_2).bind fun bt208 => ((laws_eqEdit.f k t193 t194 t195 bt208.1 bt208.2.1 bt208.2.2).bind fun t213 => (if t213 = true then ((laws_markByteS.f k t190 1).bind fun bt214 => ((laws_markEdit.f k t193 t194 t195 bt214.1).bind fun bt216 => (if bt216.1 < 0 then (none) else ((laws_eqByteS.f k t199 t186).bind fun t218 => (if t218 = true then ((laws_markByteS.f k t199 1).bind fun bt219 => ((laws_heldByteS.f k bt219.2 1).bind fun t221 => (if t221 < 0 then (none) else (if t221 = bt219.1 then ((laws_toByteS.f k l0).bind fun t222 => ((laws_toEdit.f k a1_0 a1_1 l1_2).bind fun bt225 => ((impl_EditText.f k t222 bt225.1 bt225.2.1 bt225.2.2).bind fun bt230 => ((laws_eqByteS.f k bt230.1 t186).bind fun t234 => (if t234 = true then (if (bt230.2 != t189) = true then (none) else ((laws_heldByteS.f k bt219.2 1).bind fun t235 => (if t235 < 0 then (none) else (if t235 = bt219.1 then (some true) else (none))))) else (none)))))) else (none))))) else (none)))))) else (none)))) else (none))))) else (none)) = some r := H
   have A16 := Aside0.mk A160
   clear A160
   by_cases c17 : t203 = true
   ·subst c17
    have H1 : (if (t202 != t189) = true then (none) else ((laws_toByteS.f k l0).bind fun t204 => ((laws_eqByteS.f k t190 t204).bind fun t207 => (if t207 = true then ((laws_toEdit.f k a1_0 a1_1 l1_2).bind fun bt208 => ((laws_eqEdit.f k t193 t194 t195 bt208.1 bt208.2.1 bt208.2.2).bind fun t213 => (if t213 = true then ((laws_markByteS.f k t190 1).bind fun bt214 => ((laws_markEdit.f k t193 t194 t195 bt214.1).bind fun bt216 => (if bt216.1 < 0 then (none) else ((laws_eqByteS.f k t199 t186).bind fun t218 => (if t218 = true then ((laws_markByteS.f k t199 1).bind fun bt219 => ((laws_heldByteS.f k bt219.2 1).bind fun t221 => (if t221 < 0 then (none) else (if t221 = bt219.1 then ((laws_toByteS.f k l0).bind fun t222 => ((laws_toEdit.f k a1_0 a1_1 l1_2).bind fun bt225 => ((impl_EditText.f k t222 bt225.1 bt225.2.1 bt225.2.2).bind fun bt230 => ((laws_eqByteS.f k bt230.1 t186).bind fun t234 => (if t234 = true then (if (bt230.2 != t189) = true then (none) else ((laws_heldByteS.f k bt219.2 1).bind fun t235 => (if t235 < 0 then (none) else (if t235 = bt219.1 then (some true) else (none))))) else (none)))))) else (none))))) else (none)))))) else (none)))) else (none))))) = some r := by rw [if_pos rfl] at H; exact H
    clear H
    have H := H1
    clear H1
    by_cases c18 : (t202 != t189) = true
    ·rw [if_pos c18] at H
     exact absurd H (by simp)
    ·rw [if_neg c18] at H
     have c18b0 : (t202 != t189) = false := by simpa using c18
     (try (have c18b1 : decide (t202 = t189) = true := by simpa using c18))
     (try (have c18b2 : (t202 == t189) = true := by simpa using c18))
     clear c18
     replace H := Option.bind_eq_some_iff.mp H
     obtain ⟨t204, A190, H⟩ := H
     replace H : ((laws_eqByteS.f k t190 t204).bind fun t207 => (if t207 = true then ((laws_toEdit.f k a1_0 a1_1 l1_2).bind fun bt208 => ((laws_eqEdit.f k t193 t194 t195 bt208.1 bt208.2.1 bt208.2.2).bind fun t213 => (if t213 = true then ((laws_markByteS.f k t190 1).bind fun bt214 => ((laws_markEdit.f k t193 t194 t195 bt214.1).bind fun bt216 => (if bt216.1 < 0 then (none) else ((laws_eqByteS.f k t199 t186).bind fun t218 => (if t218 = true then ((laws_markByteS.f k t199 1).bind fun bt219 => ((laws_heldByteS.f k bt219.2 1).bind fun t221 => (if t221 < 0 then (none) else (if t221 = bt219.1 then ((laws_toByteS.f k l0).bind fun t222 => ((laws_toEdit.f k a1_0 a1_1 l1_2).bind fun bt225 => ((impl_EditText.f k t222 bt225.1 bt225.2.1 bt225.2.2).bind fun bt230 => ((laws_eqByteS.f k bt230.1 t186).bind fun t234 => (if t234 = true then (if (bt230.2 != t189) = true then (none) else ((laws_heldByteS.f k bt219.2 1).bind fun t235 => (if t235 < 0 then (none) else (if t235 = bt219.1 then (some true) else (none))))) else (none)))))) else (none))))) else (none)))))) else (none)))) else (none))) = some r := H
     have A19 := Aside0.mk A190
     clear A190
     replace H := Option.bind_eq_some_iff.mp H
     obtain ⟨t207, A200, H⟩ := H
     replace H : (if t207 = true then ((laws_toEdit.f k a1_0 a1_1 l1_2).bind fun bt208 => ((laws_eqEdit.f k t193 t194 t195 bt208.1 bt208.2.1 bt208.2.2).bind fun t213 => (if t213 = true then ((laws_markByteS.f k t190 1).bind fun bt214 => ((laws_markEdit.f k t193 t194 t195 bt214.1).bind fun bt216 => (if bt216.1 < 0 then (none) else ((laws_eqByteS.f k t199 t186).bind fun t218 => (if t218 = true then ((laws_markByteS.f k t199 1).bind fun bt219 => ((laws_heldByteS.f k bt219.2 1).bind fun t221 => (if t221 < 0 then (none) else (if t221 = bt219.1 then ((laws_toByteS.f k l0).bind fun t222 => ((laws_toEdit.f k a1_0 a1_1 l1_2).bind fun bt225 => ((impl_EditText.f k t222 bt225.1 bt225.2.1 bt225.2.2).bind fun bt230 => ((laws_eqByteS.f k bt230.1 t186).bind fun t234 => (if t234 = true then (if (bt230.2 != t189) = true then (none) else ((laws_heldByteS.f k bt219.2 1).bind fun t235 => (if t235 < 0 then (none) else (if t235 = bt219.1 then (some true) else (none))))) else (none)))))) else (none))))) else (none)))))) else (none)))) else (none)) = some r := H
     have A20 := Aside0.mk A200
     clear A200
     by_cases c21 : t207 = true
     ·subst c21
      have H1 : ((laws_toEdit.f k a1_0 a1_1 l1_2).bind fun bt208 => ((laws_eqEdit.f k t193 t194 t195 bt208.1 bt208.2.1 bt208.2.2).bind fun t213 => (if t213 = true then ((laws_markByteS.f k t190 1).bind fun bt214 => ((laws_markEdit.f k t193 t194 t195 bt214.1).bind fun bt216 => (if bt216.1 < 0 then (none) else ((laws_eqByteS.f k t199 t186).bind fun t218 => (if t218 = true then ((laws_markByteS.f k t199 1).bind fun bt219 => ((laws_heldByteS.f k bt219.2 1).bind fun t221 => (if t221 < 0 then (none) else (if t221 = bt219.1 then ((laws_toByteS.f k l0).bind fun t222 => ((laws_toEdit.f k a1_0 a1_1 l1_2).bind fun bt225 => ((impl_EditText.f k t222 bt225.1 bt225.2.1 bt225.2.2).bind fun bt230 => ((laws_eqByteS.f k bt230.1 t186).bind fun t234 => (if t234 = true then (if (bt230.2 != t189) = true then (none) else ((laws_heldByteS.f k bt219.2 1).bind fun t235 => (if t235 < 0 then (none) else (if t235 = bt219.1 then (some true) else (none))))) else (none)))))) else (none))))) else (none)))))) else (none)))) = some r := by rw [if_pos rfl] at H; exact H
      clear H
      have H := H1
      clear H1
      replace H := Option.bind_eq_some_iff.mp H
      obtain ⟨⟨t208, t209, t210⟩, A220, H⟩ := H
      replace H : ((laws_eqEdit.f k t193 t194 t195 t208 t209 t210).bind fun t213 => (if t213 = true then ((laws_markByteS.f k t190 1).bind fun bt214 => ((laws_markEdit.f k t193 t194 t195 bt214.1).bind fun bt216 => (if bt216.1 < 0 then (none) else ((laws_eqByteS.f k t199 t186).bind fun t218 => (if t218 = true then ((laws_markByteS.f k t199 1).bind fun bt219 => ((laws_heldByteS.f k bt219.2 1).bind fun t221 => (if t221 < 0 then (none) else (if t221 = bt219.1 then ((laws_toByteS.f k l0).bind fun t222 => ((laws_toEdit.f k a1_0 a1_1 l1_2).bind fun bt225 => ((impl_EditText.f k t222 bt225.1 bt225.2.1 bt225.2.2).bind fun bt230 => ((laws_eqByteS.f k bt230.1 t186).bind fun t234 => (if t234 = true then (if (bt230.2 != t189) = true then (none) else ((laws_heldByteS.f k bt219.2 1).bind fun t235 => (if t235 < 0 then (none) else (if t235 = bt219.1 then (some true) else (none))))) else (none)))))) else (none))))) else (none)))))) else (none))) = some r := H
      have A22 := Aside0.mk A220
      clear A220
      replace H := Option.bind_eq_some_iff.mp H
      obtain ⟨t213, A230, H⟩ := H
      replace H : (if t213 = true then ((laws_markByteS.f k t190 1).bind fun bt214 => ((laws_markEdit.f k t193 t194 t195 bt214.1).bind fun bt216 => (if bt216.1 < 0 then (none) else ((laws_eqByteS.f k t199 t186).bind fun t218 => (if t218 = true then ((laws_markByteS.f k t199 1).bind fun bt219 => ((laws_heldByteS.f k bt219.2 1).bind fun t221 => (if t221 < 0 then (none) else (if t221 = bt219.1 then ((laws_toByteS.f k l0).bind fun t222 => ((laws_toEdit.f k a1_0 a1_1 l1_2).bind fun bt225 => ((impl_EditText.f k t222 bt225.1 bt225.2.1 bt225.2.2).bind fun bt230 => ((laws_eqByteS.f k bt230.1 t186).bind fun t234 => (if t234 = true then (if (bt230.2 != t189) = true then (none) else ((laws_heldByteS.f k bt219.2 1).bind fun t235 => (if t235 < 0 then (none) else (if t235 = bt219.1 then (some true) else (none))))) else (none)))))) else (none))))) else (none)))))) else (none)) = some r := H
      have A23 := Aside0.mk A230
      clear A230
      by_cases c24 : t213 = true
      ·subst c24
       have H1 : ((laws_markByteS.f k t190 1).bind fun bt214 => ((laws_markEdit.f k t193 t194 t195 bt214.1).bind fun bt216 => (if bt216.1 < 0 then (none) else ((laws_eqByteS.f k t199 t186).bind fun t218 => (if t218 = true then ((laws_markByteS.f k t199 1).bind fun bt219 => ((laws_heldByteS.f k bt219.2 1).bind fun t221 => (if t221 < 0 then (none) else (if t221 = bt219.1 then ((laws_toByteS.f k l0).bind fun t222 => ((laws_toEdit.f k a1_0 a1_1 l1_2).bind fun bt225 => ((impl_EditText.f k t222 bt225.1 bt225.2.1 bt225.2.2).bind fun bt230 => ((laws_eqByteS.f k bt230.1 t186).bind fun t234 => (if t234 = true then (if (bt230.2 != t189) = true then (none) else ((laws_heldByteS.f k bt219.2 1).bind fun t235 => (if t235 < 0 then (none) else (if t235 = bt219.1 then (some true) else (none))))) else (none)))))) else (none))))) else (none)))))) = some r := by rw [if_pos rfl] at H; exact H
       clear H
       have H := H1
       clear H1
       replace H := Option.bind_eq_some_iff.mp H
       obtain ⟨⟨t214, t215⟩, A250, H⟩ := H
       replace H : ((laws_markEdit.f k t193 t194 t195 t214).bind fun bt216 => (if bt216.1 < 0 then (none) else ((laws_eqByteS.f k t199 t186).bind fun t218 => (if t218 = true then ((laws_markByteS.f k t199 1).bind fun bt219 => ((laws_heldByteS.f k bt219.2 1).bind fun t221 => (if t221 < 0 then (none) else (if t221 = bt219.1 then ((laws_toByteS.f k l0).bind fun t222 => ((laws_toEdit.f k a1_0 a1_1 l1_2).bind fun bt225 => ((impl_EditText.f k t222 bt225.1 bt225.2.1 bt225.2.2).bind fun bt230 => ((laws_eqByteS.f k bt230.1 t186).bind fun t234 => (if t234 = true then (if (bt230.2 != t189) = true then (none) else ((laws_heldByteS.f k bt219.2 1).bind fun t235 => (if t235 < 0 then (none) else (if t235 = bt219.1 then (some true) else (none))))) else (none)))))) else (none))))) else (none))))) = some r := H
       have A25 := Aside0.mk A250
       clear A250
       replace H := Option.bind_eq_some_iff.mp H
       obtain ⟨⟨t216, t217⟩, A260, H⟩ := H
       replace H : (if t216 < 0 then (none) else ((laws_eqByteS.f k t199 t186).bind fun t218 => (if t218 = true then ((laws_markByteS.f k t199 1).bind fun bt219 => ((laws_heldByteS.f k bt219.2 1).bind fun t221 => (if t221 < 0 then (none) else (if t221 = bt219.1 then ((laws_toByteS.f k l0).bind fun t222 => ((laws_toEdit.f k a1_0 a1_1 l1_2).bind fun bt225 => ((impl_EditText.f k t222 bt225.1 bt225.2.1 bt225.2.2).bind fun bt230 => ((laws_eqByteS.f k bt230.1 t186).bind fun t234 => (if t234 = true then (if (bt230.2 != t189) = true then (none) else ((laws_heldByteS.f k bt219.2 1).bind fun t235 => (if t235 < 0 then (none) else (if t235 = bt219.1 then (some true) else (none))))) else (none)))))) else (none))))) else (none)))) = some r := H
       have A26 := Aside0.mk A260
       clear A260
       by_cases c27 : t216 < 0
       ·rw [if_pos c27] at H
        exact absurd H (by simp)
       ·rw [if_neg c27] at H
        have c27b0 : decide (t216 < 0) = false := decide_eq_false c27
        clear c27
        replace H := Option.bind_eq_some_iff.mp H
        obtain ⟨t218, A280, H⟩ := H
        replace H : (if t218 = true then ((laws_markByteS.f k t199 1).bind fun bt219 => ((laws_heldByteS.f k bt219.2 1).bind fun t221 => (if t221 < 0 then (none) else (if t221 = bt219.1 then ((laws_toByteS.f k l0).bind fun t222 => ((laws_toEdit.f k a1_0 a1_1 l1_2).bind fun bt225 => ((impl_EditText.f k t222 bt225.1 bt225.2.1 bt225.2.2).bind fun bt230 => ((laws_eqByteS.f k bt230.1 t186).bind fun t234 => (if t234 = true then (if (bt230.2 != t189) = true then (none) else ((laws_heldByteS.f k bt219.2 1).bind fun t235 => (if t235 < 0 then (none) else (if t235 = bt219.1 then (some true) else (none))))) else (none)))))) else (none))))) else (none)) = some r := H
        have A28 := Aside0.mk A280
        clear A280
        by_cases c29 : t218 = true
        ·subst c29
         have H1 : ((laws_markByteS.f k t199 1).bind fun bt219 => ((laws_heldByteS.f k bt219.2 1).bind fun t221 => (if t221 < 0 then (none) else (if t221 = bt219.1 then ((laws_toByteS.f k l0).bind fun t222 => ((laws_toEdit.f k a1_0 a1_1 l1_2).bind fun bt225 => ((impl_EditText.f k t222 bt225.1 bt225.2.1 bt225.2.2).bind fun bt230 => ((laws_eqByteS.f k bt230.1 t186).bind fun t234 => (if t234 = true then (if (bt230.2 != t189) = true then (none) else ((laws_heldByteS.f k bt219.2 1).bind fun t235 => (if t235 < 0 then (none) else (if t235 = bt219.1 then (some true) else (none))))) else (none)))))) else (none))))) = some r := by rw [if_pos rfl] at H; exact H
         clear H
         have H := H1
         clear H1
         replace H := Option.bind_eq_some_iff.mp H
         obtain ⟨⟨t219, t220⟩, A300, H⟩ := H
         replace H : ((laws_heldByteS.f k t220 1).bind fun t221 => (if t221 < 0 then (none) else (if t221 = t219 then ((laws_toByteS.f k l0).bind fun t222 => ((laws_toEdit.f k a1_0 a1_1 l1_2).bind fun bt225 => ((impl_EditText.f k t222 bt225.1 bt225.2.1 bt225.2.2).bind fun bt230 => ((laws_eqByteS.f k bt230.1 t186).bind fun t234 => (if t234 = true then (if (bt230.2 != t189) = true then (none) else ((laws_heldByteS.f k t220 1).bind fun t235 => (if t235 < 0 then (none) else (if t235 = t219 then (some true) else (none))))) else (none)))))) else (none)))) = some r := H
         have A30 := Aside0.mk A300
         clear A300
         replace H := Option.bind_eq_some_iff.mp H
         obtain ⟨t221, A310, H⟩ := H
         replace H : (if t221 < 0 then (none) else (if t221 = t219 then ((laws_toByteS.f k l0).bind fun t222 => ((laws_toEdit.f k a1_0 a1_1 l1_2).bind fun bt225 => ((impl_EditText.f k t222 bt225.1 bt225.2.1 bt225.2.2).bind fun bt230 => ((laws_eqByteS.f k bt230.1 t186).bind fun t234 => (if t234 = true then (if (bt230.2 != t189) = true then (none) else ((laws_heldByteS.f k t220 1).bind fun t235 => (if t235 < 0 then (none) else (if t235 = t219 then (some true) else (none))))) else (none)))))) else (none))) = some r := H
         have A31 := Aside0.mk A310
         clear A310
         by_cases c32 : t221 < 0
         ·rw [if_pos c32] at H
          exact absurd H (by simp)
         ·rw [if_neg c32] at H
          have c32b0 : decide (t221 < 0) = false := decide_eq_false c32
          clear c32
          by_cases c33 : t221 = t219
          ·rw [if_pos c33] at H
           have c33b0 : (t221 == t219) = true := beq_iff_eq.mpr c33
           have c33b1 : (t221 != t219) = false := bne_eq_false_iff_eq.mpr c33
           clear c33
           replace H := Option.bind_eq_some_iff.mp H
           obtain ⟨t222, A340, H⟩ := H
           replace H : ((laws_toEdit.f k a1_0 a1_1 l1_2).bind fun bt225 => ((impl_EditText.f k t222 bt225.1 bt225.2.1 bt225.2.2).bind fun bt230 => ((laws_eqByteS.f k bt230.1 t186).bind fun t234 => (if t234 = true then (if (bt230.2 != t189) = true then (none) else ((laws_heldByteS.f k t220 1).bind fun t235 => (if t235 < 0 then (none) else (if t235 = t219 then (some true) else (none))))) else (none))))) = some r := H
           have A34 := Aside0.mk A340
           clear A340
           replace H := Option.bind_eq_some_iff.mp H
           obtain ⟨⟨t225, t226, t227⟩, A350, H⟩ := H
           replace H : ((impl_EditText.f k t222 t225 t226 t227).bind fun bt230 => ((laws_eqByteS.f k bt230.1 t186).bind fun t234 => (if t234 = true then (if (bt230.2 != t189) = true then (none) else ((laws_heldByteS.f k t220 1).bind fun t235 => (if t235 < 0 then (none) else (if t235 = t219 then (some true) else (none))))) else (none)))) = some r := H
           have A35 := Aside0.mk A350
           clear A350
           replace H := Option.bind_eq_some_iff.mp H
           obtain ⟨⟨t230, t233⟩, A360, H⟩ := H
           replace H : ((laws_eqByteS.f k t230 t186).bind fun t234 => (if t234 = true then (if (t233 != t189) = true then (none) else ((laws_heldByteS.f k t220 1).bind fun t235 => (if t235 < 0 then (none) else (if t235 = t219 then (some true) else (none))))) else (none))) = some r := H
           have A36 := Aside0.mk A360
           clear A360
           replace H := Option.bind_eq_some_iff.mp H
           obtain ⟨t234, A370, H⟩ := H
           replace H : (if t234 = true then (if (t233 != t189) = true then (none) else ((laws_heldByteS.f k t220 1).bind fun t235 => (if t235 < 0 then (none) else (if t235 = t219 then (some true) else (none))))) else (none)) = some r := H
           have A37 := Aside0.mk A370
           clear A370
           by_cases c38 : t234 = true
           ·subst c38
            have H1 : (if (t233 != t189) = true then (none) else ((laws_heldByteS.f k t220 1).bind fun t235 => (if t235 < 0 then (none) else (if t235 = t219 then (some true) else (none))))) = some r := by rw [if_pos rfl] at H; exact H
            clear H
            have H := H1
            clear H1
            by_cases c39 : (t233 != t189) = true
            ·rw [if_pos c39] at H
             exact absurd H (by simp)
            ·rw [if_neg c39] at H
             have c39b0 : (t233 != t189) = false := by simpa using c39
             (try (have c39b1 : decide (t233 = t189) = true := by simpa using c39))
             (try (have c39b2 : (t233 == t189) = true := by simpa using c39))
             clear c39
             replace H := Option.bind_eq_some_iff.mp H
             obtain ⟨t235, A400, H⟩ := H
             replace H : (if t235 < 0 then (none) else (if t235 = t219 then (some true) else (none))) = some r := H
             have A40 := Aside0.mk A400
             clear A400
             by_cases c41 : t235 < 0
             ·rw [if_pos c41] at H
              exact absurd H (by simp)
             ·rw [if_neg c41] at H
              have c41b0 : decide (t235 < 0) = false := decide_eq_false c41
              clear c41
              by_cases c42 : t235 = t219
              ·rw [if_pos c42] at H
               have c42b0 : (t235 == t219) = true := beq_iff_eq.mpr c42
               have c42b1 : (t235 != t219) = false := bne_eq_false_iff_eq.mpr c42
               clear c42
               obtain rfl := Option.some.inj H
               go_enter Try.func7, Try.ntmps7
               try go_wp2_with (first | ((with_reducible refine gate_dst (N := 3) rfl ?_); refine box_event ?hg (N := 3) ?hd (cs := #[.int .i64 a1_0, .int .i64 a1_1, .slice A1_2 l1_2.length c1_2]) (t := 37) ?hr ?_; (case hd => rfl); (case hg => rfl); (case hr => first | (go_simp; done) | (go_simp; rfl)); intro gb176 hg w43 hbox hb; have BK176 := Aside0.mk (hbox); have GW176 := zge HB hg; have GE176 := zge HB hg; replace HB := zhs HB hb; clear hb hbox hg; have hcz44_0 : w43.cell? ⟨gb176, 0, none⟩ = some (.int .i64 a1_0) := zc0 BK176 0 rfl; have hcz44_1 : w43.cell? ⟨gb176, 1, none⟩ = some (.int .i64 a1_1) := zc0 BK176 1 rfl; have hcz44_2 : w43.cell? ⟨gb176, 2, none⟩ = some (.slice A1_2 l1_2.length c1_2) := zc0 BK176 2 rfl; have hfz44_0 := blk_frozen BK176.out 0; have hfz44_1 := blk_frozen BK176.out 1; have hfz44_2 := blk_frozen BK176.out 2) | ((with_reducible refine gate_callee (f := 23) rfl ?_); refine goesL_ (some 22) rfl rfl Try.func23 (by kernel_rfl) rfl #[.agg #[.int .i64 a1_0, .int .i64 a1_1, .slice A1_2 l1_2.length c1_2], .int .i64 1048576] rfl (by (try simp only [List.map_toArray, List.map_cons, List.map_nil]); first | done | rfl | (simp only [List.length_drop, List.length_take]; rfl)) ?_; (with_reducible refine (laws_szEdit.calls a1_0 a1_1 _ _ l1_2 1048576 t177 _ ?side1 ?side2 A5.out).mono ?_); (case side1 => repeat (first | exact (Kd.C_below HR1_2.out HB.out) | (with_reducible refine Kd.C_alloc ?_ _) | (with_reducible refine Kd.C_drewN ?_ _) | (with_reducible refine Kd.C_drew ?_))); (case side2 => exact HC1_2.out); rintro e w45 ⟨rfl, hb⟩; refine ⟨_, rfl, ?_⟩; replace BK176 := zb0 BK176 hb; replace HB := zhs HB hb; (try clear hb); (try clear hb2); (try clear hk); (try clear hi)))
               replace BK176 := Aside0.mk (blk_drew BK176.out)
               replace HB := Aside0.mk (below_drew1 HB.out)
               refine start_ (n := 10) (S := fun w' => w'.cell? ⟨gb176, 0, none⟩ = some (.int .i64 a1_0) ∧ w'.cell? ⟨gb176, 1, none⟩ = some (.int .i64 a1_1) ∧ w'.cell? ⟨gb176, 2, none⟩ = some (.slice A1_2 l1_2.length c1_2)) (ds := []) #[false, false, false, false, false, false, false, false, false, false] (by kernel_rfl) rfl rfl ⟨zc0 BK176 0 rfl, zc0 BK176 1 rfl, zc0 BK176 2 rfl⟩ (fun hHeld => ?_); refine with_tabW laws_FnExactEditText.tab7 laws_FnExactEditText.bits7 (fun HT_ HW_ => ?_)
               generalize w45.drew = w46 at BK176 HB hHeld ⊢
               refine pure_ (i := 0) (N := some 26) (v := ?_) (a' := ?_) #[true, false, false, false, false, false, false, false, false, false] rfl rfl (any_of HT_.out (by kernel_rfl)) (fun _ _ _ h => h) (Or.inl ⟨by rfl, ?_⟩) ?_ ?_
               rotate_left
               ·intro w'
                go_simp
                with_reducible rfl
               rotate_left
               ·simp only [Act.put, zp1, zp2, zp3, i64_w, i32_w]
                rfl
               refine take_ (i := 2) (N := some 28) (v := ?_) (a' := ?_) #[true, false, true, false, false, false, false, false, false, false] rfl rfl (take_ofW HT_.out HW_.out (by kernel_rfl)) (fun _ _ _ h => h) (Or.inl ⟨by rfl, ?_⟩) hHeld ?_ ?_
               rotate_left
               ·rintro w' ⟨s0, s1, s2⟩
                go_simp
                with_reducible rfl
               rotate_left
               ·simp only [Act.put, zp1, zp2, zp3, i64_w, i32_w]
                rfl
               refine one_ (i := 1) (N := some 27) #[true, true, true, false, false, false, false, false, false, false] rfl rfl (one_of HT_.out (by kernel_rfl)) (by decide) (fun K hK => ?_)
               refine goes_ Try.func18 (by kernel_rfl) rfl #[.slice A0 l0.length c0] (by rfl) rfl rfl (by (try simp only [List.map_toArray, List.map_cons, List.map_nil]); first | done | rfl | (simp only [List.length_drop, List.length_take]; rfl)) ?_
               with_reducible refine (laws_toByteS.calls k _ _ l0 t178 _ ?side1 ?side2 A10.out).mono ?_
               (case side1 => repeat (first | exact (Kd.C_below HR0.out HB.out) | (with_reducible refine Kd.C_alloc ?_ _) | (with_reducible refine Kd.C_drewN ?_ _) | (with_reducible refine Kd.C_drew ?_)))
               (case side2 => exact HC0.out)
               rintro e w47 ⟨v179, rfl, ho0, hb⟩
               refine ⟨_, rfl, ?_⟩
               have HO180 := Aside0.mk (Kd.R_lower ho0 (below_size (zh0 HB)))
               replace BK176 := zb0 BK176 hb
               replace HB := zhs HB hb
               (try clear hb)
               (try clear hb2)
               (try clear hk)
               (try clear hi)
               (try clear ho0)
               refine hK.out _ _ ⟨zc0 BK176 0 rfl, zc0 BK176 1 rfl, zc0 BK176 2 rfl⟩ (fun hHeld => ?_)
               clear hK K
               refine norm_ (a' := ?_) ?_ ?_
               rotate_left
               ·show Act.put _ (some 27) _ = _
                simp only [Act.put, zp1, zp2, zp3, i64_w, i32_w]
                rfl
               refine one_ (i := 3) (N := some 29) #[true, true, true, true, false, false, false, false, false, false] rfl rfl (one_of HT_.out (by kernel_rfl)) (by decide) (fun K hK => ?_)
               refine goes_ Try.func25 (by kernel_rfl) rfl #[.agg #[.int .i64 a1_0, .int .i64 a1_1, .slice A1_2 l1_2.length c1_2]] (by rfl) rfl rfl (by (try simp only [List.map_toArray, List.map_cons, List.map_nil]); first | done | rfl | (simp only [List.length_drop, List.length_take]; rfl)) ?_
               with_reducible refine (laws_toEdit.calls k a1_0 a1_1 _ _ l1_2 t181 t182 t183 _ ?side1 ?side2 A11.out).mono ?_
               (case side1 => repeat (first | exact (Kd.C_below HR1_2.out HB.out) | (with_reducible refine Kd.C_alloc ?_ _) | (with_reducible refine Kd.C_drewN ?_ _) | (with_reducible refine Kd.C_drew ?_)))
               (case side2 => exact HC1_2.out)
               rintro e w48 ⟨v184, rfl, ho0, hb⟩
               refine ⟨_, rfl, ?_⟩
               have HO185 := Aside0.mk (Kd.R_lower (Kd.R_new' ho0 (Kd.R_lt (zr0 HO180))) (below_size (zh0 HB)))
               replace HO180 := Aside0.mk (Kd.R_elder' (zr0 HO180) (Kd.R_base ho0) hb)
               replace BK176 := zb0 BK176 hb
               replace HB := zhs HB hb
               (try clear hb)
               (try clear hb2)
               (try clear hk)
               (try clear hi)
               (try clear ho0)
               obtain ⟨Ao49, co49, eo49⟩ := Kd.R_slice HO180.out
               (first | subst eo49 | (injection eo49 with f1_ f2_ f3_; have f4_ := f1_.symm; have f5_ := f3_.symm; clear f1_ f2_ f3_; subst f4_; subst f5_))
               obtain ⟨Ao50, co50, eo50⟩ := Kd.R_slice HO185.out
               (first | subst eo50 | (injection eo50 with f1_ f2_ f3_; have f4_ := f1_.symm; have f5_ := f3_.symm; clear f1_ f2_ f3_; subst f4_; subst f5_))
               refine hK.out _ _ ⟨zc0 BK176 0 rfl, zc0 BK176 1 rfl, zc0 BK176 2 rfl⟩ (fun hHeld => ?_)
               clear hK K
               refine norm_ (a' := ?_) ?_ ?_
               rotate_left
               ·show Act.put _ (some 29) _ = _
                simp only [Act.put, zp1, zp2, zp3, i64_w, i32_w]
                rfl
               refine one_ (i := 4) (N := some 30) #[true, true, true, true, true, false, false, false, false, false] rfl rfl (one_of HT_.out (by kernel_rfl)) (by decide) (fun K hK => ?_)
               refine goes_ Try.func24 (by kernel_rfl) rfl #[.slice Ao49 t178.length co49, .agg #[.int .i64 t181, .int .i64 t182, .slice Ao50 t183.length co50]] (by rfl) rfl rfl (by (try simp only [List.map_toArray, List.map_cons, List.map_nil]); first | done | rfl | (simp only [List.length_drop, List.length_take]; rfl)) ?_
               with_reducible refine (spec_EditText.calls _ _ t178 t181 t182 _ _ t183 t186 t189 _ ?side1 ?side2 ?side3 ?side4 A12.out).mono ?_
               (case side1 => repeat (first | exact (Kd.R_reads' HO180.out).2.2 | (with_reducible refine Kd.C_alloc ?_ _) | (with_reducible refine Kd.C_drewN ?_ _) | (with_reducible refine Kd.C_drew ?_)))
               (case side2 => exact (Kd.R_reads' HO180.out).2.1)
               (case side3 => repeat (first | exact (Kd.R_reads' HO185.out).2.2 | (with_reducible refine Kd.C_alloc ?_ _) | (with_reducible refine Kd.C_drewN ?_ _) | (with_reducible refine Kd.C_drew ?_)))
               (case side4 => exact (Kd.R_reads' HO185.out).2.1)
               rintro e w51 ⟨v187, rfl, ho0, hb⟩
               refine ⟨_, rfl, ?_⟩
               have HO188 := Aside0.mk (Kd.R_lower (Kd.R_new' (Kd.R_new' ho0 (Kd.R_lt (zr0 HO180))) (Kd.R_lt (zr0 HO185))) (below_size (zh0 HB)))
               replace HO180 := Aside0.mk (Kd.R_elder' (zr0 HO180) (Kd.R_base ho0) hb)
               replace HO185 := Aside0.mk (Kd.R_elder' (zr0 HO185) (Kd.R_base ho0) hb)
               replace BK176 := zb0 BK176 hb
               replace HB := zhs HB hb
               (try clear hb)
               (try clear hb2)
               (try clear hk)
               (try clear hi)
               (try clear ho0)
               refine hK.out _ _ ⟨zc0 BK176 0 rfl, zc0 BK176 1 rfl, zc0 BK176 2 rfl⟩ (fun hHeld => ?_)
               clear hK K
               refine norm_ (a' := ?_) ?_ ?_
               rotate_left
               ·show Act.put _ (some 30) _ = _
                simp only [Act.put, zp1, zp2, zp3, i64_w, i32_w]
                rfl
               refine pure_ (i := 5) (N := some 25) (v := ?_) (a' := ?_) #[true, true, true, true, true, true, false, false, false, false] rfl rfl (any_of HT_.out (by kernel_rfl)) (fun _ _ _ h => h) (Or.inl ⟨by rfl, ?_⟩) ?_ ?_
               rotate_left
               ·intro w'
                go_simp
                with_reducible rfl
               rotate_left
               ·simp only [Act.put, zp1, zp2, zp3, i64_w, i32_w]
                rfl
               refine pure_ (i := 6) (N := some 31) (v := ?_) (a' := ?_) #[true, true, true, true, true, true, true, false, false, false] rfl rfl (any_of HT_.out (by kernel_rfl)) (fun _ _ _ h => h) (Or.inl ⟨by rfl, ?_⟩) ?_ ?_
               rotate_left
               ·intro w'
                go_simp
                with_reducible rfl
               rotate_left
               ·simp only [Act.put, zp1, zp2, zp3, i64_w, i32_w]
                rfl
               refine pure_ (i := 7) (N := some 32) (v := ?_) (a' := ?_) #[true, true, true, true, true, true, true, true, false, false] rfl rfl (any_of HT_.out (by kernel_rfl)) (fun _ _ _ h => h) (Or.inl ⟨by rfl, ?_⟩) ?_ ?_
               rotate_left
               ·intro w'
                go_simp
                with_reducible rfl
               rotate_left
               ·simp only [Act.put, zp1, zp2, zp3, i64_w, i32_w]
                rfl
               refine pure_ (i := 8) (N := some 6) (v := ?_) (a' := ?_) #[true, true, true, true, true, true, true, true, true, false] rfl rfl (any_of HT_.out (by kernel_rfl)) (fun _ _ _ h => h) (Or.inl ⟨by rfl, ?_⟩) ?_ ?_
               rotate_left
               ·intro w'
                go_simp
                with_reducible rfl
               rotate_left
               ·simp only [Act.put, zp1, zp2, zp3, i64_w, i32_w]
                rfl
               refine pure_ (i := 9) (N := some 7) (v := ?_) (a' := ?_) #[true, true, true, true, true, true, true, true, true, true] rfl rfl (any_of HT_.out (by kernel_rfl)) (fun _ _ _ h => h) (Or.inl ⟨by rfl, ?_⟩) ?_ ?_
               rotate_left
               ·intro w'
                go_simp
                with_reducible rfl
               rotate_left
               ·simp only [Act.put, zp1, zp2, zp3, i64_w, i32_w]
                rfl
               refine done_ (done_of HT_.out (by kernel_rfl)) ?_
               try go_wp2_with (first | ((with_reducible refine gate_callee (f := 18) rfl ?_); refine goesL_ (some 34) rfl rfl Try.func18 (by kernel_rfl) rfl #[.slice A0 l0.length c0] rfl (by (try simp only [List.map_toArray, List.map_cons, List.map_nil]); first | done | rfl | (simp only [List.length_drop, List.length_take]; rfl)) ?_; (with_reducible refine (laws_toByteS.calls k _ _ l0 t190 _ ?side1 ?side2 A13.out).mono ?_); (case side1 => repeat (first | exact (Kd.C_below HR0.out HB.out) | (with_reducible refine Kd.C_alloc ?_ _) | (with_reducible refine Kd.C_drewN ?_ _) | (with_reducible refine Kd.C_drew ?_))); (case side2 => exact HC0.out); rintro e w52 ⟨v191, rfl, ho0, hb⟩; refine ⟨_, rfl, ?_⟩; have HO192 := Aside0.mk (Kd.R_lower (Kd.R_new' (Kd.R_new' (Kd.R_new' ho0 (Kd.R_lt (zr0 HO180))) (Kd.R_lt (zr0 HO185))) (Kd.R_lt (zr0 HO188))) (below_size (zh0 HB))); replace HO180 := Aside0.mk (Kd.R_elder' (zr0 HO180) (Kd.R_base ho0) hb); replace HO185 := Aside0.mk (Kd.R_elder' (zr0 HO185) (Kd.R_base ho0) hb); replace HO188 := Aside0.mk (Kd.R_elder' (zr0 HO188) (Kd.R_base ho0) hb); replace BK176 := Aside0.mk (blk_below (g := gb176) (o := .cells #[.int .i64 a1_0, .int .i64 a1_1, .slice A1_2 l1_2.length c1_2] 37 (0, 0)) (by (with_reducible repeat (first | refine blk_drewN ?_ _ | refine blk_drew ?_ | refine blk_alloc ?_ _)); exact BK176.out) hb); replace HB := zhs HB hb; (try clear hb); (try clear hb2); (try clear hk); (try clear hi); (try clear ho0); have hcz53_0 : w52.cell? ⟨gb176, 0, none⟩ = some (.int .i64 a1_0) := zc0 BK176 0 rfl; have hcz53_1 : w52.cell? ⟨gb176, 1, none⟩ = some (.int .i64 a1_1) := zc0 BK176 1 rfl; have hcz53_2 : w52.cell? ⟨gb176, 2, none⟩ = some (.slice A1_2 l1_2.length c1_2) := zc0 BK176 2 rfl; have hfz53_0 := blk_frozen BK176.out 0; have hfz53_1 := blk_frozen BK176.out 1; have hfz53_2 := blk_frozen BK176.out 2) | ((with_reducible refine gate_callee (f := 25) rfl ?_); refine goesL_ (some 36) rfl rfl Try.func25 (by kernel_rfl) rfl #[.agg #[.int .i64 a1_0, .int .i64 a1_1, .slice A1_2 l1_2.length c1_2]] rfl (by (try simp only [List.map_toArray, List.map_cons, List.map_nil]); first | done | rfl | (simp only [List.length_drop, List.length_take]; rfl)) ?_; (with_reducible refine (laws_toEdit.calls k a1_0 a1_1 _ _ l1_2 t193 t194 t195 _ ?side1 ?side2 A14.out).mono ?_); (case side1 => repeat (first | exact (Kd.C_below HR1_2.out HB.out) | (with_reducible refine Kd.C_alloc ?_ _) | (with_reducible refine Kd.C_drewN ?_ _) | (with_reducible refine Kd.C_drew ?_))); (case side2 => exact HC1_2.out); rintro e w54 ⟨v196, rfl, ho0, hb⟩; refine ⟨_, rfl, ?_⟩; have HO197 := Aside0.mk (Kd.R_lower (Kd.R_new' (Kd.R_new' (Kd.R_new' (Kd.R_new' ho0 (Kd.R_lt (zr0 HO180))) (Kd.R_lt (zr0 HO185))) (Kd.R_lt (zr0 HO188))) (Kd.R_lt (zr0 HO192))) (below_size (zh0 HB))); replace HO180 := Aside0.mk (Kd.R_elder' (zr0 HO180) (Kd.R_base ho0) hb); replace HO185 := Aside0.mk (Kd.R_elder' (zr0 HO185) (Kd.R_base ho0) hb); replace HO188 := Aside0.mk (Kd.R_elder' (zr0 HO188) (Kd.R_base ho0) hb); replace HO192 := Aside0.mk (Kd.R_elder' (zr0 HO192) (Kd.R_base ho0) hb); replace BK176 := Aside0.mk (blk_below (g := gb176) (o := .cells #[.int .i64 a1_0, .int .i64 a1_1, .slice A1_2 l1_2.length c1_2] 37 (0, 0)) (by (with_reducible repeat (first | refine blk_drewN ?_ _ | refine blk_drew ?_ | refine blk_alloc ?_ _)); exact BK176.out) hb); replace HB := zhs HB hb; (try clear hb); (try clear hb2); (try clear hk); (try clear hi); (try clear ho0)) | ((with_reducible refine gate_dst (N := 9) rfl ?_); refine box_event ?hg (N := 9) ?hd (cs := #[.int .i64 0, .int .i64 0, .slice none 0 0]) (t := 40) ?hr ?_; (case hd => rfl); (case hg => rfl); (case hr => first | (go_simp; done) | (go_simp; rfl)); intro gb198 hg w55 hbox hb; have BK198 := Aside0.mk (hbox); have GW198 := zge HB hg; have GE198 := zge HB hg; have NB176_198 := Aside0.mk ((by rw [hg]; exact Nat.ne_of_lt (blk_lt (g := gb176) (o := .cells #[.int .i64 a1_0, .int .i64 a1_1, .slice A1_2 l1_2.length c1_2] 37 (0, 0)) (by (with_reducible repeat (first | refine blk_drewN ?_ _ | refine blk_drew ?_ | refine blk_alloc ?_ _)); exact BK176.out)) : gb176 ≠ gb198)); have NB198_176 := Aside0.mk ((by rw [hg]; exact Nat.ne_of_gt (blk_lt (g := gb176) (o := .cells #[.int .i64 a1_0, .int .i64 a1_1, .slice A1_2 l1_2.length c1_2] 37 (0, 0)) (by (with_reducible repeat (first | refine blk_drewN ?_ _ | refine blk_drew ?_ | refine blk_alloc ?_ _)); exact BK176.out)) : gb198 ≠ gb176)); replace HO180 := zrb HO180 hb; replace HO185 := zrb HO185 hb; replace HO188 := zrb HO188 hb; replace HO192 := zrb HO192 hb; replace HO197 := zrb HO197 hb; replace BK176 := Aside0.mk (blk_below (g := gb176) (o := .cells #[.int .i64 a1_0, .int .i64 a1_1, .slice A1_2 l1_2.length c1_2] 37 (0, 0)) (by (with_reducible repeat (first | refine blk_drewN ?_ _ | refine blk_drew ?_ | refine blk_alloc ?_ _)); exact BK176.out) hb); replace HB := zhs HB hb; clear hb hbox hg; have hnb56 := NB198_176.out; have hnc56 := NB176_198.out; have hcz57_0 : w55.cell? ⟨gb198, 0, none⟩ = some (.int .i64 0) := zc0 BK198 0 rfl; have hcz57_1 : w55.cell? ⟨gb198, 1, none⟩ = some (.int .i64 0) := zc0 BK198 1 rfl; have hcz57_2 : w55.cell? ⟨gb198, 2, none⟩ = some (.slice none 0 0) := zc0 BK198 2 rfl; have hfz57_0 := blk_frozen BK198.out 0; have hfz57_1 := blk_frozen BK198.out 1; have hfz57_2 := blk_frozen BK198.out 2; obtain ⟨Ao58, co58, eo58⟩ := Kd.R_slice HO197.out; subst eo58) | ((with_reducible refine gate_store (t := 40) (p := 9) rfl ?_); refine store_event (t := 40) (p := 9) (v := ?vo_w59) (w1 := (((w55.setCell ⟨gb198, 0, none⟩ (.int .i64 t193)).setCell ⟨gb198, 1, none⟩ (.int .i64 t194)).setCell ⟨gb198, 2, none⟩ (.slice Ao58 t195.length co58))) ?hg ?ho ?hn ?hr ?_; (case ho => rfl); (case hg => rfl); (case hn => rfl); (case hr => first | (go_simp; done) | (go_simp; rfl)); intro w59 hw; have n0_ : Aside0 (Kd.R (Kd.int .u8) 5 w59 w.heap.size (fun k_ => some k_ ≠ (.slice Ao50 t183.length co50 : Value).ownBlock ∧ some k_ ≠ (v187 : Value).ownBlock ∧ some k_ ≠ (v191 : Value).ownBlock ∧ some k_ ≠ (.slice Ao58 t195.length co58 : Value).ownBlock) (.slice Ao49 t178.length co49) t178) := ⟨(by rw [hw]; exact (by (with_reducible repeat (first | apply Kd.R_alloc | apply Kd.R_drewN | apply Kd.R_drew)); exact Kd.R_mono (Kd.R_far (p := ⟨gb198, 2, none⟩) (Kd.R_far (p := ⟨gb198, 1, none⟩) (Kd.R_far (p := ⟨gb198, 0, none⟩) (Kd.R_types HO180.out BK198.out (by decide)) (fun _ hk => hk.2) (.int .i64 t193)) (fun _ hk => hk.2) (.int .i64 t194)) (fun _ hk => hk.2) (.slice Ao58 t195.length co58)) (fun _ hk => ⟨hk.1.1.1.1.2, ⟨hk.1.1.1.2, ⟨hk.1.1.2, hk.1.2⟩⟩⟩)))⟩; have n1_ : Aside0 (Kd.R (Kd.int .u8) 5 w59 w.heap.size (fun k_ => some k_ ≠ (.slice Ao49 t178.length co49 : Value).ownBlock ∧ some k_ ≠ (v187 : Value).ownBlock ∧ some k_ ≠ (v191 : Value).ownBlock ∧ some k_ ≠ (.slice Ao58 t195.length co58 : Value).ownBlock) (.slice Ao50 t183.length co50) t183) := ⟨(by rw [hw]; exact (by (with_reducible repeat (first | apply Kd.R_alloc | apply Kd.R_drewN | apply Kd.R_drew)); exact Kd.R_mono (Kd.R_far (p := ⟨gb198, 2, none⟩) (Kd.R_far (p := ⟨gb198, 1, none⟩) (Kd.R_far (p := ⟨gb198, 0, none⟩) (Kd.R_types HO185.out BK198.out (by decide)) (fun _ hk => hk.2) (.int .i64 t193)) (fun _ hk => hk.2) (.int .i64 t194)) (fun _ hk => hk.2) (.slice Ao58 t195.length co58)) (fun _ hk => ⟨hk.1.1.1.1.2, ⟨hk.1.1.1.2, ⟨hk.1.1.2, hk.1.2⟩⟩⟩)))⟩; have n2_ : Aside0 (Kd.R (Kd.int .u8) 5 w59 w.heap.size (fun k_ => some k_ ≠ (.slice Ao49 t178.length co49 : Value).ownBlock ∧ some k_ ≠ (.slice Ao50 t183.length co50 : Value).ownBlock ∧ some k_ ≠ (v191 : Value).ownBlock ∧ some k_ ≠ (.slice Ao58 t195.length co58 : Value).ownBlock) v187 t186) := ⟨(by rw [hw]; exact (by (with_reducible repeat (first | apply Kd.R_alloc | apply Kd.R_drewN | apply Kd.R_drew)); exact Kd.R_mono (Kd.R_far (p := ⟨gb198, 2, none⟩) (Kd.R_far (p := ⟨gb198, 1, none⟩) (Kd.R_far (p := ⟨gb198, 0, none⟩) (Kd.R_types HO188.out BK198.out (by decide)) (fun _ hk => hk.2) (.int .i64 t193)) (fun _ hk => hk.2) (.int .i64 t194)) (fun _ hk => hk.2) (.slice Ao58 t195.length co58)) (fun _ hk => ⟨hk.1.1.1.1.2, ⟨hk.1.1.1.2, ⟨hk.1.1.2, hk.1.2⟩⟩⟩)))⟩; have n3_ : Aside0 (Kd.R (Kd.int .u8) 5 w59 w.heap.size (fun k_ => some k_ ≠ (.slice Ao49 t178.length co49 : Value).ownBlock ∧ some k_ ≠ (.slice Ao50 t183.length co50 : Value).ownBlock ∧ some k_ ≠ (v187 : Value).ownBlock ∧ some k_ ≠ (.slice Ao58 t195.length co58 : Value).ownBlock) v191 t190) := ⟨(by rw [hw]; exact (by (with_reducible repeat (first | apply Kd.R_alloc | apply Kd.R_drewN | apply Kd.R_drew)); exact Kd.R_mono (Kd.R_far (p := ⟨gb198, 2, none⟩) (Kd.R_far (p := ⟨gb198, 1, none⟩) (Kd.R_far (p := ⟨gb198, 0, none⟩) (Kd.R_types HO192.out BK198.out (by decide)) (fun _ hk => hk.2) (.int .i64 t193)) (fun _ hk => hk.2) (.int .i64 t194)) (fun _ hk => hk.2) (.slice Ao58 t195.length co58)) (fun _ hk => ⟨hk.1.1.1.1.2, ⟨hk.1.1.1.2, ⟨hk.1.1.2, hk.1.2⟩⟩⟩)))⟩; have n4_ : Aside0 (Kd.R (Kd.int .u8) 5 w59 w.heap.size (fun k_ => some k_ ≠ (.slice Ao49 t178.length co49 : Value).ownBlock ∧ some k_ ≠ (.slice Ao50 t183.length co50 : Value).ownBlock ∧ some k_ ≠ (v187 : Value).ownBlock ∧ some k_ ≠ (v191 : Value).ownBlock) (.slice Ao58 t195.length co58) t195) := ⟨(by rw [hw]; exact (by (with_reducible repeat (first | apply Kd.R_alloc | apply Kd.R_drewN | apply Kd.R_drew)); exact Kd.R_mono (Kd.R_far (p := ⟨gb198, 2, none⟩) (Kd.R_far (p := ⟨gb198, 1, none⟩) (Kd.R_far (p := ⟨gb198, 0, none⟩) (Kd.R_types HO197.out BK198.out (by decide)) (fun _ hk => hk.2) (.int .i64 t193)) (fun _ hk => hk.2) (.int .i64 t194)) (fun _ hk => hk.2) (.slice Ao58 t195.length co58)) (fun _ hk => ⟨hk.1.1.1.1.2, ⟨hk.1.1.1.2, ⟨hk.1.1.2, hk.1.2⟩⟩⟩)))⟩; have n5_ : Aside0 (w59.heap[gb176]? = some (.cells #[.int .i64 a1_0, .int .i64 a1_1, .slice A1_2 l1_2.length c1_2] 37 (0, 0))) := ⟨(by rw [hw]; exact (by (with_reducible repeat (first | refine blk_drewN ?_ _ | refine blk_drew ?_ | refine blk_alloc ?_ _)); refine blk_far ?_ NB176_198.out _; (with_reducible repeat (first | refine blk_drewN ?_ _ | refine blk_drew ?_ | refine blk_alloc ?_ _)); refine blk_far ?_ NB176_198.out _; (with_reducible repeat (first | refine blk_drewN ?_ _ | refine blk_drew ?_ | refine blk_alloc ?_ _)); refine blk_far ?_ NB176_198.out _; (with_reducible repeat (first | refine blk_drewN ?_ _ | refine blk_drew ?_ | refine blk_alloc ?_ _)); exact BK176.out))⟩; have n6_ : Aside0 (w59.heap[gb198]? = some (.cells #[.int .i64 t193, .int .i64 t194, .slice Ao58 t195.length co58] 40 (0, 0))) := ⟨(by rw [hw]; exact (by (with_reducible repeat (first | refine blk_drewN ?_ _ | refine blk_drew ?_ | refine blk_alloc ?_ _)); refine blk_put (cs := #[.int .i64 t193, .int .i64 t194, .slice none 0 0]) ?_ 2 _ rfl; (with_reducible repeat (first | refine blk_drewN ?_ _ | refine blk_drew ?_ | refine blk_alloc ?_ _)); refine blk_put (cs := #[.int .i64 t193, .int .i64 0, .slice none 0 0]) ?_ 1 _ rfl; (with_reducible repeat (first | refine blk_drewN ?_ _ | refine blk_drew ?_ | refine blk_alloc ?_ _)); refine blk_put (cs := #[.int .i64 0, .int .i64 0, .slice none 0 0]) ?_ 0 _ rfl; (with_reducible repeat (first | refine blk_drewN ?_ _ | refine blk_drew ?_ | refine blk_alloc ?_ _)); exact BK198.out))⟩; have n7_ : Aside0 (Below w.heap.size w w59) := ⟨(by rw [hw]; exact (by repeat (first | (with_reducible first | exact HB.out | apply below_alloc | apply pw_below_drewN | apply below_drew1 | refine below_set ?_ GE176.out | refine below_set ?_ GE198.out) | exact HB.out)))⟩; clear hw; clear HO180; clear HO185; clear HO188; clear HO192; clear HO197; clear BK176; clear BK198; clear HB; have HO180 := n0_; have HO185 := n1_; have HO188 := n2_; have HO192 := n3_; have HO197 := n4_; have BK176 := n5_; have BK198 := n6_; have HB := n7_; clear n0_ n1_ n2_ n3_ n4_ n5_ n6_ n7_; have hcz60_0 : w59.cell? ⟨gb198, 0, none⟩ = some (.int .i64 t193) := zc0 BK198 0 rfl; have hcz60_1 : w59.cell? ⟨gb198, 1, none⟩ = some (.int .i64 t194) := zc0 BK198 1 rfl; have hcz60_2 : w59.cell? ⟨gb198, 2, none⟩ = some (.slice Ao58 t195.length co58) := zc0 BK198 2 rfl; have hfz60_0 := blk_frozen BK198.out 0; have hfz60_1 := blk_frozen BK198.out 1; have hfz60_2 := blk_frozen BK198.out 2; obtain ⟨Ao61, co61, eo61⟩ := Kd.R_slice HO192.out; subst eo61) | ((with_reducible refine gate_callee (f := 26) rfl ?_); refine goesL_ (some 40) rfl rfl Try.func26 (by kernel_rfl) rfl #[.slice Ao61 t190.length co61, .agg #[.int .i64 t193, .int .i64 t194, .slice Ao58 t195.length co58]] rfl (by (try simp only [List.map_toArray, List.map_cons, List.map_nil]); first | done | rfl | (simp only [List.length_drop, List.length_take]; rfl)) ?_; (with_reducible refine (impl_EditText.calls k (fun k_ => some k_ = (.slice Ao61 t190.length co61 : Value).ownBlock) _ _ t190 t193 t194 (fun k_ => some k_ = (.slice Ao58 t195.length co58 : Value).ownBlock) _ _ t195 t199 t202 _ ?side1 ?side2 A15.out).mono ?_); (case side1 => exact Kd.R_V (Kd.R_tight rfl (Kd.R_types (Kd.R_types (HO192.out) BK176.out (by decide)) BK198.out (by decide)))); (case side2 => exact Kd.R_V (Kd.R_tight rfl (Kd.R_types (Kd.R_types (HO197.out) BK176.out (by decide)) BK198.out (by decide)))); rintro e w62 ⟨v200, rfl, ho0, hb⟩; refine ⟨_, rfl, ?_⟩; have HO201 := Aside0.mk (Kd.R_lower (Kd.R_new' (Kd.R_new' (Kd.R_new' (Kd.R_new' (Kd.R_new' (Kd.R_mono (ok' := fun k_ => True) ho0 (fun _ hk_ => trivial)) (Kd.R_lt (zr0 HO180))) (Kd.R_lt (zr0 HO185))) (Kd.R_lt (zr0 HO188))) (Kd.R_lt (zr0 HO192))) (Kd.R_lt (zr0 HO197))) (below_size (zh0 HB))); replace HO180 := Aside0.mk (Kd.R_elder' (zr0 HO180) (Kd.R_base ho0) hb); replace HO185 := Aside0.mk (Kd.R_elder' (zr0 HO185) (Kd.R_base ho0) hb); replace HO188 := Aside0.mk (Kd.R_elder' (zr0 HO188) (Kd.R_base ho0) hb); replace HO192 := Aside0.mk (Kd.R_elder' (zr0 HO192) (Kd.R_base ho0) hb); replace HO197 := Aside0.mk (Kd.R_elder' (zr0 HO197) (Kd.R_base ho0) hb); replace BK176 := Aside0.mk (blk_below (g := gb176) (o := .cells #[.int .i64 a1_0, .int .i64 a1_1, .slice A1_2 l1_2.length c1_2] 37 (0, 0)) (by (with_reducible repeat (first | refine blk_drewN ?_ _ | refine blk_drew ?_ | refine blk_alloc ?_ _)); exact BK176.out) hb); replace BK198 := Aside0.mk (blk_below (g := gb198) (o := .cells #[.int .i64 t193, .int .i64 t194, .slice Ao58 t195.length co58] 40 (0, 0)) (by (with_reducible repeat (first | refine blk_drewN ?_ _ | refine blk_drew ?_ | refine blk_alloc ?_ _)); exact BK198.out) hb); replace HB := zhs HB hb; (try clear hb); (try clear hb2); (try clear hk); (try clear hi); (try clear ho0); obtain ⟨Ao63, co63, eo63⟩ := Kd.R_slice HO201.out; subst eo63; obtain ⟨Ao64, co64, eo64⟩ := Kd.R_slice HO188.out; subst eo64) | ((with_reducible refine gate_callee (f := 20) rfl ?_); refine goesL_ (some 45) rfl rfl Try.func20 (by kernel_rfl) rfl #[.slice Ao63 t199.length co63, .slice Ao64 t186.length co64] rfl (by (try simp only [List.map_toArray, List.map_cons, List.map_nil]); first | done | rfl | (simp only [List.length_drop, List.length_take]; rfl)) ?_; (with_reducible refine (laws_eqByteS.calls k _ _ t199 _ _ t186 true _ ?side1 ?side2 ?side3 ?side4 A16.out).mono ?_); (case side1 => repeat (first | exact (Kd.R_reads' HO201.out).2.2 | (with_reducible refine Kd.C_alloc ?_ _) | (with_reducible refine Kd.C_drewN ?_ _) | (with_reducible refine Kd.C_drew ?_))); (case side2 => exact (Kd.R_reads' HO201.out).2.1); (case side3 => repeat (first | exact (Kd.R_reads' HO188.out).2.2 | (with_reducible refine Kd.C_alloc ?_ _) | (with_reducible refine Kd.C_drewN ?_ _) | (with_reducible refine Kd.C_drew ?_))); (case side4 => exact (Kd.R_reads' HO188.out).2.1); rintro e w' ⟨rfl, ⟨nd, rfl⟩⟩; refine ⟨_, rfl, ?_⟩) | ((with_reducible refine gate_callee (f := 18) rfl ?_); refine goesL_ (some 54) rfl rfl Try.func18 (by kernel_rfl) rfl #[.slice A0 l0.length c0] rfl (by (try simp only [List.map_toArray, List.map_cons, List.map_nil]); first | done | rfl | (simp only [List.length_drop, List.length_take]; rfl)) ?_; (with_reducible refine (laws_toByteS.calls k _ _ l0 t204 _ ?side1 ?side2 A19.out).mono ?_); (case side1 => repeat (first | exact (Kd.C_below HR0.out (zh0 HB)) | (with_reducible refine Kd.C_alloc ?_ _) | (with_reducible refine Kd.C_drewN ?_ _) | (with_reducible refine Kd.C_drew ?_))); (case side2 => exact HC0.out); rintro e w65 ⟨v205, rfl, ho0, hb⟩; refine ⟨_, rfl, ?_⟩; have HO206 := Aside0.mk (Kd.R_lower (Kd.R_new' (Kd.R_new' (Kd.R_new' (Kd.R_new' (Kd.R_new' (Kd.R_new' ho0 (Kd.R_lt (zr0 HO180))) (Kd.R_lt (zr0 HO185))) (Kd.R_lt (zr0 HO188))) (Kd.R_lt (zr0 HO192))) (Kd.R_lt (zr0 HO197))) (Kd.R_lt (zr0 HO201))) (below_size (zh0 HB))); replace HO180 := Aside0.mk (Kd.R_elder' (zr0 HO180) (Kd.R_base ho0) hb); replace HO185 := Aside0.mk (Kd.R_elder' (zr0 HO185) (Kd.R_base ho0) hb); replace HO188 := Aside0.mk (Kd.R_elder' (zr0 HO188) (Kd.R_base ho0) hb); replace HO192 := Aside0.mk (Kd.R_elder' (zr0 HO192) (Kd.R_base ho0) hb); replace HO197 := Aside0.mk (Kd.R_elder' (zr0 HO197) (Kd.R_base ho0) hb); replace HO201 := Aside0.mk (Kd.R_elder' (zr0 HO201) (Kd.R_base ho0) hb); replace BK176 := Aside0.mk (blk_below (g := gb176) (o := .cells #[.int .i64 a1_0, .int .i64 a1_1, .slice A1_2 l1_2.length c1_2] 37 (0, 0)) (by (with_reducible repeat (first | refine blk_drewN ?_ _ | refine blk_drew ?_ | refine blk_alloc ?_ _)); exact BK176.out) hb); replace BK198 := Aside0.mk (blk_below (g := gb198) (o := .cells #[.int .i64 t193, .int .i64 t194, .slice Ao58 t195.length co58] 40 (0, 0)) (by (with_reducible repeat (first | refine blk_drewN ?_ _ | refine blk_drew ?_ | refine blk_alloc ?_ _)); exact BK198.out) hb); replace HB := zhs HB hb; (try clear hb); (try clear hb2); (try clear hk); (try clear hi); (try clear ho0); obtain ⟨Ao66, co66, eo66⟩ := Kd.R_slice HO206.out; subst eo66) | ((with_reducible refine gate_callee (f := 20) rfl ?_); refine goesL_ (some 55) rfl rfl Try.func20 (by kernel_rfl) rfl #[.slice Ao61 t190.length co61, .slice Ao66 t204.length co66] rfl (by (try simp only [List.map_toArray, List.map_cons, List.map_nil]); first | done | rfl | (simp only [List.length_drop, List.length_take]; rfl)) ?_; (with_reducible refine (laws_eqByteS.calls k _ _ t190 _ _ t204 true _ ?side1 ?side2 ?side3 ?side4 A20.out).mono ?_); (case side1 => repeat (first | exact (Kd.R_reads' HO192.out).2.2 | (with_reducible refine Kd.C_alloc ?_ _) | (with_reducible refine Kd.C_drewN ?_ _) | (with_reducible refine Kd.C_drew ?_))); (case side2 => exact (Kd.R_reads' HO192.out).2.1); (case side3 => repeat (first | exact (Kd.R_reads' HO206.out).2.2 | (with_reducible refine Kd.C_alloc ?_ _) | (with_reducible refine Kd.C_drewN ?_ _) | (with_reducible refine Kd.C_drew ?_))); (case side4 => exact (Kd.R_reads' HO206.out).2.1); rintro e w' ⟨rfl, ⟨nd, rfl⟩⟩; refine ⟨_, rfl, ?_⟩))
               (try simp only [World.drewN_drewN]); (try (rw [drewN_self w65]; generalize hq_ : World.drewN w65 _ = w65; have n0_ : Aside0 (Kd.R (Kd.int .u8) 5 w65 w.heap.size (fun k_ => some k_ ≠ (.slice Ao50 t183.length co50 : Value).ownBlock ∧ some k_ ≠ (.slice Ao64 t186.length co64 : Value).ownBlock ∧ some k_ ≠ (.slice Ao61 t190.length co61 : Value).ownBlock ∧ some k_ ≠ (.slice Ao58 t195.length co58 : Value).ownBlock ∧ some k_ ≠ (.slice Ao63 t199.length co63 : Value).ownBlock ∧ some k_ ≠ (.slice Ao66 t204.length co66 : Value).ownBlock) (.slice Ao49 t178.length co49) t178) := ⟨by rw [← hq_]; exact (by (with_reducible repeat (first | apply Kd.R_alloc | apply Kd.R_drewN | apply Kd.R_drew)); exact Kd.R_mono HO180.out (fun _ hk => ⟨hk.1.1.1, ⟨hk.1.1.2.1, ⟨hk.1.1.2.2.1, ⟨hk.1.1.2.2.2, ⟨hk.1.2, hk.2⟩⟩⟩⟩⟩))⟩; have n1_ : Aside0 (Kd.R (Kd.int .u8) 5 w65 w.heap.size (fun k_ => some k_ ≠ (.slice Ao49 t178.length co49 : Value).ownBlock ∧ some k_ ≠ (.slice Ao64 t186.length co64 : Value).ownBlock ∧ some k_ ≠ (.slice Ao61 t190.length co61 : Value).ownBlock ∧ some k_ ≠ (.slice Ao58 t195.length co58 : Value).ownBlock ∧ some k_ ≠ (.slice Ao63 t199.length co63 : Value).ownBlock ∧ some k_ ≠ (.slice Ao66 t204.length co66 : Value).ownBlock) (.slice Ao50 t183.length co50) t183) := ⟨by rw [← hq_]; exact (by (with_reducible repeat (first | apply Kd.R_alloc | apply Kd.R_drewN | apply Kd.R_drew)); exact Kd.R_mono HO185.out (fun _ hk => ⟨hk.1.1.1, ⟨hk.1.1.2.1, ⟨hk.1.1.2.2.1, ⟨hk.1.1.2.2.2, ⟨hk.1.2, hk.2⟩⟩⟩⟩⟩))⟩; have n2_ : Aside0 (Kd.R (Kd.int .u8) 5 w65 w.heap.size (fun k_ => some k_ ≠ (.slice Ao49 t178.length co49 : Value).ownBlock ∧ some k_ ≠ (.slice Ao50 t183.length co50 : Value).ownBlock ∧ some k_ ≠ (.slice Ao61 t190.length co61 : Value).ownBlock ∧ some k_ ≠ (.slice Ao58 t195.length co58 : Value).ownBlock ∧ some k_ ≠ (.slice Ao63 t199.length co63 : Value).ownBlock ∧ some k_ ≠ (.slice Ao66 t204.length co66 : Value).ownBlock) (.slice Ao64 t186.length co64) t186) := ⟨by rw [← hq_]; exact (by (with_reducible repeat (first | apply Kd.R_alloc | apply Kd.R_drewN | apply Kd.R_drew)); exact Kd.R_mono HO188.out (fun _ hk => ⟨hk.1.1.1, ⟨hk.1.1.2.1, ⟨hk.1.1.2.2.1, ⟨hk.1.1.2.2.2, ⟨hk.1.2, hk.2⟩⟩⟩⟩⟩))⟩; have n3_ : Aside0 (Kd.R (Kd.int .u8) 5 w65 w.heap.size (fun k_ => some k_ ≠ (.slice Ao49 t178.length co49 : Value).ownBlock ∧ some k_ ≠ (.slice Ao50 t183.length co50 : Value).ownBlock ∧ some k_ ≠ (.slice Ao64 t186.length co64 : Value).ownBlock ∧ some k_ ≠ (.slice Ao58 t195.length co58 : Value).ownBlock ∧ some k_ ≠ (.slice Ao63 t199.length co63 : Value).ownBlock ∧ some k_ ≠ (.slice Ao66 t204.length co66 : Value).ownBlock) (.slice Ao61 t190.length co61) t190) := ⟨by rw [← hq_]; exact (by (with_reducible repeat (first | apply Kd.R_alloc | apply Kd.R_drewN | apply Kd.R_drew)); exact Kd.R_mono HO192.out (fun _ hk => ⟨hk.1.1.1, ⟨hk.1.1.2.1, ⟨hk.1.1.2.2.1, ⟨hk.1.1.2.2.2, ⟨hk.1.2, hk.2⟩⟩⟩⟩⟩))⟩; have n4_ : Aside0 (Kd.R (Kd.int .u8) 5 w65 w.heap.size (fun k_ => some k_ ≠ (.slice Ao49 t178.length co49 : Value).ownBlock ∧ some k_ ≠ (.slice Ao50 t183.length co50 : Value).ownBlock ∧ some k_ ≠ (.slice Ao64 t186.length co64 : Value).ownBlock ∧ some k_ ≠ (.slice Ao61 t190.length co61 : Value).ownBlock ∧ some k_ ≠ (.slice Ao63 t199.length co63 : Value).ownBlock ∧ some k_ ≠ (.slice Ao66 t204.length co66 : Value).ownBlock) (.slice Ao58 t195.length co58) t195) := ⟨by rw [← hq_]; exact (by (with_reducible repeat (first | apply Kd.R_alloc | apply Kd.R_drewN | apply Kd.R_drew)); exact Kd.R_mono HO197.out (fun _ hk => ⟨hk.1.1.1, ⟨hk.1.1.2.1, ⟨hk.1.1.2.2.1, ⟨hk.1.1.2.2.2, ⟨hk.1.2, hk.2⟩⟩⟩⟩⟩))⟩; have n5_ : Aside0 (Kd.R (Kd.int .u8) 5 w65 w.heap.size (fun k_ => some k_ ≠ (.slice Ao49 t178.length co49 : Value).ownBlock ∧ some k_ ≠ (.slice Ao50 t183.length co50 : Value).ownBlock ∧ some k_ ≠ (.slice Ao64 t186.length co64 : Value).ownBlock ∧ some k_ ≠ (.slice Ao61 t190.length co61 : Value).ownBlock ∧ some k_ ≠ (.slice Ao58 t195.length co58 : Value).ownBlock ∧ some k_ ≠ (.slice Ao66 t204.length co66 : Value).ownBlock) (.slice Ao63 t199.length co63) t199) := ⟨by rw [← hq_]; exact (by (with_reducible repeat (first | apply Kd.R_alloc | apply Kd.R_drewN | apply Kd.R_drew)); exact Kd.R_mono HO201.out (fun _ hk => ⟨hk.1.1.1.1.1.2, ⟨hk.1.1.1.1.2, ⟨hk.1.1.1.2, ⟨hk.1.1.2, ⟨hk.1.2, hk.2⟩⟩⟩⟩⟩))⟩; have n6_ : Aside0 (Kd.R (Kd.int .u8) 5 w65 w.heap.size (fun k_ => some k_ ≠ (.slice Ao49 t178.length co49 : Value).ownBlock ∧ some k_ ≠ (.slice Ao50 t183.length co50 : Value).ownBlock ∧ some k_ ≠ (.slice Ao64 t186.length co64 : Value).ownBlock ∧ some k_ ≠ (.slice Ao61 t190.length co61 : Value).ownBlock ∧ some k_ ≠ (.slice Ao58 t195.length co58 : Value).ownBlock ∧ some k_ ≠ (.slice Ao63 t199.length co63 : Value).ownBlock) (.slice Ao66 t204.length co66) t204) := ⟨by rw [← hq_]; exact (by (with_reducible repeat (first | apply Kd.R_alloc | apply Kd.R_drewN | apply Kd.R_drew)); exact Kd.R_mono HO206.out (fun _ hk => ⟨hk.1.1.1.1.1.2, ⟨hk.1.1.1.1.2, ⟨hk.1.1.1.2, ⟨hk.1.1.2, ⟨hk.1.2, hk.2⟩⟩⟩⟩⟩))⟩; have n7_ : Aside0 (w65.heap[gb176]? = some (.cells #[.int .i64 a1_0, .int .i64 a1_1, .slice A1_2 l1_2.length c1_2] 37 (0, 0))) := ⟨by rw [← hq_]; exact (by (with_reducible repeat (first | refine blk_drewN ?_ _ | refine blk_drew ?_ | refine blk_alloc ?_ _)); exact BK176.out)⟩; have n8_ : Aside0 (w65.heap[gb198]? = some (.cells #[.int .i64 t193, .int .i64 t194, .slice Ao58 t195.length co58] 40 (0, 0))) := ⟨by rw [← hq_]; exact (by (with_reducible repeat (first | refine blk_drewN ?_ _ | refine blk_drew ?_ | refine blk_alloc ?_ _)); exact BK198.out)⟩; have n9_ : Aside0 (Below w.heap.size w w65) := ⟨by rw [← hq_]; exact (by repeat (first | (with_reducible first | exact HB.out | apply below_alloc | apply pw_below_drewN | apply below_drew1 | refine below_set ?_ GE176.out | refine below_set ?_ GE198.out) | exact HB.out))⟩; clear HO180 HO185 HO188 HO192 HO197 HO201 HO206 BK176 BK198 HB hq_; have HO180 := n0_; have HO185 := n1_; have HO188 := n2_; have HO192 := n3_; have HO197 := n4_; have HO201 := n5_; have HO206 := n6_; have BK176 := n7_; have BK198 := n8_; have HB := n9_; clear n0_ n1_ n2_ n3_ n4_ n5_ n6_ n7_ n8_ n9_))
               replace HO180 := Aside0.mk (Kd.R_drew HO180.out)
               replace HO185 := Aside0.mk (Kd.R_drew HO185.out)
               replace HO188 := Aside0.mk (Kd.R_drew HO188.out)
               replace HO192 := Aside0.mk (Kd.R_drew HO192.out)
               replace HO197 := Aside0.mk (Kd.R_drew HO197.out)
               replace HO201 := Aside0.mk (Kd.R_drew HO201.out)
               replace HO206 := Aside0.mk (Kd.R_drew HO206.out)
               replace BK176 := Aside0.mk (blk_drew BK176.out)
               replace BK198 := Aside0.mk (blk_drew BK198.out)
               replace HB := Aside0.mk (below_drew1 HB.out)
               refine start_ (n := 5) (S := fun w' => w'.cell? ⟨gb198, 0, none⟩ = some (.int .i64 t193) ∧ w'.cell? ⟨gb198, 1, none⟩ = some (.int .i64 t194) ∧ w'.cell? ⟨gb198, 2, none⟩ = some (.slice Ao58 t195.length co58) ∧ w'.cell? ⟨gb176, 0, none⟩ = some (.int .i64 a1_0) ∧ w'.cell? ⟨gb176, 1, none⟩ = some (.int .i64 a1_1) ∧ w'.cell? ⟨gb176, 2, none⟩ = some (.slice A1_2 l1_2.length c1_2)) (ds := []) #[false, false, false, false, false] (by kernel_rfl) rfl rfl ⟨zc0 BK198 0 rfl, zc0 BK198 1 rfl, zc0 BK198 2 rfl, zc0 BK176 0 rfl, zc0 BK176 1 rfl, zc0 BK176 2 rfl⟩ (fun hHeld => ?_)
               generalize w65.drew = w67 at HO180 HO185 HO188 HO192 HO197 HO201 HO206 BK176 BK198 HB hHeld ⊢
               refine take_ (i := 0) (N := some 57) (v := ?_) (a' := ?_) #[true, false, false, false, false] rfl rfl (by kernel_rfl) (fun _ _ _ h => h) (Or.inl ⟨by rfl, ?_⟩) hHeld ?_ ?_
               rotate_left
               ·rintro w' ⟨s0, s1, s2, s3, s4, s5⟩
                go_simp
                with_reducible rfl
               rotate_left
               ·simp only [Act.put, zp1, zp2, zp3, i64_w, i32_w]
                rfl
               refine take_ (i := 1) (N := some 58) (v := ?_) (a' := ?_) #[true, true, false, false, false] rfl rfl (by kernel_rfl) (fun _ _ _ h => h) (Or.inl ⟨by rfl, ?_⟩) hHeld ?_ ?_
               rotate_left
               ·rintro w' ⟨s0, s1, s2, s3, s4, s5⟩
                go_simp
                with_reducible rfl
               rotate_left
               ·simp only [Act.put, zp1, zp2, zp3, i64_w, i32_w]
                rfl
               refine one_ (i := 2) (N := some 59) #[true, true, true, false, false] rfl rfl (by kernel_rfl) (by decide) (fun K hK => ?_)
               refine goes_ Try.func25 (by kernel_rfl) rfl #[.agg #[.int .i64 a1_0, .int .i64 a1_1, .slice A1_2 l1_2.length c1_2]] (by rfl) rfl rfl (by (try simp only [List.map_toArray, List.map_cons, List.map_nil]); first | done | rfl | (simp only [List.length_drop, List.length_take]; rfl)) ?_
               with_reducible refine (laws_toEdit.calls k a1_0 a1_1 _ _ l1_2 t208 t209 t210 _ ?side1 ?side2 A22.out).mono ?_
               (case side1 => repeat (first | exact (Kd.C_below HR1_2.out HB.out) | (with_reducible refine Kd.C_alloc ?_ _) | (with_reducible refine Kd.C_drewN ?_ _) | (with_reducible refine Kd.C_drew ?_)))
               (case side2 => exact HC1_2.out)
               rintro e w68 ⟨v211, rfl, ho0, hb⟩
               refine ⟨_, rfl, ?_⟩
               have HO212 := Aside0.mk (Kd.R_lower (Kd.R_new' (Kd.R_new' (Kd.R_new' (Kd.R_new' (Kd.R_new' (Kd.R_new' (Kd.R_new' ho0 (Kd.R_lt (zr0 HO180))) (Kd.R_lt (zr0 HO185))) (Kd.R_lt (zr0 HO188))) (Kd.R_lt (zr0 HO192))) (Kd.R_lt (zr0 HO197))) (Kd.R_lt (zr0 HO201))) (Kd.R_lt (zr0 HO206))) (below_size (zh0 HB)))
               replace HO180 := Aside0.mk (Kd.R_elder' (zr0 HO180) (Kd.R_base ho0) hb)
               replace HO185 := Aside0.mk (Kd.R_elder' (zr0 HO185) (Kd.R_base ho0) hb)
               replace HO188 := Aside0.mk (Kd.R_elder' (zr0 HO188) (Kd.R_base ho0) hb)
               replace HO192 := Aside0.mk (Kd.R_elder' (zr0 HO192) (Kd.R_base ho0) hb)
               replace HO197 := Aside0.mk (Kd.R_elder' (zr0 HO197) (Kd.R_base ho0) hb)
               replace HO201 := Aside0.mk (Kd.R_elder' (zr0 HO201) (Kd.R_base ho0) hb)
               replace HO206 := Aside0.mk (Kd.R_elder' (zr0 HO206) (Kd.R_base ho0) hb)
               replace BK176 := zb0 BK176 hb
               replace BK198 := zb0 BK198 hb
               replace HB := zhs HB hb
               (try clear hb)
               (try clear hb2)
               (try clear hk)
               (try clear hi)
               (try clear ho0)
               obtain ⟨Ao69, co69, eo69⟩ := Kd.R_slice HO212.out
               (first | subst eo69 | (injection eo69 with f1_ f2_ f3_; have f4_ := f1_.symm; have f5_ := f3_.symm; clear f1_ f2_ f3_; subst f4_; subst f5_))
               refine hK.out _ _ ⟨zc0 BK198 0 rfl, zc0 BK198 1 rfl, zc0 BK198 2 rfl, zc0 BK176 0 rfl, zc0 BK176 1 rfl, zc0 BK176 2 rfl⟩ (fun hHeld => ?_)
               clear hK K
               refine norm_ (a' := ?_) ?_ ?_
               rotate_left
               ·show Act.put _ (some 59) _ = _
                simp only [Act.put, zp1, zp2, zp3, i64_w, i32_w]
                rfl
               refine one_ (i := 3) (N := some 60) #[true, true, true, true, false] rfl rfl (by kernel_rfl) (by decide) (fun K hK => ?_)
               refine goes_ Try.func27 (by kernel_rfl) rfl #[.agg #[.int .i64 t193, .int .i64 t194, .slice Ao58 t195.length co58], .agg #[.int .i64 t208, .int .i64 t209, .slice Ao69 t210.length co69]] (by rfl) rfl rfl (by (try simp only [List.map_toArray, List.map_cons, List.map_nil]); first | done | rfl | (simp only [List.length_drop, List.length_take]; rfl)) ?_
               with_reducible refine (laws_eqEdit.calls k t193 t194 _ _ t195 t208 t209 _ _ t210 true _ ?side1 ?side2 ?side3 ?side4 A23.out).mono ?_
               (case side1 => repeat (first | exact (Kd.R_reads' HO197.out).2.2 | (with_reducible refine Kd.C_alloc ?_ _) | (with_reducible refine Kd.C_drewN ?_ _) | (with_reducible refine Kd.C_drew ?_)))
               (case side2 => exact (Kd.R_reads' HO197.out).2.1)
               (case side3 => repeat (first | exact (Kd.R_reads' HO212.out).2.2 | (with_reducible refine Kd.C_alloc ?_ _) | (with_reducible refine Kd.C_drewN ?_ _) | (with_reducible refine Kd.C_drew ?_)))
               (case side4 => exact (Kd.R_reads' HO212.out).2.1)
               rintro e w70 ⟨rfl, hb⟩
               refine ⟨_, rfl, ?_⟩
               replace HO180 := zrb HO180 hb
               replace HO185 := zrb HO185 hb
               replace HO188 := zrb HO188 hb
               replace HO192 := zrb HO192 hb
               replace HO197 := zrb HO197 hb
               replace HO201 := zrb HO201 hb
               replace HO206 := zrb HO206 hb
               replace HO212 := zrb HO212 hb
               replace BK176 := zb0 BK176 hb
               replace BK198 := zb0 BK198 hb
               replace HB := zhs HB hb
               (try clear hb)
               (try clear hb2)
               (try clear hk)
               (try clear hi)
               refine hK.out _ _ ⟨zc0 BK198 0 rfl, zc0 BK198 1 rfl, zc0 BK198 2 rfl, zc0 BK176 0 rfl, zc0 BK176 1 rfl, zc0 BK176 2 rfl⟩ (fun hHeld => ?_)
               clear hK K
               refine norm_ (a' := ?_) ?_ ?_
               rotate_left
               ·show Act.put _ (some 60) _ = _
                simp only [Act.put, zp1, zp2, zp3, i64_w, i32_w]
                rfl
               refine pure_ (i := 4) (N := some 61) (v := ?_) (a' := ?_) #[true, true, true, true, true] rfl rfl (by kernel_rfl) (fun _ _ _ h => h) (Or.inl ⟨by rfl, ?_⟩) ?_ ?_
               rotate_left
               ·intro w'
                go_simp
                with_reducible rfl
               rotate_left
               ·simp only [Act.put, zp1, zp2, zp3, i64_w, i32_w]
                rfl
               refine done_ (by kernel_rfl) ?_
               try go_wp2_with (first | ((with_reducible refine gate_callee (f := 21) rfl ?_); refine goesL_ (some 64) rfl rfl Try.func21 (by kernel_rfl) rfl #[.slice Ao61 t190.length co61, .int .i64 1] rfl (by (try simp only [List.map_toArray, List.map_cons, List.map_nil]); first | done | rfl | (simp only [List.length_drop, List.length_take]; rfl)) ?_; (with_reducible refine (laws_markByteS.calls k (fun k_ => some k_ = (.slice Ao61 t190.length co61 : Value).ownBlock) (.slice Ao61 t190.length co61) t190 1 t214 t215 w _ ?side1 ?side2 A25.out).mono ?_); (case side1 => repeat (first | (with_reducible first | exact HB.out | apply below_alloc | apply pw_below_drewN | apply below_drew1 | refine below_set ?_ GE176.out | refine below_set ?_ GE198.out) | exact HB.out)); (case side2 => exact Kd.R_tight rfl HO192.out); rintro e w71 ⟨rfl, hy0, hb, hkp⟩; refine ⟨_, rfl, ?_⟩; have n0_ := Aside0.mk (blk_kept (zk0 BK176) hkp (fun hs_ => (fun e_ => (Kd.R_ne HO192.out BK176.out (by decide)) e_) hs_)); have n1_ := Aside0.mk (Kd.R_mono (ok' := fun k_ => some k_ ≠ (.slice Ao50 t183.length co50 : Value).ownBlock ∧ some k_ ≠ (.slice Ao64 t186.length co64 : Value).ownBlock ∧ some k_ ≠ (.slice Ao61 t190.length co61 : Value).ownBlock ∧ some k_ ≠ (.slice Ao58 t195.length co58 : Value).ownBlock ∧ some k_ ≠ (.slice Ao63 t199.length co63 : Value).ownBlock ∧ some k_ ≠ (.slice Ao66 t204.length co66 : Value).ownBlock ∧ some k_ ≠ (.slice Ao69 t210.length co69 : Value).ownBlock) (Kd.R_keptB (HO180.out) hkp (fun k_ hk_ hs_ => (hk_.1.2.2.1) hs_)) (fun k_ hk_ => ⟨hk_.1.1.1, hk_.1.1.2.1, hk_.1.1.2.2.1, hk_.1.1.2.2.2.1, hk_.1.1.2.2.2.2.1, hk_.1.1.2.2.2.2.2, hk_.1.2⟩)); have n2_ := Aside0.mk (Kd.R_mono (ok' := fun k_ => some k_ ≠ (.slice Ao49 t178.length co49 : Value).ownBlock ∧ some k_ ≠ (.slice Ao64 t186.length co64 : Value).ownBlock ∧ some k_ ≠ (.slice Ao61 t190.length co61 : Value).ownBlock ∧ some k_ ≠ (.slice Ao58 t195.length co58 : Value).ownBlock ∧ some k_ ≠ (.slice Ao63 t199.length co63 : Value).ownBlock ∧ some k_ ≠ (.slice Ao66 t204.length co66 : Value).ownBlock ∧ some k_ ≠ (.slice Ao69 t210.length co69 : Value).ownBlock) (Kd.R_keptB (HO185.out) hkp (fun k_ hk_ hs_ => (hk_.1.2.2.1) hs_)) (fun k_ hk_ => ⟨hk_.1.1.1, hk_.1.1.2.1, hk_.1.1.2.2.1, hk_.1.1.2.2.2.1, hk_.1.1.2.2.2.2.1, hk_.1.1.2.2.2.2.2, hk_.1.2⟩)); have n3_ := Aside0.mk (Kd.R_mono (ok' := fun k_ => some k_ ≠ (.slice Ao49 t178.length co49 : Value).ownBlock ∧ some k_ ≠ (.slice Ao50 t183.length co50 : Value).ownBlock ∧ some k_ ≠ (.slice Ao61 t190.length co61 : Value).ownBlock ∧ some k_ ≠ (.slice Ao58 t195.length co58 : Value).ownBlock ∧ some k_ ≠ (.slice Ao63 t199.length co63 : Value).ownBlock ∧ some k_ ≠ (.slice Ao66 t204.length co66 : Value).ownBlock ∧ some k_ ≠ (.slice Ao69 t210.length co69 : Value).ownBlock) (Kd.R_keptB (HO188.out) hkp (fun k_ hk_ hs_ => (hk_.1.2.2.1) hs_)) (fun k_ hk_ => ⟨hk_.1.1.1, hk_.1.1.2.1, hk_.1.1.2.2.1, hk_.1.1.2.2.2.1, hk_.1.1.2.2.2.2.1, hk_.1.1.2.2.2.2.2, hk_.1.2⟩)); have n4_ := Aside0.mk (Kd.R_reok rfl hy0 (fun k_ e_ => HO192.out.1 k_ e_)); have n5_ := Aside0.mk (Kd.R_mono (ok' := fun k_ => some k_ ≠ (.slice Ao49 t178.length co49 : Value).ownBlock ∧ some k_ ≠ (.slice Ao50 t183.length co50 : Value).ownBlock ∧ some k_ ≠ (.slice Ao64 t186.length co64 : Value).ownBlock ∧ some k_ ≠ (.slice Ao61 t190.length co61 : Value).ownBlock ∧ some k_ ≠ (.slice Ao63 t199.length co63 : Value).ownBlock ∧ some k_ ≠ (.slice Ao66 t204.length co66 : Value).ownBlock ∧ some k_ ≠ (.slice Ao69 t210.length co69 : Value).ownBlock) (Kd.R_keptB (HO197.out) hkp (fun k_ hk_ hs_ => (hk_.1.2.2.2.1) hs_)) (fun k_ hk_ => ⟨hk_.1.1.1, hk_.1.1.2.1, hk_.1.1.2.2.1, hk_.1.1.2.2.2.1, hk_.1.1.2.2.2.2.1, hk_.1.1.2.2.2.2.2, hk_.1.2⟩)); have n6_ := Aside0.mk (blk_kept (zk0 BK198) hkp (fun hs_ => (fun e_ => (Kd.R_ne HO192.out BK198.out (by decide)) e_) hs_)); have n7_ := Aside0.mk (Kd.R_mono (ok' := fun k_ => some k_ ≠ (.slice Ao49 t178.length co49 : Value).ownBlock ∧ some k_ ≠ (.slice Ao50 t183.length co50 : Value).ownBlock ∧ some k_ ≠ (.slice Ao64 t186.length co64 : Value).ownBlock ∧ some k_ ≠ (.slice Ao61 t190.length co61 : Value).ownBlock ∧ some k_ ≠ (.slice Ao58 t195.length co58 : Value).ownBlock ∧ some k_ ≠ (.slice Ao66 t204.length co66 : Value).ownBlock ∧ some k_ ≠ (.slice Ao69 t210.length co69 : Value).ownBlock) (Kd.R_keptB (HO201.out) hkp (fun k_ hk_ hs_ => (hk_.1.2.2.2.1) hs_)) (fun k_ hk_ => ⟨hk_.1.1.1, hk_.1.1.2.1, hk_.1.1.2.2.1, hk_.1.1.2.2.2.1, hk_.1.1.2.2.2.2.1, hk_.1.1.2.2.2.2.2, hk_.1.2⟩)); have n8_ := Aside0.mk (Kd.R_mono (ok' := fun k_ => some k_ ≠ (.slice Ao49 t178.length co49 : Value).ownBlock ∧ some k_ ≠ (.slice Ao50 t183.length co50 : Value).ownBlock ∧ some k_ ≠ (.slice Ao64 t186.length co64 : Value).ownBlock ∧ some k_ ≠ (.slice Ao61 t190.length co61 : Value).ownBlock ∧ some k_ ≠ (.slice Ao58 t195.length co58 : Value).ownBlock ∧ some k_ ≠ (.slice Ao63 t199.length co63 : Value).ownBlock ∧ some k_ ≠ (.slice Ao69 t210.length co69 : Value).ownBlock) (Kd.R_keptB (HO206.out) hkp (fun k_ hk_ hs_ => (hk_.1.2.2.2.1) hs_)) (fun k_ hk_ => ⟨hk_.1.1.1, hk_.1.1.2.1, hk_.1.1.2.2.1, hk_.1.1.2.2.2.1, hk_.1.1.2.2.2.2.1, hk_.1.1.2.2.2.2.2, hk_.1.2⟩)); have n9_ := Aside0.mk (Kd.R_mono (ok' := fun k_ => some k_ ≠ (.slice Ao49 t178.length co49 : Value).ownBlock ∧ some k_ ≠ (.slice Ao50 t183.length co50 : Value).ownBlock ∧ some k_ ≠ (.slice Ao64 t186.length co64 : Value).ownBlock ∧ some k_ ≠ (.slice Ao61 t190.length co61 : Value).ownBlock ∧ some k_ ≠ (.slice Ao58 t195.length co58 : Value).ownBlock ∧ some k_ ≠ (.slice Ao63 t199.length co63 : Value).ownBlock ∧ some k_ ≠ (.slice Ao66 t204.length co66 : Value).ownBlock) (Kd.R_keptB (HO212.out) hkp (fun k_ hk_ hs_ => (hk_.1.1.1.2) hs_)) (fun k_ hk_ => ⟨hk_.1.1.1.1.1.1.1.2, hk_.1.1.1.1.1.1.2, hk_.1.1.1.1.1.2, hk_.1.1.1.1.2, hk_.1.1.1.2, hk_.1.1.2, hk_.1.2⟩)); have n10_ := Aside0.mk (hb); clear BK176; clear HO180; clear HO185; clear HO188; clear HO192; clear HO197; clear BK198; clear HO201; clear HO206; clear HO212; clear HB; have BK176 := n0_; have HO180 := n1_; have HO185 := n2_; have HO188 := n3_; have HO192 := n4_; have HO197 := n5_; have BK198 := n6_; have HO201 := n7_; have HO206 := n8_; have HO212 := n9_; have HB := n10_; clear n0_ n1_ n2_ n3_ n4_ n5_ n6_ n7_ n8_ n9_ n10_; (try clear hb); (try clear hkp); (try clear hy0); have hcz72_0 : w71.cell? ⟨gb198, 0, none⟩ = some (.int .i64 t193) := zc0 BK198 0 rfl; have hcz72_1 : w71.cell? ⟨gb198, 1, none⟩ = some (.int .i64 t194) := zc0 BK198 1 rfl; have hcz72_2 : w71.cell? ⟨gb198, 2, none⟩ = some (.slice Ao58 t195.length co58) := zc0 BK198 2 rfl; have hfz72_0 := blk_frozen BK198.out 0; have hfz72_1 := blk_frozen BK198.out 1; have hfz72_2 := blk_frozen BK198.out 2) | ((with_reducible refine gate_callee (f := 28) rfl ?_); refine goesL_ (some 67) rfl rfl Try.func28 (by kernel_rfl) rfl #[.agg #[.int .i64 t193, .int .i64 t194, .slice Ao58 t195.length co58], .int .i64 t214] rfl (by (try simp only [List.map_toArray, List.map_cons, List.map_nil]); first | done | rfl | (simp only [List.length_drop, List.length_take]; rfl)) ?_; (with_reducible refine (laws_markEdit.calls k t193 t194 (fun k_ => some k_ = (.slice Ao58 t195.length co58 : Value).ownBlock) (.slice Ao58 t195.length co58) t195 t214 t216 t217 w _ ?side1 ?side2 A26.out).mono ?_); (case side1 => repeat (first | (with_reducible first | exact HB.out | apply below_alloc | apply pw_below_drewN | apply below_drew1 | refine below_set ?_ GE176.out | refine below_set ?_ GE198.out) | exact HB.out)); (case side2 => exact Kd.R_tight rfl HO197.out); rintro e w73 ⟨rfl, hy0, hb, hkp⟩; refine ⟨_, rfl, ?_⟩; have n0_ := Aside0.mk (blk_kept (zk0 BK176) hkp (fun hs_ => (fun e_ => (Kd.R_ne HO197.out BK176.out (by decide)) e_) hs_)); have n1_ := Aside0.mk (Kd.R_mono (ok' := fun k_ => some k_ ≠ (.slice Ao50 t183.length co50 : Value).ownBlock ∧ some k_ ≠ (.slice Ao64 t186.length co64 : Value).ownBlock ∧ some k_ ≠ (.slice Ao61 t190.length co61 : Value).ownBlock ∧ some k_ ≠ (.slice Ao58 t195.length co58 : Value).ownBlock ∧ some k_ ≠ (.slice Ao63 t199.length co63 : Value).ownBlock ∧ some k_ ≠ (.slice Ao66 t204.length co66 : Value).ownBlock ∧ some k_ ≠ (.slice Ao69 t210.length co69 : Value).ownBlock) (Kd.R_keptB (HO180.out) hkp (fun k_ hk_ hs_ => (hk_.2.2.2.1) hs_)) (fun k_ hk_ => ⟨hk_.1.1, hk_.1.2.1, hk_.1.2.2.1, hk_.1.2.2.2.1, hk_.1.2.2.2.2.1, hk_.1.2.2.2.2.2.1, hk_.1.2.2.2.2.2.2⟩)); have n2_ := Aside0.mk (Kd.R_mono (ok' := fun k_ => some k_ ≠ (.slice Ao49 t178.length co49 : Value).ownBlock ∧ some k_ ≠ (.slice Ao64 t186.length co64 : Value).ownBlock ∧ some k_ ≠ (.slice Ao61 t190.length co61 : Value).ownBlock ∧ some k_ ≠ (.slice Ao58 t195.length co58 : Value).ownBlock ∧ some k_ ≠ (.slice Ao63 t199.length co63 : Value).ownBlock ∧ some k_ ≠ (.slice Ao66 t204.length co66 : Value).ownBlock ∧ some k_ ≠ (.slice Ao69 t210.length co69 : Value).ownBlock) (Kd.R_keptB (HO185.out) hkp (fun k_ hk_ hs_ => (hk_.2.2.2.1) hs_)) (fun k_ hk_ => ⟨hk_.1.1, hk_.1.2.1, hk_.1.2.2.1, hk_.1.2.2.2.1, hk_.1.2.2.2.2.1, hk_.1.2.2.2.2.2.1, hk_.1.2.2.2.2.2.2⟩)); have n3_ := Aside0.mk (Kd.R_mono (ok' := fun k_ => some k_ ≠ (.slice Ao49 t178.length co49 : Value).ownBlock ∧ some k_ ≠ (.slice Ao50 t183.length co50 : Value).ownBlock ∧ some k_ ≠ (.slice Ao61 t190.length co61 : Value).ownBlock ∧ some k_ ≠ (.slice Ao58 t195.length co58 : Value).ownBlock ∧ some k_ ≠ (.slice Ao63 t199.length co63 : Value).ownBlock ∧ some k_ ≠ (.slice Ao66 t204.length co66 : Value).ownBlock ∧ some k_ ≠ (.slice Ao69 t210.length co69 : Value).ownBlock) (Kd.R_keptB (HO188.out) hkp (fun k_ hk_ hs_ => (hk_.2.2.2.1) hs_)) (fun k_ hk_ => ⟨hk_.1.1, hk_.1.2.1, hk_.1.2.2.1, hk_.1.2.2.2.1, hk_.1.2.2.2.2.1, hk_.1.2.2.2.2.2.1, hk_.1.2.2.2.2.2.2⟩)); have n4_ := Aside0.mk (Kd.R_mono (ok' := fun k_ => some k_ ≠ (.slice Ao49 t178.length co49 : Value).ownBlock ∧ some k_ ≠ (.slice Ao50 t183.length co50 : Value).ownBlock ∧ some k_ ≠ (.slice Ao64 t186.length co64 : Value).ownBlock ∧ some k_ ≠ (.slice Ao58 t195.length co58 : Value).ownBlock ∧ some k_ ≠ (.slice Ao63 t199.length co63 : Value).ownBlock ∧ some k_ ≠ (.slice Ao66 t204.length co66 : Value).ownBlock ∧ some k_ ≠ (.slice Ao69 t210.length co69 : Value).ownBlock) (Kd.R_keptB (HO192.out) hkp (fun k_ hk_ hs_ => (hk_.1.2.2.2.1) hs_)) (fun k_ hk_ => ⟨hk_.1.1.1, hk_.1.1.2.1, hk_.1.1.2.2.1, hk_.1.1.2.2.2.1, hk_.1.1.2.2.2.2.1, hk_.1.1.2.2.2.2.2, hk_.1.2⟩)); have n5_ := Aside0.mk (Kd.R_reok rfl hy0 (fun k_ e_ => HO197.out.1 k_ e_)); have n6_ := Aside0.mk (blk_kept (zk0 BK198) hkp (fun hs_ => (fun e_ => (Kd.R_ne HO197.out BK198.out (by decide)) e_) hs_)); have n7_ := Aside0.mk (Kd.R_mono (ok' := fun k_ => some k_ ≠ (.slice Ao49 t178.length co49 : Value).ownBlock ∧ some k_ ≠ (.slice Ao50 t183.length co50 : Value).ownBlock ∧ some k_ ≠ (.slice Ao64 t186.length co64 : Value).ownBlock ∧ some k_ ≠ (.slice Ao61 t190.length co61 : Value).ownBlock ∧ some k_ ≠ (.slice Ao58 t195.length co58 : Value).ownBlock ∧ some k_ ≠ (.slice Ao66 t204.length co66 : Value).ownBlock ∧ some k_ ≠ (.slice Ao69 t210.length co69 : Value).ownBlock) (Kd.R_keptB (HO201.out) hkp (fun k_ hk_ hs_ => (hk_.2.2.2.2.1) hs_)) (fun k_ hk_ => ⟨hk_.1.1, hk_.1.2.1, hk_.1.2.2.1, hk_.1.2.2.2.1, hk_.1.2.2.2.2.1, hk_.1.2.2.2.2.2.1, hk_.1.2.2.2.2.2.2⟩)); have n8_ := Aside0.mk (Kd.R_mono (ok' := fun k_ => some k_ ≠ (.slice Ao49 t178.length co49 : Value).ownBlock ∧ some k_ ≠ (.slice Ao50 t183.length co50 : Value).ownBlock ∧ some k_ ≠ (.slice Ao64 t186.length co64 : Value).ownBlock ∧ some k_ ≠ (.slice Ao61 t190.length co61 : Value).ownBlock ∧ some k_ ≠ (.slice Ao58 t195.length co58 : Value).ownBlock ∧ some k_ ≠ (.slice Ao63 t199.length co63 : Value).ownBlock ∧ some k_ ≠ (.slice Ao69 t210.length co69 : Value).ownBlock) (Kd.R_keptB (HO206.out) hkp (fun k_ hk_ hs_ => (hk_.2.2.2.2.1) hs_)) (fun k_ hk_ => ⟨hk_.1.1, hk_.1.2.1, hk_.1.2.2.1, hk_.1.2.2.2.1, hk_.1.2.2.2.2.1, hk_.1.2.2.2.2.2.1, hk_.1.2.2.2.2.2.2⟩)); have n9_ := Aside0.mk (Kd.R_mono (ok' := fun k_ => some k_ ≠ (.slice Ao49 t178.length co49 : Value).ownBlock ∧ some k_ ≠ (.slice Ao50 t183.length co50 : Value).ownBlock ∧ some k_ ≠ (.slice Ao64 t186.length co64 : Value).ownBlock ∧ some k_ ≠ (.slice Ao61 t190.length co61 : Value).ownBlock ∧ some k_ ≠ (.slice Ao58 t195.length co58 : Value).ownBlock ∧ some k_ ≠ (.slice Ao63 t199.length co63 : Value).ownBlock ∧ some k_ ≠ (.slice Ao66 t204.length co66 : Value).ownBlock) (Kd.R_keptB (HO212.out) hkp (fun k_ hk_ hs_ => (hk_.2.2.2.2.1) hs_)) (fun k_ hk_ => ⟨hk_.1.1, hk_.1.2.1, hk_.1.2.2.1, hk_.1.2.2.2.1, hk_.1.2.2.2.2.1, hk_.1.2.2.2.2.2.1, hk_.1.2.2.2.2.2.2⟩)); have n10_ := Aside0.mk (hb); clear BK176; clear HO180; clear HO185; clear HO188; clear HO192; clear HO197; clear BK198; clear HO201; clear HO206; clear HO212; clear HB; have BK176 := n0_; have HO180 := n1_; have HO185 := n2_; have HO188 := n3_; have HO192 := n4_; have HO197 := n5_; have BK198 := n6_; have HO201 := n7_; have HO206 := n8_; have HO212 := n9_; have HB := n10_; clear n0_ n1_ n2_ n3_ n4_ n5_ n6_ n7_ n8_ n9_ n10_; (try clear hb); (try clear hkp); (try clear hy0)) | (go_at_call 20; (with_reducible refine (laws_eqByteS.calls k _ _ t199 _ _ t186 true _ ?side1 ?side2 ?side3 ?side4 A28.out).mono ?_); (case side1 => repeat (first | exact (Kd.R_reads' HO201.out).2.2 | (with_reducible refine Kd.C_alloc ?_ _) | (with_reducible refine Kd.C_drewN ?_ _) | (with_reducible refine Kd.C_drew ?_))); (case side2 => exact (Kd.R_reads' HO201.out).2.1); (case side3 => repeat (first | exact (Kd.R_reads' HO188.out).2.2 | (with_reducible refine Kd.C_alloc ?_ _) | (with_reducible refine Kd.C_drewN ?_ _) | (with_reducible refine Kd.C_drew ?_))); (case side4 => exact (Kd.R_reads' HO188.out).2.1); rintro e w' ⟨rfl, ⟨nd, rfl⟩⟩) | ((with_reducible refine gate_callee (f := 21) rfl ?_); refine goesL_ (some 83) rfl rfl Try.func21 (by kernel_rfl) rfl #[.slice Ao63 t199.length co63, .int .i64 1] rfl (by (try simp only [List.map_toArray, List.map_cons, List.map_nil]); first | done | rfl | (simp only [List.length_drop, List.length_take]; rfl)) ?_; (with_reducible refine (laws_markByteS.calls k (fun k_ => some k_ = (.slice Ao63 t199.length co63 : Value).ownBlock) (.slice Ao63 t199.length co63) t199 1 t219 t220 w _ ?side1 ?side2 A30.out).mono ?_); (case side1 => repeat (first | (with_reducible first | exact HB.out | apply below_alloc | apply pw_below_drewN | apply below_drew1 | refine below_set ?_ GE176.out | refine below_set ?_ GE198.out) | exact HB.out)); (case side2 => exact Kd.R_tight rfl HO201.out); rintro e w74 ⟨rfl, hy0, hb, hkp⟩; refine ⟨_, rfl, ?_⟩; replace BK176 := Aside0.mk (blk_kept (zk0 BK176) hkp (fun hs_ => (fun e_ => (Kd.R_ne HO201.out BK176.out (by decide)) e_) hs_)); replace HO180 := Aside0.mk (Kd.R_mono (ok' := fun k_ => some k_ ≠ (.slice Ao50 t183.length co50 : Value).ownBlock ∧ some k_ ≠ (.slice Ao64 t186.length co64 : Value).ownBlock ∧ some k_ ≠ (.slice Ao61 t190.length co61 : Value).ownBlock ∧ some k_ ≠ (.slice Ao58 t195.length co58 : Value).ownBlock ∧ some k_ ≠ (.slice Ao63 t199.length co63 : Value).ownBlock ∧ some k_ ≠ (.slice Ao66 t204.length co66 : Value).ownBlock ∧ some k_ ≠ (.slice Ao69 t210.length co69 : Value).ownBlock) (Kd.R_keptB (HO180.out) hkp (fun k_ hk_ hs_ => (hk_.2.2.2.2.1) hs_)) (fun k_ hk_ => ⟨hk_.1.1, hk_.1.2.1, hk_.1.2.2.1, hk_.1.2.2.2.1, hk_.1.2.2.2.2.1, hk_.1.2.2.2.2.2.1, hk_.1.2.2.2.2.2.2⟩)); replace HO185 := Aside0.mk (Kd.R_mono (ok' := fun k_ => some k_ ≠ (.slice Ao49 t178.length co49 : Value).ownBlock ∧ some k_ ≠ (.slice Ao64 t186.length co64 : Value).ownBlock ∧ some k_ ≠ (.slice Ao61 t190.length co61 : Value).ownBlock ∧ some k_ ≠ (.slice Ao58 t195.length co58 : Value).ownBlock ∧ some k_ ≠ (.slice Ao63 t199.length co63 : Value).ownBlock ∧ some k_ ≠ (.slice Ao66 t204.length co66 : Value).ownBlock ∧ some k_ ≠ (.slice Ao69 t210.length co69 : Value).ownBlock) (Kd.R_keptB (HO185.out) hkp (fun k_ hk_ hs_ => (hk_.2.2.2.2.1) hs_)) (fun k_ hk_ => ⟨hk_.1.1, hk_.1.2.1, hk_.1.2.2.1, hk_.1.2.2.2.1, hk_.1.2.2.2.2.1, hk_.1.2.2.2.2.2.1, hk_.1.2.2.2.2.2.2⟩)); replace HO188 := Aside0.mk (Kd.R_mono (ok' := fun k_ => some k_ ≠ (.slice Ao49 t178.length co49 : Value).ownBlock ∧ some k_ ≠ (.slice Ao50 t183.length co50 : Value).ownBlock ∧ some k_ ≠ (.slice Ao61 t190.length co61 : Value).ownBlock ∧ some k_ ≠ (.slice Ao58 t195.length co58 : Value).ownBlock ∧ some k_ ≠ (.slice Ao63 t199.length co63 : Value).ownBlock ∧ some k_ ≠ (.slice Ao66 t204.length co66 : Value).ownBlock ∧ some k_ ≠ (.slice Ao69 t210.length co69 : Value).ownBlock) (Kd.R_keptB (HO188.out) hkp (fun k_ hk_ hs_ => (hk_.2.2.2.2.1) hs_)) (fun k_ hk_ => ⟨hk_.1.1, hk_.1.2.1, hk_.1.2.2.1, hk_.1.2.2.2.1, hk_.1.2.2.2.2.1, hk_.1.2.2.2.2.2.1, hk_.1.2.2.2.2.2.2⟩)); replace HO192 := Aside0.mk (Kd.R_mono (ok' := fun k_ => some k_ ≠ (.slice Ao49 t178.length co49 : Value).ownBlock ∧ some k_ ≠ (.slice Ao50 t183.length co50 : Value).ownBlock ∧ some k_ ≠ (.slice Ao64 t186.length co64 : Value).ownBlock ∧ some k_ ≠ (.slice Ao58 t195.length co58 : Value).ownBlock ∧ some k_ ≠ (.slice Ao63 t199.length co63 : Value).ownBlock ∧ some k_ ≠ (.slice Ao66 t204.length co66 : Value).ownBlock ∧ some k_ ≠ (.slice Ao69 t210.length co69 : Value).ownBlock) (Kd.R_keptB (HO192.out) hkp (fun k_ hk_ hs_ => (hk_.2.2.2.2.1) hs_)) (fun k_ hk_ => ⟨hk_.1.1, hk_.1.2.1, hk_.1.2.2.1, hk_.1.2.2.2.1, hk_.1.2.2.2.2.1, hk_.1.2.2.2.2.2.1, hk_.1.2.2.2.2.2.2⟩)); replace HO197 := Aside0.mk (Kd.R_mono (ok' := fun k_ => some k_ ≠ (.slice Ao49 t178.length co49 : Value).ownBlock ∧ some k_ ≠ (.slice Ao50 t183.length co50 : Value).ownBlock ∧ some k_ ≠ (.slice Ao64 t186.length co64 : Value).ownBlock ∧ some k_ ≠ (.slice Ao61 t190.length co61 : Value).ownBlock ∧ some k_ ≠ (.slice Ao63 t199.length co63 : Value).ownBlock ∧ some k_ ≠ (.slice Ao66 t204.length co66 : Value).ownBlock ∧ some k_ ≠ (.slice Ao69 t210.length co69 : Value).ownBlock) (Kd.R_keptB (HO197.out) hkp (fun k_ hk_ hs_ => (hk_.2.2.2.2.1) hs_)) (fun k_ hk_ => ⟨hk_.1.1, hk_.1.2.1, hk_.1.2.2.1, hk_.1.2.2.2.1, hk_.1.2.2.2.2.1, hk_.1.2.2.2.2.2.1, hk_.1.2.2.2.2.2.2⟩)); replace BK198 := Aside0.mk (blk_kept (zk0 BK198) hkp (fun hs_ => (fun e_ => (Kd.R_ne HO201.out BK198.out (by decide)) e_) hs_)); replace HO201 := Aside0.mk (Kd.R_reok rfl hy0 (fun k_ e_ => HO201.out.1 k_ e_)); replace HO206 := Aside0.mk (Kd.R_mono (ok' := fun k_ => some k_ ≠ (.slice Ao49 t178.length co49 : Value).ownBlock ∧ some k_ ≠ (.slice Ao50 t183.length co50 : Value).ownBlock ∧ some k_ ≠ (.slice Ao64 t186.length co64 : Value).ownBlock ∧ some k_ ≠ (.slice Ao61 t190.length co61 : Value).ownBlock ∧ some k_ ≠ (.slice Ao58 t195.length co58 : Value).ownBlock ∧ some k_ ≠ (.slice Ao63 t199.length co63 : Value).ownBlock ∧ some k_ ≠ (.slice Ao69 t210.length co69 : Value).ownBlock) (Kd.R_keptB (HO206.out) hkp (fun k_ hk_ hs_ => (hk_.2.2.2.2.2.1) hs_)) (fun k_ hk_ => ⟨hk_.1.1, hk_.1.2.1, hk_.1.2.2.1, hk_.1.2.2.2.1, hk_.1.2.2.2.2.1, hk_.1.2.2.2.2.2.1, hk_.1.2.2.2.2.2.2⟩)); replace HO212 := Aside0.mk (Kd.R_mono (ok' := fun k_ => some k_ ≠ (.slice Ao49 t178.length co49 : Value).ownBlock ∧ some k_ ≠ (.slice Ao50 t183.length co50 : Value).ownBlock ∧ some k_ ≠ (.slice Ao64 t186.length co64 : Value).ownBlock ∧ some k_ ≠ (.slice Ao61 t190.length co61 : Value).ownBlock ∧ some k_ ≠ (.slice Ao58 t195.length co58 : Value).ownBlock ∧ some k_ ≠ (.slice Ao63 t199.length co63 : Value).ownBlock ∧ some k_ ≠ (.slice Ao66 t204.length co66 : Value).ownBlock) (Kd.R_keptB (HO212.out) hkp (fun k_ hk_ hs_ => (hk_.2.2.2.2.2.1) hs_)) (fun k_ hk_ => ⟨hk_.1.1, hk_.1.2.1, hk_.1.2.2.1, hk_.1.2.2.2.1, hk_.1.2.2.2.2.1, hk_.1.2.2.2.2.2.1, hk_.1.2.2.2.2.2.2⟩)); replace HB := Aside0.mk (hb); (try clear hb); (try clear hkp); (try clear hy0)) | ((with_reducible refine gate_callee (f := 22) rfl ?_); refine goesL_ (some 86) rfl rfl Try.func22 (by kernel_rfl) rfl #[.slice Ao63 t220.length co63, .int .i64 1] rfl (by (try simp only [List.map_toArray, List.map_cons, List.map_nil]); first | done | (rw [show t220.length = t199.length from (Kd.R_reads' HO201.out).1.symm] <;> rfl) | rfl | (simp only [List.length_drop, List.length_take]; rfl)) ?_; (with_reducible refine (laws_heldByteS.calls k _ _ t220 1 t221 _ ?side1 ?side2 A31.out).mono ?_); (case side1 => repeat (first | exact (Kd.R_reads' HO201.out).2.2 | (with_reducible refine Kd.C_alloc ?_ _) | (with_reducible refine Kd.C_drewN ?_ _) | (with_reducible refine Kd.C_drew ?_))); (case side2 => rw [show t220.length = t199.length from (Kd.R_reads' HO201.out).1.symm]; exact (Kd.R_reads' HO201.out).2.1); rintro e w' ⟨rfl, ⟨nd, rfl⟩⟩; refine ⟨_, rfl, ?_⟩))
               (try simp only [World.drewN_drewN]); (try (rw [drewN_self w74]; generalize hq_ : World.drewN w74 _ = w74; have n0_ : Aside0 (Kd.R (Kd.int .u8) 5 w74 w.heap.size (fun k_ => some k_ ≠ (.slice Ao50 t183.length co50 : Value).ownBlock ∧ some k_ ≠ (.slice Ao64 t186.length co64 : Value).ownBlock ∧ some k_ ≠ (.slice Ao61 t190.length co61 : Value).ownBlock ∧ some k_ ≠ (.slice Ao58 t195.length co58 : Value).ownBlock ∧ some k_ ≠ (.slice Ao63 t199.length co63 : Value).ownBlock ∧ some k_ ≠ (.slice Ao66 t204.length co66 : Value).ownBlock ∧ some k_ ≠ (.slice Ao69 t210.length co69 : Value).ownBlock) (.slice Ao49 t178.length co49) t178) := ⟨by rw [← hq_]; exact (by (with_reducible repeat (first | apply Kd.R_alloc | apply Kd.R_drewN | apply Kd.R_drew)); exact HO180.out)⟩; have n1_ : Aside0 (Kd.R (Kd.int .u8) 5 w74 w.heap.size (fun k_ => some k_ ≠ (.slice Ao49 t178.length co49 : Value).ownBlock ∧ some k_ ≠ (.slice Ao64 t186.length co64 : Value).ownBlock ∧ some k_ ≠ (.slice Ao61 t190.length co61 : Value).ownBlock ∧ some k_ ≠ (.slice Ao58 t195.length co58 : Value).ownBlock ∧ some k_ ≠ (.slice Ao63 t199.length co63 : Value).ownBlock ∧ some k_ ≠ (.slice Ao66 t204.length co66 : Value).ownBlock ∧ some k_ ≠ (.slice Ao69 t210.length co69 : Value).ownBlock) (.slice Ao50 t183.length co50) t183) := ⟨by rw [← hq_]; exact (by (with_reducible repeat (first | apply Kd.R_alloc | apply Kd.R_drewN | apply Kd.R_drew)); exact HO185.out)⟩; have n2_ : Aside0 (Kd.R (Kd.int .u8) 5 w74 w.heap.size (fun k_ => some k_ ≠ (.slice Ao49 t178.length co49 : Value).ownBlock ∧ some k_ ≠ (.slice Ao50 t183.length co50 : Value).ownBlock ∧ some k_ ≠ (.slice Ao61 t190.length co61 : Value).ownBlock ∧ some k_ ≠ (.slice Ao58 t195.length co58 : Value).ownBlock ∧ some k_ ≠ (.slice Ao63 t199.length co63 : Value).ownBlock ∧ some k_ ≠ (.slice Ao66 t204.length co66 : Value).ownBlock ∧ some k_ ≠ (.slice Ao69 t210.length co69 : Value).ownBlock) (.slice Ao64 t186.length co64) t186) := ⟨by rw [← hq_]; exact (by (with_reducible repeat (first | apply Kd.R_alloc | apply Kd.R_drewN | apply Kd.R_drew)); exact HO188.out)⟩; have n3_ : Aside0 (Kd.R (Kd.int .u8) 5 w74 w.heap.size (fun k_ => some k_ ≠ (.slice Ao49 t178.length co49 : Value).ownBlock ∧ some k_ ≠ (.slice Ao50 t183.length co50 : Value).ownBlock ∧ some k_ ≠ (.slice Ao64 t186.length co64 : Value).ownBlock ∧ some k_ ≠ (.slice Ao58 t195.length co58 : Value).ownBlock ∧ some k_ ≠ (.slice Ao63 t199.length co63 : Value).ownBlock ∧ some k_ ≠ (.slice Ao66 t204.length co66 : Value).ownBlock ∧ some k_ ≠ (.slice Ao69 t210.length co69 : Value).ownBlock) (.slice Ao61 t190.length co61) t215) := ⟨by rw [← hq_]; exact (by (with_reducible repeat (first | apply Kd.R_alloc | apply Kd.R_drewN | apply Kd.R_drew)); exact HO192.out)⟩; have n4_ : Aside0 (Kd.R (Kd.int .u8) 5 w74 w.heap.size (fun k_ => some k_ ≠ (.slice Ao49 t178.length co49 : Value).ownBlock ∧ some k_ ≠ (.slice Ao50 t183.length co50 : Value).ownBlock ∧ some k_ ≠ (.slice Ao64 t186.length co64 : Value).ownBlock ∧ some k_ ≠ (.slice Ao61 t190.length co61 : Value).ownBlock ∧ some k_ ≠ (.slice Ao63 t199.length co63 : Value).ownBlock ∧ some k_ ≠ (.slice Ao66 t204.length co66 : Value).ownBlock ∧ some k_ ≠ (.slice Ao69 t210.length co69 : Value).ownBlock) (.slice Ao58 t195.length co58) t217) := ⟨by rw [← hq_]; exact (by (with_reducible repeat (first | apply Kd.R_alloc | apply Kd.R_drewN | apply Kd.R_drew)); exact HO197.out)⟩; have n5_ : Aside0 (Kd.R (Kd.int .u8) 5 w74 w.heap.size (fun k_ => some k_ ≠ (.slice Ao49 t178.length co49 : Value).ownBlock ∧ some k_ ≠ (.slice Ao50 t183.length co50 : Value).ownBlock ∧ some k_ ≠ (.slice Ao64 t186.length co64 : Value).ownBlock ∧ some k_ ≠ (.slice Ao61 t190.length co61 : Value).ownBlock ∧ some k_ ≠ (.slice Ao58 t195.length co58 : Value).ownBlock ∧ some k_ ≠ (.slice Ao66 t204.length co66 : Value).ownBlock ∧ some k_ ≠ (.slice Ao69 t210.length co69 : Value).ownBlock) (.slice Ao63 t199.length co63) t220) := ⟨by rw [← hq_]; exact (by (with_reducible repeat (first | apply Kd.R_alloc | apply Kd.R_drewN | apply Kd.R_drew)); exact HO201.out)⟩; have n6_ : Aside0 (Kd.R (Kd.int .u8) 5 w74 w.heap.size (fun k_ => some k_ ≠ (.slice Ao49 t178.length co49 : Value).ownBlock ∧ some k_ ≠ (.slice Ao50 t183.length co50 : Value).ownBlock ∧ some k_ ≠ (.slice Ao64 t186.length co64 : Value).ownBlock ∧ some k_ ≠ (.slice Ao61 t190.length co61 : Value).ownBlock ∧ some k_ ≠ (.slice Ao58 t195.length co58 : Value).ownBlock ∧ some k_ ≠ (.slice Ao63 t199.length co63 : Value).ownBlock ∧ some k_ ≠ (.slice Ao69 t210.length co69 : Value).ownBlock) (.slice Ao66 t204.length co66) t204) := ⟨by rw [← hq_]; exact (by (with_reducible repeat (first | apply Kd.R_alloc | apply Kd.R_drewN | apply Kd.R_drew)); exact HO206.out)⟩; have n7_ : Aside0 (Kd.R (Kd.int .u8) 5 w74 w.heap.size (fun k_ => some k_ ≠ (.slice Ao49 t178.length co49 : Value).ownBlock ∧ some k_ ≠ (.slice Ao50 t183.length co50 : Value).ownBlock ∧ some k_ ≠ (.slice Ao64 t186.length co64 : Value).ownBlock ∧ some k_ ≠ (.slice Ao61 t190.length co61 : Value).ownBlock ∧ some k_ ≠ (.slice Ao58 t195.length co58 : Value).ownBlock ∧ some k_ ≠ (.slice Ao63 t199.length co63 : Value).ownBlock ∧ some k_ ≠ (.slice Ao66 t204.length co66 : Value).ownBlock) (.slice Ao69 t210.length co69) t210) := ⟨by rw [← hq_]; exact (by (with_reducible repeat (first | apply Kd.R_alloc | apply Kd.R_drewN | apply Kd.R_drew)); exact HO212.out)⟩; have n8_ : Aside0 (w74.heap[gb176]? = some (.cells #[.int .i64 a1_0, .int .i64 a1_1, .slice A1_2 l1_2.length c1_2] 37 (0, 0))) := ⟨by rw [← hq_]; exact (by (with_reducible repeat (first | refine blk_drewN ?_ _ | refine blk_drew ?_ | refine blk_alloc ?_ _)); exact BK176.out)⟩; have n9_ : Aside0 (w74.heap[gb198]? = some (.cells #[.int .i64 t193, .int .i64 t194, .slice Ao58 t195.length co58] 40 (0, 0))) := ⟨by rw [← hq_]; exact (by (with_reducible repeat (first | refine blk_drewN ?_ _ | refine blk_drew ?_ | refine blk_alloc ?_ _)); exact BK198.out)⟩; have n10_ : Aside0 (Below w.heap.size w w74) := ⟨by rw [← hq_]; exact (by repeat (first | (with_reducible first | exact HB.out | apply below_alloc | apply pw_below_drewN | apply below_drew1 | refine below_set ?_ GE176.out | refine below_set ?_ GE198.out) | exact HB.out))⟩; clear HO180 HO185 HO188 HO192 HO197 HO201 HO206 HO212 BK176 BK198 HB hq_; have HO180 := n0_; have HO185 := n1_; have HO188 := n2_; have HO192 := n3_; have HO197 := n4_; have HO201 := n5_; have HO206 := n6_; have HO212 := n7_; have BK176 := n8_; have BK198 := n9_; have HB := n10_; clear n0_ n1_ n2_ n3_ n4_ n5_ n6_ n7_ n8_ n9_ n10_))
               replace HO180 := Aside0.mk (Kd.R_drew HO180.out)
               replace HO185 := Aside0.mk (Kd.R_drew HO185.out)
               replace HO188 := Aside0.mk (Kd.R_drew HO188.out)
               replace HO192 := Aside0.mk (Kd.R_drew HO192.out)
               replace HO197 := Aside0.mk (Kd.R_drew HO197.out)
               replace HO201 := Aside0.mk (Kd.R_drew HO201.out)
               replace HO206 := Aside0.mk (Kd.R_drew HO206.out)
               replace HO212 := Aside0.mk (Kd.R_drew HO212.out)
               replace BK176 := Aside0.mk (blk_drew BK176.out)
               replace BK198 := Aside0.mk (blk_drew BK198.out)
               replace HB := Aside0.mk (below_drew1 HB.out)
               refine start_ (n := 10) (S := fun w' => w'.cell? ⟨gb176, 0, none⟩ = some (.int .i64 a1_0) ∧ w'.cell? ⟨gb176, 1, none⟩ = some (.int .i64 a1_1) ∧ w'.cell? ⟨gb176, 2, none⟩ = some (.slice A1_2 l1_2.length c1_2)) (ds := []) #[false, false, false, false, false, false, false, false, false, false] (by kernel_rfl) rfl rfl ⟨zc0 BK176 0 rfl, zc0 BK176 1 rfl, zc0 BK176 2 rfl⟩ (fun hHeld => ?_); refine with_tabW laws_FnExactEditText.tab30 laws_FnExactEditText.bits30 (fun HT_ HW_ => ?_)
               generalize w74.drew = w75 at HO180 HO185 HO188 HO192 HO197 HO201 HO206 HO212 BK176 BK198 HB hHeld ⊢
               refine pure_ (i := 0) (N := some 93) (v := ?_) (a' := ?_) #[true, false, false, false, false, false, false, false, false, false] rfl rfl (any_of HT_.out (by kernel_rfl)) (fun _ _ _ h => h) (Or.inl ⟨by rfl, ?_⟩) ?_ ?_
               rotate_left
               ·intro w'
                go_simp
                with_reducible rfl
               rotate_left
               ·simp only [Act.put, zp1, zp2, zp3, i64_w, i32_w]
                rfl
               refine take_ (i := 2) (N := some 95) (v := ?_) (a' := ?_) #[true, false, true, false, false, false, false, false, false, false] rfl rfl (take_ofW HT_.out HW_.out (by kernel_rfl)) (fun _ _ _ h => h) (Or.inl ⟨by rfl, ?_⟩) hHeld ?_ ?_
               rotate_left
               ·rintro w' ⟨s0, s1, s2⟩
                go_simp
                with_reducible rfl
               rotate_left
               ·simp only [Act.put, zp1, zp2, zp3, i64_w, i32_w]
                rfl
               refine one_ (i := 1) (N := some 94) #[true, true, true, false, false, false, false, false, false, false] rfl rfl (one_of HT_.out (by kernel_rfl)) (by decide) (fun K hK => ?_)
               refine goes_ Try.func18 (by kernel_rfl) rfl #[.slice A0 l0.length c0] (by rfl) rfl rfl (by (try simp only [List.map_toArray, List.map_cons, List.map_nil]); first | done | rfl | (simp only [List.length_drop, List.length_take]; rfl)) ?_
               with_reducible refine (laws_toByteS.calls k _ _ l0 t222 _ ?side1 ?side2 A34.out).mono ?_
               (case side1 => repeat (first | exact (Kd.C_below HR0.out HB.out) | (with_reducible refine Kd.C_alloc ?_ _) | (with_reducible refine Kd.C_drewN ?_ _) | (with_reducible refine Kd.C_drew ?_)))
               (case side2 => exact HC0.out)
               rintro e w76 ⟨v223, rfl, ho0, hb⟩
               refine ⟨_, rfl, ?_⟩
               have HO224 := Aside0.mk (Kd.R_lower (Kd.R_new' (Kd.R_new' (Kd.R_new' (Kd.R_new' (Kd.R_new' (Kd.R_new' (Kd.R_new' (Kd.R_new' ho0 (Kd.R_lt (zr0 HO180))) (Kd.R_lt (zr0 HO185))) (Kd.R_lt (zr0 HO188))) (Kd.R_lt (zr0 HO192))) (Kd.R_lt (zr0 HO197))) (Kd.R_lt (zr0 HO201))) (Kd.R_lt (zr0 HO206))) (Kd.R_lt (zr0 HO212))) (below_size (zh0 HB)))
               replace HO180 := Aside0.mk (Kd.R_elder' (zr0 HO180) (Kd.R_base ho0) hb)
               replace HO185 := Aside0.mk (Kd.R_elder' (zr0 HO185) (Kd.R_base ho0) hb)
               replace HO188 := Aside0.mk (Kd.R_elder' (zr0 HO188) (Kd.R_base ho0) hb)
               replace HO192 := Aside0.mk (Kd.R_elder' (zr0 HO192) (Kd.R_base ho0) hb)
               replace HO197 := Aside0.mk (Kd.R_elder' (zr0 HO197) (Kd.R_base ho0) hb)
               replace HO201 := Aside0.mk (Kd.R_elder' (zr0 HO201) (Kd.R_base ho0) hb)
               replace HO206 := Aside0.mk (Kd.R_elder' (zr0 HO206) (Kd.R_base ho0) hb)
               replace HO212 := Aside0.mk (Kd.R_elder' (zr0 HO212) (Kd.R_base ho0) hb)
               replace BK176 := zb0 BK176 hb
               replace BK198 := zb0 BK198 hb
               replace HB := zhs HB hb
               (try clear hb)
               (try clear hb2)
               (try clear hk)
               (try clear hi)
               (try clear ho0)
               refine hK.out _ _ ⟨zc0 BK176 0 rfl, zc0 BK176 1 rfl, zc0 BK176 2 rfl⟩ (fun hHeld => ?_)
               clear hK K
               refine norm_ (a' := ?_) ?_ ?_
               rotate_left
               ·show Act.put _ (some 94) _ = _
                simp only [Act.put, zp1, zp2, zp3, i64_w, i32_w]
                rfl
               refine one_ (i := 3) (N := some 96) #[true, true, true, true, false, false, false, false, false, false] rfl rfl (one_of HT_.out (by kernel_rfl)) (by decide) (fun K hK => ?_)
               refine goes_ Try.func25 (by kernel_rfl) rfl #[.agg #[.int .i64 a1_0, .int .i64 a1_1, .slice A1_2 l1_2.length c1_2]] (by rfl) rfl rfl (by (try simp only [List.map_toArray, List.map_cons, List.map_nil]); first | done | rfl | (simp only [List.length_drop, List.length_take]; rfl)) ?_
               with_reducible refine (laws_toEdit.calls k a1_0 a1_1 _ _ l1_2 t225 t226 t227 _ ?side1 ?side2 A35.out).mono ?_
               (case side1 => repeat (first | exact (Kd.C_below HR1_2.out HB.out) | (with_reducible refine Kd.C_alloc ?_ _) | (with_reducible refine Kd.C_drewN ?_ _) | (with_reducible refine Kd.C_drew ?_)))
               (case side2 => exact HC1_2.out)
               rintro e w77 ⟨v228, rfl, ho0, hb⟩
               refine ⟨_, rfl, ?_⟩
               have HO229 := Aside0.mk (Kd.R_lower (Kd.R_new' (Kd.R_new' (Kd.R_new' (Kd.R_new' (Kd.R_new' (Kd.R_new' (Kd.R_new' (Kd.R_new' (Kd.R_new' ho0 (Kd.R_lt (zr0 HO180))) (Kd.R_lt (zr0 HO185))) (Kd.R_lt (zr0 HO188))) (Kd.R_lt (zr0 HO192))) (Kd.R_lt (zr0 HO197))) (Kd.R_lt (zr0 HO201))) (Kd.R_lt (zr0 HO206))) (Kd.R_lt (zr0 HO212))) (Kd.R_lt (zr0 HO224))) (below_size (zh0 HB)))
               replace HO180 := Aside0.mk (Kd.R_elder' (zr0 HO180) (Kd.R_base ho0) hb)
               replace HO185 := Aside0.mk (Kd.R_elder' (zr0 HO185) (Kd.R_base ho0) hb)
               replace HO188 := Aside0.mk (Kd.R_elder' (zr0 HO188) (Kd.R_base ho0) hb)
               replace HO192 := Aside0.mk (Kd.R_elder' (zr0 HO192) (Kd.R_base ho0) hb)
               replace HO197 := Aside0.mk (Kd.R_elder' (zr0 HO197) (Kd.R_base ho0) hb)
               replace HO201 := Aside0.mk (Kd.R_elder' (zr0 HO201) (Kd.R_base ho0) hb)
               replace HO206 := Aside0.mk (Kd.R_elder' (zr0 HO206) (Kd.R_base ho0) hb)
               replace HO212 := Aside0.mk (Kd.R_elder' (zr0 HO212) (Kd.R_base ho0) hb)
               replace HO224 := Aside0.mk (Kd.R_elder' (zr0 HO224) (Kd.R_base ho0) hb)
               replace BK176 := zb0 BK176 hb
               replace BK198 := zb0 BK198 hb
               replace HB := zhs HB hb
               (try clear hb)
               (try clear hb2)
               (try clear hk)
               (try clear hi)
               (try clear ho0)
               obtain ⟨Ao78, co78, eo78⟩ := Kd.R_slice HO224.out
               (first | subst eo78 | (injection eo78 with f1_ f2_ f3_; have f4_ := f1_.symm; have f5_ := f3_.symm; clear f1_ f2_ f3_; subst f4_; subst f5_))
               obtain ⟨Ao79, co79, eo79⟩ := Kd.R_slice HO229.out
               (first | subst eo79 | (injection eo79 with f1_ f2_ f3_; have f4_ := f1_.symm; have f5_ := f3_.symm; clear f1_ f2_ f3_; subst f4_; subst f5_))
               refine hK.out _ _ ⟨zc0 BK176 0 rfl, zc0 BK176 1 rfl, zc0 BK176 2 rfl⟩ (fun hHeld => ?_)
               clear hK K
               refine norm_ (a' := ?_) ?_ ?_
               rotate_left
               ·show Act.put _ (some 96) _ = _
                simp only [Act.put, zp1, zp2, zp3, i64_w, i32_w]
                rfl
               refine one_ (i := 4) (N := some 97) #[true, true, true, true, true, false, false, false, false, false] rfl rfl (one_of HT_.out (by kernel_rfl)) (by decide) (fun K hK => ?_)
               refine goes_ Try.func26 (by kernel_rfl) rfl #[.slice Ao78 t222.length co78, .agg #[.int .i64 t225, .int .i64 t226, .slice Ao79 t227.length co79]] (by rfl) rfl rfl (by (try simp only [List.map_toArray, List.map_cons, List.map_nil]); first | done | rfl | (simp only [List.length_drop, List.length_take]; rfl)) ?_
               with_reducible refine (impl_EditText.calls k (fun k_ => some k_ = (.slice Ao78 t222.length co78 : Value).ownBlock) _ _ t222 t225 t226 (fun k_ => some k_ = (.slice Ao79 t227.length co79 : Value).ownBlock) _ _ t227 t230 t233 _ ?side1 ?side2 A36.out).mono ?_
               (case side1 => exact Kd.R_V (Kd.R_tight rfl (Kd.R_types (Kd.R_types (HO224.out) BK176.out (by decide)) BK198.out (by decide))))
               (case side2 => exact Kd.R_V (Kd.R_tight rfl (Kd.R_types (Kd.R_types (HO229.out) BK176.out (by decide)) BK198.out (by decide))))
               rintro e w80 ⟨v231, rfl, ho0, hb⟩
               refine ⟨_, rfl, ?_⟩
               have HO232 := Aside0.mk (Kd.R_lower (Kd.R_new' (Kd.R_new' (Kd.R_new' (Kd.R_new' (Kd.R_new' (Kd.R_new' (Kd.R_new' (Kd.R_new' (Kd.R_new' (Kd.R_new' (Kd.R_mono (ok' := fun k_ => True) ho0 (fun _ hk_ => trivial)) (Kd.R_lt (zr0 HO180))) (Kd.R_lt (zr0 HO185))) (Kd.R_lt (zr0 HO188))) (Kd.R_lt (zr0 HO192))) (Kd.R_lt (zr0 HO197))) (Kd.R_lt (zr0 HO201))) (Kd.R_lt (zr0 HO206))) (Kd.R_lt (zr0 HO212))) (Kd.R_lt (zr0 HO224))) (Kd.R_lt (zr0 HO229))) (below_size (zh0 HB)))
               replace HO180 := Aside0.mk (Kd.R_elder' (zr0 HO180) (Kd.R_base ho0) hb)
               replace HO185 := Aside0.mk (Kd.R_elder' (zr0 HO185) (Kd.R_base ho0) hb)
               replace HO188 := Aside0.mk (Kd.R_elder' (zr0 HO188) (Kd.R_base ho0) hb)
               replace HO192 := Aside0.mk (Kd.R_elder' (zr0 HO192) (Kd.R_base ho0) hb)
               replace HO197 := Aside0.mk (Kd.R_elder' (zr0 HO197) (Kd.R_base ho0) hb)
               replace HO201 := Aside0.mk (Kd.R_elder' (zr0 HO201) (Kd.R_base ho0) hb)
               replace HO206 := Aside0.mk (Kd.R_elder' (zr0 HO206) (Kd.R_base ho0) hb)
               replace HO212 := Aside0.mk (Kd.R_elder' (zr0 HO212) (Kd.R_base ho0) hb)
               replace HO224 := Aside0.mk (Kd.R_elder' (zr0 HO224) (Kd.R_base ho0) hb)
               replace HO229 := Aside0.mk (Kd.R_elder' (zr0 HO229) (Kd.R_base ho0) hb)
               replace BK176 := zb0 BK176 hb
               replace BK198 := zb0 BK198 hb
               replace HB := zhs HB hb
               (try clear hb)
               (try clear hb2)
               (try clear hk)
               (try clear hi)
               (try clear ho0)
               refine hK.out _ _ ⟨zc0 BK176 0 rfl, zc0 BK176 1 rfl, zc0 BK176 2 rfl⟩ (fun hHeld => ?_)
               clear hK K
               refine norm_ (a' := ?_) ?_ ?_
               rotate_left
               ·show Act.put _ (some 97) _ = _
                simp only [Act.put, zp1, zp2, zp3, i64_w, i32_w]
                rfl
               refine pure_ (i := 5) (N := some 92) (v := ?_) (a' := ?_) #[true, true, true, true, true, true, false, false, false, false] rfl rfl (any_of HT_.out (by kernel_rfl)) (fun _ _ _ h => h) (Or.inl ⟨by rfl, ?_⟩) ?_ ?_
               rotate_left
               ·intro w'
                go_simp
                with_reducible rfl
               rotate_left
               ·simp only [Act.put, zp1, zp2, zp3, i64_w, i32_w]
                rfl
               refine pure_ (i := 6) (N := some 98) (v := ?_) (a' := ?_) #[true, true, true, true, true, true, true, false, false, false] rfl rfl (any_of HT_.out (by kernel_rfl)) (fun _ _ _ h => h) (Or.inl ⟨by rfl, ?_⟩) ?_ ?_
               rotate_left
               ·intro w'
                go_simp
                with_reducible rfl
               rotate_left
               ·simp only [Act.put, zp1, zp2, zp3, i64_w, i32_w]
                rfl
               refine pure_ (i := 7) (N := some 99) (v := ?_) (a' := ?_) #[true, true, true, true, true, true, true, true, false, false] rfl rfl (any_of HT_.out (by kernel_rfl)) (fun _ _ _ h => h) (Or.inl ⟨by rfl, ?_⟩) ?_ ?_
               rotate_left
               ·intro w'
                go_simp
                with_reducible rfl
               rotate_left
               ·simp only [Act.put, zp1, zp2, zp3, i64_w, i32_w]
                rfl
               refine pure_ (i := 8) (N := some 15) (v := ?_) (a' := ?_) #[true, true, true, true, true, true, true, true, true, false] rfl rfl (any_of HT_.out (by kernel_rfl)) (fun _ _ _ h => h) (Or.inl ⟨by rfl, ?_⟩) ?_ ?_
               rotate_left
               ·intro w'
                go_simp
                with_reducible rfl
               rotate_left
               ·simp only [Act.put, zp1, zp2, zp3, i64_w, i32_w]
                rfl
               refine pure_ (i := 9) (N := some 16) (v := ?_) (a' := ?_) #[true, true, true, true, true, true, true, true, true, true] rfl rfl (any_of HT_.out (by kernel_rfl)) (fun _ _ _ h => h) (Or.inl ⟨by rfl, ?_⟩) ?_ ?_
               rotate_left
               ·intro w'
                go_simp
                with_reducible rfl
               rotate_left
               ·simp only [Act.put, zp1, zp2, zp3, i64_w, i32_w]
                rfl
               refine done_ (done_of HT_.out (by kernel_rfl)) ?_
               obtain ⟨Ao81, co81, eo81⟩ := Kd.R_slice HO232.out
               subst eo81
               try go_wp2_with (first | ((with_reducible refine gate_callee (f := 20) rfl ?_); refine goesL_ (some 102) rfl rfl Try.func20 (by kernel_rfl) rfl #[.slice Ao81 t230.length co81, .slice Ao64 t186.length co64] rfl (by (try simp only [List.map_toArray, List.map_cons, List.map_nil]); first | done | rfl | (simp only [List.length_drop, List.length_take]; rfl)) ?_; (with_reducible refine (laws_eqByteS.calls k _ _ t230 _ _ t186 true _ ?side1 ?side2 ?side3 ?side4 A37.out).mono ?_); (case side1 => repeat (first | exact (Kd.R_reads' HO232.out).2.2 | (with_reducible refine Kd.C_alloc ?_ _) | (with_reducible refine Kd.C_drewN ?_ _) | (with_reducible refine Kd.C_drew ?_))); (case side2 => exact (Kd.R_reads' HO232.out).2.1); (case side3 => repeat (first | exact (Kd.R_reads' HO188.out).2.2 | (with_reducible refine Kd.C_alloc ?_ _) | (with_reducible refine Kd.C_drewN ?_ _) | (with_reducible refine Kd.C_drew ?_))); (case side4 => exact (Kd.R_reads' HO188.out).2.1); rintro e w' ⟨rfl, ⟨nd, rfl⟩⟩; refine ⟨_, rfl, ?_⟩) | ((with_reducible refine gate_callee (f := 22) rfl ?_); refine goesL_ (some 111) rfl rfl Try.func22 (by kernel_rfl) rfl #[.slice Ao63 t220.length co63, .int .i64 1] rfl (by (try simp only [List.map_toArray, List.map_cons, List.map_nil]); first | done | (rw [show t220.length = t199.length from (Kd.R_reads' HO201.out).1.symm] <;> rfl) | rfl | (simp only [List.length_drop, List.length_take]; rfl)) ?_; (with_reducible refine (laws_heldByteS.calls k _ _ t220 1 t235 _ ?side1 ?side2 A40.out).mono ?_); (case side1 => repeat (first | exact (Kd.R_reads' HO201.out).2.2 | (with_reducible refine Kd.C_alloc ?_ _) | (with_reducible refine Kd.C_drewN ?_ _) | (with_reducible refine Kd.C_drew ?_))); (case side2 => rw [show t220.length = t199.length from (Kd.R_reads' HO201.out).1.symm]; exact (Kd.R_reads' HO201.out).2.1); rintro e w' ⟨rfl, ⟨nd, rfl⟩⟩; refine ⟨_, rfl, ?_⟩))
               go_ret
               exact ⟨by first | rfl | (simp [errW_none, errW_some] <;> rfl) | (simp [*, errW_none, errW_some] <;> rfl), by repeat (first | (with_reducible first | exact HB.out | apply below_alloc | apply pw_below_drewN | apply below_drew1 | refine below_set ?_ GE176.out | refine below_set ?_ GE198.out) | exact HB.out)⟩
              ·rw [if_neg c42] at H
               exact absurd H (by simp)
           ·replace c38 := Bool.eq_false_iff.mpr c38
            subst c38
            have H1 : (none) = some r := by rw [if_neg (show ¬ (false = true) by decide)] at H; exact H
            clear H
            have H := H1
            clear H1
            exact absurd H (by simp)
          ·rw [if_neg c33] at H
           exact absurd H (by simp)
        ·replace c29 := Bool.eq_false_iff.mpr c29
         subst c29
         have H1 : (none) = some r := by rw [if_neg (show ¬ (false = true) by decide)] at H; exact H
         clear H
         have H := H1
         clear H1
         exact absurd H (by simp)
      ·replace c24 := Bool.eq_false_iff.mpr c24
       subst c24
       have H1 : (none) = some r := by rw [if_neg (show ¬ (false = true) by decide)] at H; exact H
       clear H
       have H := H1
       clear H1
       exact absurd H (by simp)
     ·replace c21 := Bool.eq_false_iff.mpr c21
      subst c21
      have H1 : (none) = some r := by rw [if_neg (show ¬ (false = true) by decide)] at H; exact H
      clear H
      have H := H1
      clear H1
      exact absurd H (by simp)
   ·replace c17 := Bool.eq_false_iff.mpr c17
    subst c17
    have H1 : (none) = some r := by rw [if_neg (show ¬ (false = true) by decide)] at H; exact H
    clear H
    have H := H1
    clear H1
    exact absurd H (by simp)

end Go.Proofs.Ytcanejjkgoaplaa.PFnExactEditText
