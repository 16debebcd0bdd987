/- What is proved here: each Go function that is named below answers, and leaves memory, as the theorem of its name says; no condition beyond those that each theorem states. Laid by this session's own program (wip/driver.py) over the kit's print. -/
import Derived.Test.YtdojnaghcfhadacPFnExactGapTextx0
import Derived.Test.YtdojnaghcfhadacPFnExactGapTextx1
import Derived.Test.YtdojnaghcfhadacPFnExactGapTextx2
import Derived.Test.YtdojnaghcfhadacPFnExactGapTextx3
namespace Go.Proofs.Ytdojnaghcfhadac.PFnExactGapText
open Go.RowKit Go.Proofs.YtdojnaghcfhadacW.PrintWords Go.Proofs.YtdojnaghcfhadacW.PrintLast Go.Proofs.YtdojnaghcfhadacW.PrintMore
attribute [local go_sem] max2_int min2_int max_two min_two max_three min_three max_four min_four   -- for this text's walks alone
set_option linter.unusedVariables false
set_option linter.unusedSimpArgs false

/-! ### slices_Grow_byte_byte: function 125 (by hand) -/
def slices_Grow_byte_byte.f (l0 : List Int) (a1 : Int) : Option (List Int) := if l0 = [] ∧ 0 ≤ a1 ∧ a1 ≤ 1099511627776 then some [] else none
set_option maxHeartbeats 8000000 in
set_option maxRecDepth 100000 in
theorem slices_Grow_byte_byte.calls (P0_ : Nat → Prop) (u9000_ : Value) (l0 : List Int) (a1 : Int) (r1 : List Int) (w0 w : World) (hB : Below w0.heap.size w0 w) (ho0 : u9000_ = .slice none 0 0) (h : slices_Grow_byte_byte.f l0 a1 = some r1) :
    Calls Try.prog 125 #[u9000_, .int .i64 a1] w fun e w' => ∃ v0_ : Value, e = .returned (v0_) ∧ Kd.R (Kd.int .u8) 5 w' w0.heap.size (fun k_ => (P0_ k_ ∨ w.heap.size ≤ k_)) v0_ r1 ∧ Below w0.heap.size w0 w' ∧ Kept w w' (fun k_ => P0_ k_) := by
  subst ho0
  by_cases hc : l0 = [] ∧ 0 ≤ a1 ∧ a1 ≤ 1099511627776
  · obtain rfl : [] = r1 := by
      unfold slices_Grow_byte_byte.f at h
      rw [if_pos hc] at h
      exact Option.some.inj h
    have h0 := hc.2.1
    have h1 := hc.2.2
    clear h hc
    have n0 : decide (a1 < 0) = false := decide_eq_false (by omega)
    have e0 : wrap64 (a1 - 0) = a1 := by unfold wrap64; omega
    have e1 : wrap64 a1 = a1 := by unfold wrap64; omega
    by_cases hp : 0 < a1
    · have p0 : decide (a1 > 0) = true := decide_eq_true hp
      have p1 : decide (0 < a1) = true := decide_eq_true hp
      go_enter Try.func125, Try.ntmps125
      go_wp2_with (at_builtin; refine Kd.R_append_zeros (Kd.int .u8) (w0 := w0) w0.heap.size rfl _ _ 74 3 5 (.int .u8 0) 1 rfl Try.underlying74 Try.underlying3 info5 rfl (by decide) (by decide) (.slice none 0 0) [] 0 a1 (fun k_ => (P0_ k_ ∨ w.heap.size ≤ k_)) (by rfl) (by first | rfl | simp [*]) rfl (fun k hk => .inr hk) (Kd.R_nil _ _ _ _ _) h0 hB hB.size (by simp; omega) ?_; intro v1 w1 hv hb hg hat; obtain ⟨A_, c_, e_⟩ := Kd.R_slice hv; subst e_; have HV := Aside0.mk hv; have HBB := Aside0.mk hb; have HG := Aside0.mk hg; clear hv hb hg hat)
      have HT := Aside0.mk (Kd.R_take (m := 0) HV.out (Nat.zero_le _))
      go_ret
      exact ⟨_, rfl, HT.out, HBB.out, Kept.of_grown (S := fun k_ => P0_ k_) HG.out (Kept.refl w _) (fun k e => by simp [Value.ownBlock] at e)⟩
    · have p0 : decide (a1 > 0) = false := decide_eq_false hp
      have p1 : decide (0 < a1) = false := decide_eq_false hp
      go_enter Try.func125, Try.ntmps125
      go_wp2
      go_ret
      exact ⟨_, rfl, Kd.R_nil _ _ _ _ _, hB, Kept.refl _ _⟩
  · unfold slices_Grow_byte_byte.f at h
    rw [if_neg hc] at h
    cases h

open Go.Proofs.Ytdojnaghcfhadac.Cp
/-! ### slices_Concat_byte_byte: function 122 -/
mutual
def slices_Concat_byte_byte.l0 : Nat → List (List Int) → Int → List (List Int) → Int → Int → Option (List Int)
 | 0, _, _, _, _, _ => none
 | k + 1, x0, x3, x9, x10, x11 => if x11 < x10 then (if 0 ≤ x11 then (if x11 < (x9.length : Int) then (if (wrap64 (x3 + ((rd_L1 x9 x11).length : Int))) < 0 then (none) else (slices_Concat_byte_byte.l0 k x0 (wrap64 (x3 + ((rd_L1 x9 x11).length : Int))) x9 x10 (wrap64 (x11 + 1)))) else (none)) else (none)) else ((slices_Grow_byte_byte.f ([] : List Int) x3).bind fun t228 => (slices_Concat_byte_byte.l1 k t228 x0 (x0.length : Int) 0))
def slices_Concat_byte_byte.l1 : Nat → List Int → List (List Int) → Int → Int → Option (List Int)
 | 0, _, _, _, _ => none
 | k + 1, x6, x25, x26, x27 => if x27 < x26 then (if 0 ≤ x27 then (if x27 < (x25.length : Int) then (if x6.length + (rd_L1 x25 x27).length < 140737488355328 then (slices_Concat_byte_byte.l1 k (x6 ++ (rd_L1 x25 x27)) x25 x26 (wrap64 (x27 + 1))) else (none)) else (none)) else (none)) else (some x6)
end
def slices_Concat_byte_byte.f (k : Nat) (l0 : List (List Int)) : Option (List Int) := slices_Concat_byte_byte.l0 k l0 0 l0 (l0.length : Int) 0
theorem slices_Concat_byte_byte.mono_l : ∀ k, (∀ y0 y1 y2 y3 y4, LeO (slices_Concat_byte_byte.l0 k y0 y1 y2 y3 y4) (slices_Concat_byte_byte.l0 (k + 1) y0 y1 y2 y3 y4)) ∧ (∀ y0 y1 y2 y3, LeO (slices_Concat_byte_byte.l1 k y0 y1 y2 y3) (slices_Concat_byte_byte.l1 (k + 1) y0 y1 y2 y3))
 | 0 => ⟨fun _ _ _ _ _ r h => by simp [slices_Concat_byte_byte.l0] at h, fun _ _ _ _ r h => by simp [slices_Concat_byte_byte.l1] at h⟩
 | k + 1 => by
  obtain ⟨ih0, ih1⟩ := slices_Concat_byte_byte.mono_l k
  refine ⟨?_, ?_⟩
  ·intro y0 y1 y2 y3 y4
   unfold slices_Concat_byte_byte.l0
   repeat' first
   | (with_reducible exact ih0 _ _ _ _ _)
   | (with_reducible exact ih1 _ _ _ _)
   | (with_reducible exact LeO.refl _)
   | (with_reducible exact LeO.none _)
   | (with_reducible refine LeO.ite ?_ ?_)
   | (with_reducible refine LeO.bind ?_ (fun _ => ?_))
   | exact ih0 _ _ _ _ _
   | exact ih1 _ _ _ _
   | exact LeO.none _
   | refine LeO.ite ?_ ?_
   | refine LeO.bind ?_ (fun _ => ?_)
  ·intro y0 y1 y2 y3
   unfold slices_Concat_byte_byte.l1
   repeat' first
   | (with_reducible exact ih0 _ _ _ _ _)
   | (with_reducible exact ih1 _ _ _ _)
   | (with_reducible exact LeO.refl _)
   | (with_reducible exact LeO.none _)
   | (with_reducible refine LeO.ite ?_ ?_)
   | (with_reducible refine LeO.bind ?_ (fun _ => ?_))
   | exact ih0 _ _ _ _ _
   | exact ih1 _ _ _ _
   | exact LeO.none _
   | refine LeO.ite ?_ ?_
   | refine LeO.bind ?_ (fun _ => ?_)
theorem slices_Concat_byte_byte.mono : ∀ a0 k, LeO (slices_Concat_byte_byte.f k a0) (slices_Concat_byte_byte.f (k + 1) a0) := by
 intro a0 k
 obtain ⟨ih0, ih1⟩ := slices_Concat_byte_byte.mono_l k
 unfold slices_Concat_byte_byte.f
 repeat' first
   | (with_reducible exact ih0 _ _ _ _ _)
   | (with_reducible exact ih1 _ _ _ _)
   | (with_reducible exact LeO.refl _)
   | (with_reducible exact LeO.none _)
   | (with_reducible refine LeO.ite ?_ ?_)
   | (with_reducible refine LeO.bind ?_ (fun _ => ?_))
   | exact ih0 _ _ _ _ _
   | exact ih1 _ _ _ _
   | exact LeO.none _
   | refine LeO.ite ?_ ?_
   | refine LeO.bind ?_ (fun _ => ?_)
set_option maxHeartbeats 8000000 in
set_option maxRecDepth 100000 in
theorem slices_Concat_byte_byte.calls (k : Nat) (A0 : Option Addr) (c0 : Nat) (l0 : List (List Int)) (r : List Int) (w : World) (hr0 : Kd.C (Kd.slice 5 (Kd.int .u8)) w A0 l0.length l0) (hc0 : l0.length ≤ c0) (h : slices_Concat_byte_byte.f k l0 = some r) :
  Calls Try.prog 122 #[.slice A0 l0.length c0] w fun e w' => ∃ v0_ : Value, e = .returned (v0_) ∧ Kd.R (Kd.int .u8) 5 w' w.heap.size (fun _ => True) v0_ r ∧ Below w.heap.size w w' := by
 have HR0 := Aside0.mk hr0
 have HC0 := Aside0.mk hc0
 clear hr0 hc0
 have HB := Aside0.mk (Below.refl w.heap.size w)
 have H : (slices_Concat_byte_byte.l0 k l0 0 l0 (l0.length : Int) 0) = some r := h
 clear h
 have H' := Aside0.mk H
 clear H
 go_enter Try.func122, Try.ntmps122
 go_wp2
 go_loopg [3, 11] k (fun kq v3 v11 w' => ∃ (x3_1 : Int) (x11_1 : Int), v3 = .int .i64 x3_1 ∧ v11 = .int .i64 x11_1 ∧ Aside0 (slices_Concat_byte_byte.l0 kq l0 x3_1 l0 (l0.length : Int) x11_1 = some r) ∧ Aside0 (kq ≤ k) ∧ Aside0 (Below w.heap.size w w'))
 case atStart => exact ⟨(0), (0), (by first | rfl | (simp; done) | (simp [*]; done)), (by first | rfl | (simp; done) | (simp [*]; done)), H', ⟨Nat.le_refl _⟩, ⟨by repeat (first | (with_reducible first | exact HB.out | apply below_alloc | apply pw_below_drewN | apply below_drew1) | exact HB.out)⟩⟩
 case round =>
  clear H'
  try clear c1
  obtain ⟨x3_1, x11_1, rfl, rfl, HA, HK1, HB⟩ := hrel
  cases gk with
  | zero => exact absurd HA.out (by simp [slices_Concat_byte_byte.l0])
  | succ k1 =>
   have H := HA.out
   clear HA
   simp only [slices_Concat_byte_byte.l0] at H
   by_cases c2 : x11_1 < (l0.length : Int)
   ·rw [if_pos c2] at H
    have c2b0 : decide (x11_1 < (l0.length : Int)) = true := decide_eq_true c2
    clear c2
    by_cases c3 : 0 ≤ x11_1
    ·rw [if_pos c3] at H
     have c3b0 : decide (0 ≤ x11_1) = true := decide_eq_true c3
     clear c3
     by_cases c4 : x11_1 < (l0.length : Int)
     ·rw [if_pos c4] at H
      have c4b0 : decide (x11_1 < (l0.length : Int)) = true := decide_eq_true c4
      clear c4
      by_cases c5 : (wrap64 (x3_1 + ((rd_L1 l0 x11_1).length : Int))) < 0
      ·rw [if_pos c5] at H
       exact absurd H (by simp)
      ·rw [if_neg c5] at H
       have c5b0 : decide ((wrap64 (x3_1 + ((rd_L1 l0 x11_1).length : Int))) < 0) = false := decide_eq_false c5
       clear c5
       have H' := Aside0.mk H
       clear H
       have p227 : 0 ≤ (x11_1 : Int) := of_decide_eq_true (by first | (with_reducible assumption) | assumption)
       have q227 : x11_1 < (l0.length : Int) := of_decide_eq_true (by first | (with_reducible assumption) | assumption)
       obtain ⟨ad227, A227_0, c227_0, e227, hx227_0, hl227_0, hi227_0⟩ := at_L1 HR0.out x11_1 p227 q227
       cases e227
       replace hx227_0 := (HB.out.cell (World.block_lt_of_cell? w _ hx227_0)).trans hx227_0
       have HR227_0 := Aside0.mk hi227_0
       have HC227_0 := Aside0.mk hl227_0
       clear hi227_0 hl227_0
       replace p227 := eq_true p227
       replace q227 := eq_true q227
       go_wp2
       go_roundg k1
       case measure => have := HK1.out; omega
       case rel => exact ⟨(wrap64 (x3_1 + ((rd_L1 l0 x11_1).length : Int))), (wrap64 (x11_1 + 1)), (by first | rfl | (simp; done) | (simp [*]; done)), (by first | rfl | (simp; done) | (simp [*]; done)), H', ⟨by have := HK1.out; omega⟩, ⟨by repeat (first | (with_reducible first | exact HB.out | apply below_alloc | apply pw_below_drewN | apply below_drew1) | exact HB.out)⟩⟩
     ·rw [if_neg c4] at H
      exact absurd H (by simp)
    ·rw [if_neg c3] at H
     exact absurd H (by simp)
   ·rw [if_neg c2] at H
    have c2b0 : decide (x11_1 < (l0.length : Int)) = false := decide_eq_false c2
    clear c2
    replace H := Option.bind_eq_some_iff.mp H
    obtain ⟨t228, A60, H⟩ := H
    replace H : (slices_Concat_byte_byte.l1 k1 t228 l0 (l0.length : Int) 0) = some r := H
    have A6 := Aside0.mk A60
    clear A60
    have H' := Aside0.mk H
    clear H
    go_wp2_with (first | ((with_reducible refine gate_callee (f := 125) rfl ?_); refine goesL_ (some 24) rfl rfl Try.func125 (by kernel_rfl) rfl #[.slice none 0 0, .int .i64 x3_1] rfl (by (try simp only [List.map_toArray, List.map_cons, List.map_nil]); first | done | rfl | (simp only [List.length_drop, List.length_take]; rfl)) ?_; (refine (slices_Grow_byte_byte.calls (fun k_ => some k_ = (.slice none 0 0 : Value).ownBlock) (.slice none 0 0) ([] : List Int) x3_1 t228 w _ ?side1 ?side2 A6.out).mono ?_); (case side1 => repeat (first | (with_reducible first | exact HB.out | apply below_alloc | apply pw_below_drewN | apply below_drew1) | exact HB.out)); (case side2 => rfl); rintro e w7 ⟨v229, rfl, ho0, hb, hkp⟩; refine ⟨_, rfl, ?_⟩; have HO230 := Aside0.mk (Kd.R_mono (ok' := fun k_ => True) ho0 (fun k_ hk_ => trivial)); replace HB := Aside0.mk (hb); (try clear hb); (try clear hkp); (try clear ho0)))
    go_loopg [6, 27] k1 (fun kq v6 v27 w' => ∃ (x6_2 : List Int) (x27_2 : Int), v27 = .int .i64 x27_2 ∧ Aside0 (slices_Concat_byte_byte.l1 kq x6_2 l0 (l0.length : Int) x27_2 = some r) ∧ Aside0 (kq ≤ k1) ∧ Aside0 (Kd.R (Kd.int .u8) 5 w' w.heap.size (fun _ => True) v6 x6_2) ∧ Aside0 (Below w.heap.size w w'))
    case atStart => exact ⟨(t228), (0), (by first | rfl | (simp; done) | (simp [*]; done)), H', ⟨Nat.le_refl _⟩, ⟨zr0 HO230⟩, ⟨by repeat (first | (with_reducible first | exact HB.out | apply below_alloc | apply pw_below_drewN | apply below_drew1) | exact HB.out)⟩⟩
    case round =>
     clear H'
     try clear c1
     try clear c2
     try clear c2b0
     try clear p2
     try clear q2
     try clear hx2
     try clear c3
     try clear c3b0
     try clear c4
     try clear c4b0
     try clear c5
     try clear c5b0
     try clear p6
     try clear hx227_0
     try clear p227
     try clear q227
     obtain ⟨x6_2, x27_2, rfl, HA, HK2, HO_6, HB⟩ := hrel
     cases gk with
     | zero => exact absurd HA.out (by simp [slices_Concat_byte_byte.l1])
     | succ k2 =>
      have H := HA.out
      clear HA
      simp only [slices_Concat_byte_byte.l1] at H
      by_cases c8 : x27_2 < (l0.length : Int)
      ·rw [if_pos c8] at H
       have c8b0 : decide (x27_2 < (l0.length : Int)) = true := decide_eq_true c8
       clear c8
       by_cases c9 : 0 ≤ x27_2
       ·rw [if_pos c9] at H
        have c9b0 : decide (0 ≤ x27_2) = true := decide_eq_true c9
        clear c9
        by_cases c10 : x27_2 < (l0.length : Int)
        ·rw [if_pos c10] at H
         have c10b0 : decide (x27_2 < (l0.length : Int)) = true := decide_eq_true c10
         clear c10
         by_cases c11 : x6_2.length + (rd_L1 l0 x27_2).length < 140737488355328
         ·rw [if_pos c11] at H
          have LMc11 := Aside0.mk c11
          clear c11
          obtain ⟨y232, hy232⟩ : ∃ y_ : List Int, y_ = (x6_2 ++ (rd_L1 l0 x27_2)) := ⟨_, rfl⟩
          replace H : (slices_Concat_byte_byte.l1 k2 y232 l0 (l0.length : Int) (wrap64 (x27_2 + 1))) = some r := by first | (rw [hy232]; with_reducible exact H) | (have H2_ := (Option.bind_some _ _).symm.trans H; rw [hy232]; with_reducible exact H2_) | (have H2_ := (Option.bind_some _ _).symm.trans H; with_reducible exact H2_) | with_reducible exact H | (rw [hy232]; exact H) | exact H
          have Ny232 := Aside0.mk hy232
          clear hy232
          have H' := Aside0.mk H
          clear H
          have p231 : 0 ≤ (x27_2 : Int) := of_decide_eq_true (by first | (with_reducible assumption) | assumption)
          have q231 : x27_2 < (l0.length : Int) := of_decide_eq_true (by first | (with_reducible assumption) | assumption)
          obtain ⟨ad231, A231_0, c231_0, e231, hx231_0, hl231_0, hi231_0⟩ := at_L1 HR0.out x27_2 p231 q231
          cases e231
          replace hx231_0 := (HB.out.cell (World.block_lt_of_cell? w _ hx231_0)).trans hx231_0
          have HR231_0 := Aside0.mk hi231_0
          have HC231_0 := Aside0.mk hl231_0
          clear hi231_0 hl231_0
          replace p231 := eq_true p231
          replace q231 := eq_true q231
          go_wp2_with (first | ((with_reducible refine gate_builtin (b := .append) (xs := #[.tmp 31, .tmp 32]) rfl ?_); at_builtin; refine Kd.R_append_rows (Kd.int .u8) (w0 := w) w.heap.size rfl (.tmp 31) (.tmp 32) 74 5 (.int .u8 0) 1 rfl Try.underlying74 info5 rfl (by decide) (by omega) u6 x6_2 (rd_L1 l0 x27_2) _ _ _ (fun _ => True) (fun _ => False) rfl rfl ?aO ?aR (fun _ _ h => h) (fun _ h => h.elim) ?aF ?aB ?aS ?aL ?_; (case aR => repeat (first | exact (Kd.C_below HR231_0.out HB.out) | (with_reducible refine Kd.C_alloc ?_ _) | (with_reducible refine Kd.C_drewN ?_ _) | (with_reducible refine Kd.C_drew ?_))); (case aB => exact (zh0 HB)); (case aF => exact (fun _ _ => trivial)); (case aO => exact (zr0 HO_6)); (case aS => exact (below_size (zh0 HB))); (case aL => have := LMc11.out; omega); intro v233 w12 ho hb hg hat; rw [← Ny232.out] at ho; have n0_ := Aside0.mk (hb); have n1_ := Aside0.mk (ho); clear HB; clear HO_6; have HB := n0_; have HO234 := n1_; clear n0_ n1_; clear ho hb hg hat))
          go_roundg k2
          case measure => have := HK1.out; have := HK2.out; omega
          case rel => exact ⟨(y232), (wrap64 (x27_2 + 1)), (by first | rfl | (simp; done) | (simp [*]; done)), H', ⟨by have := HK1.out; have := HK2.out; omega⟩, ⟨zr0 HO234⟩, ⟨by repeat (first | (with_reducible first | exact HB.out | apply below_alloc | apply pw_below_drewN | apply below_drew1) | exact HB.out)⟩⟩
         ·rw [if_neg c11] at H
          exact absurd H (by simp)
        ·rw [if_neg c10] at H
         exact absurd H (by simp)
       ·rw [if_neg c9] at H
        exact absurd H (by simp)
      ·rw [if_neg c8] at H
       have c8b0 : decide (x27_2 < (l0.length : Int)) = false := decide_eq_false c8
       clear c8
       obtain rfl := Option.some.inj H
       go_wp2
       go_ret
       exact ⟨_, by first | rfl | (simp [errW_none, errW_some] <;> rfl) | (simp [*, errW_none, errW_some] <;> rfl), zr0 HO_6, by repeat (first | (with_reducible first | exact HB.out | apply below_alloc | apply pw_below_drewN | apply below_drew1) | exact HB.out)⟩

open Go.Proofs.Ytdojnaghcfhadac.Cp
/-! ### impl_Gap_text: function 105 -/
def impl_Gap_text.f (k : Nat) (l0_0 : List (List Int)) (a0_1 : Int) (a0_2 : Int) (a0_3 : Int) (a0_4 : Int) (a0_5 : Int) (a0_6 : Int) : Option (List Int) := (impl_Memory_seen.f l0_0 a0_1 a0_2 a0_3 a0_4).bind fun t236 => (if 0 ≤ a0_5 then (if a0_5 ≤ (t236.length : Int) then (if 0 ≤ a0_6 then (if a0_6 ≤ (t236.length : Int) then ((slices_Concat_byte_byte.f k (([(t236.take (a0_5 : Int).toNat), (t236.drop (a0_6 : Int).toNat)] : List (List Int)))).bind fun t252 => (some t252)) else (none)) else (none)) else (none)) else (none))
theorem impl_Gap_text.mono : ∀ a0 a1 a2 a3 a4 a5 a6 k, LeO (impl_Gap_text.f k a0 a1 a2 a3 a4 a5 a6) (impl_Gap_text.f (k + 1) a0 a1 a2 a3 a4 a5 a6) := by
 intro a0 a1 a2 a3 a4 a5 a6 k
 unfold impl_Gap_text.f
 repeat' first
   | (with_reducible exact slices_Concat_byte_byte.mono _ _)
   | (with_reducible exact LeO.refl _)
   | (with_reducible exact LeO.none _)
   | (with_reducible refine LeO.ite ?_ ?_)
   | (with_reducible refine LeO.bind ?_ (fun _ => ?_))
   | exact slices_Concat_byte_byte.mono _ _
   | exact LeO.none _
   | refine LeO.ite ?_ ?_
   | refine LeO.bind ?_ (fun _ => ?_)
def impl_Gap_text.T2 : Bool × List (List Nat × List Nat) := (true, [([], []), ([], []), ([1], [1]), ([0, 2], [0, 2]), ([], []), ([], []), ([5], [5]), ([4, 6], [4, 6]), ([3, 7], [3, 7]), ([8], [8]), ([9, 9, 0, 1, 2, 3, 4, 5, 6, 7, 8, 9], [9])])
def impl_Gap_text.B2 : List Nat := [0, 0, 2, 7, 0, 0, 32, 112, 255, 511, 1023]
theorem impl_Gap_text.tab2 : rtab .any (opsOf Try.f105 2) = impl_Gap_text.T2 := by kernel_rfl
theorem impl_Gap_text.bits2 : waitsOk impl_Gap_text.T2.2 impl_Gap_text.B2 = true := by kernel_rfl
set_option maxHeartbeats 8000000 in
set_option maxRecDepth 100000 in
theorem impl_Gap_text.calls (k : Nat) (A0_0 : Option Addr) (c0_0 : Nat) (l0_0 : List (List Int)) (a0_1 : Int) (a0_2 : Int) (a0_3 : Int) (a0_4 : Int) (a0_5 : Int) (a0_6 : Int) (r : List Int) (w : World) (hr0_0 : Kd.C (Kd.slice 5 (Kd.int .u8)) w A0_0 l0_0.length l0_0) (hc0_0 : l0_0.length ≤ c0_0) (h : impl_Gap_text.f k l0_0 a0_1 a0_2 a0_3 a0_4 a0_5 a0_6 = some r) :
  Calls Try.prog 105 #[.agg #[.slice A0_0 l0_0.length c0_0, .int .i64 a0_1, .int .i64 a0_2, .int .i64 a0_3, .int .i64 a0_4, .int .i64 a0_5, .int .i64 a0_6]] w fun e w' => ∃ v0_ : Value, e = .returned (v0_) ∧ Kd.R (Kd.int .u8) 5 w' w.heap.size (fun _ => True) v0_ r ∧ Below w.heap.size w w' := by
 have hu88 := Try.underlying88
 have hu32 := Try.underlying32
 have hu48 := Try.underlying48
 have HR0_0 := Aside0.mk hr0_0
 have HC0_0 := Aside0.mk hc0_0
 clear hr0_0 hc0_0
 have HB := Aside0.mk (Below.refl w.heap.size w)
 have H : ((impl_Memory_seen.f l0_0 a0_1 a0_2 a0_3 a0_4).bind fun t236 => (if 0 ≤ a0_5 then (if a0_5 ≤ (t236.length : Int) then (if 0 ≤ a0_6 then (if a0_6 ≤ (t236.length : Int) then ((slices_Concat_byte_byte.f k (([(t236.take (a0_5 : Int).toNat), (t236.drop (a0_6 : Int).toNat)] : List (List Int)))).bind fun t252 => (some t252)) else (none)) else (none)) else (none)) else (none))) = some r := h
 clear h
 replace H := Option.bind_eq_some_iff.mp H
 obtain ⟨t236, A20, H⟩ := H
 replace H : (if 0 ≤ a0_5 then (if a0_5 ≤ (t236.length : Int) then (if 0 ≤ a0_6 then (if a0_6 ≤ (t236.length : Int) then ((slices_Concat_byte_byte.f k (([(t236.take (a0_5 : Int).toNat), (t236.drop (a0_6 : Int).toNat)] : List (List Int)))).bind fun t252 => (some t252)) else (none)) else (none)) else (none)) else (none)) = some r := H
 have A2 := Aside0.mk A20
 clear A20
 by_cases c3 : 0 ≤ a0_5
 ·rw [if_pos c3] at H
  have c3b0 := eq_true c3
  have c3b1 : decide (0 ≤ a0_5) = true := decide_eq_true c3
  clear c3
  by_cases c4 : a0_5 ≤ (t236.length : Int)
  ·rw [if_pos c4] at H
   have c4b0 := eq_true c4
   have c4b1 : decide (a0_5 ≤ (t236.length : Int)) = true := decide_eq_true c4
   clear c4
   obtain ⟨y239, hy239⟩ : ∃ y_ : List Int, y_ = (t236.take (a0_5 : Int).toNat) := ⟨_, rfl⟩
   replace H : (if 0 ≤ a0_6 then (if a0_6 ≤ (t236.length : Int) then ((slices_Concat_byte_byte.f k (([y239, (t236.drop (a0_6 : Int).toNat)] : List (List Int)))).bind fun t252 => (some t252)) else (none)) else (none)) = some r := by first | (rw [hy239]; with_reducible exact H) | (have H2_ := (Option.bind_some _ _).symm.trans H; rw [hy239]; with_reducible exact H2_) | (have H2_ := (Option.bind_some _ _).symm.trans H; with_reducible exact H2_) | with_reducible exact H | (rw [hy239]; exact H) | exact H
   have Ny239 := Aside0.mk hy239
   clear hy239
   by_cases c5 : 0 ≤ a0_6
   ·rw [if_pos c5] at H
    have c5b0 := eq_true c5
    have c5b1 : decide (0 ≤ a0_6) = true := decide_eq_true c5
    clear c5
    by_cases c6 : a0_6 ≤ (t236.length : Int)
    ·rw [if_pos c6] at H
     have c6b0 := eq_true c6
     have c6b1 : decide (a0_6 ≤ (t236.length : Int)) = true := decide_eq_true c6
     clear c6
     obtain ⟨y244, hy244⟩ : ∃ y_ : List Int, y_ = (t236.drop (a0_6 : Int).toNat) := ⟨_, rfl⟩
     replace H : ((slices_Concat_byte_byte.f k (([y239, y244] : List (List Int)))).bind fun t252 => (some t252)) = some r := by first | (rw [hy244]; with_reducible exact H) | (have H2_ := (Option.bind_some _ _).symm.trans H; rw [hy244]; with_reducible exact H2_) | (have H2_ := (Option.bind_some _ _).symm.trans H; with_reducible exact H2_) | with_reducible exact H | (rw [hy244]; exact H) | exact H
     have Ny244 := Aside0.mk hy244
     clear hy244
     obtain ⟨y249, hy249⟩ : ∃ y_ : List (List Int), y_ = (([y239, y244] : List (List Int))) := ⟨_, rfl⟩
     replace H : ((slices_Concat_byte_byte.f k y249).bind fun t252 => (some t252)) = some r := by first | (rw [hy249]; with_reducible exact H) | (have H2_ := (Option.bind_some _ _).symm.trans H; rw [hy249]; with_reducible exact H2_) | (have H2_ := (Option.bind_some _ _).symm.trans H; with_reducible exact H2_) | with_reducible exact H | (rw [hy249]; exact H) | exact H
     have Ny249 := Aside0.mk hy249
     clear hy249
     replace H := Option.bind_eq_some_iff.mp H
     obtain ⟨t252, A70, H⟩ := H
     replace H : (some t252) = some r := H
     have A7 := Aside0.mk A70
     clear A70
     obtain rfl := Option.some.inj H
     go_enter Try.func105, Try.ntmps105
     try go_wp2_with (first | ((with_reducible refine gate_dst (N := 1) rfl ?_); refine box_event ?hg (N := 1) ?hd (cs := #[.slice A0_0 l0_0.length c0_0, .int .i64 a0_1, .int .i64 a0_2, .int .i64 a0_3, .int .i64 a0_4, .int .i64 a0_5, .int .i64 a0_6]) (t := 88) ?hr ?_; (case hd => rfl); (case hg => rfl); (case hr => first | (go_simp; done) | (go_simp; rfl)); intro gb235 hg w8 hbox hb; have BK235 := Aside0.mk (hbox); have GW235 := zge HB hg; have GE235 := zge HB hg; replace HB := zhs HB hb; clear hb hbox hg; have hcz9_0 : w8.cell? ⟨gb235, 0, none⟩ = some (.slice A0_0 l0_0.length c0_0) := zc0 BK235 0 rfl; have hcz9_1 : w8.cell? ⟨gb235, 1, none⟩ = some (.int .i64 a0_1) := zc0 BK235 1 rfl; have hcz9_2 : w8.cell? ⟨gb235, 2, none⟩ = some (.int .i64 a0_2) := zc0 BK235 2 rfl; have hcz9_3 : w8.cell? ⟨gb235, 3, none⟩ = some (.int .i64 a0_3) := zc0 BK235 3 rfl; have hcz9_4 : w8.cell? ⟨gb235, 4, none⟩ = some (.int .i64 a0_4) := zc0 BK235 4 rfl; have hcz9_5 : w8.cell? ⟨gb235, 5, none⟩ = some (.int .i64 a0_5) := zc0 BK235 5 rfl; have hcz9_6 : w8.cell? ⟨gb235, 6, none⟩ = some (.int .i64 a0_6) := zc0 BK235 6 rfl; have hfz9_0 := blk_frozen BK235.out 0; have hfz9_1 := blk_frozen BK235.out 1; have hfz9_2 := blk_frozen BK235.out 2; have hfz9_3 := blk_frozen BK235.out 3; have hfz9_4 := blk_frozen BK235.out 4; have hfz9_5 := blk_frozen BK235.out 5; have hfz9_6 := blk_frozen BK235.out 6) | ((with_reducible refine gate_callee (f := 119) rfl ?_); refine goesL_ (some 8) rfl rfl Try.func119 (by kernel_rfl) rfl #[.agg #[.slice A0_0 l0_0.length c0_0], .agg #[.int .i64 a0_1, .int .i64 a0_2, .int .i64 a0_3, .int .i64 a0_4]] rfl (by (try simp only [List.map_toArray, List.map_cons, List.map_nil]); first | done | rfl | (simp only [List.length_drop, List.length_take]; rfl)) ?_; (with_reducible refine (impl_Memory_seen.calls (fun k_ => k_ < w.heap.size) _ _ l0_0 a0_1 a0_2 a0_3 a0_4 t236 _ ?side1 A2.out).mono ?_); (case side1 => exact Kd.V_mk HC0_0.out (Kd.F_below (Kd.C_F (Kd.heap_slice 5 (Kd.heap_int .u8)) HR0_0.out) (zh0 HB))); rintro e w10 ⟨v237, rfl, ho0, hb⟩; refine ⟨_, rfl, ?_⟩; have HO238 := Aside0.mk (Kd.V_lower (Kd.V_mono (ok' := fun k_ => k_ ≠ gb235) ho0 (fun k_ hk_ => Or.elim hk_ (fun hs_ => fun e_ => Nat.not_le.2 hs_ (by rw [e_]; exact GW235.out)) (fun hn_ => (Kd.freshB (g := gb235) (o := .cells #[.slice A0_0 l0_0.length c0_0, .int .i64 a0_1, .int .i64 a0_2, .int .i64 a0_3, .int .i64 a0_4, .int .i64 a0_5, .int .i64 a0_6] 88 (0, 0)) (zk0 BK235) k_ hn_)))) (below_size (zh0 HB))); replace BK235 := zb0 BK235 hb; replace HB := zhs HB hb; (try clear hb); (try clear hb2); (try clear hk); (try clear hi); (try clear ho0)))
     replace HO238 := Aside0.mk (Kd.V_drew HO238.out)
     replace BK235 := Aside0.mk (blk_drew BK235.out)
     replace HB := Aside0.mk (below_drew1 HB.out)
     obtain ⟨Ao13, co13, eo13⟩ := Kd.V_slice HO238.out
     (first | subst eo13 | (injection eo13 with f1_ f2_ f3_; have f4_ := f1_.symm; have f5_ := f3_.symm; clear f1_ f2_ f3_; subst f4_; subst f5_))
     have q12 : (a0_5 : Int) ≤ ((t236.length : Int) : Int) := of_decide_eq_true (by first | (with_reducible assumption) | assumption)
     obtain ⟨i012, hi012, _, hsz12, _⟩ := info_parts info5
     have hroom12 : t236.length ≤ co13 := (Kd.V_reads' HO238.out).2.1
     have hC12 : Kd.F (Kd.int .u8) _ _ Ao13 t236.length t236 := (Kd.V_at (base := w.heap.size) HO238.out).2.2
     have hcut12 := cut_to (P := Try.prog) 74 5 .i64 Try.underlying74 hi012 Ao13 t236.length co13 a0_5 (of_decide_eq_true (by first | (with_reducible assumption) | assumption)) q12 hroom12
     have hr12 := Kd.F_take (m := (a0_5 : Int).toNat) hC12 (by omega)
     have hy12 : y239.length = (a0_5 : Int).toNat := (by rw [Ny239.out, List.length_take]; omega)
     rw [← Ny239.out] at hr12
     rw [← hy12] at hcut12
     have HO243 := Aside0.mk (show Kd.V (Kd.int .u8) 5 _ w.heap.size _ (.slice Ao13 y239.length co13) y239 from Kd.V_mk (by omega) hr12)
     have HC243 := Aside0.mk (show y239.length ≤ co13 from by omega)
     clear hr12 hC12 hroom12 hi012 hsz12
     have KY12 := Aside0.mk hy12
     clear hy12
     replace q12 := eq_true q12
     have q14 : (a0_6 : Int) ≤ ((t236.length : Int) : Int) := of_decide_eq_true (by first | (with_reducible assumption) | assumption)
     obtain ⟨i014, hi014, _, hsz14, _⟩ := info_parts info5
     have hroom14 : t236.length ≤ co13 := (Kd.V_reads' HO238.out).2.1
     have hC14 : Kd.F (Kd.int .u8) _ _ Ao13 t236.length t236 := (Kd.V_at (base := w.heap.size) HO238.out).2.2
     have q014 : (0 : Int) ≤ (a0_6 : Int) := of_decide_eq_true (by first | (with_reducible assumption) | assumption)
     have hcut14 := cut_from (P := Try.prog) 74 5 .i64 Try.underlying74 hi014 1 hsz14 Ao13 t236.length co13 a0_6 q014 q14
     have hr14 := Kd.F_cut (m := (a0_6 : Int).toNat) (c := co13) hC14 (by omega) hroom14
     obtain ⟨A14, hA14⟩ : ∃ A1, A1 = (if co13 = (a0_6 : Int).toNat then Ao13 else (Ao13 : Option Addr).map (·.add ((a0_6 : Int).toNat * 1))) := ⟨_, rfl⟩
     obtain ⟨c14, hc14⟩ : ∃ c1, c1 = co13 - (a0_6 : Int).toNat := ⟨_, rfl⟩
     have hy14 : y244.length = t236.length - (a0_6 : Int).toNat := (by rw [Ny244.out, List.length_drop] <;> omega)
     rw [show (t236).drop (a0_6 : Int).toNat = y244 from Ny244.out.symm] at hr14
     replace hr14 : Kd.F (Kd.int .u8) _ _ A14 y244.length y244 := (by rw [hA14]; exact hr14)
     rw [← hy14, ← hA14, ← hc14] at hcut14
     have HO248 := Aside0.mk (show Kd.V (Kd.int .u8) 5 _ w.heap.size _ (.slice A14 y244.length c14) y244 from Kd.V_mk (by rw [hy14, hc14]; exact Nat.sub_le_sub_right hroom14 _) hr14)
     have HC248 := Aside0.mk (show y244.length ≤ c14 from by rw [hy14, hc14]; exact Nat.sub_le_sub_right hroom14 _)
     clear hr14 hC14 hroom14 hi014 hsz14 hc14
     have KY14 := Aside0.mk hy14
     have KA14 := Aside0.mk hA14
     clear hy14 hA14
     replace q14 := eq_true q14
     refine start_ (n := 11) (S := fun w' => w'.cell? ⟨gb235, 0, none⟩ = some (.slice A0_0 l0_0.length c0_0) ∧ w'.cell? ⟨gb235, 1, none⟩ = some (.int .i64 a0_1) ∧ w'.cell? ⟨gb235, 2, none⟩ = some (.int .i64 a0_2) ∧ w'.cell? ⟨gb235, 3, none⟩ = some (.int .i64 a0_3) ∧ w'.cell? ⟨gb235, 4, none⟩ = some (.int .i64 a0_4) ∧ w'.cell? ⟨gb235, 5, none⟩ = some (.int .i64 a0_5) ∧ w'.cell? ⟨gb235, 6, none⟩ = some (.int .i64 a0_6)) (ds := []) #[false, false, false, false, false, false, false, false, false, false, false] (by kernel_rfl) rfl rfl ⟨zc0 BK235 0 rfl, zc0 BK235 1 rfl, zc0 BK235 2 rfl, zc0 BK235 3 rfl, zc0 BK235 4 rfl, zc0 BK235 5 rfl, zc0 BK235 6 rfl⟩ (fun hHeld => ?_); refine with_tabW impl_Gap_text.tab2 impl_Gap_text.bits2 (fun HT_ HW_ => ?_)
     generalize w10.drew = w11 at HO238 BK235 HB HO243 HO248 hHeld ⊢
     refine pure_ (i := 0) (N := some 9) (v := ?_) (a' := ?_) #[true, false, false, false, false, false, false, false, false, false, false] rfl rfl (any_of HT_.out (by kernel_rfl)) (fun _ _ _ h => h) (Or.inl ⟨by rfl, ?_⟩) ?_ ?_
     rotate_left
     ·intro w'
      go_simp
      with_reducible rfl
     rotate_left
     ·simp only [Act.put, zp1, zp2, zp3, i64_w, i32_w]
      rfl
     refine pure_ (i := 1) (N := some 10) (v := ?_) (a' := ?_) #[true, true, false, false, false, false, false, false, false, false, false] rfl rfl (any_of HT_.out (by kernel_rfl)) (fun _ _ _ h => h) (Or.inl ⟨by rfl, ?_⟩) ?_ ?_
     rotate_left
     ·intro w'
      go_simp
      with_reducible rfl
     rotate_left
     ·simp only [Act.put, zp1, zp2, zp3, i64_w, i32_w]
      rfl
     refine pure_ (i := 4) (N := some 13) (v := ?_) (a' := ?_) #[true, true, false, false, true, false, false, false, false, false, false] rfl rfl (any_of HT_.out (by kernel_rfl)) (fun _ _ _ h => h) (Or.inl ⟨by rfl, ?_⟩) ?_ ?_
     rotate_left
     ·intro w'
      go_simp
      with_reducible rfl
     rotate_left
     ·simp only [Act.put, zp1, zp2, zp3, i64_w, i32_w]
      rfl
     refine pure_ (i := 5) (N := some 14) (v := ?_) (a' := ?_) #[true, true, false, false, true, true, false, false, false, false, false] rfl rfl (any_of HT_.out (by kernel_rfl)) (fun _ _ _ h => h) (Or.inl ⟨by rfl, ?_⟩) ?_ ?_
     rotate_left
     ·intro w'
      go_simp
      with_reducible rfl
     rotate_left
     ·simp only [Act.put, zp1, zp2, zp3, i64_w, i32_w]
      rfl
     refine take_ (i := 2) (N := some 11) (v := ?_) (a' := ?_) #[true, true, true, false, true, true, false, false, false, false, false] rfl rfl (take_ofW HT_.out HW_.out (by kernel_rfl)) (fun _ _ _ h => h) (Or.inl ⟨by rfl, ?_⟩) hHeld ?_ ?_
     rotate_left
     ·rintro w' ⟨s0, s1, s2, s3, s4, s5, s6⟩
      go_simp
      with_reducible rfl
     rotate_left
     ·simp only [Act.put, zp1, zp2, zp3, i64_w, i32_w]
      rfl
     refine pure_ (i := 3) (N := some 12) (v := ?_) (a' := ?_) #[true, true, true, true, true, true, false, false, false, false, false] rfl rfl (any_of HT_.out (by kernel_rfl)) (fun _ _ _ h => h) (Or.inl ⟨by rfl, ?_⟩) ?_ ?_
     rotate_left
     ·intro w'
      go_simp
      with_reducible rfl
     rotate_left
     ·simp only [Act.put, zp1, zp2, zp3, i64_w, i32_w]
      rfl
     refine take_ (i := 6) (N := some 15) (v := ?_) (a' := ?_) #[true, true, true, true, true, true, true, false, false, false, false] rfl rfl (take_ofW HT_.out HW_.out (by kernel_rfl)) (fun _ _ _ h => h) (Or.inl ⟨by rfl, ?_⟩) hHeld ?_ ?_
     rotate_left
     ·rintro w' ⟨s0, s1, s2, s3, s4, s5, s6⟩
      go_simp
      with_reducible rfl
     rotate_left
     ·simp only [Act.put, zp1, zp2, zp3, i64_w, i32_w]
      rfl
     refine pure_ (i := 7) (N := some 16) (v := ?_) (a' := ?_) #[true, true, true, true, true, true, true, true, false, false, false] rfl rfl (any_of HT_.out (by kernel_rfl)) (fun _ _ _ h => h) (Or.inl ⟨by rfl, ?_⟩) ?_ ?_
     rotate_left
     ·intro w'
      go_simp
      with_reducible rfl
     rotate_left
     ·simp only [Act.put, zp1, zp2, zp3, i64_w, i32_w]
      rfl
     refine one_ (i := 8) (N := some 17) #[true, true, true, true, true, true, true, true, true, false, false] rfl rfl (one_of HT_.out (by kernel_rfl)) (by decide) (fun K hK => ?_)
     refine Kd.N_lit_step (Kd.slice 5 (Kd.int .u8)) _ 74 ?hg (N' := 17) ?hd (xs := ([y239, y244] : List (List Int))) (inner := [.slice Ao13 y239.length co13, .slice A14 y244.length c14]) (ok := (fun k_ => k_ ≠ gb235)) (okp := (fun k_ => k_ ≠ gb235)) ?hr ?hp (fun _ hk => hk) ((show ∀ k_, w11.heap.size ≤ k_ → (fun k_ => k_ ≠ gb235) k_ from fun k_ hk => Kd.freshB (g := gb235) (o := .cells #[.slice A0_0 l0_0.length c0_0, .int .i64 a0_1, .int .i64 a0_2, .int .i64 a0_3, .int .i64 a0_4, .int .i64 a0_5, .int .i64 a0_6] 88 (0, 0)) (zk0 BK235) k_ hk) _ (Nat.le_refl _)) (Below.refl _ _) (Nat.le_refl _) (by simp) ?_; (case hd => rfl); (case hg => rfl); (case hr => first | (go_simp; done) | (go_simp; rfl)); (case hp => exact (Reps.one (show Kd.FK (Kd.slice 5 (Kd.int .u8)) _ _ y239 [.slice Ao13 y239.length co13] from (Kd.FK_slice_mk (Kd.V_reads' (Kd.V_mono (ok' := (fun k_ => k_ ≠ gb235)) (HO243.out) (fun k_ hk => hk))).2.1 (Kd.V_F (Kd.V_mono (ok' := (fun k_ => k_ ≠ gb235)) (HO243.out) (fun k_ hk => hk))))) (Reps.one (show Kd.FK (Kd.slice 5 (Kd.int .u8)) _ _ y244 [.slice A14 y244.length c14] from (Kd.FK_slice_mk (Kd.V_reads' (Kd.V_mono (ok' := (fun k_ => k_ ≠ gb235)) (HO248.out) (fun k_ hk => hk))).2.1 (Kd.V_F (Kd.V_mono (ok' := (fun k_ => k_ ≠ gb235)) (HO248.out) (fun k_ hk => hk))))) (Reps.none _ _))))
     intro v250 w15 ho16 hb hg_ hnew_
     clear hg_ hnew_
     (first | rw [← Ny249.out] at ho16 | (simp only [Int.reduceToNat] at ho16; rw [← Ny249.out] at ho16))
     have HO251 := Aside0.mk (Kd.N_lower ho16 (below_size (zh0 HB)))
     replace HO238 := Aside0.mk (Kd.V_elder' (by (with_reducible repeat (first | apply Kd.V_alloc | apply Kd.V_drewN | apply Kd.V_drew)); exact HO238.out) (Kd.N_base ho16) hb)
     replace HO243 := Aside0.mk (Kd.V_elder' (by (with_reducible repeat (first | apply Kd.V_alloc | apply Kd.V_drewN | apply Kd.V_drew)); exact HO243.out) (Kd.N_base ho16) hb)
     replace HO248 := Aside0.mk (Kd.V_elder' (by (with_reducible repeat (first | apply Kd.V_alloc | apply Kd.V_drewN | apply Kd.V_drew)); exact HO248.out) (Kd.N_base ho16) hb)
     replace BK235 := zb0 BK235 hb
     replace HB := zhs HB hb
     clear hb ho16
     obtain ⟨Ao17, co17, eo17⟩ := Kd.N_slice HO251.out
     (first | subst eo17 | (injection eo17 with f1_ f2_ f3_; have f4_ := f1_.symm; have f5_ := f3_.symm; clear f1_ f2_ f3_; subst f4_; subst f5_))
     refine hK.out _ _ ⟨zc0 BK235 0 rfl, zc0 BK235 1 rfl, zc0 BK235 2 rfl, zc0 BK235 3 rfl, zc0 BK235 4 rfl, zc0 BK235 5 rfl, zc0 BK235 6 rfl⟩ (fun hHeld => ?_)
     clear hK K
     refine norm_ (a' := ?_) ?_ ?_
     rotate_left
     ·show Act.put _ (some 17) _ = _
      simp only [Act.put, zp1, zp2, zp3, i64_w, i32_w]
      rfl
     refine one_ (i := 9) (N := some 18) #[true, true, true, true, true, true, true, true, true, true, false] rfl rfl (one_of HT_.out (by kernel_rfl)) (by decide) (fun K hK => ?_)
     refine goes_ Try.func122 (by kernel_rfl) rfl #[.slice Ao17 y249.length co17] (by rfl) rfl rfl (by (try simp only [List.map_toArray, List.map_cons, List.map_nil]); first | done | rfl | (simp only [List.length_drop, List.length_take]; rfl)) ?_
     with_reducible refine (slices_Concat_byte_byte.calls k _ _ y249 t252 _ ?side1 ?side2 A7.out).mono ?_
     (case side1 => repeat (first | exact (Kd.N_reads' HO251.out).2.2 | (with_reducible refine Kd.C_alloc ?_ _) | (with_reducible refine Kd.C_drewN ?_ _) | (with_reducible refine Kd.C_drew ?_)))
     (case side2 => exact (Kd.N_reads' HO251.out).2.1)
     rintro e w18 ⟨v253, rfl, ho0, hb⟩
     refine ⟨_, rfl, ?_⟩
     have HO254 := Aside0.mk (Kd.R_lower ho0 (below_size (zh0 HB)))
     replace HO238 := Aside0.mk (Kd.V_elder' (by (with_reducible repeat (first | apply Kd.V_alloc | apply Kd.V_drewN | apply Kd.V_drew)); exact HO238.out) (Kd.R_base ho0) hb)
     replace HO243 := Aside0.mk (Kd.V_elder' (by (with_reducible repeat (first | apply Kd.V_alloc | apply Kd.V_drewN | apply Kd.V_drew)); exact HO243.out) (Kd.R_base ho0) hb)
     replace HO248 := Aside0.mk (Kd.V_elder' (by (with_reducible repeat (first | apply Kd.V_alloc | apply Kd.V_drewN | apply Kd.V_drew)); exact HO248.out) (Kd.R_base ho0) hb)
     replace HO251 := Aside0.mk (Kd.N_elder' (by (with_reducible repeat (first | apply Kd.N_alloc | apply Kd.N_drewN | apply Kd.N_drew)); exact HO251.out) (Kd.R_base ho0) hb)
     replace BK235 := zb0 BK235 hb
     replace HB := zhs HB hb
     (try clear hb)
     (try clear hb2)
     (try clear hk)
     (try clear hi)
     (try clear ho0)
     refine hK.out _ _ ⟨zc0 BK235 0 rfl, zc0 BK235 1 rfl, zc0 BK235 2 rfl, zc0 BK235 3 rfl, zc0 BK235 4 rfl, zc0 BK235 5 rfl, zc0 BK235 6 rfl⟩ (fun hHeld => ?_)
     clear hK K
     refine norm_ (a' := ?_) ?_ ?_
     rotate_left
     ·show Act.put _ (some 18) _ = _
      simp only [Act.put, zp1, zp2, zp3, i64_w, i32_w]
      rfl
     refine pure_ (i := 10) (N := some 2) (v := ?_) (a' := ?_) #[true, true, true, true, true, true, true, true, true, true, true] rfl rfl (any_of HT_.out (by kernel_rfl)) (fun _ _ _ h => h) (Or.inl ⟨by rfl, ?_⟩) ?_ ?_
     rotate_left
     ·intro w'
      go_simp
      with_reducible rfl
     rotate_left
     ·simp only [Act.put, zp1, zp2, zp3, i64_w, i32_w]
      rfl
     refine done_ (done_of HT_.out (by kernel_rfl)) ?_
     try go_wp2
     go_ret
     exact ⟨_, by first | rfl | (simp [errW_none, errW_some] <;> rfl) | (simp [*, errW_none, errW_some] <;> rfl), zr0 HO254, by repeat (first | (with_reducible first | exact HB.out | apply below_alloc | apply pw_below_drewN | apply below_drew1 | refine below_set ?_ GE235.out) | exact HB.out)⟩
    ·rw [if_neg c6] at H
     exact absurd H (by simp)
   ·rw [if_neg c5] at H
    exact absurd H (by simp)
  ·rw [if_neg c4] at H
   exact absurd H (by simp)
 ·rw [if_neg c3] at H
  exact absurd H (by simp)

open Go.Proofs.Ytdojnaghcfhadac.Cp
/-! ### impl_GapText: function 59 -/
def impl_GapText.f (k : Nat) (l0_0 : List (List Int)) (a0_1 : Int) (a0_2 : Int) (a0_3 : Int) (a0_4 : Int) (a0_5 : Int) (a0_6 : Int) : Option (List Int × Bool) := (impl_IsGap.f k l0_0 a0_1 a0_2 a0_3 a0_4 a0_5 a0_6).bind fun t256 => (if t256 = true then ((impl_Gap_text.f k l0_0 a0_1 a0_2 a0_3 a0_4 a0_5 a0_6).bind fun t257 => (some (t257, true))) else (some (([] : List Int), false)))
theorem impl_GapText.mono : ∀ a0 a1 a2 a3 a4 a5 a6 k, LeO (impl_GapText.f k a0 a1 a2 a3 a4 a5 a6) (impl_GapText.f (k + 1) a0 a1 a2 a3 a4 a5 a6) := by
 intro a0 a1 a2 a3 a4 a5 a6 k
 unfold impl_GapText.f
 repeat' first
   | (with_reducible exact impl_Gap_text.mono _ _ _ _ _ _ _ _)
   | (with_reducible exact impl_IsGap.mono _ _ _ _ _ _ _ _)
   | (with_reducible exact LeO.refl _)
   | (with_reducible exact LeO.none _)
   | (with_reducible refine LeO.ite ?_ ?_)
   | (with_reducible refine LeO.bind ?_ (fun _ => ?_))
   | exact impl_Gap_text.mono _ _ _ _ _ _ _ _
   | exact impl_IsGap.mono _ _ _ _ _ _ _ _
   | exact LeO.none _
   | refine LeO.ite ?_ ?_
   | refine LeO.bind ?_ (fun _ => ?_)
set_option maxHeartbeats 8000000 in
set_option maxRecDepth 100000 in
theorem impl_GapText.calls (k : Nat) (A0_0 : Option Addr) (c0_0 : Nat) (l0_0 : List (List Int)) (a0_1 : Int) (a0_2 : Int) (a0_3 : Int) (a0_4 : Int) (a0_5 : Int) (a0_6 : Int) (r1 : List Int) (r2 : Bool) (w : World) (hr0_0 : Kd.C (Kd.slice 5 (Kd.int .u8)) w A0_0 l0_0.length l0_0) (hc0_0 : l0_0.length ≤ c0_0) (h : impl_GapText.f k l0_0 a0_1 a0_2 a0_3 a0_4 a0_5 a0_6 = some (r1, r2)) :
  Calls Try.prog 59 #[.agg #[.slice A0_0 l0_0.length c0_0, .int .i64 a0_1, .int .i64 a0_2, .int .i64 a0_3, .int .i64 a0_4, .int .i64 a0_5, .int .i64 a0_6]] w fun e w' => ∃ v0_ : Value, e = .returned (.tuple #[v0_, .bool r2]) ∧ Kd.R (Kd.int .u8) 5 w' w.heap.size (fun _ => True) v0_ r1 ∧ Below w.heap.size w w' := by
 have hu88 := Try.underlying88
 have HR0_0 := Aside0.mk hr0_0
 have HC0_0 := Aside0.mk hc0_0
 clear hr0_0 hc0_0
 have HB := Aside0.mk (Below.refl w.heap.size w)
 have H : ((impl_IsGap.f k l0_0 a0_1 a0_2 a0_3 a0_4 a0_5 a0_6).bind fun t256 => (if t256 = true then ((impl_Gap_text.f k l0_0 a0_1 a0_2 a0_3 a0_4 a0_5 a0_6).bind fun t257 => (some (t257, true))) else (some (([] : List Int), false)))) = some (r1, r2) := h
 clear h
 replace H := Option.bind_eq_some_iff.mp H
 obtain ⟨t256, A20, H⟩ := H
 replace H : (if t256 = true then ((impl_Gap_text.f k l0_0 a0_1 a0_2 a0_3 a0_4 a0_5 a0_6).bind fun t257 => (some (t257, true))) else (some (([] : List Int), false))) = some (r1, r2) := H
 have A2 := Aside0.mk A20
 clear A20
 by_cases c3 : t256 = true
 ·subst c3
  have H1 : ((impl_Gap_text.f k l0_0 a0_1 a0_2 a0_3 a0_4 a0_5 a0_6).bind fun t257 => (some (t257, true))) = some (r1, r2) := by rw [if_pos rfl] at H; exact H
  clear H
  have H := H1
  clear H1
  replace H := Option.bind_eq_some_iff.mp H
  obtain ⟨t257, A40, H⟩ := H
  replace H : (some (t257, true)) = some (r1, r2) := H
  have A4 := Aside0.mk A40
  clear A40
  simp only [Option.some.injEq, Prod.mk.injEq] at H
  obtain ⟨rfl, rfl⟩ := H
  go_enter Try.func59, Try.ntmps59
  go_wp2_with (first | ((with_reducible refine gate_dst (N := 1) rfl ?_); refine box_event ?hg (N := 1) ?hd (cs := #[.slice A0_0 l0_0.length c0_0, .int .i64 a0_1, .int .i64 a0_2, .int .i64 a0_3, .int .i64 a0_4, .int .i64 a0_5, .int .i64 a0_6]) (t := 88) ?hr ?_; (case hd => rfl); (case hg => rfl); (case hr => first | (go_simp; done) | (go_simp; rfl)); intro gb255 hg w5 hbox hb; have BK255 := Aside0.mk (hbox); have GW255 := zge HB hg; have GE255 := zge HB hg; replace HB := zhs HB hb; clear hb hbox hg; have hcz6_0 : w5.cell? ⟨gb255, 0, none⟩ = some (.slice A0_0 l0_0.length c0_0) := zc0 BK255 0 rfl; have hcz6_1 : w5.cell? ⟨gb255, 1, none⟩ = some (.int .i64 a0_1) := zc0 BK255 1 rfl; have hcz6_2 : w5.cell? ⟨gb255, 2, none⟩ = some (.int .i64 a0_2) := zc0 BK255 2 rfl; have hcz6_3 : w5.cell? ⟨gb255, 3, none⟩ = some (.int .i64 a0_3) := zc0 BK255 3 rfl; have hcz6_4 : w5.cell? ⟨gb255, 4, none⟩ = some (.int .i64 a0_4) := zc0 BK255 4 rfl; have hcz6_5 : w5.cell? ⟨gb255, 5, none⟩ = some (.int .i64 a0_5) := zc0 BK255 5 rfl; have hcz6_6 : w5.cell? ⟨gb255, 6, none⟩ = some (.int .i64 a0_6) := zc0 BK255 6 rfl; have hfz6_0 := blk_frozen BK255.out 0; have hfz6_1 := blk_frozen BK255.out 1; have hfz6_2 := blk_frozen BK255.out 2; have hfz6_3 := blk_frozen BK255.out 3; have hfz6_4 := blk_frozen BK255.out 4; have hfz6_5 := blk_frozen BK255.out 5; have hfz6_6 := blk_frozen BK255.out 6) | ((with_reducible refine gate_callee (f := 104) rfl ?_); refine goesL_ (some 5) rfl rfl Try.func104 (by kernel_rfl) rfl #[.agg #[.slice A0_0 l0_0.length c0_0, .int .i64 a0_1, .int .i64 a0_2, .int .i64 a0_3, .int .i64 a0_4, .int .i64 a0_5, .int .i64 a0_6]] rfl (by (try simp only [List.map_toArray, List.map_cons, List.map_nil]); first | done | rfl | (simp only [List.length_drop, List.length_take]; rfl)) ?_; (with_reducible refine (impl_IsGap.calls k _ _ l0_0 a0_1 a0_2 a0_3 a0_4 a0_5 a0_6 true _ ?side1 ?side2 A2.out).mono ?_); (case side1 => repeat (first | exact (Kd.C_below HR0_0.out HB.out) | (with_reducible refine Kd.C_alloc ?_ _) | (with_reducible refine Kd.C_drewN ?_ _) | (with_reducible refine Kd.C_drew ?_))); (case side2 => exact HC0_0.out); rintro e w7 ⟨rfl, hb⟩; refine ⟨_, rfl, ?_⟩; replace BK255 := zb0 BK255 hb; replace HB := zhs HB hb; (try clear hb); (try clear hb2); (try clear hk); (try clear hi); have hcz8_0 : w7.cell? ⟨gb255, 0, none⟩ = some (.slice A0_0 l0_0.length c0_0) := zc0 BK255 0 rfl; have hcz8_1 : w7.cell? ⟨gb255, 1, none⟩ = some (.int .i64 a0_1) := zc0 BK255 1 rfl; have hcz8_2 : w7.cell? ⟨gb255, 2, none⟩ = some (.int .i64 a0_2) := zc0 BK255 2 rfl; have hcz8_3 : w7.cell? ⟨gb255, 3, none⟩ = some (.int .i64 a0_3) := zc0 BK255 3 rfl; have hcz8_4 : w7.cell? ⟨gb255, 4, none⟩ = some (.int .i64 a0_4) := zc0 BK255 4 rfl; have hcz8_5 : w7.cell? ⟨gb255, 5, none⟩ = some (.int .i64 a0_5) := zc0 BK255 5 rfl; have hcz8_6 : w7.cell? ⟨gb255, 6, none⟩ = some (.int .i64 a0_6) := zc0 BK255 6 rfl; have hfz8_0 := blk_frozen BK255.out 0; have hfz8_1 := blk_frozen BK255.out 1; have hfz8_2 := blk_frozen BK255.out 2; have hfz8_3 := blk_frozen BK255.out 3; have hfz8_4 := blk_frozen BK255.out 4; have hfz8_5 := blk_frozen BK255.out 5; have hfz8_6 := blk_frozen BK255.out 6) | ((with_reducible refine gate_callee (f := 105) rfl ?_); refine goesL_ (some 8) rfl rfl Try.func105 (by kernel_rfl) rfl #[.agg #[.slice A0_0 l0_0.length c0_0, .int .i64 a0_1, .int .i64 a0_2, .int .i64 a0_3, .int .i64 a0_4, .int .i64 a0_5, .int .i64 a0_6]] rfl (by (try simp only [List.map_toArray, List.map_cons, List.map_nil]); first | done | rfl | (simp only [List.length_drop, List.length_take]; rfl)) ?_; (with_reducible refine (impl_Gap_text.calls k _ _ l0_0 a0_1 a0_2 a0_3 a0_4 a0_5 a0_6 t257 _ ?side1 ?side2 A4.out).mono ?_); (case side1 => repeat (first | exact (Kd.C_below HR0_0.out HB.out) | (with_reducible refine Kd.C_alloc ?_ _) | (with_reducible refine Kd.C_drewN ?_ _) | (with_reducible refine Kd.C_drew ?_))); (case side2 => exact HC0_0.out); rintro e w9 ⟨v258, rfl, ho0, hb⟩; refine ⟨_, rfl, ?_⟩; have HO259 := Aside0.mk (Kd.R_lower ho0 (below_size (zh0 HB))); replace BK255 := zb0 BK255 hb; replace HB := zhs HB hb; (try clear hb); (try clear hb2); (try clear hk); (try clear hi); (try clear ho0)))
  go_ret2
  exact ⟨_, by first | rfl | (simp [errW_none, errW_some] <;> rfl) | (simp [*, errW_none, errW_some] <;> rfl), zr0 HO259, by repeat (first | (with_reducible first | exact HB.out | apply below_alloc | apply pw_below_drewN | apply below_drew1 | refine below_set ?_ GE255.out) | exact HB.out)⟩
 ·replace c3 := Bool.eq_false_iff.mpr c3
  subst c3
  have H1 : (some (([] : List Int), false)) = some (r1, r2) := by rw [if_neg (show ¬ (false = true) by decide)] at H; exact H
  clear H
  have H := H1
  clear H1
  simp only [Option.some.injEq, Prod.mk.injEq] at H
  obtain ⟨rfl, rfl⟩ := H
  go_enter Try.func59, Try.ntmps59
  go_wp2_with (first | ((with_reducible refine gate_dst (N := 1) rfl ?_); refine box_event ?hg (N := 1) ?hd (cs := #[.slice A0_0 l0_0.length c0_0, .int .i64 a0_1, .int .i64 a0_2, .int .i64 a0_3, .int .i64 a0_4, .int .i64 a0_5, .int .i64 a0_6]) (t := 88) ?hr ?_; (case hd => rfl); (case hg => rfl); (case hr => first | (go_simp; done) | (go_simp; rfl)); intro gb255 hg w10 hbox hb; have BK255 := Aside0.mk (hbox); have GW255 := zge HB hg; have GE255 := zge HB hg; replace HB := zhs HB hb; clear hb hbox hg; have hcz11_0 : w10.cell? ⟨gb255, 0, none⟩ = some (.slice A0_0 l0_0.length c0_0) := zc0 BK255 0 rfl; have hcz11_1 : w10.cell? ⟨gb255, 1, none⟩ = some (.int .i64 a0_1) := zc0 BK255 1 rfl; have hcz11_2 : w10.cell? ⟨gb255, 2, none⟩ = some (.int .i64 a0_2) := zc0 BK255 2 rfl; have hcz11_3 : w10.cell? ⟨gb255, 3, none⟩ = some (.int .i64 a0_3) := zc0 BK255 3 rfl; have hcz11_4 : w10.cell? ⟨gb255, 4, none⟩ = some (.int .i64 a0_4) := zc0 BK255 4 rfl; have hcz11_5 : w10.cell? ⟨gb255, 5, none⟩ = some (.int .i64 a0_5) := zc0 BK255 5 rfl; have hcz11_6 : w10.cell? ⟨gb255, 6, none⟩ = some (.int .i64 a0_6) := zc0 BK255 6 rfl; have hfz11_0 := blk_frozen BK255.out 0; have hfz11_1 := blk_frozen BK255.out 1; have hfz11_2 := blk_frozen BK255.out 2; have hfz11_3 := blk_frozen BK255.out 3; have hfz11_4 := blk_frozen BK255.out 4; have hfz11_5 := blk_frozen BK255.out 5; have hfz11_6 := blk_frozen BK255.out 6) | ((with_reducible refine gate_callee (f := 104) rfl ?_); refine goesL_ (some 5) rfl rfl Try.func104 (by kernel_rfl) rfl #[.agg #[.slice A0_0 l0_0.length c0_0, .int .i64 a0_1, .int .i64 a0_2, .int .i64 a0_3, .int .i64 a0_4, .int .i64 a0_5, .int .i64 a0_6]] rfl (by (try simp only [List.map_toArray, List.map_cons, List.map_nil]); first | done | rfl | (simp only [List.length_drop, List.length_take]; rfl)) ?_; (with_reducible refine (impl_IsGap.calls k _ _ l0_0 a0_1 a0_2 a0_3 a0_4 a0_5 a0_6 false _ ?side1 ?side2 A2.out).mono ?_); (case side1 => repeat (first | exact (Kd.C_below HR0_0.out HB.out) | (with_reducible refine Kd.C_alloc ?_ _) | (with_reducible refine Kd.C_drewN ?_ _) | (with_reducible refine Kd.C_drew ?_))); (case side2 => exact HC0_0.out); rintro e w12 ⟨rfl, hb⟩; refine ⟨_, rfl, ?_⟩; replace BK255 := zb0 BK255 hb; replace HB := zhs HB hb; (try clear hb); (try clear hb2); (try clear hk); (try clear hi)))
  go_ret2
  exact ⟨_, by first | rfl | (simp [errW_none, errW_some] <;> rfl) | (simp [*, errW_none, errW_some] <;> rfl), by first | exact Kd.R_nil _ _ _ _ _ | exact Kd.N_nil _ _ _ _ _ | exact Kd.V_nil _ _ _ _ _ | exact Kd.Q_nil _ _ _ _ _ | exact Kd.S_nil _ _ _ _ _, by repeat (first | (with_reducible first | exact HB.out | apply below_alloc | apply pw_below_drewN | apply below_drew1 | refine below_set ?_ GE255.out) | exact HB.out)⟩

open Go.Proofs.Ytdojnaghcfhadac.Cp
/-! ### laws_eqByteSS: function 73 -/
def laws_eqByteSS.l0 : Nat → List (List Int) → List (List Int) → Int → Option (Bool)
 | 0, _, _, _ => none
 | k + 1, x0, x1, x5 => if x5 < (x0.length : Int) then (if 0 ≤ x5 then (if x5 < (x1.length : Int) then ((laws_eqByteS.f k (rd_L1 x0 x5) (rd_L1 x1 x5)).bind fun t262 => (if t262 = true then (laws_eqByteSS.l0 k x0 x1 (wrap64 (x5 + 1))) else (some false))) else (none)) else (none)) else (some true)
def laws_eqByteSS.f (k : Nat) (l0 : List (List Int)) (l1 : List (List Int)) : Option (Bool) := if (l0.length : Int) = (l1.length : Int) then (laws_eqByteSS.l0 k l0 l1 0) else (some false)
theorem laws_eqByteSS.mono_l : ∀ k, (∀ y0 y1 y2, LeO (laws_eqByteSS.l0 k y0 y1 y2) (laws_eqByteSS.l0 (k + 1) y0 y1 y2))
 | 0 => fun _ _ _ r h => by simp [laws_eqByteSS.l0] at h
 | k + 1 => by
  have ih0 := laws_eqByteSS.mono_l k
  ·intro y0 y1 y2
   unfold laws_eqByteSS.l0
   repeat' first
   | (with_reducible exact ih0 _ _ _)
   | (with_reducible exact laws_eqByteS.mono _ _ _)
   | (with_reducible exact LeO.refl _)
   | (with_reducible exact LeO.none _)
   | (with_reducible refine LeO.ite ?_ ?_)
   | (with_reducible refine LeO.bind ?_ (fun _ => ?_))
   | exact ih0 _ _ _
   | exact laws_eqByteS.mono _ _ _
   | exact LeO.none _
   | refine LeO.ite ?_ ?_
   | refine LeO.bind ?_ (fun _ => ?_)
theorem laws_eqByteSS.mono : ∀ a0 a1 k, LeO (laws_eqByteSS.f k a0 a1) (laws_eqByteSS.f (k + 1) a0 a1) := by
 intro a0 a1 k
 have ih0 := laws_eqByteSS.mono_l k
 unfold laws_eqByteSS.f
 repeat' first
   | (with_reducible exact ih0 _ _ _)
   | (with_reducible exact laws_eqByteS.mono _ _ _)
   | (with_reducible exact LeO.refl _)
   | (with_reducible exact LeO.none _)
   | (with_reducible refine LeO.ite ?_ ?_)
   | (with_reducible refine LeO.bind ?_ (fun _ => ?_))
   | exact ih0 _ _ _
   | exact laws_eqByteS.mono _ _ _
   | exact LeO.none _
   | refine LeO.ite ?_ ?_
   | refine LeO.bind ?_ (fun _ => ?_)
set_option maxHeartbeats 8000000 in
set_option maxRecDepth 100000 in
theorem laws_eqByteSS.calls (k : Nat) (A0 : Option Addr) (c0 : Nat) (l0 : List (List Int)) (A1 : Option Addr) (c1 : Nat) (l1 : List (List Int)) (r : Bool) (w : World) (hr0 : Kd.C (Kd.slice 5 (Kd.int .u8)) w A0 l0.length l0) (hc0 : l0.length ≤ c0) (hr1 : Kd.C (Kd.slice 5 (Kd.int .u8)) w A1 l1.length l1) (hc1 : l1.length ≤ c1) (h : laws_eqByteSS.f k l0 l1 = some r) :
  Calls Try.prog 73 #[.slice A0 l0.length c0, .slice A1 l1.length c1] w fun e w' => e = .returned (.bool r) ∧ Drawn0 w w' := by
 have HR0 := Aside0.mk hr0
 have HC0 := Aside0.mk hc0
 clear hr0 hc0
 have HR1 := Aside0.mk hr1
 have HC1 := Aside0.mk hc1
 clear hr1 hc1
 have H : (if (l0.length : Int) = (l1.length : Int) then (laws_eqByteSS.l0 k l0 l1 0) else (some false)) = some r := h
 clear h
 by_cases c3 : (l0.length : Int) = (l1.length : Int)
 ·rw [if_pos c3] at H
  have c3b0 : ((l0.length : Int) == (l1.length : Int)) = true := beq_iff_eq.mpr c3
  have c3b1 : ((l0.length : Int) != (l1.length : Int)) = false := bne_eq_false_iff_eq.mpr c3
  have c3b2 : (l0.length == l1.length) = true := by first | simpa using c3 | (simp at c3 ⊢; omega)
  clear c3
  have H' := Aside0.mk H
  clear H
  go_enter Try.func73, Try.ntmps73
  go_wp2
  repeat (go_quiet (fail); try go_wp2)
  go_loopg [5] k (fun kq v5 w' => ∃ (x5_1 : Int), v5 = .int .i64 x5_1 ∧ Aside0 (laws_eqByteSS.l0 kq l0 l1 x5_1 = some r) ∧ Aside0 (kq ≤ k) ∧ Drawn0 w w')
  case atStart => exact ⟨(0), (by first | rfl | (simp; done) | (simp [*]; done)), H', ⟨Nat.le_refl _⟩, by repeat (first | exact Drawn0.refl _ | apply Drawn0.step)⟩
  case round =>
   clear H'
   try clear c1
   try clear p2
   try clear c3
   try clear c3b0
   try clear c3b1
   try clear c3b2
   obtain ⟨x5_1, rfl, HA, HK1, ⟨m1, rfl⟩⟩ := hrel
   cases gk with
   | zero => exact absurd HA.out (by simp [laws_eqByteSS.l0])
   | succ k1 =>
    have H := HA.out
    clear HA
    simp only [laws_eqByteSS.l0] at H
    by_cases c4 : x5_1 < (l0.length : Int)
    ·rw [if_pos c4] at H
     have c4b0 : decide (x5_1 < (l0.length : Int)) = true := decide_eq_true c4
     clear c4
     by_cases c5 : 0 ≤ x5_1
     ·rw [if_pos c5] at H
      have c5b0 : decide (0 ≤ x5_1) = true := decide_eq_true c5
      clear c5
      by_cases c6 : x5_1 < (l1.length : Int)
      ·rw [if_pos c6] at H
       have c6b0 : decide (x5_1 < (l1.length : Int)) = true := decide_eq_true c6
       clear c6
       replace H := Option.bind_eq_some_iff.mp H
       obtain ⟨t262, A70, H⟩ := H
       replace H : (if t262 = true then (laws_eqByteSS.l0 k1 l0 l1 (wrap64 (x5_1 + 1))) else (some false)) = some r := H
       have A7 := Aside0.mk A70
       clear A70
       by_cases c8 : t262 = true
       ·subst c8
        have H1 : (laws_eqByteSS.l0 k1 l0 l1 (wrap64 (x5_1 + 1))) = some r := by rw [if_pos rfl] at H; exact H
        clear H
        have H := H1
        clear H1
        have H' := Aside0.mk H
        clear H
        have p260 : 0 ≤ (x5_1 : Int) := of_decide_eq_true (by first | (with_reducible assumption) | assumption)
        have q260 : x5_1 < (l0.length : Int) := of_decide_eq_true (by first | (with_reducible assumption) | assumption)
        obtain ⟨ad260, A260_0, c260_0, e260, hx260_0, hl260_0, hi260_0⟩ := at_L1 HR0.out x5_1 p260 q260
        cases e260
        have HR260_0 := Aside0.mk hi260_0
        have HC260_0 := Aside0.mk hl260_0
        clear hi260_0 hl260_0
        replace p260 := eq_true p260
        replace q260 := eq_true q260
        have p261 : 0 ≤ (x5_1 : Int) := of_decide_eq_true (by first | (with_reducible assumption) | assumption)
        have q261 : x5_1 < (l1.length : Int) := of_decide_eq_true (by first | (with_reducible assumption) | assumption)
        obtain ⟨ad261, A261_0, c261_0, e261, hx261_0, hl261_0, hi261_0⟩ := at_L1 HR1.out x5_1 p261 q261
        cases e261
        have HR261_0 := Aside0.mk hi261_0
        have HC261_0 := Aside0.mk hl261_0
        clear hi261_0 hl261_0
        replace p261 := eq_true p261
        replace q261 := eq_true q261
        go_wp2_with (first | (go_at_call 49; (with_reducible refine (laws_eqByteS.calls k1 _ _ (rd_L1 l0 x5_1) _ _ (rd_L1 l1 x5_1) true _ ?side1 ?side2 ?side3 ?side4 A7.out).mono ?_); (case side1 => repeat (first | exact HR260_0.out | (with_reducible refine Kd.C_alloc ?_ _) | (with_reducible refine Kd.C_drewN ?_ _) | (with_reducible refine Kd.C_drew ?_))); (case side2 => exact HC260_0.out); (case side3 => repeat (first | exact HR261_0.out | (with_reducible refine Kd.C_alloc ?_ _) | (with_reducible refine Kd.C_drewN ?_ _) | (with_reducible refine Kd.C_drew ?_))); (case side4 => exact HC261_0.out); rintro e w' ⟨rfl, ⟨nd, rfl⟩⟩; (try first | exact ⟨rfl, _, World.drewN_drewN _ _ _⟩ | exact ⟨rfl, _, Eq.trans (World.drewN_drewN _ _ _) (congrArg (World.drewN _) (Nat.add_assoc _ _ _))⟩)))
        repeat (go_quiet (first | (go_at_call 49; (with_reducible refine (laws_eqByteS.calls k1 _ _ (rd_L1 l0 x5_1) _ _ (rd_L1 l1 x5_1) true _ ?side1 ?side2 ?side3 ?side4 A7.out).mono ?_); (case side1 => repeat (first | exact HR260_0.out | (with_reducible refine Kd.C_alloc ?_ _) | (with_reducible refine Kd.C_drewN ?_ _) | (with_reducible refine Kd.C_drew ?_))); (case side2 => exact HC260_0.out); (case side3 => repeat (first | exact HR261_0.out | (with_reducible refine Kd.C_alloc ?_ _) | (with_reducible refine Kd.C_drewN ?_ _) | (with_reducible refine Kd.C_drew ?_))); (case side4 => exact HC261_0.out); rintro e w' ⟨rfl, ⟨nd, rfl⟩⟩; (try first | exact ⟨rfl, _, World.drewN_drewN _ _ _⟩ | exact ⟨rfl, _, Eq.trans (World.drewN_drewN _ _ _) (congrArg (World.drewN _) (Nat.add_assoc _ _ _))⟩))); try go_wp2_with (first | (go_at_call 49; (with_reducible refine (laws_eqByteS.calls k1 _ _ (rd_L1 l0 x5_1) _ _ (rd_L1 l1 x5_1) true _ ?side1 ?side2 ?side3 ?side4 A7.out).mono ?_); (case side1 => repeat (first | exact HR260_0.out | (with_reducible refine Kd.C_alloc ?_ _) | (with_reducible refine Kd.C_drewN ?_ _) | (with_reducible refine Kd.C_drew ?_))); (case side2 => exact HC260_0.out); (case side3 => repeat (first | exact HR261_0.out | (with_reducible refine Kd.C_alloc ?_ _) | (with_reducible refine Kd.C_drewN ?_ _) | (with_reducible refine Kd.C_drew ?_))); (case side4 => exact HC261_0.out); rintro e w' ⟨rfl, ⟨nd, rfl⟩⟩; (try first | exact ⟨rfl, _, World.drewN_drewN _ _ _⟩ | exact ⟨rfl, _, Eq.trans (World.drewN_drewN _ _ _) (congrArg (World.drewN _) (Nat.add_assoc _ _ _))⟩))))
        go_roundg k1
        case measure => have := HK1.out; omega
        case rel => exact ⟨(wrap64 (x5_1 + 1)), (by first | rfl | (simp; done) | (simp [*]; done)), H', ⟨by have := HK1.out; omega⟩, by repeat (first | exact Drawn0.refl _ | apply Drawn0.step)⟩
       ·replace c8 := Bool.eq_false_iff.mpr c8
        subst c8
        have H1 : (some false) = some r := by rw [if_neg (show ¬ (false = true) by decide)] at H; exact H
        clear H
        have H := H1
        clear H1
        obtain rfl := Option.some.inj H
        have p260 : 0 ≤ (x5_1 : Int) := of_decide_eq_true (by first | (with_reducible assumption) | assumption)
        have q260 : x5_1 < (l0.length : Int) := of_decide_eq_true (by first | (with_reducible assumption) | assumption)
        obtain ⟨ad260, A260_0, c260_0, e260, hx260_0, hl260_0, hi260_0⟩ := at_L1 HR0.out x5_1 p260 q260
        cases e260
        have HR260_0 := Aside0.mk hi260_0
        have HC260_0 := Aside0.mk hl260_0
        clear hi260_0 hl260_0
        replace p260 := eq_true p260
        replace q260 := eq_true q260
        have p261 : 0 ≤ (x5_1 : Int) := of_decide_eq_true (by first | (with_reducible assumption) | assumption)
        have q261 : x5_1 < (l1.length : Int) := of_decide_eq_true (by first | (with_reducible assumption) | assumption)
        obtain ⟨ad261, A261_0, c261_0, e261, hx261_0, hl261_0, hi261_0⟩ := at_L1 HR1.out x5_1 p261 q261
        cases e261
        have HR261_0 := Aside0.mk hi261_0
        have HC261_0 := Aside0.mk hl261_0
        clear hi261_0 hl261_0
        replace p261 := eq_true p261
        replace q261 := eq_true q261
        go_wp2_with (first | (go_at_call 49; (with_reducible refine (laws_eqByteS.calls k1 _ _ (rd_L1 l0 x5_1) _ _ (rd_L1 l1 x5_1) false _ ?side1 ?side2 ?side3 ?side4 A7.out).mono ?_); (case side1 => repeat (first | exact HR260_0.out | (with_reducible refine Kd.C_alloc ?_ _) | (with_reducible refine Kd.C_drewN ?_ _) | (with_reducible refine Kd.C_drew ?_))); (case side2 => exact HC260_0.out); (case side3 => repeat (first | exact HR261_0.out | (with_reducible refine Kd.C_alloc ?_ _) | (with_reducible refine Kd.C_drewN ?_ _) | (with_reducible refine Kd.C_drew ?_))); (case side4 => exact HC261_0.out); rintro e w' ⟨rfl, ⟨nd, rfl⟩⟩; (try first | exact ⟨rfl, _, World.drewN_drewN _ _ _⟩ | exact ⟨rfl, _, Eq.trans (World.drewN_drewN _ _ _) (congrArg (World.drewN _) (Nat.add_assoc _ _ _))⟩)))
        repeat (go_quiet (first | (go_at_call 49; (with_reducible refine (laws_eqByteS.calls k1 _ _ (rd_L1 l0 x5_1) _ _ (rd_L1 l1 x5_1) false _ ?side1 ?side2 ?side3 ?side4 A7.out).mono ?_); (case side1 => repeat (first | exact HR260_0.out | (with_reducible refine Kd.C_alloc ?_ _) | (with_reducible refine Kd.C_drewN ?_ _) | (with_reducible refine Kd.C_drew ?_))); (case side2 => exact HC260_0.out); (case side3 => repeat (first | exact HR261_0.out | (with_reducible refine Kd.C_alloc ?_ _) | (with_reducible refine Kd.C_drewN ?_ _) | (with_reducible refine Kd.C_drew ?_))); (case side4 => exact HC261_0.out); rintro e w' ⟨rfl, ⟨nd, rfl⟩⟩; (try first | exact ⟨rfl, _, World.drewN_drewN _ _ _⟩ | exact ⟨rfl, _, Eq.trans (World.drewN_drewN _ _ _) (congrArg (World.drewN _) (Nat.add_assoc _ _ _))⟩))); try go_wp2_with (first | (go_at_call 49; (with_reducible refine (laws_eqByteS.calls k1 _ _ (rd_L1 l0 x5_1) _ _ (rd_L1 l1 x5_1) false _ ?side1 ?side2 ?side3 ?side4 A7.out).mono ?_); (case side1 => repeat (first | exact HR260_0.out | (with_reducible refine Kd.C_alloc ?_ _) | (with_reducible refine Kd.C_drewN ?_ _) | (with_reducible refine Kd.C_drew ?_))); (case side2 => exact HC260_0.out); (case side3 => repeat (first | exact HR261_0.out | (with_reducible refine Kd.C_alloc ?_ _) | (with_reducible refine Kd.C_drewN ?_ _) | (with_reducible refine Kd.C_drew ?_))); (case side4 => exact HC261_0.out); rintro e w' ⟨rfl, ⟨nd, rfl⟩⟩; (try first | exact ⟨rfl, _, World.drewN_drewN _ _ _⟩ | exact ⟨rfl, _, Eq.trans (World.drewN_drewN _ _ _) (congrArg (World.drewN _) (Nat.add_assoc _ _ _))⟩))))
        go_ret
        exact ⟨by first | rfl | (simp; done) | (simp [*]; done), by repeat (first | exact Drawn0.refl _ | apply Drawn0.step)⟩
      ·rw [if_neg c6] at H
       exact absurd H (by simp)
     ·rw [if_neg c5] at H
      exact absurd H (by simp)
    ·rw [if_neg c4] at H
     have c4b0 : decide (x5_1 < (l0.length : Int)) = false := decide_eq_false c4
     clear c4
     obtain rfl := Option.some.inj H
     go_wp2
     repeat (go_quiet (fail); try go_wp2)
     go_ret
     exact ⟨by first | rfl | (simp; done) | (simp [*]; done), by repeat (first | exact Drawn0.refl _ | apply Drawn0.step)⟩
 ·rw [if_neg c3] at H
  have c3b0 : ((l0.length : Int) == (l1.length : Int)) = false := beq_eq_false_iff_ne.mpr c3
  have c3b1 : ((l0.length : Int) != (l1.length : Int)) = true := bne_iff_ne.mpr c3
  have c3b2 : (l0.length == l1.length) = false := by first | simpa using c3 | (simp at c3 ⊢; omega)
  obtain rfl := Option.some.inj H
  go_enter Try.func73, Try.ntmps73
  go_wp2
  repeat (go_quiet (fail); try go_wp2)
  go_ret
  exact ⟨by first | rfl | (simp; done) | (simp [*]; done), by repeat (first | exact Drawn0.refl _ | apply Drawn0.step)⟩

open Go.Proofs.Ytdojnaghcfhadac.Cp
/-! ### laws_eqMemory: function 20 -/
def laws_eqMemory.f (k : Nat) (l0_0 : List (List Int)) (l1_0 : List (List Int)) : Option (Bool) := (laws_eqByteSS.f k l0_0 l1_0).bind fun t265 => (if t265 = true then (some true) else (some false))
theorem laws_eqMemory.mono : ∀ a0 a1 k, LeO (laws_eqMemory.f k a0 a1) (laws_eqMemory.f (k + 1) a0 a1) := by
 intro a0 a1 k
 unfold laws_eqMemory.f
 repeat' first
   | (with_reducible exact laws_eqByteSS.mono _ _ _)
   | (with_reducible exact LeO.refl _)
   | (with_reducible exact LeO.none _)
   | (with_reducible refine LeO.ite ?_ ?_)
   | (with_reducible refine LeO.bind ?_ (fun _ => ?_))
   | exact laws_eqByteSS.mono _ _ _
   | exact LeO.none _
   | refine LeO.ite ?_ ?_
   | refine LeO.bind ?_ (fun _ => ?_)
set_option maxHeartbeats 8000000 in
set_option maxRecDepth 100000 in
theorem laws_eqMemory.calls (k : Nat) (A0_0 : Option Addr) (c0_0 : Nat) (l0_0 : List (List Int)) (A1_0 : Option Addr) (c1_0 : Nat) (l1_0 : List (List Int)) (r : Bool) (w : World) (hr0_0 : Kd.C (Kd.slice 5 (Kd.int .u8)) w A0_0 l0_0.length l0_0) (hc0_0 : l0_0.length ≤ c0_0) (hr1_0 : Kd.C (Kd.slice 5 (Kd.int .u8)) w A1_0 l1_0.length l1_0) (hc1_0 : l1_0.length ≤ c1_0) (h : laws_eqMemory.f k l0_0 l1_0 = some r) :
  Calls Try.prog 20 #[.agg #[.slice A0_0 l0_0.length c0_0], .agg #[.slice A1_0 l1_0.length c1_0]] w fun e w' => e = .returned (.bool r) ∧ Below w.heap.size w w' := by
 have hu32 := Try.underlying32
 have HR0_0 := Aside0.mk hr0_0
 have HC0_0 := Aside0.mk hc0_0
 clear hr0_0 hc0_0
 have HR1_0 := Aside0.mk hr1_0
 have HC1_0 := Aside0.mk hc1_0
 clear hr1_0 hc1_0
 have HB := Aside0.mk (Below.refl w.heap.size w)
 have H : ((laws_eqByteSS.f k l0_0 l1_0).bind fun t265 => (if t265 = true then (some true) else (some false))) = some r := h
 clear h
 replace H := Option.bind_eq_some_iff.mp H
 obtain ⟨t265, A30, H⟩ := H
 replace H : (if t265 = true then (some true) else (some false)) = some r := H
 have A3 := Aside0.mk A30
 clear A30
 by_cases c4 : t265 = true
 ·subst c4
  have H1 : (some true) = some r := by rw [if_pos rfl] at H; exact H
  clear H
  have H := H1
  clear H1
  obtain rfl := Option.some.inj H
  go_enter Try.func20, Try.ntmps20
  go_wp2_with (first | ((with_reducible refine gate_dst (N := 2) rfl ?_); refine box_event ?hg (N := 2) ?hd (cs := #[.slice A0_0 l0_0.length c0_0]) (t := 32) ?hr ?_; (case hd => rfl); (case hg => rfl); (case hr => first | (go_simp; done) | (go_simp; rfl)); intro gb263 hg w5 hbox hb; have BK263 := Aside0.mk (hbox); have GW263 := zge HB hg; have GE263 := zge HB hg; replace HB := zhs HB hb; clear hb hbox hg) | ((with_reducible refine gate_dst (N := 3) rfl ?_); refine box_event ?hg (N := 3) ?hd (cs := #[.slice A1_0 l1_0.length c1_0]) (t := 32) ?hr ?_; (case hd => rfl); (case hg => rfl); (case hr => first | (go_simp; done) | (go_simp; rfl)); intro gb264 hg w6 hbox hb; have BK264 := Aside0.mk (hbox); have GW264 := zge HB hg; have GE264 := zge HB hg; have NB263_264 := znl BK263 hg; have NB264_263 := znr BK263 hg; replace BK263 := zb0 BK263 hb; replace HB := zhs HB hb; clear hb hbox hg; have hnb7 := NB263_264.out; have hnc7 := NB264_263.out; have hcz8_0 : w6.cell? ⟨gb263, 0, none⟩ = some (.slice A0_0 l0_0.length c0_0) := zc0 BK263 0 rfl; have hfz8_0 := blk_frozen BK263.out 0; have hcz9_0 : w6.cell? ⟨gb264, 0, none⟩ = some (.slice A1_0 l1_0.length c1_0) := zc0 BK264 0 rfl; have hfz9_0 := blk_frozen BK264.out 0) | ((with_reducible refine gate_callee (f := 73) rfl ?_); refine goesL_ (some 9) rfl rfl Try.func73 (by kernel_rfl) rfl #[.slice A0_0 l0_0.length c0_0, .slice A1_0 l1_0.length c1_0] rfl (by (try simp only [List.map_toArray, List.map_cons, List.map_nil]); first | done | rfl | (simp only [List.length_drop, List.length_take]; rfl)) ?_; (with_reducible refine (laws_eqByteSS.calls k _ _ l0_0 _ _ l1_0 true _ ?side1 ?side2 ?side3 ?side4 A3.out).mono ?_); (case side1 => repeat (first | exact (Kd.C_below HR0_0.out HB.out) | (with_reducible refine Kd.C_alloc ?_ _) | (with_reducible refine Kd.C_drewN ?_ _) | (with_reducible refine Kd.C_drew ?_))); (case side2 => exact HC0_0.out); (case side3 => repeat (first | exact (Kd.C_below HR1_0.out HB.out) | (with_reducible refine Kd.C_alloc ?_ _) | (with_reducible refine Kd.C_drewN ?_ _) | (with_reducible refine Kd.C_drew ?_))); (case side4 => exact HC1_0.out); rintro e w' ⟨rfl, ⟨nd, rfl⟩⟩; refine ⟨_, rfl, ?_⟩))
  go_ret
  exact ⟨by first | rfl | (simp [errW_none, errW_some] <;> rfl) | (simp [*, errW_none, errW_some] <;> rfl), by repeat (first | (with_reducible first | exact HB.out | apply below_alloc | apply pw_below_drewN | apply below_drew1 | refine below_set ?_ GE263.out | refine below_set ?_ GE264.out) | exact HB.out)⟩
 ·replace c4 := Bool.eq_false_iff.mpr c4
  subst c4
  have H1 : (some false) = some r := by rw [if_neg (show ¬ (false = true) by decide)] at H; exact H
  clear H
  have H := H1
  clear H1
  obtain rfl := Option.some.inj H
  go_enter Try.func20, Try.ntmps20
  go_wp2_with (first | ((with_reducible refine gate_dst (N := 2) rfl ?_); refine box_event ?hg (N := 2) ?hd (cs := #[.slice A0_0 l0_0.length c0_0]) (t := 32) ?hr ?_; (case hd => rfl); (case hg => rfl); (case hr => first | (go_simp; done) | (go_simp; rfl)); intro gb263 hg w10 hbox hb; have BK263 := Aside0.mk (hbox); have GW263 := zge HB hg; have GE263 := zge HB hg; replace HB := zhs HB hb; clear hb hbox hg) | ((with_reducible refine gate_dst (N := 3) rfl ?_); refine box_event ?hg (N := 3) ?hd (cs := #[.slice A1_0 l1_0.length c1_0]) (t := 32) ?hr ?_; (case hd => rfl); (case hg => rfl); (case hr => first | (go_simp; done) | (go_simp; rfl)); intro gb264 hg w11 hbox hb; have BK264 := Aside0.mk (hbox); have GW264 := zge HB hg; have GE264 := zge HB hg; have NB263_264 := znl BK263 hg; have NB264_263 := znr BK263 hg; replace BK263 := zb0 BK263 hb; replace HB := zhs HB hb; clear hb hbox hg; have hnb12 := NB263_264.out; have hnc12 := NB264_263.out; have hcz13_0 : w11.cell? ⟨gb263, 0, none⟩ = some (.slice A0_0 l0_0.length c0_0) := zc0 BK263 0 rfl; have hfz13_0 := blk_frozen BK263.out 0; have hcz14_0 : w11.cell? ⟨gb264, 0, none⟩ = some (.slice A1_0 l1_0.length c1_0) := zc0 BK264 0 rfl; have hfz14_0 := blk_frozen BK264.out 0) | ((with_reducible refine gate_callee (f := 73) rfl ?_); refine goesL_ (some 9) rfl rfl Try.func73 (by kernel_rfl) rfl #[.slice A0_0 l0_0.length c0_0, .slice A1_0 l1_0.length c1_0] rfl (by (try simp only [List.map_toArray, List.map_cons, List.map_nil]); first | done | rfl | (simp only [List.length_drop, List.length_take]; rfl)) ?_; (with_reducible refine (laws_eqByteSS.calls k _ _ l0_0 _ _ l1_0 false _ ?side1 ?side2 ?side3 ?side4 A3.out).mono ?_); (case side1 => repeat (first | exact (Kd.C_below HR0_0.out HB.out) | (with_reducible refine Kd.C_alloc ?_ _) | (with_reducible refine Kd.C_drewN ?_ _) | (with_reducible refine Kd.C_drew ?_))); (case side2 => exact HC0_0.out); (case side3 => repeat (first | exact (Kd.C_below HR1_0.out HB.out) | (with_reducible refine Kd.C_alloc ?_ _) | (with_reducible refine Kd.C_drewN ?_ _) | (with_reducible refine Kd.C_drew ?_))); (case side4 => exact HC1_0.out); rintro e w' ⟨rfl, ⟨nd, rfl⟩⟩; refine ⟨_, rfl, ?_⟩))
  go_ret
  exact ⟨by first | rfl | (simp [errW_none, errW_some] <;> rfl) | (simp [*, errW_none, errW_some] <;> rfl), by repeat (first | (with_reducible first | exact HB.out | apply below_alloc | apply pw_below_drewN | apply below_drew1 | refine below_set ?_ GE263.out | refine below_set ?_ GE264.out) | exact HB.out)⟩

open Go.Proofs.Ytdojnaghcfhadac.Cp
/-! ### laws_eqWindow: function 34 -/
def laws_eqWindow.f (a0_0 : Int) (a0_1 : Int) (a0_2 : Int) (a0_3 : Int) (a1_0 : Int) (a1_1 : Int) (a1_2 : Int) (a1_3 : Int) : Option (Bool) := if a0_0 = a1_0 then (if a0_1 = a1_1 then (if a0_2 = a1_2 then (if a0_3 = a1_3 then (some true) else (some false)) else (some false)) else (some false)) else (some false)
set_option maxHeartbeats 8000000 in
set_option maxRecDepth 100000 in
theorem laws_eqWindow.calls (a0_0 : Int) (a0_1 : Int) (a0_2 : Int) (a0_3 : Int) (a1_0 : Int) (a1_1 : Int) (a1_2 : Int) (a1_3 : Int) (r : Bool) (w : World) (h : laws_eqWindow.f a0_0 a0_1 a0_2 a0_3 a1_0 a1_1 a1_2 a1_3 = some r) :
  Calls Try.prog 34 #[.agg #[.int .i64 a0_0, .int .i64 a0_1, .int .i64 a0_2, .int .i64 a0_3], .agg #[.int .i64 a1_0, .int .i64 a1_1, .int .i64 a1_2, .int .i64 a1_3]] w fun e w' => e = .returned (.bool r) ∧ Below w.heap.size w w' := by
 have hu48 := Try.underlying48
 have HB := Aside0.mk (Below.refl w.heap.size w)
 have H : (if a0_0 = a1_0 then (if a0_1 = a1_1 then (if a0_2 = a1_2 then (if a0_3 = a1_3 then (some true) else (some false)) else (some false)) else (some false)) else (some false)) = some r := h
 clear h
 by_cases c3 : a0_0 = a1_0
 ·rw [if_pos c3] at H
  have c3b0 : (a0_0 == a1_0) = true := beq_iff_eq.mpr c3
  have c3b1 : (a0_0 != a1_0) = false := bne_eq_false_iff_eq.mpr c3
  clear c3
  by_cases c4 : a0_1 = a1_1
  ·rw [if_pos c4] at H
   have c4b0 : (a0_1 == a1_1) = true := beq_iff_eq.mpr c4
   have c4b1 : (a0_1 != a1_1) = false := bne_eq_false_iff_eq.mpr c4
   clear c4
   by_cases c5 : a0_2 = a1_2
   ·rw [if_pos c5] at H
    have c5b0 : (a0_2 == a1_2) = true := beq_iff_eq.mpr c5
    have c5b1 : (a0_2 != a1_2) = false := bne_eq_false_iff_eq.mpr c5
    clear c5
    by_cases c6 : a0_3 = a1_3
    ·rw [if_pos c6] at H
     have c6b0 : (a0_3 == a1_3) = true := beq_iff_eq.mpr c6
     have c6b1 : (a0_3 != a1_3) = false := bne_eq_false_iff_eq.mpr c6
     clear c6
     obtain rfl := Option.some.inj H
     go_enter Try.func34, Try.ntmps34
     go_wp2_with (first | ((with_reducible refine gate_dst (N := 2) rfl ?_); refine box_event ?hg (N := 2) ?hd (cs := #[.int .i64 a0_0, .int .i64 a0_1, .int .i64 a0_2, .int .i64 a0_3]) (t := 48) ?hr ?_; (case hd => rfl); (case hg => rfl); (case hr => first | (go_simp; done) | (go_simp; rfl)); intro gb266 hg w7 hbox hb; have BK266 := Aside0.mk (hbox); have GW266 := zge HB hg; have GE266 := zge HB hg; replace HB := zhs HB hb; clear hb hbox hg) | ((with_reducible refine gate_dst (N := 3) rfl ?_); refine box_event ?hg (N := 3) ?hd (cs := #[.int .i64 a1_0, .int .i64 a1_1, .int .i64 a1_2, .int .i64 a1_3]) (t := 48) ?hr ?_; (case hd => rfl); (case hg => rfl); (case hr => first | (go_simp; done) | (go_simp; rfl)); intro gb267 hg w8 hbox hb; have BK267 := Aside0.mk (hbox); have GW267 := zge HB hg; have GE267 := zge HB hg; have NB266_267 := znl BK266 hg; have NB267_266 := znr BK266 hg; replace BK266 := zb0 BK266 hb; replace HB := zhs HB hb; clear hb hbox hg; have hnb9 := NB266_267.out; have hnc9 := NB267_266.out; have hcz10_0 : w8.cell? ⟨gb266, 0, none⟩ = some (.int .i64 a0_0) := zc0 BK266 0 rfl; have hcz10_1 : w8.cell? ⟨gb266, 1, none⟩ = some (.int .i64 a0_1) := zc0 BK266 1 rfl; have hcz10_2 : w8.cell? ⟨gb266, 2, none⟩ = some (.int .i64 a0_2) := zc0 BK266 2 rfl; have hcz10_3 : w8.cell? ⟨gb266, 3, none⟩ = some (.int .i64 a0_3) := zc0 BK266 3 rfl; have hfz10_0 := blk_frozen BK266.out 0; have hfz10_1 := blk_frozen BK266.out 1; have hfz10_2 := blk_frozen BK266.out 2; have hfz10_3 := blk_frozen BK266.out 3; have hcz11_0 : w8.cell? ⟨gb267, 0, none⟩ = some (.int .i64 a1_0) := zc0 BK267 0 rfl; have hcz11_1 : w8.cell? ⟨gb267, 1, none⟩ = some (.int .i64 a1_1) := zc0 BK267 1 rfl; have hcz11_2 : w8.cell? ⟨gb267, 2, none⟩ = some (.int .i64 a1_2) := zc0 BK267 2 rfl; have hcz11_3 : w8.cell? ⟨gb267, 3, none⟩ = some (.int .i64 a1_3) := zc0 BK267 3 rfl; have hfz11_0 := blk_frozen BK267.out 0; have hfz11_1 := blk_frozen BK267.out 1; have hfz11_2 := blk_frozen BK267.out 2; have hfz11_3 := blk_frozen BK267.out 3))
     go_ret
     exact ⟨by first | rfl | (simp [errW_none, errW_some] <;> rfl) | (simp [*, errW_none, errW_some] <;> rfl), by repeat (first | (with_reducible first | exact HB.out | apply below_alloc | apply pw_below_drewN | apply below_drew1 | refine below_set ?_ GE266.out | refine below_set ?_ GE267.out) | exact HB.out)⟩
    ·rw [if_neg c6] at H
     have c6b0 : (a0_3 == a1_3) = false := beq_eq_false_iff_ne.mpr c6
     have c6b1 : (a0_3 != a1_3) = true := bne_iff_ne.mpr c6
     obtain rfl := Option.some.inj H
     go_enter Try.func34, Try.ntmps34
     go_wp2_with (first | ((with_reducible refine gate_dst (N := 2) rfl ?_); refine box_event ?hg (N := 2) ?hd (cs := #[.int .i64 a0_0, .int .i64 a0_1, .int .i64 a0_2, .int .i64 a0_3]) (t := 48) ?hr ?_; (case hd => rfl); (case hg => rfl); (case hr => first | (go_simp; done) | (go_simp; rfl)); intro gb266 hg w12 hbox hb; have BK266 := Aside0.mk (hbox); have GW266 := zge HB hg; have GE266 := zge HB hg; replace HB := zhs HB hb; clear hb hbox hg) | ((with_reducible refine gate_dst (N := 3) rfl ?_); refine box_event ?hg (N := 3) ?hd (cs := #[.int .i64 a1_0, .int .i64 a1_1, .int .i64 a1_2, .int .i64 a1_3]) (t := 48) ?hr ?_; (case hd => rfl); (case hg => rfl); (case hr => first | (go_simp; done) | (go_simp; rfl)); intro gb267 hg w13 hbox hb; have BK267 := Aside0.mk (hbox); have GW267 := zge HB hg; have GE267 := zge HB hg; have NB266_267 := znl BK266 hg; have NB267_266 := znr BK266 hg; replace BK266 := zb0 BK266 hb; replace HB := zhs HB hb; clear hb hbox hg; have hnb14 := NB266_267.out; have hnc14 := NB267_266.out; have hcz15_0 : w13.cell? ⟨gb266, 0, none⟩ = some (.int .i64 a0_0) := zc0 BK266 0 rfl; have hcz15_1 : w13.cell? ⟨gb266, 1, none⟩ = some (.int .i64 a0_1) := zc0 BK266 1 rfl; have hcz15_2 : w13.cell? ⟨gb266, 2, none⟩ = some (.int .i64 a0_2) := zc0 BK266 2 rfl; have hcz15_3 : w13.cell? ⟨gb266, 3, none⟩ = some (.int .i64 a0_3) := zc0 BK266 3 rfl; have hfz15_0 := blk_frozen BK266.out 0; have hfz15_1 := blk_frozen BK266.out 1; have hfz15_2 := blk_frozen BK266.out 2; have hfz15_3 := blk_frozen BK266.out 3; have hcz16_0 : w13.cell? ⟨gb267, 0, none⟩ = some (.int .i64 a1_0) := zc0 BK267 0 rfl; have hcz16_1 : w13.cell? ⟨gb267, 1, none⟩ = some (.int .i64 a1_1) := zc0 BK267 1 rfl; have hcz16_2 : w13.cell? ⟨gb267, 2, none⟩ = some (.int .i64 a1_2) := zc0 BK267 2 rfl; have hcz16_3 : w13.cell? ⟨gb267, 3, none⟩ = some (.int .i64 a1_3) := zc0 BK267 3 rfl; have hfz16_0 := blk_frozen BK267.out 0; have hfz16_1 := blk_frozen BK267.out 1; have hfz16_2 := blk_frozen BK267.out 2; have hfz16_3 := blk_frozen BK267.out 3))
     go_ret
     exact ⟨by first | rfl | (simp [errW_none, errW_some] <;> rfl) | (simp [*, errW_none, errW_some] <;> rfl), by repeat (first | (with_reducible first | exact HB.out | apply below_alloc | apply pw_below_drewN | apply below_drew1 | refine below_set ?_ GE266.out | refine below_set ?_ GE267.out) | exact HB.out)⟩
   ·rw [if_neg c5] at H
    have c5b0 : (a0_2 == a1_2) = false := beq_eq_false_iff_ne.mpr c5
    have c5b1 : (a0_2 != a1_2) = true := bne_iff_ne.mpr c5
    obtain rfl := Option.some.inj H
    go_enter Try.func34, Try.ntmps34
    go_wp2_with (first | ((with_reducible refine gate_dst (N := 2) rfl ?_); refine box_event ?hg (N := 2) ?hd (cs := #[.int .i64 a0_0, .int .i64 a0_1, .int .i64 a0_2, .int .i64 a0_3]) (t := 48) ?hr ?_; (case hd => rfl); (case hg => rfl); (case hr => first | (go_simp; done) | (go_simp; rfl)); intro gb266 hg w17 hbox hb; have BK266 := Aside0.mk (hbox); have GW266 := zge HB hg; have GE266 := zge HB hg; replace HB := zhs HB hb; clear hb hbox hg) | ((with_reducible refine gate_dst (N := 3) rfl ?_); refine box_event ?hg (N := 3) ?hd (cs := #[.int .i64 a1_0, .int .i64 a1_1, .int .i64 a1_2, .int .i64 a1_3]) (t := 48) ?hr ?_; (case hd => rfl); (case hg => rfl); (case hr => first | (go_simp; done) | (go_simp; rfl)); intro gb267 hg w18 hbox hb; have BK267 := Aside0.mk (hbox); have GW267 := zge HB hg; have GE267 := zge HB hg; have NB266_267 := znl BK266 hg; have NB267_266 := znr BK266 hg; replace BK266 := zb0 BK266 hb; replace HB := zhs HB hb; clear hb hbox hg; have hnb19 := NB266_267.out; have hnc19 := NB267_266.out; have hcz20_0 : w18.cell? ⟨gb266, 0, none⟩ = some (.int .i64 a0_0) := zc0 BK266 0 rfl; have hcz20_1 : w18.cell? ⟨gb266, 1, none⟩ = some (.int .i64 a0_1) := zc0 BK266 1 rfl; have hcz20_2 : w18.cell? ⟨gb266, 2, none⟩ = some (.int .i64 a0_2) := zc0 BK266 2 rfl; have hcz20_3 : w18.cell? ⟨gb266, 3, none⟩ = some (.int .i64 a0_3) := zc0 BK266 3 rfl; have hfz20_0 := blk_frozen BK266.out 0; have hfz20_1 := blk_frozen BK266.out 1; have hfz20_2 := blk_frozen BK266.out 2; have hfz20_3 := blk_frozen BK266.out 3; have hcz21_0 : w18.cell? ⟨gb267, 0, none⟩ = some (.int .i64 a1_0) := zc0 BK267 0 rfl; have hcz21_1 : w18.cell? ⟨gb267, 1, none⟩ = some (.int .i64 a1_1) := zc0 BK267 1 rfl; have hcz21_2 : w18.cell? ⟨gb267, 2, none⟩ = some (.int .i64 a1_2) := zc0 BK267 2 rfl; have hcz21_3 : w18.cell? ⟨gb267, 3, none⟩ = some (.int .i64 a1_3) := zc0 BK267 3 rfl; have hfz21_0 := blk_frozen BK267.out 0; have hfz21_1 := blk_frozen BK267.out 1; have hfz21_2 := blk_frozen BK267.out 2; have hfz21_3 := blk_frozen BK267.out 3))
    go_ret
    exact ⟨by first | rfl | (simp [errW_none, errW_some] <;> rfl) | (simp [*, errW_none, errW_some] <;> rfl), by repeat (first | (with_reducible first | exact HB.out | apply below_alloc | apply pw_below_drewN | apply below_drew1 | refine below_set ?_ GE266.out | refine below_set ?_ GE267.out) | exact HB.out)⟩
  ·rw [if_neg c4] at H
   have c4b0 : (a0_1 == a1_1) = false := beq_eq_false_iff_ne.mpr c4
   have c4b1 : (a0_1 != a1_1) = true := bne_iff_ne.mpr c4
   obtain rfl := Option.some.inj H
   go_enter Try.func34, Try.ntmps34
   go_wp2_with (first | ((with_reducible refine gate_dst (N := 2) rfl ?_); refine box_event ?hg (N := 2) ?hd (cs := #[.int .i64 a0_0, .int .i64 a0_1, .int .i64 a0_2, .int .i64 a0_3]) (t := 48) ?hr ?_; (case hd => rfl); (case hg => rfl); (case hr => first | (go_simp; done) | (go_simp; rfl)); intro gb266 hg w22 hbox hb; have BK266 := Aside0.mk (hbox); have GW266 := zge HB hg; have GE266 := zge HB hg; replace HB := zhs HB hb; clear hb hbox hg) | ((with_reducible refine gate_dst (N := 3) rfl ?_); refine box_event ?hg (N := 3) ?hd (cs := #[.int .i64 a1_0, .int .i64 a1_1, .int .i64 a1_2, .int .i64 a1_3]) (t := 48) ?hr ?_; (case hd => rfl); (case hg => rfl); (case hr => first | (go_simp; done) | (go_simp; rfl)); intro gb267 hg w23 hbox hb; have BK267 := Aside0.mk (hbox); have GW267 := zge HB hg; have GE267 := zge HB hg; have NB266_267 := znl BK266 hg; have NB267_266 := znr BK266 hg; replace BK266 := zb0 BK266 hb; replace HB := zhs HB hb; clear hb hbox hg; have hnb24 := NB266_267.out; have hnc24 := NB267_266.out; have hcz25_0 : w23.cell? ⟨gb266, 0, none⟩ = some (.int .i64 a0_0) := zc0 BK266 0 rfl; have hcz25_1 : w23.cell? ⟨gb266, 1, none⟩ = some (.int .i64 a0_1) := zc0 BK266 1 rfl; have hcz25_2 : w23.cell? ⟨gb266, 2, none⟩ = some (.int .i64 a0_2) := zc0 BK266 2 rfl; have hcz25_3 : w23.cell? ⟨gb266, 3, none⟩ = some (.int .i64 a0_3) := zc0 BK266 3 rfl; have hfz25_0 := blk_frozen BK266.out 0; have hfz25_1 := blk_frozen BK266.out 1; have hfz25_2 := blk_frozen BK266.out 2; have hfz25_3 := blk_frozen BK266.out 3; have hcz26_0 : w23.cell? ⟨gb267, 0, none⟩ = some (.int .i64 a1_0) := zc0 BK267 0 rfl; have hcz26_1 : w23.cell? ⟨gb267, 1, none⟩ = some (.int .i64 a1_1) := zc0 BK267 1 rfl; have hcz26_2 : w23.cell? ⟨gb267, 2, none⟩ = some (.int .i64 a1_2) := zc0 BK267 2 rfl; have hcz26_3 : w23.cell? ⟨gb267, 3, none⟩ = some (.int .i64 a1_3) := zc0 BK267 3 rfl; have hfz26_0 := blk_frozen BK267.out 0; have hfz26_1 := blk_frozen BK267.out 1; have hfz26_2 := blk_frozen BK267.out 2; have hfz26_3 := blk_frozen BK267.out 3))
   go_ret
   exact ⟨by first | rfl | (simp [errW_none, errW_some] <;> rfl) | (simp [*, errW_none, errW_some] <;> rfl), by repeat (first | (with_reducible first | exact HB.out | apply below_alloc | apply pw_below_drewN | apply below_drew1 | refine below_set ?_ GE266.out | refine below_set ?_ GE267.out) | exact HB.out)⟩
 ·rw [if_neg c3] at H
  have c3b0 : (a0_0 == a1_0) = false := beq_eq_false_iff_ne.mpr c3
  have c3b1 : (a0_0 != a1_0) = true := bne_iff_ne.mpr c3
  obtain rfl := Option.some.inj H
  go_enter Try.func34, Try.ntmps34
  go_wp2_with (first | ((with_reducible refine gate_dst (N := 2) rfl ?_); refine box_event ?hg (N := 2) ?hd (cs := #[.int .i64 a0_0, .int .i64 a0_1, .int .i64 a0_2, .int .i64 a0_3]) (t := 48) ?hr ?_; (case hd => rfl); (case hg => rfl); (case hr => first | (go_simp; done) | (go_simp; rfl)); intro gb266 hg w27 hbox hb; have BK266 := Aside0.mk (hbox); have GW266 := zge HB hg; have GE266 := zge HB hg; replace HB := zhs HB hb; clear hb hbox hg) | ((with_reducible refine gate_dst (N := 3) rfl ?_); refine box_event ?hg (N := 3) ?hd (cs := #[.int .i64 a1_0, .int .i64 a1_1, .int .i64 a1_2, .int .i64 a1_3]) (t := 48) ?hr ?_; (case hd => rfl); (case hg => rfl); (case hr => first | (go_simp; done) | (go_simp; rfl)); intro gb267 hg w28 hbox hb; have BK267 := Aside0.mk (hbox); have GW267 := zge HB hg; have GE267 := zge HB hg; have NB266_267 := znl BK266 hg; have NB267_266 := znr BK266 hg; replace BK266 := zb0 BK266 hb; replace HB := zhs HB hb; clear hb hbox hg; have hnb29 := NB266_267.out; have hnc29 := NB267_266.out; have hcz30_0 : w28.cell? ⟨gb266, 0, none⟩ = some (.int .i64 a0_0) := zc0 BK266 0 rfl; have hcz30_1 : w28.cell? ⟨gb266, 1, none⟩ = some (.int .i64 a0_1) := zc0 BK266 1 rfl; have hcz30_2 : w28.cell? ⟨gb266, 2, none⟩ = some (.int .i64 a0_2) := zc0 BK266 2 rfl; have hcz30_3 : w28.cell? ⟨gb266, 3, none⟩ = some (.int .i64 a0_3) := zc0 BK266 3 rfl; have hfz30_0 := blk_frozen BK266.out 0; have hfz30_1 := blk_frozen BK266.out 1; have hfz30_2 := blk_frozen BK266.out 2; have hfz30_3 := blk_frozen BK266.out 3; have hcz31_0 : w28.cell? ⟨gb267, 0, none⟩ = some (.int .i64 a1_0) := zc0 BK267 0 rfl; have hcz31_1 : w28.cell? ⟨gb267, 1, none⟩ = some (.int .i64 a1_1) := zc0 BK267 1 rfl; have hcz31_2 : w28.cell? ⟨gb267, 2, none⟩ = some (.int .i64 a1_2) := zc0 BK267 2 rfl; have hcz31_3 : w28.cell? ⟨gb267, 3, none⟩ = some (.int .i64 a1_3) := zc0 BK267 3 rfl; have hfz31_0 := blk_frozen BK267.out 0; have hfz31_1 := blk_frozen BK267.out 1; have hfz31_2 := blk_frozen BK267.out 2; have hfz31_3 := blk_frozen BK267.out 3))
  go_ret
  exact ⟨by first | rfl | (simp [errW_none, errW_some] <;> rfl) | (simp [*, errW_none, errW_some] <;> rfl), by repeat (first | (with_reducible first | exact HB.out | apply below_alloc | apply pw_below_drewN | apply below_drew1 | refine below_set ?_ GE266.out | refine below_set ?_ GE267.out) | exact HB.out)⟩

open Go.Proofs.Ytdojnaghcfhadac.Cp
/-! ### laws_eqGap: function 60 -/
def laws_eqGap.f (k : Nat) (l0_0 : List (List Int)) (a0_1 : Int) (a0_2 : Int) (a0_3 : Int) (a0_4 : Int) (a0_5 : Int) (a0_6 : Int) (l1_0 : List (List Int)) (a1_1 : Int) (a1_2 : Int) (a1_3 : Int) (a1_4 : Int) (a1_5 : Int) (a1_6 : Int) : Option (Bool) := (laws_eqMemory.f k l0_0 l1_0).bind fun t270 => (if t270 = true then ((laws_eqWindow.f a0_1 a0_2 a0_3 a0_4 a1_1 a1_2 a1_3 a1_4).bind fun t271 => (if t271 = true then (if a0_5 = a1_5 then (if a0_6 = a1_6 then (some true) else (some false)) else (some false)) else (some false))) else (some false))
theorem laws_eqGap.mono : ∀ a0 a1 a2 a3 a4 a5 a6 a7 a8 a9 a10 a11 a12 a13 k, LeO (laws_eqGap.f k a0 a1 a2 a3 a4 a5 a6 a7 a8 a9 a10 a11 a12 a13) (laws_eqGap.f (k + 1) a0 a1 a2 a3 a4 a5 a6 a7 a8 a9 a10 a11 a12 a13) := by
 intro a0 a1 a2 a3 a4 a5 a6 a7 a8 a9 a10 a11 a12 a13 k
 unfold laws_eqGap.f
 repeat' first
   | (with_reducible exact laws_eqMemory.mono _ _ _)
   | (with_reducible exact LeO.refl _)
   | (with_reducible exact LeO.none _)
   | (with_reducible refine LeO.ite ?_ ?_)
   | (with_reducible refine LeO.bind ?_ (fun _ => ?_))
   | exact laws_eqMemory.mono _ _ _
   | exact LeO.none _
   | refine LeO.ite ?_ ?_
   | refine LeO.bind ?_ (fun _ => ?_)
set_option maxHeartbeats 8000000 in
set_option maxRecDepth 100000 in
theorem laws_eqGap.calls (k : Nat) (A0_0 : Option Addr) (c0_0 : Nat) (l0_0 : List (List Int)) (a0_1 : Int) (a0_2 : Int) (a0_3 : Int) (a0_4 : Int) (a0_5 : Int) (a0_6 : Int) (A1_0 : Option Addr) (c1_0 : Nat) (l1_0 : List (List Int)) (a1_1 : Int) (a1_2 : Int) (a1_3 : Int) (a1_4 : Int) (a1_5 : Int) (a1_6 : Int) (r : Bool) (w : World) (hr0_0 : Kd.C (Kd.slice 5 (Kd.int .u8)) w A0_0 l0_0.length l0_0) (hc0_0 : l0_0.length ≤ c0_0) (hr1_0 : Kd.C (Kd.slice 5 (Kd.int .u8)) w A1_0 l1_0.length l1_0) (hc1_0 : l1_0.length ≤ c1_0) (h : laws_eqGap.f k l0_0 a0_1 a0_2 a0_3 a0_4 a0_5 a0_6 l1_0 a1_1 a1_2 a1_3 a1_4 a1_5 a1_6 = some r) :
  Calls Try.prog 60 #[.agg #[.slice A0_0 l0_0.length c0_0, .int .i64 a0_1, .int .i64 a0_2, .int .i64 a0_3, .int .i64 a0_4, .int .i64 a0_5, .int .i64 a0_6], .agg #[.slice A1_0 l1_0.length c1_0, .int .i64 a1_1, .int .i64 a1_2, .int .i64 a1_3, .int .i64 a1_4, .int .i64 a1_5, .int .i64 a1_6]] w fun e w' => e = .returned (.bool r) ∧ Below w.heap.size w w' := by
 have hu88 := Try.underlying88
 have hu32 := Try.underlying32
 have hu48 := Try.underlying48
 have HR0_0 := Aside0.mk hr0_0
 have HC0_0 := Aside0.mk hc0_0
 clear hr0_0 hc0_0
 have HR1_0 := Aside0.mk hr1_0
 have HC1_0 := Aside0.mk hc1_0
 clear hr1_0 hc1_0
 have HB := Aside0.mk (Below.refl w.heap.size w)
 have H : ((laws_eqMemory.f k l0_0 l1_0).bind fun t270 => (if t270 = true then ((laws_eqWindow.f a0_1 a0_2 a0_3 a0_4 a1_1 a1_2 a1_3 a1_4).bind fun t271 => (if t271 = true then (if a0_5 = a1_5 then (if a0_6 = a1_6 then (some true) else (some false)) else (some false)) else (some false))) else (some false))) = some r := h
 clear h
 replace H := Option.bind_eq_some_iff.mp H
 obtain ⟨t270, A30, H⟩ := H
 replace H : (if t270 = true then ((laws_eqWindow.f a0_1 a0_2 a0_3 a0_4 a1_1 a1_2 a1_3 a1_4).bind fun t271 => (if t271 = true then (if a0_5 = a1_5 then (if a0_6 = a1_6 then (some true) else (some false)) else (some false)) else (some false))) else (some false)) = some r := H
 have A3 := Aside0.mk A30
 clear A30
 by_cases c4 : t270 = true
 ·subst c4
  have H1 : ((laws_eqWindow.f a0_1 a0_2 a0_3 a0_4 a1_1 a1_2 a1_3 a1_4).bind fun t271 => (if t271 = true then (if a0_5 = a1_5 then (if a0_6 = a1_6 then (some true) else (some false)) else (some false)) else (some false))) = some r := by rw [if_pos rfl] at H; exact H
  clear H
  have H := H1
  clear H1
  replace H := Option.bind_eq_some_iff.mp H
  obtain ⟨t271, A50, H⟩ := H
  replace H : (if t271 = true then (if a0_5 = a1_5 then (if a0_6 = a1_6 then (some true) else (some false)) else (some false)) else (some false)) = some r := H
  have A5 := Aside0.mk A50
  clear A50
  by_cases c6 : t271 = true
  ·subst c6
   have H1 : (if a0_5 = a1_5 then (if a0_6 = a1_6 then (some true) else (some false)) else (some false)) = some r := by rw [if_pos rfl] at H; exact H
   clear H
   have H := H1
   clear H1
   by_cases c7 : a0_5 = a1_5
   ·rw [if_pos c7] at H
    have c7b0 : (a0_5 == a1_5) = true := beq_iff_eq.mpr c7
    have c7b1 : (a0_5 != a1_5) = false := bne_eq_false_iff_eq.mpr c7
    clear c7
    by_cases c8 : a0_6 = a1_6
    ·rw [if_pos c8] at H
     have c8b0 : (a0_6 == a1_6) = true := beq_iff_eq.mpr c8
     have c8b1 : (a0_6 != a1_6) = false := bne_eq_false_iff_eq.mpr c8
     clear c8
     obtain rfl := Option.some.inj H
     go_enter Try.func60, Try.ntmps60
     go_wp2_with (first | ((with_reducible refine gate_dst (N := 2) rfl ?_); refine box_event ?hg (N := 2) ?hd (cs := #[.slice A0_0 l0_0.length c0_0, .int .i64 a0_1, .int .i64 a0_2, .int .i64 a0_3, .int .i64 a0_4, .int .i64 a0_5, .int .i64 a0_6]) (t := 88) ?hr ?_; (case hd => rfl); (case hg => rfl); (case hr => first | (go_simp; done) | (go_simp; rfl)); intro gb268 hg w9 hbox hb; have BK268 := Aside0.mk (hbox); have GW268 := zge HB hg; have GE268 := zge HB hg; replace HB := zhs HB hb; clear hb hbox hg) | ((with_reducible refine gate_dst (N := 3) rfl ?_); refine box_event ?hg (N := 3) ?hd (cs := #[.slice A1_0 l1_0.length c1_0, .int .i64 a1_1, .int .i64 a1_2, .int .i64 a1_3, .int .i64 a1_4, .int .i64 a1_5, .int .i64 a1_6]) (t := 88) ?hr ?_; (case hd => rfl); (case hg => rfl); (case hr => first | (go_simp; done) | (go_simp; rfl)); intro gb269 hg w10 hbox hb; have BK269 := Aside0.mk (hbox); have GW269 := zge HB hg; have GE269 := zge HB hg; have NB268_269 := znl BK268 hg; have NB269_268 := znr BK268 hg; replace BK268 := zb0 BK268 hb; replace HB := zhs HB hb; clear hb hbox hg; have hnb11 := NB268_269.out; have hnc11 := NB269_268.out; have hcz12_0 : w10.cell? ⟨gb268, 0, none⟩ = some (.slice A0_0 l0_0.length c0_0) := zc0 BK268 0 rfl; have hcz12_1 : w10.cell? ⟨gb268, 1, none⟩ = some (.int .i64 a0_1) := zc0 BK268 1 rfl; have hcz12_2 : w10.cell? ⟨gb268, 2, none⟩ = some (.int .i64 a0_2) := zc0 BK268 2 rfl; have hcz12_3 : w10.cell? ⟨gb268, 3, none⟩ = some (.int .i64 a0_3) := zc0 BK268 3 rfl; have hcz12_4 : w10.cell? ⟨gb268, 4, none⟩ = some (.int .i64 a0_4) := zc0 BK268 4 rfl; have hcz12_5 : w10.cell? ⟨gb268, 5, none⟩ = some (.int .i64 a0_5) := zc0 BK268 5 rfl; have hcz12_6 : w10.cell? ⟨gb268, 6, none⟩ = some (.int .i64 a0_6) := zc0 BK268 6 rfl; have hfz12_0 := blk_frozen BK268.out 0; have hfz12_1 := blk_frozen BK268.out 1; have hfz12_2 := blk_frozen BK268.out 2; have hfz12_3 := blk_frozen BK268.out 3; have hfz12_4 := blk_frozen BK268.out 4; have hfz12_5 := blk_frozen BK268.out 5; have hfz12_6 := blk_frozen BK268.out 6; have hcz13_0 : w10.cell? ⟨gb269, 0, none⟩ = some (.slice A1_0 l1_0.length c1_0) := zc0 BK269 0 rfl; have hcz13_1 : w10.cell? ⟨gb269, 1, none⟩ = some (.int .i64 a1_1) := zc0 BK269 1 rfl; have hcz13_2 : w10.cell? ⟨gb269, 2, none⟩ = some (.int .i64 a1_2) := zc0 BK269 2 rfl; have hcz13_3 : w10.cell? ⟨gb269, 3, none⟩ = some (.int .i64 a1_3) := zc0 BK269 3 rfl; have hcz13_4 : w10.cell? ⟨gb269, 4, none⟩ = some (.int .i64 a1_4) := zc0 BK269 4 rfl; have hcz13_5 : w10.cell? ⟨gb269, 5, none⟩ = some (.int .i64 a1_5) := zc0 BK269 5 rfl; have hcz13_6 : w10.cell? ⟨gb269, 6, none⟩ = some (.int .i64 a1_6) := zc0 BK269 6 rfl; have hfz13_0 := blk_frozen BK269.out 0; have hfz13_1 := blk_frozen BK269.out 1; have hfz13_2 := blk_frozen BK269.out 2; have hfz13_3 := blk_frozen BK269.out 3; have hfz13_4 := blk_frozen BK269.out 4; have hfz13_5 := blk_frozen BK269.out 5; have hfz13_6 := blk_frozen BK269.out 6) | ((with_reducible refine gate_callee (f := 20) rfl ?_); refine goesL_ (some 9) rfl rfl Try.func20 (by kernel_rfl) rfl #[.agg #[.slice A0_0 l0_0.length c0_0], .agg #[.slice A1_0 l1_0.length c1_0]] rfl (by (try simp only [List.map_toArray, List.map_cons, List.map_nil]); first | done | rfl | (simp only [List.length_drop, List.length_take]; rfl)) ?_; (with_reducible refine (laws_eqMemory.calls k _ _ l0_0 _ _ l1_0 true _ ?side1 ?side2 ?side3 ?side4 A3.out).mono ?_); (case side1 => repeat (first | exact (Kd.C_below HR0_0.out HB.out) | (with_reducible refine Kd.C_alloc ?_ _) | (with_reducible refine Kd.C_drewN ?_ _) | (with_reducible refine Kd.C_drew ?_))); (case side2 => exact HC0_0.out); (case side3 => repeat (first | exact (Kd.C_below HR1_0.out HB.out) | (with_reducible refine Kd.C_alloc ?_ _) | (with_reducible refine Kd.C_drewN ?_ _) | (with_reducible refine Kd.C_drew ?_))); (case side4 => exact HC1_0.out); rintro e w14 ⟨rfl, hb⟩; refine ⟨_, rfl, ?_⟩; replace BK268 := zb0 BK268 hb; replace BK269 := zb0 BK269 hb; replace HB := zhs HB hb; (try clear hb); (try clear hb2); (try clear hk); (try clear hi); have hcz15_0 : w14.cell? ⟨gb268, 0, none⟩ = some (.slice A0_0 l0_0.length c0_0) := zc0 BK268 0 rfl; have hcz15_1 : w14.cell? ⟨gb268, 1, none⟩ = some (.int .i64 a0_1) := zc0 BK268 1 rfl; have hcz15_2 : w14.cell? ⟨gb268, 2, none⟩ = some (.int .i64 a0_2) := zc0 BK268 2 rfl; have hcz15_3 : w14.cell? ⟨gb268, 3, none⟩ = some (.int .i64 a0_3) := zc0 BK268 3 rfl; have hcz15_4 : w14.cell? ⟨gb268, 4, none⟩ = some (.int .i64 a0_4) := zc0 BK268 4 rfl; have hcz15_5 : w14.cell? ⟨gb268, 5, none⟩ = some (.int .i64 a0_5) := zc0 BK268 5 rfl; have hcz15_6 : w14.cell? ⟨gb268, 6, none⟩ = some (.int .i64 a0_6) := zc0 BK268 6 rfl; have hfz15_0 := blk_frozen BK268.out 0; have hfz15_1 := blk_frozen BK268.out 1; have hfz15_2 := blk_frozen BK268.out 2; have hfz15_3 := blk_frozen BK268.out 3; have hfz15_4 := blk_frozen BK268.out 4; have hfz15_5 := blk_frozen BK268.out 5; have hfz15_6 := blk_frozen BK268.out 6; have hcz16_0 : w14.cell? ⟨gb269, 0, none⟩ = some (.slice A1_0 l1_0.length c1_0) := zc0 BK269 0 rfl; have hcz16_1 : w14.cell? ⟨gb269, 1, none⟩ = some (.int .i64 a1_1) := zc0 BK269 1 rfl; have hcz16_2 : w14.cell? ⟨gb269, 2, none⟩ = some (.int .i64 a1_2) := zc0 BK269 2 rfl; have hcz16_3 : w14.cell? ⟨gb269, 3, none⟩ = some (.int .i64 a1_3) := zc0 BK269 3 rfl; have hcz16_4 : w14.cell? ⟨gb269, 4, none⟩ = some (.int .i64 a1_4) := zc0 BK269 4 rfl; have hcz16_5 : w14.cell? ⟨gb269, 5, none⟩ = some (.int .i64 a1_5) := zc0 BK269 5 rfl; have hcz16_6 : w14.cell? ⟨gb269, 6, none⟩ = some (.int .i64 a1_6) := zc0 BK269 6 rfl; have hfz16_0 := blk_frozen BK269.out 0; have hfz16_1 := blk_frozen BK269.out 1; have hfz16_2 := blk_frozen BK269.out 2; have hfz16_3 := blk_frozen BK269.out 3; have hfz16_4 := blk_frozen BK269.out 4; have hfz16_5 := blk_frozen BK269.out 5; have hfz16_6 := blk_frozen BK269.out 6) | ((with_reducible refine gate_callee (f := 34) rfl ?_); refine goesL_ (some 15) rfl rfl Try.func34 (by kernel_rfl) rfl #[.agg #[.int .i64 a0_1, .int .i64 a0_2, .int .i64 a0_3, .int .i64 a0_4], .agg #[.int .i64 a1_1, .int .i64 a1_2, .int .i64 a1_3, .int .i64 a1_4]] rfl (by (try simp only [List.map_toArray, List.map_cons, List.map_nil]); first | done | rfl | (simp only [List.length_drop, List.length_take]; rfl)) ?_; (with_reducible refine (laws_eqWindow.calls a0_1 a0_2 a0_3 a0_4 a1_1 a1_2 a1_3 a1_4 true _ A5.out).mono ?_); rintro e w17 ⟨rfl, hb⟩; refine ⟨_, rfl, ?_⟩; replace BK268 := zb0 BK268 hb; replace BK269 := zb0 BK269 hb; replace HB := zhs HB hb; (try clear hb); (try clear hb2); (try clear hk); (try clear hi); have hcz18_0 : w17.cell? ⟨gb268, 0, none⟩ = some (.slice A0_0 l0_0.length c0_0) := zc0 BK268 0 rfl; have hcz18_1 : w17.cell? ⟨gb268, 1, none⟩ = some (.int .i64 a0_1) := zc0 BK268 1 rfl; have hcz18_2 : w17.cell? ⟨gb268, 2, none⟩ = some (.int .i64 a0_2) := zc0 BK268 2 rfl; have hcz18_3 : w17.cell? ⟨gb268, 3, none⟩ = some (.int .i64 a0_3) := zc0 BK268 3 rfl; have hcz18_4 : w17.cell? ⟨gb268, 4, none⟩ = some (.int .i64 a0_4) := zc0 BK268 4 rfl; have hcz18_5 : w17.cell? ⟨gb268, 5, none⟩ = some (.int .i64 a0_5) := zc0 BK268 5 rfl; have hcz18_6 : w17.cell? ⟨gb268, 6, none⟩ = some (.int .i64 a0_6) := zc0 BK268 6 rfl; have hfz18_0 := blk_frozen BK268.out 0; have hfz18_1 := blk_frozen BK268.out 1; have hfz18_2 := blk_frozen BK268.out 2; have hfz18_3 := blk_frozen BK268.out 3; have hfz18_4 := blk_frozen BK268.out 4; have hfz18_5 := blk_frozen BK268.out 5; have hfz18_6 := blk_frozen BK268.out 6; have hcz19_0 : w17.cell? ⟨gb269, 0, none⟩ = some (.slice A1_0 l1_0.length c1_0) := zc0 BK269 0 rfl; have hcz19_1 : w17.cell? ⟨gb269, 1, none⟩ = some (.int .i64 a1_1) := zc0 BK269 1 rfl; have hcz19_2 : w17.cell? ⟨gb269, 2, none⟩ = some (.int .i64 a1_2) := zc0 BK269 2 rfl; have hcz19_3 : w17.cell? ⟨gb269, 3, none⟩ = some (.int .i64 a1_3) := zc0 BK269 3 rfl; have hcz19_4 : w17.cell? ⟨gb269, 4, none⟩ = some (.int .i64 a1_4) := zc0 BK269 4 rfl; have hcz19_5 : w17.cell? ⟨gb269, 5, none⟩ = some (.int .i64 a1_5) := zc0 BK269 5 rfl; have hcz19_6 : w17.cell? ⟨gb269, 6, none⟩ = some (.int .i64 a1_6) := zc0 BK269 6 rfl; have hfz19_0 := blk_frozen BK269.out 0; have hfz19_1 := blk_frozen BK269.out 1; have hfz19_2 := blk_frozen BK269.out 2; have hfz19_3 := blk_frozen BK269.out 3; have hfz19_4 := blk_frozen BK269.out 4; have hfz19_5 := blk_frozen BK269.out 5; have hfz19_6 := blk_frozen BK269.out 6))
     go_ret
     exact ⟨by first | rfl | (simp [errW_none, errW_some] <;> rfl) | (simp [*, errW_none, errW_some] <;> rfl), by repeat (first | (with_reducible first | exact HB.out | apply below_alloc | apply pw_below_drewN | apply below_drew1 | refine below_set ?_ GE268.out | refine below_set ?_ GE269.out) | exact HB.out)⟩
    ·rw [if_neg c8] at H
     have c8b0 : (a0_6 == a1_6) = false := beq_eq_false_iff_ne.mpr c8
     have c8b1 : (a0_6 != a1_6) = true := bne_iff_ne.mpr c8
     obtain rfl := Option.some.inj H
     go_enter Try.func60, Try.ntmps60
     go_wp2_with (first | ((with_reducible refine gate_dst (N := 2) rfl ?_); refine box_event ?hg (N := 2) ?hd (cs := #[.slice A0_0 l0_0.length c0_0, .int .i64 a0_1, .int .i64 a0_2, .int .i64 a0_3, .int .i64 a0_4, .int .i64 a0_5, .int .i64 a0_6]) (t := 88) ?hr ?_; (case hd => rfl); (case hg => rfl); (case hr => first | (go_simp; done) | (go_simp; rfl)); intro gb268 hg w20 hbox hb; have BK268 := Aside0.mk (hbox); have GW268 := zge HB hg; have GE268 := zge HB hg; replace HB := zhs HB hb; clear hb hbox hg) | ((with_reducible refine gate_dst (N := 3) rfl ?_); refine box_event ?hg (N := 3) ?hd (cs := #[.slice A1_0 l1_0.length c1_0, .int .i64 a1_1, .int .i64 a1_2, .int .i64 a1_3, .int .i64 a1_4, .int .i64 a1_5, .int .i64 a1_6]) (t := 88) ?hr ?_; (case hd => rfl); (case hg => rfl); (case hr => first | (go_simp; done) | (go_simp; rfl)); intro gb269 hg w21 hbox hb; have BK269 := Aside0.mk (hbox); have GW269 := zge HB hg; have GE269 := zge HB hg; have NB268_269 := znl BK268 hg; have NB269_268 := znr BK268 hg; replace BK268 := zb0 BK268 hb; replace HB := zhs HB hb; clear hb hbox hg; have hnb22 := NB268_269.out; have hnc22 := NB269_268.out; have hcz23_0 : w21.cell? ⟨gb268, 0, none⟩ = some (.slice A0_0 l0_0.length c0_0) := zc0 BK268 0 rfl; have hcz23_1 : w21.cell? ⟨gb268, 1, none⟩ = some (.int .i64 a0_1) := zc0 BK268 1 rfl; have hcz23_2 : w21.cell? ⟨gb268, 2, none⟩ = some (.int .i64 a0_2) := zc0 BK268 2 rfl; have hcz23_3 : w21.cell? ⟨gb268, 3, none⟩ = some (.int .i64 a0_3) := zc0 BK268 3 rfl; have hcz23_4 : w21.cell? ⟨gb268, 4, none⟩ = some (.int .i64 a0_4) := zc0 BK268 4 rfl; have hcz23_5 : w21.cell? ⟨gb268, 5, none⟩ = some (.int .i64 a0_5) := zc0 BK268 5 rfl; have hcz23_6 : w21.cell? ⟨gb268, 6, none⟩ = some (.int .i64 a0_6) := zc0 BK268 6 rfl; have hfz23_0 := blk_frozen BK268.out 0; have hfz23_1 := blk_frozen BK268.out 1; have hfz23_2 := blk_frozen BK268.out 2; have hfz23_3 := blk_frozen BK268.out 3; have hfz23_4 := blk_frozen BK268.out 4; have hfz23_5 := blk_frozen BK268.out 5; have hfz23_6 := blk_frozen BK268.out 6; have hcz24_0 : w21.cell? ⟨gb269, 0, none⟩ = some (.slice A1_0 l1_0.length c1_0) := zc0 BK269 0 rfl; have hcz24_1 : w21.cell? ⟨gb269, 1, none⟩ = some (.int .i64 a1_1) := zc0 BK269 1 rfl; have hcz24_2 : w21.cell? ⟨gb269, 2, none⟩ = some (.int .i64 a1_2) := zc0 BK269 2 rfl; have hcz24_3 : w21.cell? ⟨gb269, 3, none⟩ = some (.int .i64 a1_3) := zc0 BK269 3 rfl; have hcz24_4 : w21.cell? ⟨gb269, 4, none⟩ = some (.int .i64 a1_4) := zc0 BK269 4 rfl; have hcz24_5 : w21.cell? ⟨gb269, 5, none⟩ = some (.int .i64 a1_5) := zc0 BK269 5 rfl; have hcz24_6 : w21.cell? ⟨gb269, 6, none⟩ = some (.int .i64 a1_6) := zc0 BK269 6 rfl; have hfz24_0 := blk_frozen BK269.out 0; have hfz24_1 := blk_frozen BK269.out 1; have hfz24_2 := blk_frozen BK269.out 2; have hfz24_3 := blk_frozen BK269.out 3; have hfz24_4 := blk_frozen BK269.out 4; have hfz24_5 := blk_frozen BK269.out 5; have hfz24_6 := blk_frozen BK269.out 6) | ((with_reducible refine gate_callee (f := 20) rfl ?_); refine goesL_ (some 9) rfl rfl Try.func20 (by kernel_rfl) rfl #[.agg #[.slice A0_0 l0_0.length c0_0], .agg #[.slice A1_0 l1_0.length c1_0]] rfl (by (try simp only [List.map_toArray, List.map_cons, List.map_nil]); first | done | rfl | (simp only [List.length_drop, List.length_take]; rfl)) ?_; (with_reducible refine (laws_eqMemory.calls k _ _ l0_0 _ _ l1_0 true _ ?side1 ?side2 ?side3 ?side4 A3.out).mono ?_); (case side1 => repeat (first | exact (Kd.C_below HR0_0.out HB.out) | (with_reducible refine Kd.C_alloc ?_ _) | (with_reducible refine Kd.C_drewN ?_ _) | (with_reducible refine Kd.C_drew ?_))); (case side2 => exact HC0_0.out); (case side3 => repeat (first | exact (Kd.C_below HR1_0.out HB.out) | (with_reducible refine Kd.C_alloc ?_ _) | (with_reducible refine Kd.C_drewN ?_ _) | (with_reducible refine Kd.C_drew ?_))); (case side4 => exact HC1_0.out); rintro e w25 ⟨rfl, hb⟩; refine ⟨_, rfl, ?_⟩; replace BK268 := zb0 BK268 hb; replace BK269 := zb0 BK269 hb; replace HB := zhs HB hb; (try clear hb); (try clear hb2); (try clear hk); (try clear hi); have hcz26_0 : w25.cell? ⟨gb268, 0, none⟩ = some (.slice A0_0 l0_0.length c0_0) := zc0 BK268 0 rfl; have hcz26_1 : w25.cell? ⟨gb268, 1, none⟩ = some (.int .i64 a0_1) := zc0 BK268 1 rfl; have hcz26_2 : w25.cell? ⟨gb268, 2, none⟩ = some (.int .i64 a0_2) := zc0 BK268 2 rfl; have hcz26_3 : w25.cell? ⟨gb268, 3, none⟩ = some (.int .i64 a0_3) := zc0 BK268 3 rfl; have hcz26_4 : w25.cell? ⟨gb268, 4, none⟩ = some (.int .i64 a0_4) := zc0 BK268 4 rfl; have hcz26_5 : w25.cell? ⟨gb268, 5, none⟩ = some (.int .i64 a0_5) := zc0 BK268 5 rfl; have hcz26_6 : w25.cell? ⟨gb268, 6, none⟩ = some (.int .i64 a0_6) := zc0 BK268 6 rfl; have hfz26_0 := blk_frozen BK268.out 0; have hfz26_1 := blk_frozen BK268.out 1; have hfz26_2 := blk_frozen BK268.out 2; have hfz26_3 := blk_frozen BK268.out 3; have hfz26_4 := blk_frozen BK268.out 4; have hfz26_5 := blk_frozen BK268.out 5; have hfz26_6 := blk_frozen BK268.out 6; have hcz27_0 : w25.cell? ⟨gb269, 0, none⟩ = some (.slice A1_0 l1_0.length c1_0) := zc0 BK269 0 rfl; have hcz27_1 : w25.cell? ⟨gb269, 1, none⟩ = some (.int .i64 a1_1) := zc0 BK269 1 rfl; have hcz27_2 : w25.cell? ⟨gb269, 2, none⟩ = some (.int .i64 a1_2) := zc0 BK269 2 rfl; have hcz27_3 : w25.cell? ⟨gb269, 3, none⟩ = some (.int .i64 a1_3) := zc0 BK269 3 rfl; have hcz27_4 : w25.cell? ⟨gb269, 4, none⟩ = some (.int .i64 a1_4) := zc0 BK269 4 rfl; have hcz27_5 : w25.cell? ⟨gb269, 5, none⟩ = some (.int .i64 a1_5) := zc0 BK269 5 rfl; have hcz27_6 : w25.cell? ⟨gb269, 6, none⟩ = some (.int .i64 a1_6) := zc0 BK269 6 rfl; have hfz27_0 := blk_frozen BK269.out 0; have hfz27_1 := blk_frozen BK269.out 1; have hfz27_2 := blk_frozen BK269.out 2; have hfz27_3 := blk_frozen BK269.out 3; have hfz27_4 := blk_frozen BK269.out 4; have hfz27_5 := blk_frozen BK269.out 5; have hfz27_6 := blk_frozen BK269.out 6) | ((with_reducible refine gate_callee (f := 34) rfl ?_); refine goesL_ (some 15) rfl rfl Try.func34 (by kernel_rfl) rfl #[.agg #[.int .i64 a0_1, .int .i64 a0_2, .int .i64 a0_3, .int .i64 a0_4], .agg #[.int .i64 a1_1, .int .i64 a1_2, .int .i64 a1_3, .int .i64 a1_4]] rfl (by (try simp only [List.map_toArray, List.map_cons, List.map_nil]); first | done | rfl | (simp only [List.length_drop, List.length_take]; rfl)) ?_; (with_reducible refine (laws_eqWindow.calls a0_1 a0_2 a0_3 a0_4 a1_1 a1_2 a1_3 a1_4 true _ A5.out).mono ?_); rintro e w28 ⟨rfl, hb⟩; refine ⟨_, rfl, ?_⟩; replace BK268 := zb0 BK268 hb; replace BK269 := zb0 BK269 hb; replace HB := zhs HB hb; (try clear hb); (try clear hb2); (try clear hk); (try clear hi); have hcz29_0 : w28.cell? ⟨gb268, 0, none⟩ = some (.slice A0_0 l0_0.length c0_0) := zc0 BK268 0 rfl; have hcz29_1 : w28.cell? ⟨gb268, 1, none⟩ = some (.int .i64 a0_1) := zc0 BK268 1 rfl; have hcz29_2 : w28.cell? ⟨gb268, 2, none⟩ = some (.int .i64 a0_2) := zc0 BK268 2 rfl; have hcz29_3 : w28.cell? ⟨gb268, 3, none⟩ = some (.int .i64 a0_3) := zc0 BK268 3 rfl; have hcz29_4 : w28.cell? ⟨gb268, 4, none⟩ = some (.int .i64 a0_4) := zc0 BK268 4 rfl; have hcz29_5 : w28.cell? ⟨gb268, 5, none⟩ = some (.int .i64 a0_5) := zc0 BK268 5 rfl; have hcz29_6 : w28.cell? ⟨gb268, 6, none⟩ = some (.int .i64 a0_6) := zc0 BK268 6 rfl; have hfz29_0 := blk_frozen BK268.out 0; have hfz29_1 := blk_frozen BK268.out 1; have hfz29_2 := blk_frozen BK268.out 2; have hfz29_3 := blk_frozen BK268.out 3; have hfz29_4 := blk_frozen BK268.out 4; have hfz29_5 := blk_frozen BK268.out 5; have hfz29_6 := blk_frozen BK268.out 6; have hcz30_0 : w28.cell? ⟨gb269, 0, none⟩ = some (.slice A1_0 l1_0.length c1_0) := zc0 BK269 0 rfl; have hcz30_1 : w28.cell? ⟨gb269, 1, none⟩ = some (.int .i64 a1_1) := zc0 BK269 1 rfl; have hcz30_2 : w28.cell? ⟨gb269, 2, none⟩ = some (.int .i64 a1_2) := zc0 BK269 2 rfl; have hcz30_3 : w28.cell? ⟨gb269, 3, none⟩ = some (.int .i64 a1_3) := zc0 BK269 3 rfl; have hcz30_4 : w28.cell? ⟨gb269, 4, none⟩ = some (.int .i64 a1_4) := zc0 BK269 4 rfl; have hcz30_5 : w28.cell? ⟨gb269, 5, none⟩ = some (.int .i64 a1_5) := zc0 BK269 5 rfl; have hcz30_6 : w28.cell? ⟨gb269, 6, none⟩ = some (.int .i64 a1_6) := zc0 BK269 6 rfl; have hfz30_0 := blk_frozen BK269.out 0; have hfz30_1 := blk_frozen BK269.out 1; have hfz30_2 := blk_frozen BK269.out 2; have hfz30_3 := blk_frozen BK269.out 3; have hfz30_4 := blk_frozen BK269.out 4; have hfz30_5 := blk_frozen BK269.out 5; have hfz30_6 := blk_frozen BK269.out 6))
     go_ret
     exact ⟨by first | rfl | (simp [errW_none, errW_some] <;> rfl) | (simp [*, errW_none, errW_some] <;> rfl), by repeat (first | (with_reducible first | exact HB.out | apply below_alloc | apply pw_below_drewN | apply below_drew1 | refine below_set ?_ GE268.out | refine below_set ?_ GE269.out) | exact HB.out)⟩
   ·rw [if_neg c7] at H
    have c7b0 : (a0_5 == a1_5) = false := beq_eq_false_iff_ne.mpr c7
    have c7b1 : (a0_5 != a1_5) = true := bne_iff_ne.mpr c7
    obtain rfl := Option.some.inj H
    go_enter Try.func60, Try.ntmps60
    go_wp2_with (first | ((with_reducible refine gate_dst (N := 2) rfl ?_); refine box_event ?hg (N := 2) ?hd (cs := #[.slice A0_0 l0_0.length c0_0, .int .i64 a0_1, .int .i64 a0_2, .int .i64 a0_3, .int .i64 a0_4, .int .i64 a0_5, .int .i64 a0_6]) (t := 88) ?hr ?_; (case hd => rfl); (case hg => rfl); (case hr => first | (go_simp; done) | (go_simp; rfl)); intro gb268 hg w31 hbox hb; have BK268 := Aside0.mk (hbox); have GW268 := zge HB hg; have GE268 := zge HB hg; replace HB := zhs HB hb; clear hb hbox hg) | ((with_reducible refine gate_dst (N := 3) rfl ?_); refine box_event ?hg (N := 3) ?hd (cs := #[.slice A1_0 l1_0.length c1_0, .int .i64 a1_1, .int .i64 a1_2, .int .i64 a1_3, .int .i64 a1_4, .int .i64 a1_5, .int .i64 a1_6]) (t := 88) ?hr ?_; (case hd => rfl); (case hg => rfl); (case hr => first | (go_simp; done) | (go_simp; rfl)); intro gb269 hg w32 hbox hb; have BK269 := Aside0.mk (hbox); have GW269 := zge HB hg; have GE269 := zge HB hg; have NB268_269 := znl BK268 hg; have NB269_268 := znr BK268 hg; replace BK268 := zb0 BK268 hb; replace HB := zhs HB hb; clear hb hbox hg; have hnb33 := NB268_269.out; have hnc33 := NB269_268.out; have hcz34_0 : w32.cell? ⟨gb268, 0, none⟩ = some (.slice A0_0 l0_0.length c0_0) := zc0 BK268 0 rfl; have hcz34_1 : w32.cell? ⟨gb268, 1, none⟩ = some (.int .i64 a0_1) := zc0 BK268 1 rfl; have hcz34_2 : w32.cell? ⟨gb268, 2, none⟩ = some (.int .i64 a0_2) := zc0 BK268 2 rfl; have hcz34_3 : w32.cell? ⟨gb268, 3, none⟩ = some (.int .i64 a0_3) := zc0 BK268 3 rfl; have hcz34_4 : w32.cell? ⟨gb268, 4, none⟩ = some (.int .i64 a0_4) := zc0 BK268 4 rfl; have hcz34_5 : w32.cell? ⟨gb268, 5, none⟩ = some (.int .i64 a0_5) := zc0 BK268 5 rfl; have hcz34_6 : w32.cell? ⟨gb268, 6, none⟩ = some (.int .i64 a0_6) := zc0 BK268 6 rfl; have hfz34_0 := blk_frozen BK268.out 0; have hfz34_1 := blk_frozen BK268.out 1; have hfz34_2 := blk_frozen BK268.out 2; have hfz34_3 := blk_frozen BK268.out 3; have hfz34_4 := blk_frozen BK268.out 4; have hfz34_5 := blk_frozen BK268.out 5; have hfz34_6 := blk_frozen BK268.out 6; have hcz35_0 : w32.cell? ⟨gb269, 0, none⟩ = some (.slice A1_0 l1_0.length c1_0) := zc0 BK269 0 rfl; have hcz35_1 : w32.cell? ⟨gb269, 1, none⟩ = some (.int .i64 a1_1) := zc0 BK269 1 rfl; have hcz35_2 : w32.cell? ⟨gb269, 2, none⟩ = some (.int .i64 a1_2) := zc0 BK269 2 rfl; have hcz35_3 : w32.cell? ⟨gb269, 3, none⟩ = some (.int .i64 a1_3) := zc0 BK269 3 rfl; have hcz35_4 : w32.cell? ⟨gb269, 4, none⟩ = some (.int .i64 a1_4) := zc0 BK269 4 rfl; have hcz35_5 : w32.cell? ⟨gb269, 5, none⟩ = some (.int .i64 a1_5) := zc0 BK269 5 rfl; have hcz35_6 : w32.cell? ⟨gb269, 6, none⟩ = some (.int .i64 a1_6) := zc0 BK269 6 rfl; have hfz35_0 := blk_frozen BK269.out 0; have hfz35_1 := blk_frozen BK269.out 1; have hfz35_2 := blk_frozen BK269.out 2; have hfz35_3 := blk_frozen BK269.out 3; have hfz35_4 := blk_frozen BK269.out 4; have hfz35_5 := blk_frozen BK269.out 5; have hfz35_6 := blk_frozen BK269.out 6) | ((with_reducible refine gate_callee (f := 20) rfl ?_); refine goesL_ (some 9) rfl rfl Try.func20 (by kernel_rfl) rfl #[.agg #[.slice A0_0 l0_0.length c0_0], .agg #[.slice A1_0 l1_0.length c1_0]] rfl (by (try simp only [List.map_toArray, List.map_cons, List.map_nil]); first | done | rfl | (simp only [List.length_drop, List.length_take]; rfl)) ?_; (with_reducible refine (laws_eqMemory.calls k _ _ l0_0 _ _ l1_0 true _ ?side1 ?side2 ?side3 ?side4 A3.out).mono ?_); (case side1 => repeat (first | exact (Kd.C_below HR0_0.out HB.out) | (with_reducible refine Kd.C_alloc ?_ _) | (with_reducible refine Kd.C_drewN ?_ _) | (with_reducible refine Kd.C_drew ?_))); (case side2 => exact HC0_0.out); (case side3 => repeat (first | exact (Kd.C_below HR1_0.out HB.out) | (with_reducible refine Kd.C_alloc ?_ _) | (with_reducible refine Kd.C_drewN ?_ _) | (with_reducible refine Kd.C_drew ?_))); (case side4 => exact HC1_0.out); rintro e w36 ⟨rfl, hb⟩; refine ⟨_, rfl, ?_⟩; replace BK268 := zb0 BK268 hb; replace BK269 := zb0 BK269 hb; replace HB := zhs HB hb; (try clear hb); (try clear hb2); (try clear hk); (try clear hi); have hcz37_0 : w36.cell? ⟨gb268, 0, none⟩ = some (.slice A0_0 l0_0.length c0_0) := zc0 BK268 0 rfl; have hcz37_1 : w36.cell? ⟨gb268, 1, none⟩ = some (.int .i64 a0_1) := zc0 BK268 1 rfl; have hcz37_2 : w36.cell? ⟨gb268, 2, none⟩ = some (.int .i64 a0_2) := zc0 BK268 2 rfl; have hcz37_3 : w36.cell? ⟨gb268, 3, none⟩ = some (.int .i64 a0_3) := zc0 BK268 3 rfl; have hcz37_4 : w36.cell? ⟨gb268, 4, none⟩ = some (.int .i64 a0_4) := zc0 BK268 4 rfl; have hcz37_5 : w36.cell? ⟨gb268, 5, none⟩ = some (.int .i64 a0_5) := zc0 BK268 5 rfl; have hcz37_6 : w36.cell? ⟨gb268, 6, none⟩ = some (.int .i64 a0_6) := zc0 BK268 6 rfl; have hfz37_0 := blk_frozen BK268.out 0; have hfz37_1 := blk_frozen BK268.out 1; have hfz37_2 := blk_frozen BK268.out 2; have hfz37_3 := blk_frozen BK268.out 3; have hfz37_4 := blk_frozen BK268.out 4; have hfz37_5 := blk_frozen BK268.out 5; have hfz37_6 := blk_frozen BK268.out 6; have hcz38_0 : w36.cell? ⟨gb269, 0, none⟩ = some (.slice A1_0 l1_0.length c1_0) := zc0 BK269 0 rfl; have hcz38_1 : w36.cell? ⟨gb269, 1, none⟩ = some (.int .i64 a1_1) := zc0 BK269 1 rfl; have hcz38_2 : w36.cell? ⟨gb269, 2, none⟩ = some (.int .i64 a1_2) := zc0 BK269 2 rfl; have hcz38_3 : w36.cell? ⟨gb269, 3, none⟩ = some (.int .i64 a1_3) := zc0 BK269 3 rfl; have hcz38_4 : w36.cell? ⟨gb269, 4, none⟩ = some (.int .i64 a1_4) := zc0 BK269 4 rfl; have hcz38_5 : w36.cell? ⟨gb269, 5, none⟩ = some (.int .i64 a1_5) := zc0 BK269 5 rfl; have hcz38_6 : w36.cell? ⟨gb269, 6, none⟩ = some (.int .i64 a1_6) := zc0 BK269 6 rfl; have hfz38_0 := blk_frozen BK269.out 0; have hfz38_1 := blk_frozen BK269.out 1; have hfz38_2 := blk_frozen BK269.out 2; have hfz38_3 := blk_frozen BK269.out 3; have hfz38_4 := blk_frozen BK269.out 4; have hfz38_5 := blk_frozen BK269.out 5; have hfz38_6 := blk_frozen BK269.out 6) | ((with_reducible refine gate_callee (f := 34) rfl ?_); refine goesL_ (some 15) rfl rfl Try.func34 (by kernel_rfl) rfl #[.agg #[.int .i64 a0_1, .int .i64 a0_2, .int .i64 a0_3, .int .i64 a0_4], .agg #[.int .i64 a1_1, .int .i64 a1_2, .int .i64 a1_3, .int .i64 a1_4]] rfl (by (try simp only [List.map_toArray, List.map_cons, List.map_nil]); first | done | rfl | (simp only [List.length_drop, List.length_take]; rfl)) ?_; (with_reducible refine (laws_eqWindow.calls a0_1 a0_2 a0_3 a0_4 a1_1 a1_2 a1_3 a1_4 true _ A5.out).mono ?_); rintro e w39 ⟨rfl, hb⟩; refine ⟨_, rfl, ?_⟩; replace BK268 := zb0 BK268 hb; replace BK269 := zb0 BK269 hb; replace HB := zhs HB hb; (try clear hb); (try clear hb2); (try clear hk); (try clear hi); have hcz40_0 : w39.cell? ⟨gb268, 0, none⟩ = some (.slice A0_0 l0_0.length c0_0) := zc0 BK268 0 rfl; have hcz40_1 : w39.cell? ⟨gb268, 1, none⟩ = some (.int .i64 a0_1) := zc0 BK268 1 rfl; have hcz40_2 : w39.cell? ⟨gb268, 2, none⟩ = some (.int .i64 a0_2) := zc0 BK268 2 rfl; have hcz40_3 : w39.cell? ⟨gb268, 3, none⟩ = some (.int .i64 a0_3) := zc0 BK268 3 rfl; have hcz40_4 : w39.cell? ⟨gb268, 4, none⟩ = some (.int .i64 a0_4) := zc0 BK268 4 rfl; have hcz40_5 : w39.cell? ⟨gb268, 5, none⟩ = some (.int .i64 a0_5) := zc0 BK268 5 rfl; have hcz40_6 : w39.cell? ⟨gb268, 6, none⟩ = some (.int .i64 a0_6) := zc0 BK268 6 rfl; have hfz40_0 := blk_frozen BK268.out 0; have hfz40_1 := blk_frozen BK268.out 1; have hfz40_2 := blk_frozen BK268.out 2; have hfz40_3 := blk_frozen BK268.out 3; have hfz40_4 := blk_frozen BK268.out 4; have hfz40_5 := blk_frozen BK268.out 5; have hfz40_6 := blk_frozen BK268.out 6; have hcz41_0 : w39.cell? ⟨gb269, 0, none⟩ = some (.slice A1_0 l1_0.length c1_0) := zc0 BK269 0 rfl; have hcz41_1 : w39.cell? ⟨gb269, 1, none⟩ = some (.int .i64 a1_1) := zc0 BK269 1 rfl; have hcz41_2 : w39.cell? ⟨gb269, 2, none⟩ = some (.int .i64 a1_2) := zc0 BK269 2 rfl; have hcz41_3 : w39.cell? ⟨gb269, 3, none⟩ = some (.int .i64 a1_3) := zc0 BK269 3 rfl; have hcz41_4 : w39.cell? ⟨gb269, 4, none⟩ = some (.int .i64 a1_4) := zc0 BK269 4 rfl; have hcz41_5 : w39.cell? ⟨gb269, 5, none⟩ = some (.int .i64 a1_5) := zc0 BK269 5 rfl; have hcz41_6 : w39.cell? ⟨gb269, 6, none⟩ = some (.int .i64 a1_6) := zc0 BK269 6 rfl; have hfz41_0 := blk_frozen BK269.out 0; have hfz41_1 := blk_frozen BK269.out 1; have hfz41_2 := blk_frozen BK269.out 2; have hfz41_3 := blk_frozen BK269.out 3; have hfz41_4 := blk_frozen BK269.out 4; have hfz41_5 := blk_frozen BK269.out 5; have hfz41_6 := blk_frozen BK269.out 6))
    go_ret
    exact ⟨by first | rfl | (simp [errW_none, errW_some] <;> rfl) | (simp [*, errW_none, errW_some] <;> rfl), by repeat (first | (with_reducible first | exact HB.out | apply below_alloc | apply pw_below_drewN | apply below_drew1 | refine below_set ?_ GE268.out | refine below_set ?_ GE269.out) | exact HB.out)⟩
  ·replace c6 := Bool.eq_false_iff.mpr c6
   subst c6
   have H1 : (some false) = some r := by rw [if_neg (show ¬ (false = true) by decide)] at H; exact H
   clear H
   have H := H1
   clear H1
   obtain rfl := Option.some.inj H
   go_enter Try.func60, Try.ntmps60
   go_wp2_with (first | ((with_reducible refine gate_dst (N := 2) rfl ?_); refine box_event ?hg (N := 2) ?hd (cs := #[.slice A0_0 l0_0.length c0_0, .int .i64 a0_1, .int .i64 a0_2, .int .i64 a0_3, .int .i64 a0_4, .int .i64 a0_5, .int .i64 a0_6]) (t := 88) ?hr ?_; (case hd => rfl); (case hg => rfl); (case hr => first | (go_simp; done) | (go_simp; rfl)); intro gb268 hg w42 hbox hb; have BK268 := Aside0.mk (hbox); have GW268 := zge HB hg; have GE268 := zge HB hg; replace HB := zhs HB hb; clear hb hbox hg) | ((with_reducible refine gate_dst (N := 3) rfl ?_); refine box_event ?hg (N := 3) ?hd (cs := #[.slice A1_0 l1_0.length c1_0, .int .i64 a1_1, .int .i64 a1_2, .int .i64 a1_3, .int .i64 a1_4, .int .i64 a1_5, .int .i64 a1_6]) (t := 88) ?hr ?_; (case hd => rfl); (case hg => rfl); (case hr => first | (go_simp; done) | (go_simp; rfl)); intro gb269 hg w43 hbox hb; have BK269 := Aside0.mk (hbox); have GW269 := zge HB hg; have GE269 := zge HB hg; have NB268_269 := znl BK268 hg; have NB269_268 := znr BK268 hg; replace BK268 := zb0 BK268 hb; replace HB := zhs HB hb; clear hb hbox hg; have hnb44 := NB268_269.out; have hnc44 := NB269_268.out; have hcz45_0 : w43.cell? ⟨gb268, 0, none⟩ = some (.slice A0_0 l0_0.length c0_0) := zc0 BK268 0 rfl; have hcz45_1 : w43.cell? ⟨gb268, 1, none⟩ = some (.int .i64 a0_1) := zc0 BK268 1 rfl; have hcz45_2 : w43.cell? ⟨gb268, 2, none⟩ = some (.int .i64 a0_2) := zc0 BK268 2 rfl; have hcz45_3 : w43.cell? ⟨gb268, 3, none⟩ = some (.int .i64 a0_3) := zc0 BK268 3 rfl; have hcz45_4 : w43.cell? ⟨gb268, 4, none⟩ = some (.int .i64 a0_4) := zc0 BK268 4 rfl; have hcz45_5 : w43.cell? ⟨gb268, 5, none⟩ = some (.int .i64 a0_5) := zc0 BK268 5 rfl; have hcz45_6 : w43.cell? ⟨gb268, 6, none⟩ = some (.int .i64 a0_6) := zc0 BK268 6 rfl; have hfz45_0 := blk_frozen BK268.out 0; have hfz45_1 := blk_frozen BK268.out 1; have hfz45_2 := blk_frozen BK268.out 2; have hfz45_3 := blk_frozen BK268.out 3; have hfz45_4 := blk_frozen BK268.out 4; have hfz45_5 := blk_frozen BK268.out 5; have hfz45_6 := blk_frozen BK268.out 6; have hcz46_0 : w43.cell? ⟨gb269, 0, none⟩ = some (.slice A1_0 l1_0.length c1_0) := zc0 BK269 0 rfl; have hcz46_1 : w43.cell? ⟨gb269, 1, none⟩ = some (.int .i64 a1_1) := zc0 BK269 1 rfl; have hcz46_2 : w43.cell? ⟨gb269, 2, none⟩ = some (.int .i64 a1_2) := zc0 BK269 2 rfl; have hcz46_3 : w43.cell? ⟨gb269, 3, none⟩ = some (.int .i64 a1_3) := zc0 BK269 3 rfl; have hcz46_4 : w43.cell? ⟨gb269, 4, none⟩ = some (.int .i64 a1_4) := zc0 BK269 4 rfl; have hcz46_5 : w43.cell? ⟨gb269, 5, none⟩ = some (.int .i64 a1_5) := zc0 BK269 5 rfl; have hcz46_6 : w43.cell? ⟨gb269, 6, none⟩ = some (.int .i64 a1_6) := zc0 BK269 6 rfl; have hfz46_0 := blk_frozen BK269.out 0; have hfz46_1 := blk_frozen BK269.out 1; have hfz46_2 := blk_frozen BK269.out 2; have hfz46_3 := blk_frozen BK269.out 3; have hfz46_4 := blk_frozen BK269.out 4; have hfz46_5 := blk_frozen BK269.out 5; have hfz46_6 := blk_frozen BK269.out 6) | ((with_reducible refine gate_callee (f := 20) rfl ?_); refine goesL_ (some 9) rfl rfl Try.func20 (by kernel_rfl) rfl #[.agg #[.slice A0_0 l0_0.length c0_0], .agg #[.slice A1_0 l1_0.length c1_0]] rfl (by (try simp only [List.map_toArray, List.map_cons, List.map_nil]); first | done | rfl | (simp only [List.length_drop, List.length_take]; rfl)) ?_; (with_reducible refine (laws_eqMemory.calls k _ _ l0_0 _ _ l1_0 true _ ?side1 ?side2 ?side3 ?side4 A3.out).mono ?_); (case side1 => repeat (first | exact (Kd.C_below HR0_0.out HB.out) | (with_reducible refine Kd.C_alloc ?_ _) | (with_reducible refine Kd.C_drewN ?_ _) | (with_reducible refine Kd.C_drew ?_))); (case side2 => exact HC0_0.out); (case side3 => repeat (first | exact (Kd.C_below HR1_0.out HB.out) | (with_reducible refine Kd.C_alloc ?_ _) | (with_reducible refine Kd.C_drewN ?_ _) | (with_reducible refine Kd.C_drew ?_))); (case side4 => exact HC1_0.out); rintro e w47 ⟨rfl, hb⟩; refine ⟨_, rfl, ?_⟩; replace BK268 := zb0 BK268 hb; replace BK269 := zb0 BK269 hb; replace HB := zhs HB hb; (try clear hb); (try clear hb2); (try clear hk); (try clear hi); have hcz48_0 : w47.cell? ⟨gb268, 0, none⟩ = some (.slice A0_0 l0_0.length c0_0) := zc0 BK268 0 rfl; have hcz48_1 : w47.cell? ⟨gb268, 1, none⟩ = some (.int .i64 a0_1) := zc0 BK268 1 rfl; have hcz48_2 : w47.cell? ⟨gb268, 2, none⟩ = some (.int .i64 a0_2) := zc0 BK268 2 rfl; have hcz48_3 : w47.cell? ⟨gb268, 3, none⟩ = some (.int .i64 a0_3) := zc0 BK268 3 rfl; have hcz48_4 : w47.cell? ⟨gb268, 4, none⟩ = some (.int .i64 a0_4) := zc0 BK268 4 rfl; have hcz48_5 : w47.cell? ⟨gb268, 5, none⟩ = some (.int .i64 a0_5) := zc0 BK268 5 rfl; have hcz48_6 : w47.cell? ⟨gb268, 6, none⟩ = some (.int .i64 a0_6) := zc0 BK268 6 rfl; have hfz48_0 := blk_frozen BK268.out 0; have hfz48_1 := blk_frozen BK268.out 1; have hfz48_2 := blk_frozen BK268.out 2; have hfz48_3 := blk_frozen BK268.out 3; have hfz48_4 := blk_frozen BK268.out 4; have hfz48_5 := blk_frozen BK268.out 5; have hfz48_6 := blk_frozen BK268.out 6; have hcz49_0 : w47.cell? ⟨gb269, 0, none⟩ = some (.slice A1_0 l1_0.length c1_0) := zc0 BK269 0 rfl; have hcz49_1 : w47.cell? ⟨gb269, 1, none⟩ = some (.int .i64 a1_1) := zc0 BK269 1 rfl; have hcz49_2 : w47.cell? ⟨gb269, 2, none⟩ = some (.int .i64 a1_2) := zc0 BK269 2 rfl; have hcz49_3 : w47.cell? ⟨gb269, 3, none⟩ = some (.int .i64 a1_3) := zc0 BK269 3 rfl; have hcz49_4 : w47.cell? ⟨gb269, 4, none⟩ = some (.int .i64 a1_4) := zc0 BK269 4 rfl; have hcz49_5 : w47.cell? ⟨gb269, 5, none⟩ = some (.int .i64 a1_5) := zc0 BK269 5 rfl; have hcz49_6 : w47.cell? ⟨gb269, 6, none⟩ = some (.int .i64 a1_6) := zc0 BK269 6 rfl; have hfz49_0 := blk_frozen BK269.out 0; have hfz49_1 := blk_frozen BK269.out 1; have hfz49_2 := blk_frozen BK269.out 2; have hfz49_3 := blk_frozen BK269.out 3; have hfz49_4 := blk_frozen BK269.out 4; have hfz49_5 := blk_frozen BK269.out 5; have hfz49_6 := blk_frozen BK269.out 6) | ((with_reducible refine gate_callee (f := 34) rfl ?_); refine goesL_ (some 15) rfl rfl Try.func34 (by kernel_rfl) rfl #[.agg #[.int .i64 a0_1, .int .i64 a0_2, .int .i64 a0_3, .int .i64 a0_4], .agg #[.int .i64 a1_1, .int .i64 a1_2, .int .i64 a1_3, .int .i64 a1_4]] rfl (by (try simp only [List.map_toArray, List.map_cons, List.map_nil]); first | done | rfl | (simp only [List.length_drop, List.length_take]; rfl)) ?_; (with_reducible refine (laws_eqWindow.calls a0_1 a0_2 a0_3 a0_4 a1_1 a1_2 a1_3 a1_4 false _ A5.out).mono ?_); rintro e w50 ⟨rfl, hb⟩; refine ⟨_, rfl, ?_⟩; replace BK268 := zb0 BK268 hb; replace BK269 := zb0 BK269 hb; replace HB := zhs HB hb; (try clear hb); (try clear hb2); (try clear hk); (try clear hi)))
   go_ret
   exact ⟨by first | rfl | (simp [errW_none, errW_some] <;> rfl) | (simp [*, errW_none, errW_some] <;> rfl), by repeat (first | (with_reducible first | exact HB.out | apply below_alloc | apply pw_below_drewN | apply below_drew1 | refine below_set ?_ GE268.out | refine below_set ?_ GE269.out) | exact HB.out)⟩
 ·replace c4 := Bool.eq_false_iff.mpr c4
  subst c4
  have H1 : (some false) = some r := by rw [if_neg (show ¬ (false = true) by decide)] at H; exact H
  clear H
  have H := H1
  clear H1
  obtain rfl := Option.some.inj H
  go_enter Try.func60, Try.ntmps60
  go_wp2_with (first | ((with_reducible refine gate_dst (N := 2) rfl ?_); refine box_event ?hg (N := 2) ?hd (cs := #[.slice A0_0 l0_0.length c0_0, .int .i64 a0_1, .int .i64 a0_2, .int .i64 a0_3, .int .i64 a0_4, .int .i64 a0_5, .int .i64 a0_6]) (t := 88) ?hr ?_; (case hd => rfl); (case hg => rfl); (case hr => first | (go_simp; done) | (go_simp; rfl)); intro gb268 hg w51 hbox hb; have BK268 := Aside0.mk (hbox); have GW268 := zge HB hg; have GE268 := zge HB hg; replace HB := zhs HB hb; clear hb hbox hg) | ((with_reducible refine gate_dst (N := 3) rfl ?_); refine box_event ?hg (N := 3) ?hd (cs := #[.slice A1_0 l1_0.length c1_0, .int .i64 a1_1, .int .i64 a1_2, .int .i64 a1_3, .int .i64 a1_4, .int .i64 a1_5, .int .i64 a1_6]) (t := 88) ?hr ?_; (case hd => rfl); (case hg => rfl); (case hr => first | (go_simp; done) | (go_simp; rfl)); intro gb269 hg w52 hbox hb; have BK269 := Aside0.mk (hbox); have GW269 := zge HB hg; have GE269 := zge HB hg; have NB268_269 := znl BK268 hg; have NB269_268 := znr BK268 hg; replace BK268 := zb0 BK268 hb; replace HB := zhs HB hb; clear hb hbox hg; have hnb53 := NB268_269.out; have hnc53 := NB269_268.out; have hcz54_0 : w52.cell? ⟨gb268, 0, none⟩ = some (.slice A0_0 l0_0.length c0_0) := zc0 BK268 0 rfl; have hcz54_1 : w52.cell? ⟨gb268, 1, none⟩ = some (.int .i64 a0_1) := zc0 BK268 1 rfl; have hcz54_2 : w52.cell? ⟨gb268, 2, none⟩ = some (.int .i64 a0_2) := zc0 BK268 2 rfl; have hcz54_3 : w52.cell? ⟨gb268, 3, none⟩ = some (.int .i64 a0_3) := zc0 BK268 3 rfl; have hcz54_4 : w52.cell? ⟨gb268, 4, none⟩ = some (.int .i64 a0_4) := zc0 BK268 4 rfl; have hcz54_5 : w52.cell? ⟨gb268, 5, none⟩ = some (.int .i64 a0_5) := zc0 BK268 5 rfl; have hcz54_6 : w52.cell? ⟨gb268, 6, none⟩ = some (.int .i64 a0_6) := zc0 BK268 6 rfl; have hfz54_0 := blk_frozen BK268.out 0; have hfz54_1 := blk_frozen BK268.out 1; have hfz54_2 := blk_frozen BK268.out 2; have hfz54_3 := blk_frozen BK268.out 3; have hfz54_4 := blk_frozen BK268.out 4; have hfz54_5 := blk_frozen BK268.out 5; have hfz54_6 := blk_frozen BK268.out 6; have hcz55_0 : w52.cell? ⟨gb269, 0, none⟩ = some (.slice A1_0 l1_0.length c1_0) := zc0 BK269 0 rfl; have hcz55_1 : w52.cell? ⟨gb269, 1, none⟩ = some (.int .i64 a1_1) := zc0 BK269 1 rfl; have hcz55_2 : w52.cell? ⟨gb269, 2, none⟩ = some (.int .i64 a1_2) := zc0 BK269 2 rfl; have hcz55_3 : w52.cell? ⟨gb269, 3, none⟩ = some (.int .i64 a1_3) := zc0 BK269 3 rfl; have hcz55_4 : w52.cell? ⟨gb269, 4, none⟩ = some (.int .i64 a1_4) := zc0 BK269 4 rfl; have hcz55_5 : w52.cell? ⟨gb269, 5, none⟩ = some (.int .i64 a1_5) := zc0 BK269 5 rfl; have hcz55_6 : w52.cell? ⟨gb269, 6, none⟩ = some (.int .i64 a1_6) := zc0 BK269 6 rfl; have hfz55_0 := blk_frozen BK269.out 0; have hfz55_1 := blk_frozen BK269.out 1; have hfz55_2 := blk_frozen BK269.out 2; have hfz55_3 := blk_frozen BK269.out 3; have hfz55_4 := blk_frozen BK269.out 4; have hfz55_5 := blk_frozen BK269.out 5; have hfz55_6 := blk_frozen BK269.out 6) | ((with_reducible refine gate_callee (f := 20) rfl ?_); refine goesL_ (some 9) rfl rfl Try.func20 (by kernel_rfl) rfl #[.agg #[.slice A0_0 l0_0.length c0_0], .agg #[.slice A1_0 l1_0.length c1_0]] rfl (by (try simp only [List.map_toArray, List.map_cons, List.map_nil]); first | done | rfl | (simp only [List.length_drop, List.length_take]; rfl)) ?_; (with_reducible refine (laws_eqMemory.calls k _ _ l0_0 _ _ l1_0 false _ ?side1 ?side2 ?side3 ?side4 A3.out).mono ?_); (case side1 => repeat (first | exact (Kd.C_below HR0_0.out HB.out) | (with_reducible refine Kd.C_alloc ?_ _) | (with_reducible refine Kd.C_drewN ?_ _) | (with_reducible refine Kd.C_drew ?_))); (case side2 => exact HC0_0.out); (case side3 => repeat (first | exact (Kd.C_below HR1_0.out HB.out) | (with_reducible refine Kd.C_alloc ?_ _) | (with_reducible refine Kd.C_drewN ?_ _) | (with_reducible refine Kd.C_drew ?_))); (case side4 => exact HC1_0.out); rintro e w56 ⟨rfl, hb⟩; refine ⟨_, rfl, ?_⟩; replace BK268 := zb0 BK268 hb; replace BK269 := zb0 BK269 hb; replace HB := zhs HB hb; (try clear hb); (try clear hb2); (try clear hk); (try clear hi)))
  go_ret
  exact ⟨by first | rfl | (simp [errW_none, errW_some] <;> rfl) | (simp [*, errW_none, errW_some] <;> rfl), by repeat (first | (with_reducible first | exact HB.out | apply below_alloc | apply pw_below_drewN | apply below_drew1 | refine below_set ?_ GE268.out | refine below_set ?_ GE269.out) | exact HB.out)⟩

/-! ### laws_markByteSS: function 100 (by hand) -/
def laws_markByteSS.l0 : Nat → List (List Int) → Int → Int → Option Int
  | 0, _, _, _ => none
  | k + 1, x0, x1, x2 => if x2 < (x0.length : Int) then (if 0 ≤ x2 then ((laws_markByteS.f k (rd_L1 x0 x2) x1).bind fun t => laws_markByteSS.l0 k x0 t.1 (wrap64 (x2 + 1))) else none) else some x1
def laws_markByteSS.f (k : Nat) (l0 : List (List Int)) (a1 : Int) : Option Int := laws_markByteSS.l0 k l0 a1 0
theorem laws_markByteSS.mono_l : ∀ k, (∀ y0 y1 y2, LeO (laws_markByteSS.l0 k y0 y1 y2) (laws_markByteSS.l0 (k + 1) y0 y1 y2))
  | 0 => fun _ _ _ r h => by simp [laws_markByteSS.l0] at h
  | k + 1 => by
    have ih0 := laws_markByteSS.mono_l k
    intro y0 y1 y2
    unfold laws_markByteSS.l0
    refine LeO.ite (LeO.ite (LeO.bind (laws_markByteS.mono _ _ _) (fun _ => ih0 _ _ _)) (LeO.none _)) (LeO.refl _)
theorem laws_markByteSS.mono : ∀ a0 a1 k, LeO (laws_markByteSS.f k a0 a1) (laws_markByteSS.f (k + 1) a0 a1) := fun a0 a1 k => laws_markByteSS.mono_l k a0 a1 0
set_option maxHeartbeats 8000000 in
set_option maxRecDepth 100000 in
theorem laws_markByteSS.calls (k : Nat) (P0_ : Nat → Prop) (u9000_ : Value) (l0 : List (List Int)) (a1 : Int) (r1 : Int) (w0 w : World) (hB : Below w0.heap.size w0 w) (ho0 : Kd.S (Kd.slice 5 (Kd.int .u8)) 74 w w0.heap.size P0_ u9000_ l0) (h : laws_markByteSS.f k l0 a1 = some r1) :
    Calls Try.prog 100 #[u9000_, .int .i64 a1] w fun e w' => e = .returned (.int .i64 r1) ∧ Below w0.heap.size w0 w' ∧ Kept w w' (fun k_ => P0_ k_) := by
  have hu22 := Try.underlying22
  have HO := Aside0.mk ho0
  have HB := Aside0.mk hB
  obtain ⟨A0, c0, ev⟩ := Kd.S_slice ho0
  subst ev
  have H' := Aside0.mk (show laws_markByteSS.l0 k l0 a1 0 = some r1 from h)
  clear h ho0 hB
  go_enter Try.func100, Try.ntmps100
  go_wp2
  go_loopg [1, 5] k (fun kq v1 v5 w' => ∃ (ys : List (List Int)) (x1 x2 : Int), v1 = .int .i64 x1 ∧ v5 = .int .i64 x2 ∧ Aside0 (laws_markByteSS.l0 kq l0 x1 x2 = some r1) ∧ Aside0 (kq ≤ k) ∧ Aside0 (ys.length = l0.length) ∧ Aside0 (0 ≤ x2 ∧ ∀ j, x2.toNat ≤ j → ys.getD j [] = l0.getD j []) ∧ Aside0 (Kd.S (Kd.slice 5 (Kd.int .u8)) 74 w' w0.heap.size (fun k_ => P0_ k_ ∨ w.heap.size ≤ k_) (.slice A0 l0.length c0) ys) ∧ Aside0 (Below w0.heap.size w0 w') ∧ Aside0 (Kept w w' (fun k_ => P0_ k_)))
  case atStart => exact ⟨l0, a1, 0, rfl, rfl, H', ⟨Nat.le_refl _⟩, ⟨rfl⟩, ⟨⟨Int.le_refl _, fun _ _ => rfl⟩⟩, ⟨Kd.S_mono HO.out (fun k_ hk => .inl hk)⟩, HB, ⟨Kept.refl w _⟩⟩
  case round =>
    clear H' HO HB
    obtain ⟨ys, x1, x2, rfl, rfl, HA, HK1, HL, HX, HO, HB, HK⟩ := hrel
    cases gk with
    | zero => exact absurd HA.out (by simp [laws_markByteSS.l0])
    | succ k1 =>
      have H := HA.out
      clear HA
      simp only [laws_markByteSS.l0] at H
      by_cases c3 : x2 < (l0.length : Int)
      · have p0 : 0 ≤ x2 := HX.out.1
        rw [if_pos c3, if_pos p0] at H
        obtain ⟨⟨t1, t2⟩, ht, H⟩ := Option.bind_eq_some_iff.mp H
        obtain ⟨g, rfl⟩ : ∃ g, A0 = some ⟨g, 0, none⟩ := by
          obtain ⟨g, cap, e, _⟩ := Kd.S_form HO.out (by rw [HL.out]; omega)
          injection e with e1 e2 e3
          exact ⟨g, e1⟩
        obtain ⟨oki, cs, hcl, hM, hcc, hoki, hH⟩ := Kd.S_lend HO.out [] x2 p0 c3
        obtain ⟨v, rfl, hR⟩ := hM
        have hcell : wr.cell? ⟨g, x2.toNat, none⟩ = some v := by
          have := hcc 0 v rfl
          rwa [show (Kd.slice 5 (Kd.int .u8)).sz = 1 from rfl, Nat.mul_one, Nat.add_zero] at this
        have hrow : ys.getD x2.toNat [] = rd_L1 l0 x2 := HX.out.2 _ (Nat.le_refl _)
        rw [hrow] at hR
        obtain ⟨Av, cv, ev⟩ := Kd.R_slice hR
        subst ev
        have HC := Aside0.mk (laws_markByteS.calls k1 oki _ _ x1 t1 t2 w0 wr HB.out hR ht)
        have HH := Aside0.mk hH
        have HI := Aside0.mk hoki
        have HJ := Aside0.mk H
        clear H hR hH hoki hcc hcl hrow ht
        have c3b : decide (x2 < (l0.length : Int)) = true := decide_eq_true c3
        have p1 := eq_true p0
        have q1 := eq_true c3
        have P0 := Aside0.mk p0
        have Q0 := Aside0.mk c3
        clear p0 c3
        go_wp2_with fail
        refine HC.out.mono ?_
        rintro e w' ⟨rfl, hr2, hb', hk'⟩
        have HR2 := Aside0.mk hr2
        have HB2 := Aside0.mk hb'
        have HK2 := Aside0.mk hk'
        clear hr2 hb' hk'
        go_wp2
        have hlt : l0.length ≤ 9223372036854775807 := by have := (Kd.S_reads' HO.out).2.2.2.1; have := HL.out; omega
        have hw : wrap64 (x2 + 1) = x2 + 1 := by have := P0.out; have := Q0.out; unfold wrap64; omega
        go_roundg k1
        case measure => have := HK1.out; omega
        case rel =>
          refine ⟨ys.set x2.toNat t2, t1, wrap64 (x2 + 1), by first | rfl | (simp; done) | (simp [*]; done), by first | rfl | (simp; done) | (simp [*]; done), HJ, ⟨by have := HK1.out; omega⟩, ⟨by rw [List.length_set]; exact HL.out⟩, ⟨by rw [hw]; refine ⟨by have := P0.out; omega, fun j hj => ?_⟩; have := P0.out; rw [List.getD_eq_getElem?_getD, List.getElem?_set_ne (by omega), ← List.getD_eq_getElem?_getD]; exact HX.out.2 j (by omega)⟩, ⟨?_⟩, HB2, ⟨?_⟩⟩
          · refine Kd.H_back (Kd.H_kept (Kd.H_widen HH.out) HK2.out (fun k_ _ hn hs => hn (.inl hs))) (okp := fun k_ => oki k_ ∨ wr.heap.size ≤ k_) ⟨_, rfl, HR2.out⟩ (fun k_ hk => hk.elim .inl (fun h2 => .inr ⟨.inr (Nat.le_trans HK.out.1 h2), h2⟩))
          · exact HK.out.then_ HK2.out (fun k_ hk => (HI.out k_ hk).1)
      · rw [if_neg c3] at H
        obtain rfl := Option.some.inj H
        have c3b : decide (x2 < (l0.length : Int)) = false := decide_eq_false c3
        clear c3 H
        go_wp2
        go_ret
        exact ⟨rfl, HB.out, HK.out⟩

/-! ### laws_markMemory: function 50 (by hand) -/
def laws_markMemory.f (k : Nat) (l0_0 : List (List Int)) (a1 : Int) : Option Int := laws_markByteSS.f k l0_0 a1
theorem laws_markMemory.mono : ∀ a0 a1 k, LeO (laws_markMemory.f k a0 a1) (laws_markMemory.f (k + 1) a0 a1) := laws_markByteSS.mono
set_option maxHeartbeats 8000000 in
set_option maxRecDepth 100000 in
theorem laws_markMemory.calls (k : Nat) (P0_0_ : Nat → Prop) (u9000_ : Value) (l0_0 : List (List Int)) (a1 : Int) (r1 : Int) (w0 w : World) (hB : Below w0.heap.size w0 w) (ho0_0 : Kd.S (Kd.slice 5 (Kd.int .u8)) 74 w w0.heap.size P0_0_ u9000_ l0_0) (h : laws_markMemory.f k l0_0 a1 = some r1) :
    Calls Try.prog 50 #[.agg #[u9000_], .int .i64 a1] w fun e w' => e = .returned (.int .i64 r1) ∧ Below w0.heap.size w0 w' ∧ Kept w w' (fun k_ => P0_0_ k_) := by
  have hu32 := Try.underlying32
  obtain ⟨A0, c0, ev⟩ := Kd.S_slice ho0_0
  subst ev
  have HC := Aside0.mk (fun W1 (hb : Below w.heap.size w W1) => laws_markByteSS.calls k P0_0_ _ l0_0 a1 r1 w0 W1 (hB.trans (hb.mono hB.size)) (Kd.S_below ho0_0 hb) h)
  clear h ho0_0
  have HB := Aside0.mk hB
  clear hB
  go_enter Try.func50, Try.ntmps50
  go_wp2_with (go_at_call 100; refine (HC.out _ ((Below.refl _ w).alloc (Nat.le_refl _) _)).mono ?_; rintro e w' ⟨rfl, hb', hk'⟩)
  go_ret
  exact ⟨rfl, hb', (Kept.alloc (Kept.refl w _) _).then_ hk' (fun k_ hk => .inl hk)⟩

/-! ### laws_markGap: function 61 (by hand) -/
def laws_markGap.f (k : Nat) (l0_0 : List (List Int)) (a0_1 a0_2 a0_3 a0_4 a0_5 a0_6 : Int) (a1 : Int) : Option Int := laws_markMemory.f k l0_0 a1
theorem laws_markGap.mono : ∀ a0 a1 a2 a3 a4 a5 a6 a7 k, LeO (laws_markGap.f k a0 a1 a2 a3 a4 a5 a6 a7) (laws_markGap.f (k + 1) a0 a1 a2 a3 a4 a5 a6 a7) := fun a0 _ _ _ _ _ _ a7 k => laws_markMemory.mono a0 a7 k
set_option maxHeartbeats 8000000 in
set_option maxRecDepth 100000 in
theorem laws_markGap.calls (k : Nat) (P0_0_ : Nat → Prop) (u9000_ : Value) (l0_0 : List (List Int)) (a0_1 a0_2 a0_3 a0_4 a0_5 a0_6 : Int) (a1 : Int) (r1 : Int) (w0 w : World) (hB : Below w0.heap.size w0 w) (ho0_0 : Kd.S (Kd.slice 5 (Kd.int .u8)) 74 w w0.heap.size P0_0_ u9000_ l0_0) (h : laws_markGap.f k l0_0 a0_1 a0_2 a0_3 a0_4 a0_5 a0_6 a1 = some r1) :
    Calls Try.prog 61 #[.agg #[u9000_, .int .i64 a0_1, .int .i64 a0_2, .int .i64 a0_3, .int .i64 a0_4, .int .i64 a0_5, .int .i64 a0_6], .int .i64 a1] w fun e w' => e = .returned (.int .i64 r1) ∧ Below w0.heap.size w0 w' ∧ Kept w w' (fun k_ => P0_0_ k_) := by
  have hu88 := Try.underlying88
  have hu32 := Try.underlying32
  obtain ⟨A0, c0, ev⟩ := Kd.S_slice ho0_0
  subst ev
  have HC := Aside0.mk (fun W1 (hb : Below w.heap.size w W1) => laws_markMemory.calls k P0_0_ _ l0_0 a1 r1 w0 W1 (hB.trans (hb.mono hB.size)) (Kd.S_below ho0_0 hb) h)
  clear h ho0_0
  have HB := Aside0.mk hB
  clear hB
  go_enter Try.func61, Try.ntmps61
  go_wp2_with (go_at_call 50; refine (HC.out _ ((Below.refl _ w).alloc (Nat.le_refl _) _)).mono ?_; rintro e w' ⟨rfl, hb', hk'⟩)
  go_ret
  exact ⟨rfl, hb', (Kept.alloc (Kept.refl w _) _).then_ hk' (fun k_ hk => .inl hk)⟩

open Go.Proofs.Ytdojnaghcfhadac.Cp
/-! ### laws_FnExactGapText: function 12 -/
def laws_FnExactGapText.f (k : Nat) (l0_0 : List (List Int)) (a0_1 : Int) (a0_2 : Int) (a0_3 : Int) (a0_4 : Int) (a0_5 : Int) (a0_6 : Int) : Option (Bool) := (laws_szGap.f k l0_0 a0_1 a0_2 a0_3 a0_4 a0_5 a0_6 1048576).bind fun t273 => (if t273 < 0 then (some true) else ((laws_toGap.f k l0_0 a0_1 a0_2 a0_3 a0_4 a0_5 a0_6).bind fun bt274 => ((spec_GapText.f k bt274.1 bt274.2.1 bt274.2.2.1 bt274.2.2.2.1 bt274.2.2.2.2.1 bt274.2.2.2.2.2.1 bt274.2.2.2.2.2.2).bind fun bt283 => ((laws_toGap.f k l0_0 a0_1 a0_2 a0_3 a0_4 a0_5 a0_6).bind fun bt287 => ((impl_GapText.f k bt287.1 bt287.2.1 bt287.2.2.1 bt287.2.2.2.1 bt287.2.2.2.2.1 bt287.2.2.2.2.2.1 bt287.2.2.2.2.2.2).bind fun bt297 => ((laws_eqByteS.f k bt297.1 bt283.1).bind fun t301 => (if t301 = true then (if (bt297.2 != bt283.2) = true then (none) else ((laws_toGap.f k l0_0 a0_1 a0_2 a0_3 a0_4 a0_5 a0_6).bind fun bt302 => ((laws_eqGap.f k bt287.1 bt287.2.1 bt287.2.2.1 bt287.2.2.2.1 bt287.2.2.2.2.1 bt287.2.2.2.2.2.1 bt287.2.2.2.2.2.2 bt302.1 bt302.2.1 bt302.2.2.1 bt302.2.2.2.1 bt302.2.2.2.2.1 bt302.2.2.2.2.2.1 bt302.2.2.2.2.2.2).bind fun t311 => (if t311 = true then ((laws_markGap.f k bt287.1 bt287.2.1 bt287.2.2.1 bt287.2.2.2.1 bt287.2.2.2.2.1 bt287.2.2.2.2.2.1 bt287.2.2.2.2.2.2 1).bind fun t312 => (if t312 < 0 then (none) else ((laws_eqByteS.f k bt297.1 bt283.1).bind fun t313 => (if t313 = true then ((laws_markByteS.f k bt297.1 1).bind fun bt314 => ((laws_heldByteS.f k bt314.2 1).bind fun t316 => (if t316 < 0 then (none) else (if t316 = bt314.1 then ((laws_toGap.f k l0_0 a0_1 a0_2 a0_3 a0_4 a0_5 a0_6).bind fun bt317 => ((impl_GapText.f k bt317.1 bt317.2.1 bt317.2.2.1 bt317.2.2.2.1 bt317.2.2.2.2.1 bt317.2.2.2.2.2.1 bt317.2.2.2.2.2.2).bind fun bt326 => ((laws_eqByteS.f k bt326.1 bt283.1).bind fun t330 => (if t330 = true then (if (bt326.2 != bt283.2) = true then (none) else ((laws_heldByteS.f k bt314.2 1).bind fun t331 => (if t331 < 0 then (none) else (if t331 = bt314.1 then (some true) else (none))))) else (none))))) else (none))))) else (none))))) else (none))))) else (none))))))))
theorem laws_FnExactGapText.mono : ∀ a0 a1 a2 a3 a4 a5 a6 k, LeO (laws_FnExactGapText.f k a0 a1 a2 a3 a4 a5 a6) (laws_FnExactGapText.f (k + 1) a0 a1 a2 a3 a4 a5 a6) := by
 intro a0 a1 a2 a3 a4 a5 a6 k
 unfold laws_FnExactGapText.f
 repeat' first
   | (with_reducible exact impl_GapText.mono _ _ _ _ _ _ _ _)
   | (with_reducible exact laws_eqByteS.mono _ _ _)
   | (with_reducible exact laws_eqGap.mono _ _ _ _ _ _ _ _ _ _ _ _ _ _ _)
   | (with_reducible exact laws_heldByteS.mono _ _ _)
   | (with_reducible exact laws_markByteS.mono _ _ _)
   | (with_reducible exact laws_markGap.mono _ _ _ _ _ _ _ _ _)
   | (with_reducible exact laws_szGap.mono _ _ _ _ _ _ _ _ _)
   | (with_reducible exact laws_toGap.mono _ _ _ _ _ _ _ _)
   | (with_reducible exact spec_GapText.mono _ _ _ _ _ _ _ _)
   | (with_reducible exact LeO.refl _)
   | (with_reducible exact LeO.none _)
   | (with_reducible refine LeO.ite ?_ ?_)
   | (with_reducible refine LeO.bind ?_ (fun _ => ?_))
   | exact impl_GapText.mono _ _ _ _ _ _ _ _
   | exact laws_eqByteS.mono _ _ _
   | exact laws_eqGap.mono _ _ _ _ _ _ _ _ _ _ _ _ _ _ _
   | exact laws_heldByteS.mono _ _ _
   | exact laws_markByteS.mono _ _ _
   | exact laws_markGap.mono _ _ _ _ _ _ _ _ _
   | exact laws_szGap.mono _ _ _ _ _ _ _ _ _
   | exact laws_toGap.mono _ _ _ _ _ _ _ _
   | exact spec_GapText.mono _ _ _ _ _ _ _ _
   | exact LeO.none _
   | refine LeO.ite ?_ ?_
   | refine LeO.bind ?_ (fun _ => ?_)
set_option maxHeartbeats 8000000 in
set_option maxRecDepth 100000 in
theorem laws_FnExactGapText.calls (k : Nat) (A0_0 : Option Addr) (c0_0 : Nat) (l0_0 : List (List Int)) (a0_1 : Int) (a0_2 : Int) (a0_3 : Int) (a0_4 : Int) (a0_5 : Int) (a0_6 : Int) (r : Bool) (w : World) (hr0_0 : Kd.C (Kd.slice 5 (Kd.int .u8)) w A0_0 l0_0.length l0_0) (hc0_0 : l0_0.length ≤ c0_0) (h : laws_FnExactGapText.f k l0_0 a0_1 a0_2 a0_3 a0_4 a0_5 a0_6 = some r) :
  Calls Try.prog 12 #[.agg #[.slice A0_0 l0_0.length c0_0, .int .i64 a0_1, .int .i64 a0_2, .int .i64 a0_3, .int .i64 a0_4, .int .i64 a0_5, .int .i64 a0_6]] w fun e w' => e = .returned (.bool r) ∧ Below w.heap.size w w' := by
 have hu84 := Try.underlying84
 have hu88 := Try.underlying88
 have HR0_0 := Aside0.mk hr0_0
 have HC0_0 := Aside0.mk hc0_0
 clear hr0_0 hc0_0
 have HB := Aside0.mk (Below.refl w.heap.size w)
 have H : ((laws_szGap.f k l0_0 a0_1 a0_2 a0_3 a0_4 a0_5 a0_6 1048576).bind fun t273 => (if t273 < 0 then (some true) else ((laws_toGap.f k l0_0 a0_1 a0_2 a0_3 a0_4 a0_5 a0_6).bind fun bt274 => ((spec_GapText.f k bt274.1 bt274.2.1 bt274.2.2.1 bt274.2.2.2.1 bt274.2.2.2.2.1 bt274.2.2.2.2.2.1 bt274.2.2.2.2.2.2).bind fun bt283 => ((laws_toGap.f k l0_0 a0_1 a0_2 a0_3 a0_4 a0_5 a0_6).bind fun bt287 => ((impl_GapText.f k bt287.1 bt287.2.1 bt287.2.2.1 bt287.2.2.2.1 bt287.2.2.2.2.1 bt287.2.2.2.2.2.1 bt287.2.2.2.2.2.2).bind fun bt297 => ((laws_eqByteS.f k bt297.1 bt283.1).bind fun t301 => (if t301 = true then (if (bt297.2 != bt283.2) = true then (none) else ((laws_toGap.f k l0_0 a0_1 a0_2 a0_3 a0_4 a0_5 a0_6).bind fun bt302 => ((laws_eqGap.f k bt287.1 bt287.2.1 bt287.2.2.1 bt287.2.2.2.1 bt287.2.2.2.2.1 bt287.2.2.2.2.2.1 bt287.2.2.2.2.2.2 bt302.1 bt302.2.1 bt302.2.2.1 bt302.2.2.2.1 bt302.2.2.2.2.1 bt302.2.2.2.2.2.1 bt302.2.2.2.2.2.2).bind fun t311 => (if t311 = true then ((laws_markGap.f k bt287.1 bt287.2.1 bt287.2.2.1 bt287.2.2.2.1 bt287.2.2.2.2.1 bt287.2.2.2.2.2.1 bt287.2.2.2.2.2.2 1).bind fun t312 => (if t312 < 0 then (none) else ((laws_eqByteS.f k bt297.1 bt283.1).bind fun t313 => (if t313 = true then ((laws_markByteS.f k bt297.1 1).bind fun bt314 => ((laws_heldByteS.f k bt314.2 1).bind fun t316 => (if t316 < 0 then (none) else (if t316 = bt314.1 then ((laws_toGap.f k l0_0 a0_1 a0_2 a0_3 a0_4 a0_5 a0_6).bind fun bt317 => ((impl_GapText.f k bt317.1 bt317.2.1 bt317.2.2.1 bt317.2.2.2.1 bt317.2.2.2.2.1 bt317.2.2.2.2.2.1 bt317.2.2.2.2.2.2).bind fun bt326 => ((laws_eqByteS.f k bt326.1 bt283.1).bind fun t330 => (if t330 = true then (if (bt326.2 != bt283.2) = true then (none) else ((laws_heldByteS.f k bt314.2 1).bind fun t331 => (if t331 < 0 then (none) else (if t331 = bt314.1 then (some true) else (none))))) else (none))))) else (none))))) else (none))))) else (none))))) else (none))))))))) = some r := h
 clear h
 replace H := Option.bind_eq_some_iff.mp H
 obtain ⟨t273, A20, H⟩ := H
 replace H : (if t273 < 0 then (some true) else ((laws_toGap.f k l0_0 a0_1 a0_2 a0_3 a0_4 a0_5 a0_6).bind fun bt274 => ((spec_GapText.f k bt274.1 bt274.2.1 bt274.2.2.1 bt274.2.2.2.1 bt274.2.2.2.2.1 bt274.2.2.2.2.2.1 bt274.2.2.2.2.2.2).bind fun bt283 => ((laws_toGap.f k l0_0 a0_1 a0_2 a0_3 a0_4 a0_5 a0_6).bind fun bt287 => ((impl_GapText.f k bt287.1 bt287.2.1 bt287.2.2.1 bt287.2.2.2.1 bt287.2.2.2.2.1 bt287.2.2.2.2.2.1 bt287.2.2.2.2.2.2).bind fun bt297 => ((laws_eqByteS.f k bt297.1 bt283.1).bind fun t301 => (if t301 = true then (if (bt297.2 != bt283.2) = true then (none) else ((laws_toGap.f k l0_0 a0_1 a0_2 a0_3 a0_4 a0_5 a0_6).bind fun bt302 => ((laws_eqGap.f k bt287.1 bt287.2.1 bt287.2.2.1 bt287.2.2.2.1 bt287.2.2.2.2.1 bt287.2.2.2.2.2.1 bt287.2.2.2.2.2.2 bt302.1 bt302.2.1 bt302.2.2.1 bt302.2.2.2.1 bt302.2.2.2.2.1 bt302.2.2.2.2.2.1 bt302.2.2.2.2.2.2).bind fun t311 => (if t311 = true then ((laws_markGap.f k bt287.1 bt287.2.1 bt287.2.2.1 bt287.2.2.2.1 bt287.2.2.2.2.1 bt287.2.2.2.2.2.1 bt287.2.2.2.2.2.2 1).bind fun t312 => (if t312 < 0 then (none) else ((laws_eqByteS.f k bt297.1 bt283.1).bind fun t313 => (if t313 = true then ((laws_markByteS.f k bt297.1 1).bind fun bt314 => ((laws_heldByteS.f k bt314.2 1).bind fun t316 => (if t316 < 0 then (none) else (if t316 = bt314.1 then ((laws_toGap.f k l0_0 a0_1 a0_2 a0_3 a0_4 a0_5 a0_6).bind fun bt317 => ((impl_GapText.f k bt317.1 bt317.2.1 bt317.2.2.1 bt317.2.2.2.1 bt317.2.2.2.2.1 bt317.2.2.2.2.2.1 bt317.2.2.2.2.2.2).bind fun bt326 => ((laws_eqByteS.f k bt326.1 bt283.1).bind fun t330 => (if t330 = true then (if (bt326.2 != bt283.2) = true then (none) else ((laws_heldByteS.f k bt314.2 1).bind fun t331 => (if t331 < 0 then (none) else (if t331 = bt314.1 then (some true) else (none))))) else (none))))) else (none))))) else (none))))) else (none))))) else (none)))))))) = some r := H
 have A2 := Aside0.mk A20
 clear A20
 by_cases c3 : t273 < 0
 ·rw [if_pos c3] at H
  have c3b0 : decide (t273 < 0) = true := decide_eq_true c3
  clear c3
  obtain rfl := Option.some.inj H
  go_enter Try.func12, Try.ntmps12
  go_wp2_with (first | ((with_reducible refine gate_dst (N := 1) rfl ?_); refine box_event ?hg (N := 1) ?hd (cs := #[.slice A0_0 l0_0.length c0_0, .int .i64 a0_1, .int .i64 a0_2, .int .i64 a0_3, .int .i64 a0_4, .int .i64 a0_5, .int .i64 a0_6]) (t := 84) ?hr ?_; (case hd => rfl); (case hg => rfl); (case hr => first | (go_simp; done) | (go_simp; rfl)); intro gb272 hg w4 hbox hb; have BK272 := Aside0.mk (hbox); have GW272 := zge HB hg; have GE272 := zge HB hg; replace HB := zhs HB hb; clear hb hbox hg; have hcz5_0 : w4.cell? ⟨gb272, 0, none⟩ = some (.slice A0_0 l0_0.length c0_0) := zc0 BK272 0 rfl; have hcz5_1 : w4.cell? ⟨gb272, 1, none⟩ = some (.int .i64 a0_1) := zc0 BK272 1 rfl; have hcz5_2 : w4.cell? ⟨gb272, 2, none⟩ = some (.int .i64 a0_2) := zc0 BK272 2 rfl; have hcz5_3 : w4.cell? ⟨gb272, 3, none⟩ = some (.int .i64 a0_3) := zc0 BK272 3 rfl; have hcz5_4 : w4.cell? ⟨gb272, 4, none⟩ = some (.int .i64 a0_4) := zc0 BK272 4 rfl; have hcz5_5 : w4.cell? ⟨gb272, 5, none⟩ = some (.int .i64 a0_5) := zc0 BK272 5 rfl; have hcz5_6 : w4.cell? ⟨gb272, 6, none⟩ = some (.int .i64 a0_6) := zc0 BK272 6 rfl; have hfz5_0 := blk_frozen BK272.out 0; have hfz5_1 := blk_frozen BK272.out 1; have hfz5_2 := blk_frozen BK272.out 2; have hfz5_3 := blk_frozen BK272.out 3; have hfz5_4 := blk_frozen BK272.out 4; have hfz5_5 := blk_frozen BK272.out 5; have hfz5_6 := blk_frozen BK272.out 6) | ((with_reducible refine gate_callee (f := 56) rfl ?_); refine goesL_ (some 16) rfl rfl Try.func56 (by kernel_rfl) rfl #[.agg #[.slice A0_0 l0_0.length c0_0, .int .i64 a0_1, .int .i64 a0_2, .int .i64 a0_3, .int .i64 a0_4, .int .i64 a0_5, .int .i64 a0_6], .int .i64 1048576] rfl (by (try simp only [List.map_toArray, List.map_cons, List.map_nil]); first | done | rfl | (simp only [List.length_drop, List.length_take]; rfl)) ?_; (with_reducible refine (laws_szGap.calls k _ _ l0_0 a0_1 a0_2 a0_3 a0_4 a0_5 a0_6 1048576 t273 _ ?side1 ?side2 A2.out).mono ?_); (case side1 => repeat (first | exact (Kd.C_below HR0_0.out HB.out) | (with_reducible refine Kd.C_alloc ?_ _) | (with_reducible refine Kd.C_drewN ?_ _) | (with_reducible refine Kd.C_drew ?_))); (case side2 => exact HC0_0.out); rintro e w6 ⟨rfl, hb⟩; refine ⟨_, rfl, ?_⟩; replace BK272 := zb0 BK272 hb; replace HB := zhs HB hb; (try clear hb); (try clear hb2); (try clear hk); (try clear hi)))
  go_ret
  exact ⟨by first | rfl | (simp [errW_none, errW_some] <;> rfl) | (simp [*, errW_none, errW_some] <;> rfl), by repeat (first | (with_reducible first | exact HB.out | apply below_alloc | apply pw_below_drewN | apply below_drew1 | refine below_set ?_ GE272.out) | exact HB.out)⟩
 ·rw [if_neg c3] at H
  have c3b0 : decide (t273 < 0) = false := decide_eq_false c3
  clear c3
  replace H := Option.bind_eq_some_iff.mp H
  obtain ⟨⟨t274, t277, t278, t279, t280, t281, t282⟩, A70, H⟩ := H
  replace H : ((spec_GapText.f k t274 t277 t278 t279 t280 t281 t282).bind fun bt283 => ((laws_toGap.f k l0_0 a0_1 a0_2 a0_3 a0_4 a0_5 a0_6).bind fun bt287 => ((impl_GapText.f k bt287.1 bt287.2.1 bt287.2.2.1 bt287.2.2.2.1 bt287.2.2.2.2.1 bt287.2.2.2.2.2.1 bt287.2.2.2.2.2.2).bind fun bt297 => ((laws_eqByteS.f k bt297.1 bt283.1).bind fun t301 => (if t301 = true then (if (bt297.2 != bt283.2) = true then (none) else ((laws_toGap.f k l0_0 a0_1 a0_2 a0_3 a0_4 a0_5 a0_6).bind fun bt302 => ((laws_eqGap.f k bt287.1 bt287.2.1 bt287.2.2.1 bt287.2.2.2.1 bt287.2.2.2.2.1 bt287.2.2.2.2.2.1 bt287.2.2.2.2.2.2 bt302.1 bt302.2.1 bt302.2.2.1 bt302.2.2.2.1 bt302.2.2.2.2.1 bt302.2.2.2.2.2.1 bt302.2.2.2.2.2.2).bind fun t311 => (if t311 = true then ((laws_markGap.f k bt287.1 bt287.2.1 bt287.2.2.1 bt287.2.2.2.1 bt287.2.2.2.2.1 bt287.2.2.2.2.2.1 bt287.2.2.2.2.2.2 1).bind fun t312 => (if t312 < 0 then (none) else ((laws_eqByteS.f k bt297.1 bt283.1).bind fun t313 => (if t313 = true then ((laws_markByteS.f k bt297.1 1).bind fun bt314 => ((laws_heldByteS.f k bt314.2 1).bind fun t316 => (if t316 < 0 then (none) else (if t316 = bt314.1 then ((laws_toGap.f k l0_0 a0_1 a0_2 a0_3 a0_4 a0_5 a0_6).bind fun bt317 => ((impl_GapText.f k bt317.1 bt317.2.1 bt317.2.2.1 bt317.2.2.2.1 bt317.2.2.2.2.1 bt317.2.2.2.2.2.1 bt317.2.2.2.2.2.2).bind fun bt326 => ((laws_eqByteS.f k bt326.1 bt283.1).bind fun t330 => (if t330 = true then (if (bt326.2 != bt283.2) = true then (none) else ((laws_heldByteS.f k bt314.2 1).bind fun t331 => (if t331 < 0 then (none) else (if t331 = bt314.1 then (some true) else (none))))) else (none))))) else (none))))) else (none))))) else (none))))) else (none)))))) = some r := H
  have A7 := Aside0.mk A70
  clear A70
  replace H := Option.bind_eq_some_iff.mp H
  obtain ⟨⟨t283, t286⟩, A80, H⟩ := H
  replace H : ((laws_toGap.f k l0_0 a0_1 a0_2 a0_3 a0_4 a0_5 a0_6).bind fun bt287 => ((impl_GapText.f k bt287.1 bt287.2.1 bt287.2.2.1 bt287.2.2.2.1 bt287.2.2.2.2.1 bt287.2.2.2.2.2.1 bt287.2.2.2.2.2.2).bind fun bt297 => ((laws_eqByteS.f k bt297.1 t283).bind fun t301 => (if t301 = true then (if (bt297.2 != t286) = true then (none) else ((laws_toGap.f k l0_0 a0_1 a0_2 a0_3 a0_4 a0_5 a0_6).bind fun bt302 => ((laws_eqGap.f k bt287.1 bt287.2.1 bt287.2.2.1 bt287.2.2.2.1 bt287.2.2.2.2.1 bt287.2.2.2.2.2.1 bt287.2.2.2.2.2.2 bt302.1 bt302.2.1 bt302.2.2.1 bt302.2.2.2.1 bt302.2.2.2.2.1 bt302.2.2.2.2.2.1 bt302.2.2.2.2.2.2).bind fun t311 => (if t311 = true then ((laws_markGap.f k bt287.1 bt287.2.1 bt287.2.2.1 bt287.2.2.2.1 bt287.2.2.2.2.1 bt287.2.2.2.2.2.1 bt287.2.2.2.2.2.2 1).bind fun t312 => (if t312 < 0 then (none) else ((laws_eqByteS.f k bt297.1 t283).bind fun t313 => (if t313 = true then ((laws_markByteS.f k bt297.1 1).bind fun bt314 => ((laws_heldByteS.f k bt314.2 1).bind fun t316 => (if t316 < 0 then (none) else (if t316 = bt314.1 then ((laws_toGap.f k l0_0 a0_1 a0_2 a0_3 a0_4 a0_5 a0_6).bind fun bt317 => ((impl_GapText.f k bt317.1 bt317.2.1 bt317.2.2.1 bt317.2.2.2.1 bt317.2.2.2.2.1 bt317.2.2.2.2.2.1 bt317.2.2.2.2.2.2).bind fun bt326 => ((laws_eqByteS.f k bt326.1 t283).bind fun t330 => (if t330 = true then (if (bt326.2 != t286) = true then (none) else ((laws_heldByteS.f k bt314.2 1).bind fun t331 => (if t331 < 0 then (none) else (if t331 = bt314.1 then (some true) else (none))))) else (none))))) else (none))))) else (none))))) else (none))))) else (none))))) = some r := H
  have A8 := Aside0.mk A80
  clear A80
  replace H := Option.bind_eq_some_iff.mp H
  obtain ⟨⟨t287, t290, t291, t292, t293, t294, t295⟩, A90, H⟩ := H
  replace H : ((impl_GapText.f k t287 t290 t291 t292 t293 t294 t295).bind fun bt297 => ((laws_eqByteS.f k bt297.1 t283).bind fun t301 => (if t301 = true then (if (bt297.2 != t286) = true then (none) else ((laws_toGap.f k l0_0 a0_1 a0_2 a0_3 a0_4 a0_5 a0_6).bind fun bt302 => ((laws_eqGap.f k t287 t290 t291 t292 t293 t294 t295 bt302.1 bt302.2.1 bt302.2.2.1 bt302.2.2.2.1 bt302.2.2.2.2.1 bt302.2.2.2.2.2.1 bt302.2.2.2.2.2.2).bind fun t311 => (if t311 = true then ((laws_markGap.f k t287 t290 t291 t292 t293 t294 t295 1).bind fun t312 => (if t312 < 0 then (none) else ((laws_eqByteS.f k bt297.1 t283).bind fun t313 => (if t313 = true then ((laws_markByteS.f k bt297.1 1).bind fun bt314 => ((laws_heldByteS.f k bt314.2 1).bind fun t316 => (if t316 < 0 then (none) else (if t316 = bt314.1 then ((laws_toGap.f k l0_0 a0_1 a0_2 a0_3 a0_4 a0_5 a0_6).bind fun bt317 => ((impl_GapText.f k bt317.1 bt317.2.1 bt317.2.2.1 bt317.2.2.2.1 bt317.2.2.2.2.1 bt317.2.2.2.2.2.1 bt317.2.2.2.2.2.2).bind fun bt326 => ((laws_eqByteS.f k bt326.1 t283).bind fun t330 => (if t330 = true then (if (bt326.2 != t286) = true then (none) else ((laws_heldByteS.f k bt314.2 1).bind fun t331 => (if t331 < 0 then (none) else (if t331 = bt314.1 then (some true) else (none))))) else (none))))) else (none))))) else (none))))) else (none))))) else (none)))) = some r := H
  have A9 := Aside0.mk A90
  clear A90
  replace H := Option.bind_eq_some_iff.mp H
  obtain ⟨⟨t297, t300⟩, A100, H⟩ := H
  replace H : ((laws_eqByteS.f k t297 t283).bind fun t301 => (if t301 = true then (if (t300 != t286) = true then (none) else ((laws_toGap.f k l0_0 a0_1 a0_2 a0_3 a0_4 a0_5 a0_6).bind fun bt302 => ((laws_eqGap.f k t287 t290 t291 t292 t293 t294 t295 bt302.1 bt302.2.1 bt302.2.2.1 bt302.2.2.2.1 bt302.2.2.2.2.1 bt302.2.2.2.2.2.1 bt302.2.2.2.2.2.2).bind fun t311 => (if t311 = true then ((laws_markGap.f k t287 t290 t291 t292 t293 t294 t295 1).bind fun t312 => (if t312 < 0 then (none) else ((laws_eqByteS.f k t297 t283).bind fun t313 => (if t313 = true then ((laws_markByteS.f k t297 1).bind fun bt314 => ((laws_heldByteS.f k bt314.2 1).bind fun t316 => (if t316 < 0 then (none) else (if t316 = bt314.1 then ((laws_toGap.f k l0_0 a0_1 a0_2 a0_3 a0_4 a0_5 a0_6).bind fun bt317 => ((impl_GapText.f k bt317.1 bt317.2.1 bt317.2.2.1 bt317.2.2.2.1 bt317.2.2.2.2.1 bt317.2.2.2.2.2.1 bt317.2.2.2.2.2.2).bind fun bt326 => ((laws_eqByteS.f k bt326.1 t283).bind fun t330 => (if t330 = true then (if (bt326.2 != t286) = true then (none) else ((laws_heldByteS.f k bt314.2 1).bind fun t331 => (if t331 < 0 then (none) else (if t331 = bt314.1 then (some true) else (none))))) else (none))))) else (none))))) else (none))))) else (none))))) else (none))) = some r := H
  have A10 := Aside0.mk A100
  clear A100
  replace H := Option.bind_eq_some_iff.mp H
  obtain ⟨t301, A110, H⟩ := H
  replace H : (if t301 = true then (if (t300 != t286) = true then (none) else ((laws_toGap.f k l0_0 a0_1 a0_2 a0_3 a0_4 a0_5 a0_6).bind fun bt302 => ((laws_eqGap.f k t287 t290 t291 t292 t293 t294 t295 bt302.1 bt302.2.1 bt302.2.2.1 bt302.2.2.2.1 bt302.2.2.2.2.1 bt302.2.2.2.2.2.1 bt302.2.2.2.2.2.2).bind fun t311 => (if t311 = true then ((laws_markGap.f k t287 t290 t291 t292 t293 t294 t295 1).bind fun t312 => (if t312 < 0 then (none) else ((laws_eqByteS.f k t297 t283).bind fun t313 => (if t313 = true then ((laws_markByteS.f k t297 1).bind fun bt314 => ((laws_heldByteS.f k bt314.2 1).bind fun t316 => (if t316 < 0 then (none) else (if t316 = bt314.1 then ((laws_toGap.f k l0_0 a0_1 a0_2 a0_3 a0_4 a0_5 a0_6).bind fun bt317 => ((impl_GapText.f k bt317.1 bt317.2.1 bt317.2.2.1 bt317.2.2.2.1 bt317.2.2.2.2.1 bt317.2.2.2.2.2.1 bt317.2.2.2.2.2.2).bind fun bt326 => ((laws_eqByteS.f k bt326.1 t283).bind fun t330 => (if t330 = true then (if (bt326.2 != t286) = true then (none) else ((laws_heldByteS.f k bt314.2 1).bind fun t331 => (if t331 < 0 then (none) else (if t331 = bt314.1 then (some true) else (none))))) else (none))))) else (none))))) else (none))))) else (none))))) else (none)) = some r := H
  have A11 := Aside0.mk A110
  clear A110
  by_cases c12 : t301 = true
  ·subst c12
   have H1 : (if (t300 != t286) = true then (none) else ((laws_toGap.f k l0_0 a0_1 a0_2 a0_3 a0_4 a0_5 a0_6).bind fun bt302 => ((laws_eqGap.f k t287 t290 t291 t292 t293 t294 t295 bt302.1 bt302.2.1 bt302.2.2.1 bt302.2.2.2.1 bt302.2.2.2.2.1 bt302.2.2.2.2.2.1 bt302.2.2.2.2.2.2).bind fun t311 => (if t311 = true then ((laws_markGap.f k t287 t290 t291 t292 t293 t294 t295 1).bind fun t312 => (if t312 < 0 then (none) else ((laws_eqByteS.f k t297 t283).bind fun t313 => (if t313 = true then ((laws_markByteS.f k t297 1).bind fun bt314 => ((laws_heldByteS.f k bt314.2 1).bind fun t316 => (if t316 < 0 then (none) else (if t316 = bt314.1 then ((laws_toGap.f k l0_0 a0_1 a0_2 a0_3 a0_4 a0_5 a0_6).bind fun bt317 => ((impl_GapText.f k bt317.1 bt317.2.1 bt317.2.2.1 bt317.2.2.2.1 bt317.2.2.2.2.1 bt317.2.2.2.2.2.1 bt317.2.2.2.2.2.2).bind fun bt326 => ((laws_eqByteS.f k bt326.1 t283).bind fun t330 => (if t330 = true then (if (bt326.2 != t286) = true then (none) else ((laws_heldByteS.f k bt314.2 1).bind fun t331 => (if t331 < 0 then (none) else (if t331 = bt314.1 then (some true) else (none))))) else (none))))) else (none))))) else (none))))) else (none))))) = some r := by rw [if_pos rfl] at H; exact H
   clear H
   have H := H1
   clear H1
   by_cases c13 : (t300 != t286) = true
   ·rw [if_pos c13] at H
    exact absurd H (by simp)
   ·rw [if_neg c13] at H
    have c13b0 : (t300 != t286) = false := by simpa using c13
    (try (have c13b1 : decide (t300 = t286) = true := by simpa using c13))
    (try (have c13b2 : (t300 == t286) = true := by simpa using c13))
    clear c13
    replace H := Option.bind_eq_some_iff.mp H
    obtain ⟨⟨t302, t305, t306, t307, t308, t309, t310⟩, A140, H⟩ := H
    replace H : ((laws_eqGap.f k t287 t290 t291 t292 t293 t294 t295 t302 t305 t306 t307 t308 t309 t310).bind fun t311 => (if t311 = true then ((laws_markGap.f k t287 t290 t291 t292 t293 t294 t295 1).bind fun t312 => (if t312 < 0 then (none) else ((laws_eqByteS.f k t297 t283).bind fun t313 => (if t313 = true then ((laws_markByteS.f k t297 1).bind fun bt314 => ((laws_heldByteS.f k bt314.2 1).bind fun t316 => (if t316 < 0 then (none) else (if t316 = bt314.1 then ((laws_toGap.f k l0_0 a0_1 a0_2 a0_3 a0_4 a0_5 a0_6).bind fun bt317 => ((impl_GapText.f k bt317.1 bt317.2.1 bt317.2.2.1 bt317.2.2.2.1 bt317.2.2.2.2.1 bt317.2.2.2.2.2.1 bt317.2.2.2.2.2.2).bind fun bt326 => ((laws_eqByteS.f k bt326.1 t283).bind fun t330 => (if t330 = true then (if (bt326.2 != t286) = true then (none) else ((laws_heldByteS.f k bt314.2 1).bind fun t331 => (if t331 < 0 then (none) else (if t331 = bt314.1 then (some true) else (none))))) else (none))))) else (none))))) else (none))))) else (none))) = some r := H
    have A14 := Aside0.mk A140
    clear A140
    replace H := Option.bind_eq_some_iff.mp H
    obtain ⟨t311, A150, H⟩ := H
    replace H : (if t311 = true then ((laws_markGap.f k t287 t290 t291 t292 t293 t294 t295 1).bind fun t312 => (if t312 < 0 then (none) else ((laws_eqByteS.f k t297 t283).bind fun t313 => (if t313 = true then ((laws_markByteS.f k t297 1).bind fun bt314 => ((laws_heldByteS.f k bt314.2 1).bind fun t316 => (if t316 < 0 then (none) else (if t316 = bt314.1 then ((laws_toGap.f k l0_0 a0_1 a0_2 a0_3 a0_4 a0_5 a0_6).bind fun bt317 => ((impl_GapText.f k bt317.1 bt317.2.1 bt317.2.2.1 bt317.2.2.2.1 bt317.2.2.2.2.1 bt317.2.2.2.2.2.1 bt317.2.2.2.2.2.2).bind fun bt326 => ((laws_eqByteS.f k bt326.1 t283).bind fun t330 => (if t330 = true then (if (bt326.2 != t286) = true then (none) else ((laws_heldByteS.f k bt314.2 1).bind fun t331 => (if t331 < 0 then (none) else (if t331 = bt314.1 then (some true) else (none))))) else (none))))) else (none))))) else (none))))) else (none)) = some r := H
    have A15 := Aside0.mk A150
    clear A150
    by_cases c16 : t311 = true
    ·subst c16
     have H1 : ((laws_markGap.f k t287 t290 t291 t292 t293 t294 t295 1).bind fun t312 => (if t312 < 0 then (none) else ((laws_eqByteS.f k t297 t283).bind fun t313 => (if t313 = true then ((laws_markByteS.f k t297 1).bind fun bt314 => ((laws_heldByteS.f k bt314.2 1).bind fun t316 => (if t316 < 0 then (none) else (if t316 = bt314.1 then ((laws_toGap.f k l0_0 a0_1 a0_2 a0_3 a0_4 a0_5 a0_6).bind fun bt317 => ((impl_GapText.f k bt317.1 bt317.2.1 bt317.2.2.1 bt317.2.2.2.1 bt317.2.2.2.2.1 bt317.2.2.2.2.2.1 bt317.2.2.2.2.2.2).bind fun bt326 => ((laws_eqByteS.f k bt326.1 t283).bind fun t330 => (if t330 = true then (if (bt326.2 != t286) = true then (none) else ((laws_heldByteS.f k bt314.2 1).bind fun t331 => (if t331 < 0 then (none) else (if t331 = bt314.1 then (some true) else (none))))) else (none))))) else (none))))) else (none))))) = some r := by rw [if_pos rfl] at H; exact H
     clear H
     have H := H1
     clear H1
     replace H := Option.bind_eq_some_iff.mp H
     obtain ⟨t312, A170, H⟩ := H
     replace H : (if t312 < 0 then (none) else ((laws_eqByteS.f k t297 t283).bind fun t313 => (if t313 = true then ((laws_markByteS.f k t297 1).bind fun bt314 => ((laws_heldByteS.f k bt314.2 1).bind fun t316 => (if t316 < 0 then (none) else (if t316 = bt314.1 then ((laws_toGap.f k l0_0 a0_1 a0_2 a0_3 a0_4 a0_5 a0_6).bind fun bt317 => ((impl_GapText.f k bt317.1 bt317.2.1 bt317.2.2.1 bt317.2.2.2.1 bt317.2.2.2.2.1 bt317.2.2.2.2.2.1 bt317.2.2.2.2.2.2).bind fun bt326 => ((laws_eqByteS.f k bt326.1 t283).bind fun t330 => (if t330 = true then (if (bt326.2 != t286) = true then (none) else ((laws_heldByteS.f k bt314.2 1).bind fun t331 => (if t331 < 0 then (none) else (if t331 = bt314.1 then (some true) else (none))))) else (none))))) else (none))))) else (none)))) = some r := H
     have A17 := Aside0.mk A170
     clear A170
     by_cases c18 : t312 < 0
     ·rw [if_pos c18] at H
      exact absurd H (by simp)
     ·rw [if_neg c18] at H
      have c18b0 : decide (t312 < 0) = false := decide_eq_false c18
      clear c18
      replace H := Option.bind_eq_some_iff.mp H
      obtain ⟨t313, A190, H⟩ := H
      replace H : (if t313 = true then ((laws_markByteS.f k t297 1).bind fun bt314 => ((laws_heldByteS.f k bt314.2 1).bind fun t316 => (if t316 < 0 then (none) else (if t316 = bt314.1 then ((laws_toGap.f k l0_0 a0_1 a0_2 a0_3 a0_4 a0_5 a0_6).bind fun bt317 => ((impl_GapText.f k bt317.1 bt317.2.1 bt317.2.2.1 bt317.2.2.2.1 bt317.2.2.2.2.1 bt317.2.2.2.2.2.1 bt317.2.2.2.2.2.2).bind fun bt326 => ((laws_eqByteS.f k bt326.1 t283).bind fun t330 => (if t330 = true then (if (bt326.2 != t286) = true then (none) else ((laws_heldByteS.f k bt314.2 1).bind fun t331 => (if t331 < 0 then (none) else (if t331 = bt314.1 then (some true) else (none))))) else (none))))) else (none))))) else (none)) = some r := H
      have A19 := Aside0.mk A190
      clear A190
      by_cases c20 : t313 = true
      ·subst c20
       have H1 : ((laws_markByteS.f k t297 1).bind fun bt314 => ((laws_heldByteS.f k bt314.2 1).bind fun t316 => (if t316 < 0 then (none) else (if t316 = bt314.1 then ((laws_toGap.f k l0_0 a0_1 a0_2 a0_3 a0_4 a0_5 a0_6).bind fun bt317 => ((impl_GapText.f k bt317.1 bt317.2.1 bt317.2.2.1 bt317.2.2.2.1 bt317.2.2.2.2.1 bt317.2.2.2.2.2.1 bt317.2.2.2.2.2.2).bind fun bt326 => ((laws_eqByteS.f k bt326.1 t283).bind fun t330 => (if t330 = true then (if (bt326.2 != t286) = true then (none) else ((laws_heldByteS.f k bt314.2 1).bind fun t331 => (if t331 < 0 then (none) else (if t331 = bt314.1 then (some true) else (none))))) else (none))))) else (none))))) = some r := by rw [if_pos rfl] at H; exact H
       clear H
       have H := H1
       clear H1
       replace H := Option.bind_eq_some_iff.mp H
       obtain ⟨⟨t314, t315⟩, A210, H⟩ := H
       replace H : ((laws_heldByteS.f k t315 1).bind fun t316 => (if t316 < 0 then (none) else (if t316 = t314 then ((laws_toGap.f k l0_0 a0_1 a0_2 a0_3 a0_4 a0_5 a0_6).bind fun bt317 => ((impl_GapText.f k bt317.1 bt317.2.1 bt317.2.2.1 bt317.2.2.2.1 bt317.2.2.2.2.1 bt317.2.2.2.2.2.1 bt317.2.2.2.2.2.2).bind fun bt326 => ((laws_eqByteS.f k bt326.1 t283).bind fun t330 => (if t330 = true then (if (bt326.2 != t286) = true then (none) else ((laws_heldByteS.f k t315 1).bind fun t331 => (if t331 < 0 then (none) else (if t331 = t314 then (some true) else (none))))) else (none))))) else (none)))) = some r := H
       have A21 := Aside0.mk A210
       clear A210
       replace H := Option.bind_eq_some_iff.mp H
       obtain ⟨t316, A220, H⟩ := H
       replace H : (if t316 < 0 then (none) else (if t316 = t314 then ((laws_toGap.f k l0_0 a0_1 a0_2 a0_3 a0_4 a0_5 a0_6).bind fun bt317 => ((impl_GapText.f k bt317.1 bt317.2.1 bt317.2.2.1 bt317.2.2.2.1 bt317.2.2.2.2.1 bt317.2.2.2.2.2.1 bt317.2.2.2.2.2.2).bind fun bt326 => ((laws_eqByteS.f k bt326.1 t283).bind fun t330 => (if t330 = true then (if (bt326.2 != t286) = true then (none) else ((laws_heldByteS.f k t315 1).bind fun t331 => (if t331 < 0 then (none) else (if t331 = t314 then (some true) else (none))))) else (none))))) else (none))) = some r := H
       have A22 := Aside0.mk A220
       clear A220
       by_cases c23 : t316 < 0
       ·rw [if_pos c23] at H
        exact absurd H (by simp)
       ·rw [if_neg c23] at H
        have c23b0 : decide (t316 < 0) = false := decide_eq_false c23
        clear c23
        by_cases c24 : t316 = t314
        ·rw [if_pos c24] at H
         have c24b0 : (t316 == t314) = true := beq_iff_eq.mpr c24
         have c24b1 : (t316 != t314) = false := bne_eq_false_iff_eq.mpr c24
         clear c24
         replace H := Option.bind_eq_some_iff.mp H
         obtain ⟨⟨t317, t320, t321, t322, t323, t324, t325⟩, A250, H⟩ := H
         replace H : ((impl_GapText.f k t317 t320 t321 t322 t323 t324 t325).bind fun bt326 => ((laws_eqByteS.f k bt326.1 t283).bind fun t330 => (if t330 = true then (if (bt326.2 != t286) = true then (none) else ((laws_heldByteS.f k t315 1).bind fun t331 => (if t331 < 0 then (none) else (if t331 = t314 then (some true) else (none))))) else (none)))) = some r := H
         have A25 := Aside0.mk A250
         clear A250
         replace H := Option.bind_eq_some_iff.mp H
         obtain ⟨⟨t326, t329⟩, A260, H⟩ := H
         replace H : ((laws_eqByteS.f k t326 t283).bind fun t330 => (if t330 = true then (if (t329 != t286) = true then (none) else ((laws_heldByteS.f k t315 1).bind fun t331 => (if t331 < 0 then (none) else (if t331 = t314 then (some true) else (none))))) else (none))) = some r := H
         have A26 := Aside0.mk A260
         clear A260
         replace H := Option.bind_eq_some_iff.mp H
         obtain ⟨t330, A270, H⟩ := H
         replace H : (if t330 = true then (if (t329 != t286) = true then (none) else ((laws_heldByteS.f k t315 1).bind fun t331 => (if t331 < 0 then (none) else (if t331 = t314 then (some true) else (none))))) else (none)) = some r := H
         have A27 := Aside0.mk A270
         clear A270
         by_cases c28 : t330 = true
         ·subst c28
          have H1 : (if (t329 != t286) = true then (none) else ((laws_heldByteS.f k t315 1).bind fun t331 => (if t331 < 0 then (none) else (if t331 = t314 then (some true) else (none))))) = some r := by rw [if_pos rfl] at H; exact H
          clear H
          have H := H1
          clear H1
          by_cases c29 : (t329 != t286) = true
          ·rw [if_pos c29] at H
           exact absurd H (by simp)
          ·rw [if_neg c29] at H
           have c29b0 : (t329 != t286) = false := by simpa using c29
           (try (have c29b1 : decide (t329 = t286) = true := by simpa using c29))
           (try (have c29b2 : (t329 == t286) = true := by simpa using c29))
           clear c29
           replace H := Option.bind_eq_some_iff.mp H
           obtain ⟨t331, A300, H⟩ := H
           replace H : (if t331 < 0 then (none) else (if t331 = t314 then (some true) else (none))) = some r := H
           have A30 := Aside0.mk A300
           clear A300
           by_cases c31 : t331 < 0
           ·rw [if_pos c31] at H
            exact absurd H (by simp)
           ·rw [if_neg c31] at H
            have c31b0 : decide (t331 < 0) = false := decide_eq_false c31
            clear c31
            by_cases c32 : t331 = t314
            ·rw [if_pos c32] at H
             have c32b0 : (t331 == t314) = true := beq_iff_eq.mpr c32
             have c32b1 : (t331 != t314) = false := bne_eq_false_iff_eq.mpr c32
             clear c32
             obtain rfl := Option.some.inj H
             go_enter Try.func12, Try.ntmps12
             try go_wp2_with (first | ((with_reducible refine gate_dst (N := 1) rfl ?_); refine box_event ?hg (N := 1) ?hd (cs := #[.slice A0_0 l0_0.length c0_0, .int .i64 a0_1, .int .i64 a0_2, .int .i64 a0_3, .int .i64 a0_4, .int .i64 a0_5, .int .i64 a0_6]) (t := 84) ?hr ?_; (case hd => rfl); (case hg => rfl); (case hr => first | (go_simp; done) | (go_simp; rfl)); intro gb272 hg w33 hbox hb; have BK272 := Aside0.mk (hbox); have GW272 := zge HB hg; have GE272 := zge HB hg; replace HB := zhs HB hb; clear hb hbox hg; have hcz34_0 : w33.cell? ⟨gb272, 0, none⟩ = some (.slice A0_0 l0_0.length c0_0) := zc0 BK272 0 rfl; have hcz34_1 : w33.cell? ⟨gb272, 1, none⟩ = some (.int .i64 a0_1) := zc0 BK272 1 rfl; have hcz34_2 : w33.cell? ⟨gb272, 2, none⟩ = some (.int .i64 a0_2) := zc0 BK272 2 rfl; have hcz34_3 : w33.cell? ⟨gb272, 3, none⟩ = some (.int .i64 a0_3) := zc0 BK272 3 rfl; have hcz34_4 : w33.cell? ⟨gb272, 4, none⟩ = some (.int .i64 a0_4) := zc0 BK272 4 rfl; have hcz34_5 : w33.cell? ⟨gb272, 5, none⟩ = some (.int .i64 a0_5) := zc0 BK272 5 rfl; have hcz34_6 : w33.cell? ⟨gb272, 6, none⟩ = some (.int .i64 a0_6) := zc0 BK272 6 rfl; have hfz34_0 := blk_frozen BK272.out 0; have hfz34_1 := blk_frozen BK272.out 1; have hfz34_2 := blk_frozen BK272.out 2; have hfz34_3 := blk_frozen BK272.out 3; have hfz34_4 := blk_frozen BK272.out 4; have hfz34_5 := blk_frozen BK272.out 5; have hfz34_6 := blk_frozen BK272.out 6) | ((with_reducible refine gate_callee (f := 56) rfl ?_); refine goesL_ (some 16) rfl rfl Try.func56 (by kernel_rfl) rfl #[.agg #[.slice A0_0 l0_0.length c0_0, .int .i64 a0_1, .int .i64 a0_2, .int .i64 a0_3, .int .i64 a0_4, .int .i64 a0_5, .int .i64 a0_6], .int .i64 1048576] rfl (by (try simp only [List.map_toArray, List.map_cons, List.map_nil]); first | done | rfl | (simp only [List.length_drop, List.length_take]; rfl)) ?_; (with_reducible refine (laws_szGap.calls k _ _ l0_0 a0_1 a0_2 a0_3 a0_4 a0_5 a0_6 1048576 t273 _ ?side1 ?side2 A2.out).mono ?_); (case side1 => repeat (first | exact (Kd.C_below HR0_0.out HB.out) | (with_reducible refine Kd.C_alloc ?_ _) | (with_reducible refine Kd.C_drewN ?_ _) | (with_reducible refine Kd.C_drew ?_))); (case side2 => exact HC0_0.out); rintro e w35 ⟨rfl, hb⟩; refine ⟨_, rfl, ?_⟩; replace BK272 := Aside0.mk (blk_below (g := gb272) (o := .cells #[.slice A0_0 l0_0.length c0_0, .int .i64 a0_1, .int .i64 a0_2, .int .i64 a0_3, .int .i64 a0_4, .int .i64 a0_5, .int .i64 a0_6] 84 (0, 0)) (by (with_reducible repeat (first | refine blk_drewN ?_ _ | refine blk_drew ?_ | refine blk_alloc ?_ _)); exact BK272.out) hb); replace HB := zhs HB hb; (try clear hb); (try clear hb2); (try clear hk); (try clear hi); have hcz36_0 : w35.cell? ⟨gb272, 0, none⟩ = some (.slice A0_0 l0_0.length c0_0) := zc0 BK272 0 rfl; have hcz36_1 : w35.cell? ⟨gb272, 1, none⟩ = some (.int .i64 a0_1) := zc0 BK272 1 rfl; have hcz36_2 : w35.cell? ⟨gb272, 2, none⟩ = some (.int .i64 a0_2) := zc0 BK272 2 rfl; have hcz36_3 : w35.cell? ⟨gb272, 3, none⟩ = some (.int .i64 a0_3) := zc0 BK272 3 rfl; have hcz36_4 : w35.cell? ⟨gb272, 4, none⟩ = some (.int .i64 a0_4) := zc0 BK272 4 rfl; have hcz36_5 : w35.cell? ⟨gb272, 5, none⟩ = some (.int .i64 a0_5) := zc0 BK272 5 rfl; have hcz36_6 : w35.cell? ⟨gb272, 6, none⟩ = some (.int .i64 a0_6) := zc0 BK272 6 rfl; have hfz36_0 := blk_frozen BK272.out 0; have hfz36_1 := blk_frozen BK272.out 1; have hfz36_2 := blk_frozen BK272.out 2; have hfz36_3 := blk_frozen BK272.out 3; have hfz36_4 := blk_frozen BK272.out 4; have hfz36_5 := blk_frozen BK272.out 5; have hfz36_6 := blk_frozen BK272.out 6) | ((with_reducible refine gate_callee (f := 58) rfl ?_); refine goesL_ (some 21) rfl rfl Try.func58 (by kernel_rfl) rfl #[.agg #[.slice A0_0 l0_0.length c0_0, .int .i64 a0_1, .int .i64 a0_2, .int .i64 a0_3, .int .i64 a0_4, .int .i64 a0_5, .int .i64 a0_6]] rfl (by (try simp only [List.map_toArray, List.map_cons, List.map_nil]); first | done | rfl | (simp only [List.length_drop, List.length_take]; rfl)) ?_; (with_reducible refine (laws_toGap.calls k _ _ l0_0 a0_1 a0_2 a0_3 a0_4 a0_5 a0_6 t274 t277 t278 t279 t280 t281 t282 _ ?side1 ?side2 A7.out).mono ?_); (case side1 => repeat (first | exact (Kd.C_below HR0_0.out HB.out) | (with_reducible refine Kd.C_alloc ?_ _) | (with_reducible refine Kd.C_drewN ?_ _) | (with_reducible refine Kd.C_drew ?_))); (case side2 => exact HC0_0.out); rintro e w37 ⟨v275, rfl, ho0, hb⟩; refine ⟨_, rfl, ?_⟩; have HO276 := Aside0.mk (Kd.S_lower ho0 (below_size (zh0 HB))); replace BK272 := Aside0.mk (blk_below (g := gb272) (o := .cells #[.slice A0_0 l0_0.length c0_0, .int .i64 a0_1, .int .i64 a0_2, .int .i64 a0_3, .int .i64 a0_4, .int .i64 a0_5, .int .i64 a0_6] 84 (0, 0)) (by (with_reducible repeat (first | refine blk_drewN ?_ _ | refine blk_drew ?_ | refine blk_alloc ?_ _)); exact BK272.out) hb); replace HB := zhs HB hb; (try clear hb); (try clear hb2); (try clear hk); (try clear hi); (try clear ho0); obtain ⟨Ao38, co38, eo38⟩ := Kd.S_slice HO276.out; subst eo38) | ((with_reducible refine gate_callee (f := 57) rfl ?_); refine goesL_ (some 22) rfl rfl Try.func57 (by kernel_rfl) rfl #[.agg #[.slice Ao38 t274.length co38, .int .i64 t277, .int .i64 t278, .int .i64 t279, .int .i64 t280, .int .i64 t281, .int .i64 t282]] rfl (by (try simp only [List.map_toArray, List.map_cons, List.map_nil]); first | done | rfl | (simp only [List.length_drop, List.length_take]; rfl)) ?_; (with_reducible refine (spec_GapText.calls k _ _ t274 t277 t278 t279 t280 t281 t282 t283 t286 _ ?side1 ?side2 A8.out).mono ?_); (case side1 => repeat (first | exact (Kd.S_reads' HO276.out).2.2 | (with_reducible refine Kd.C_alloc ?_ _) | (with_reducible refine Kd.C_drewN ?_ _) | (with_reducible refine Kd.C_drew ?_))); (case side2 => exact (Kd.S_reads' HO276.out).2.1); rintro e w39 ⟨v284, rfl, ho0, hb⟩; refine ⟨_, rfl, ?_⟩; have HO285 := Aside0.mk (Kd.R_lower ho0 (below_size (zh0 HB))); replace HO276 := Aside0.mk (Kd.S_elder' (zs0 HO276) (Kd.R_base ho0) hb); replace BK272 := Aside0.mk (blk_below (g := gb272) (o := .cells #[.slice A0_0 l0_0.length c0_0, .int .i64 a0_1, .int .i64 a0_2, .int .i64 a0_3, .int .i64 a0_4, .int .i64 a0_5, .int .i64 a0_6] 84 (0, 0)) (by (with_reducible repeat (first | refine blk_drewN ?_ _ | refine blk_drew ?_ | refine blk_alloc ?_ _)); exact BK272.out) hb); replace HB := zhs HB hb; (try clear hb); (try clear hb2); (try clear hk); (try clear hi); (try clear ho0); have hcz40_0 : w39.cell? ⟨gb272, 0, none⟩ = some (.slice A0_0 l0_0.length c0_0) := zc0 BK272 0 rfl; have hcz40_1 : w39.cell? ⟨gb272, 1, none⟩ = some (.int .i64 a0_1) := zc0 BK272 1 rfl; have hcz40_2 : w39.cell? ⟨gb272, 2, none⟩ = some (.int .i64 a0_2) := zc0 BK272 2 rfl; have hcz40_3 : w39.cell? ⟨gb272, 3, none⟩ = some (.int .i64 a0_3) := zc0 BK272 3 rfl; have hcz40_4 : w39.cell? ⟨gb272, 4, none⟩ = some (.int .i64 a0_4) := zc0 BK272 4 rfl; have hcz40_5 : w39.cell? ⟨gb272, 5, none⟩ = some (.int .i64 a0_5) := zc0 BK272 5 rfl; have hcz40_6 : w39.cell? ⟨gb272, 6, none⟩ = some (.int .i64 a0_6) := zc0 BK272 6 rfl; have hfz40_0 := blk_frozen BK272.out 0; have hfz40_1 := blk_frozen BK272.out 1; have hfz40_2 := blk_frozen BK272.out 2; have hfz40_3 := blk_frozen BK272.out 3; have hfz40_4 := blk_frozen BK272.out 4; have hfz40_5 := blk_frozen BK272.out 5; have hfz40_6 := blk_frozen BK272.out 6) | ((with_reducible refine gate_callee (f := 58) rfl ?_); refine goesL_ (some 26) rfl rfl Try.func58 (by kernel_rfl) rfl #[.agg #[.slice A0_0 l0_0.length c0_0, .int .i64 a0_1, .int .i64 a0_2, .int .i64 a0_3, .int .i64 a0_4, .int .i64 a0_5, .int .i64 a0_6]] rfl (by (try simp only [List.map_toArray, List.map_cons, List.map_nil]); first | done | rfl | (simp only [List.length_drop, List.length_take]; rfl)) ?_; (with_reducible refine (laws_toGap.calls k _ _ l0_0 a0_1 a0_2 a0_3 a0_4 a0_5 a0_6 t287 t290 t291 t292 t293 t294 t295 _ ?side1 ?side2 A9.out).mono ?_); (case side1 => repeat (first | exact (Kd.C_below HR0_0.out HB.out) | (with_reducible refine Kd.C_alloc ?_ _) | (with_reducible refine Kd.C_drewN ?_ _) | (with_reducible refine Kd.C_drew ?_))); (case side2 => exact HC0_0.out); rintro e w41 ⟨v288, rfl, ho0, hb⟩; refine ⟨_, rfl, ?_⟩; have HO289 := Aside0.mk (Kd.S_lower (Kd.S_new' (Kd.S_new' ho0 (Kd.S_lt (zs0 HO276))) (Kd.R_lt (zr0 HO285))) (below_size (zh0 HB))); replace HO276 := Aside0.mk (Kd.S_elder' (zs0 HO276) (Kd.S_base ho0) hb); replace HO285 := zrb HO285 hb; replace BK272 := Aside0.mk (blk_below (g := gb272) (o := .cells #[.slice A0_0 l0_0.length c0_0, .int .i64 a0_1, .int .i64 a0_2, .int .i64 a0_3, .int .i64 a0_4, .int .i64 a0_5, .int .i64 a0_6] 84 (0, 0)) (by (with_reducible repeat (first | refine blk_drewN ?_ _ | refine blk_drew ?_ | refine blk_alloc ?_ _)); exact BK272.out) hb); replace HB := zhs HB hb; (try clear hb); (try clear hb2); (try clear hk); (try clear hi); (try clear ho0)) | ((with_reducible refine gate_dst (N := 6) rfl ?_); refine box_event ?hg (N := 6) ?hd (cs := #[.slice none 0 0, .int .i64 0, .int .i64 0, .int .i64 0, .int .i64 0, .int .i64 0, .int .i64 0]) (t := 88) ?hr ?_; (case hd => rfl); (case hg => rfl); (case hr => first | (go_simp; done) | (go_simp; rfl)); intro gb296 hg w42 hbox hb; have BK296 := Aside0.mk (hbox); have GW296 := zge HB hg; have GE296 := zge HB hg; have NB272_296 := Aside0.mk ((by rw [hg]; exact Nat.ne_of_lt (blk_lt (g := gb272) (o := .cells #[.slice A0_0 l0_0.length c0_0, .int .i64 a0_1, .int .i64 a0_2, .int .i64 a0_3, .int .i64 a0_4, .int .i64 a0_5, .int .i64 a0_6] 84 (0, 0)) (by (with_reducible repeat (first | refine blk_drewN ?_ _ | refine blk_drew ?_ | refine blk_alloc ?_ _)); exact BK272.out)) : gb272 ≠ gb296)); have NB296_272 := Aside0.mk ((by rw [hg]; exact Nat.ne_of_gt (blk_lt (g := gb272) (o := .cells #[.slice A0_0 l0_0.length c0_0, .int .i64 a0_1, .int .i64 a0_2, .int .i64 a0_3, .int .i64 a0_4, .int .i64 a0_5, .int .i64 a0_6] 84 (0, 0)) (by (with_reducible repeat (first | refine blk_drewN ?_ _ | refine blk_drew ?_ | refine blk_alloc ?_ _)); exact BK272.out)) : gb296 ≠ gb272)); replace HO276 := zsb HO276 hb; replace HO285 := zrb HO285 hb; replace HO289 := zsb HO289 hb; replace BK272 := Aside0.mk (blk_below (g := gb272) (o := .cells #[.slice A0_0 l0_0.length c0_0, .int .i64 a0_1, .int .i64 a0_2, .int .i64 a0_3, .int .i64 a0_4, .int .i64 a0_5, .int .i64 a0_6] 84 (0, 0)) (by (with_reducible repeat (first | refine blk_drewN ?_ _ | refine blk_drew ?_ | refine blk_alloc ?_ _)); exact BK272.out) hb); replace HB := zhs HB hb; clear hb hbox hg; obtain ⟨Ao43, co43, eo43⟩ := Kd.S_slice HO289.out; subst eo43; have hnb44 := NB296_272.out; have hnc44 := NB272_296.out; have hcz45_0 : w42.cell? ⟨gb296, 0, none⟩ = some (.slice none 0 0) := zc0 BK296 0 rfl; have hcz45_1 : w42.cell? ⟨gb296, 1, none⟩ = some (.int .i64 0) := zc0 BK296 1 rfl; have hcz45_2 : w42.cell? ⟨gb296, 2, none⟩ = some (.int .i64 0) := zc0 BK296 2 rfl; have hcz45_3 : w42.cell? ⟨gb296, 3, none⟩ = some (.int .i64 0) := zc0 BK296 3 rfl; have hcz45_4 : w42.cell? ⟨gb296, 4, none⟩ = some (.int .i64 0) := zc0 BK296 4 rfl; have hcz45_5 : w42.cell? ⟨gb296, 5, none⟩ = some (.int .i64 0) := zc0 BK296 5 rfl; have hcz45_6 : w42.cell? ⟨gb296, 6, none⟩ = some (.int .i64 0) := zc0 BK296 6 rfl; have hfz45_0 := blk_frozen BK296.out 0; have hfz45_1 := blk_frozen BK296.out 1; have hfz45_2 := blk_frozen BK296.out 2; have hfz45_3 := blk_frozen BK296.out 3; have hfz45_4 := blk_frozen BK296.out 4; have hfz45_5 := blk_frozen BK296.out 5; have hfz45_6 := blk_frozen BK296.out 6) | ((with_reducible refine gate_callee (f := 59) rfl ?_); refine goesL_ (some 29) rfl rfl Try.func59 (by kernel_rfl) rfl #[.agg #[.slice Ao43 t287.length co43, .int .i64 t290, .int .i64 t291, .int .i64 t292, .int .i64 t293, .int .i64 t294, .int .i64 t295]] rfl (by (try simp only [List.map_toArray, List.map_cons, List.map_nil]); first | done | rfl | (simp only [List.length_drop, List.length_take]; rfl)) ?_; (with_reducible refine (impl_GapText.calls k _ _ t287 t290 t291 t292 t293 t294 t295 t297 t300 _ ?side1 ?side2 A10.out).mono ?_); (case side1 => refine (Kd.S_reads' (e := 74) (base := w.heap.size) (ok := fun k_ => ((True ∧ some k_ ≠ (.slice Ao38 t274.length co38 : Value).ownBlock) ∧ some k_ ≠ (v284 : Value).ownBlock)) (n := t287.length) (c := co43) ?_).2.2; exact (by (with_reducible repeat (first | apply Kd.S_alloc | apply Kd.S_drewN | apply Kd.S_drew)); exact (Kd.S_mono (Kd.S_far (p := ⟨gb296, 6, none⟩) (Kd.S_far (p := ⟨gb296, 5, none⟩) (Kd.S_far (p := ⟨gb296, 4, none⟩) (Kd.S_far (p := ⟨gb296, 3, none⟩) (Kd.S_far (p := ⟨gb296, 2, none⟩) (Kd.S_far (p := ⟨gb296, 1, none⟩) (Kd.S_far (p := ⟨gb296, 0, none⟩) (Kd.S_types HO289.out BK296.out (by decide)) (fun _ hk => hk.2) (.slice Ao43 t287.length co43)) (fun _ hk => hk.2) (.int .i64 t290)) (fun _ hk => hk.2) (.int .i64 t291)) (fun _ hk => hk.2) (.int .i64 t292)) (fun _ hk => hk.2) (.int .i64 t293)) (fun _ hk => hk.2) (.int .i64 t294)) (fun _ hk => hk.2) (.int .i64 t295)) (fun _ h_ => h_.1)))); (case side2 => exact (Kd.S_reads' HO289.out).2.1); rintro e w46 ⟨v298, rfl, ho0, hb⟩; refine ⟨_, rfl, ?_⟩; have HO299 := Aside0.mk (Kd.R_lower (Kd.R_new' ho0 (Kd.R_lt (by (with_reducible repeat (first | apply Kd.R_alloc | apply Kd.R_drewN | apply Kd.R_drew)); exact (Kd.R_mono (Kd.R_far (p := ⟨gb296, 6, none⟩) (Kd.R_far (p := ⟨gb296, 5, none⟩) (Kd.R_far (p := ⟨gb296, 4, none⟩) (Kd.R_far (p := ⟨gb296, 3, none⟩) (Kd.R_far (p := ⟨gb296, 2, none⟩) (Kd.R_far (p := ⟨gb296, 1, none⟩) (Kd.R_far (p := ⟨gb296, 0, none⟩) (Kd.R_types HO285.out BK296.out (by decide)) (fun _ hk => hk.2) (.slice Ao43 t287.length co43)) (fun _ hk => hk.2) (.int .i64 t290)) (fun _ hk => hk.2) (.int .i64 t291)) (fun _ hk => hk.2) (.int .i64 t292)) (fun _ hk => hk.2) (.int .i64 t293)) (fun _ hk => hk.2) (.int .i64 t294)) (fun _ hk => hk.2) (.int .i64 t295)) (fun _ h_ => h_.1))))) (below_size (by repeat (first | (with_reducible first | exact HB.out | apply below_alloc | apply pw_below_drewN | apply below_drew1 | refine below_set ?_ GE272.out | refine below_set ?_ GE296.out) | exact HB.out)))); replace HO276 := Aside0.mk (Kd.S_elder' (by (with_reducible repeat (first | apply Kd.S_alloc | apply Kd.S_drewN | apply Kd.S_drew)); exact (Kd.S_mono (Kd.S_far (p := ⟨gb296, 6, none⟩) (Kd.S_far (p := ⟨gb296, 5, none⟩) (Kd.S_far (p := ⟨gb296, 4, none⟩) (Kd.S_far (p := ⟨gb296, 3, none⟩) (Kd.S_far (p := ⟨gb296, 2, none⟩) (Kd.S_far (p := ⟨gb296, 1, none⟩) (Kd.S_far (p := ⟨gb296, 0, none⟩) (Kd.S_types HO276.out BK296.out (by decide)) (fun _ hk => hk.2) (.slice Ao43 t287.length co43)) (fun _ hk => hk.2) (.int .i64 t290)) (fun _ hk => hk.2) (.int .i64 t291)) (fun _ hk => hk.2) (.int .i64 t292)) (fun _ hk => hk.2) (.int .i64 t293)) (fun _ hk => hk.2) (.int .i64 t294)) (fun _ hk => hk.2) (.int .i64 t295)) (fun _ h_ => h_.1))) (Kd.R_base ho0) hb); replace HO285 := Aside0.mk (Kd.R_elder' (by (with_reducible repeat (first | apply Kd.R_alloc | apply Kd.R_drewN | apply Kd.R_drew)); exact (Kd.R_mono (Kd.R_far (p := ⟨gb296, 6, none⟩) (Kd.R_far (p := ⟨gb296, 5, none⟩) (Kd.R_far (p := ⟨gb296, 4, none⟩) (Kd.R_far (p := ⟨gb296, 3, none⟩) (Kd.R_far (p := ⟨gb296, 2, none⟩) (Kd.R_far (p := ⟨gb296, 1, none⟩) (Kd.R_far (p := ⟨gb296, 0, none⟩) (Kd.R_types HO285.out BK296.out (by decide)) (fun _ hk => hk.2) (.slice Ao43 t287.length co43)) (fun _ hk => hk.2) (.int .i64 t290)) (fun _ hk => hk.2) (.int .i64 t291)) (fun _ hk => hk.2) (.int .i64 t292)) (fun _ hk => hk.2) (.int .i64 t293)) (fun _ hk => hk.2) (.int .i64 t294)) (fun _ hk => hk.2) (.int .i64 t295)) (fun _ h_ => h_.1))) (Kd.R_base ho0) hb); replace HO289 := Aside0.mk (Kd.S_elder' (by (with_reducible repeat (first | apply Kd.S_alloc | apply Kd.S_drewN | apply Kd.S_drew)); exact (Kd.S_mono (Kd.S_far (p := ⟨gb296, 6, none⟩) (Kd.S_far (p := ⟨gb296, 5, none⟩) (Kd.S_far (p := ⟨gb296, 4, none⟩) (Kd.S_far (p := ⟨gb296, 3, none⟩) (Kd.S_far (p := ⟨gb296, 2, none⟩) (Kd.S_far (p := ⟨gb296, 1, none⟩) (Kd.S_far (p := ⟨gb296, 0, none⟩) (Kd.S_types HO289.out BK296.out (by decide)) (fun _ hk => hk.2) (.slice Ao43 t287.length co43)) (fun _ hk => hk.2) (.int .i64 t290)) (fun _ hk => hk.2) (.int .i64 t291)) (fun _ hk => hk.2) (.int .i64 t292)) (fun _ hk => hk.2) (.int .i64 t293)) (fun _ hk => hk.2) (.int .i64 t294)) (fun _ hk => hk.2) (.int .i64 t295)) (fun _ h_ => h_.1))) (Kd.R_base ho0) hb); replace BK272 := Aside0.mk (blk_below (g := gb272) (o := .cells #[.slice A0_0 l0_0.length c0_0, .int .i64 a0_1, .int .i64 a0_2, .int .i64 a0_3, .int .i64 a0_4, .int .i64 a0_5, .int .i64 a0_6] 84 (0, 0)) (by (with_reducible repeat (first | refine blk_drewN ?_ _ | refine blk_drew ?_ | refine blk_alloc ?_ _)); refine blk_far ?_ NB272_296.out _; (with_reducible repeat (first | refine blk_drewN ?_ _ | refine blk_drew ?_ | refine blk_alloc ?_ _)); refine blk_far ?_ NB272_296.out _; (with_reducible repeat (first | refine blk_drewN ?_ _ | refine blk_drew ?_ | refine blk_alloc ?_ _)); refine blk_far ?_ NB272_296.out _; (with_reducible repeat (first | refine blk_drewN ?_ _ | refine blk_drew ?_ | refine blk_alloc ?_ _)); refine blk_far ?_ NB272_296.out _; (with_reducible repeat (first | refine blk_drewN ?_ _ | refine blk_drew ?_ | refine blk_alloc ?_ _)); refine blk_far ?_ NB272_296.out _; (with_reducible repeat (first | refine blk_drewN ?_ _ | refine blk_drew ?_ | refine blk_alloc ?_ _)); refine blk_far ?_ NB272_296.out _; (with_reducible repeat (first | refine blk_drewN ?_ _ | refine blk_drew ?_ | refine blk_alloc ?_ _)); refine blk_far ?_ NB272_296.out _; (with_reducible repeat (first | refine blk_drewN ?_ _ | refine blk_drew ?_ | refine blk_alloc ?_ _)); exact BK272.out) hb); replace BK296 := Aside0.mk (blk_below (g := gb296) (o := .cells #[.slice Ao43 t287.length co43, .int .i64 t290, .int .i64 t291, .int .i64 t292, .int .i64 t293, .int .i64 t294, .int .i64 t295] 88 (0, 0)) (by (with_reducible repeat (first | refine blk_drewN ?_ _ | refine blk_drew ?_ | refine blk_alloc ?_ _)); refine blk_put (cs := #[.slice Ao43 t287.length co43, .int .i64 t290, .int .i64 t291, .int .i64 t292, .int .i64 t293, .int .i64 t294, .int .i64 0]) ?_ 6 _ rfl; (with_reducible repeat (first | refine blk_drewN ?_ _ | refine blk_drew ?_ | refine blk_alloc ?_ _)); refine blk_put (cs := #[.slice Ao43 t287.length co43, .int .i64 t290, .int .i64 t291, .int .i64 t292, .int .i64 t293, .int .i64 0, .int .i64 0]) ?_ 5 _ rfl; (with_reducible repeat (first | refine blk_drewN ?_ _ | refine blk_drew ?_ | refine blk_alloc ?_ _)); refine blk_put (cs := #[.slice Ao43 t287.length co43, .int .i64 t290, .int .i64 t291, .int .i64 t292, .int .i64 0, .int .i64 0, .int .i64 0]) ?_ 4 _ rfl; (with_reducible repeat (first | refine blk_drewN ?_ _ | refine blk_drew ?_ | refine blk_alloc ?_ _)); refine blk_put (cs := #[.slice Ao43 t287.length co43, .int .i64 t290, .int .i64 t291, .int .i64 0, .int .i64 0, .int .i64 0, .int .i64 0]) ?_ 3 _ rfl; (with_reducible repeat (first | refine blk_drewN ?_ _ | refine blk_drew ?_ | refine blk_alloc ?_ _)); refine blk_put (cs := #[.slice Ao43 t287.length co43, .int .i64 t290, .int .i64 0, .int .i64 0, .int .i64 0, .int .i64 0, .int .i64 0]) ?_ 2 _ rfl; (with_reducible repeat (first | refine blk_drewN ?_ _ | refine blk_drew ?_ | refine blk_alloc ?_ _)); refine blk_put (cs := #[.slice Ao43 t287.length co43, .int .i64 0, .int .i64 0, .int .i64 0, .int .i64 0, .int .i64 0, .int .i64 0]) ?_ 1 _ rfl; (with_reducible repeat (first | refine blk_drewN ?_ _ | refine blk_drew ?_ | refine blk_alloc ?_ _)); refine blk_put (cs := #[.slice none 0 0, .int .i64 0, .int .i64 0, .int .i64 0, .int .i64 0, .int .i64 0, .int .i64 0]) ?_ 0 _ rfl; (with_reducible repeat (first | refine blk_drewN ?_ _ | refine blk_drew ?_ | refine blk_alloc ?_ _)); exact BK296.out) hb); replace HB := Aside0.mk (below_step (by repeat (first | (with_reducible first | exact HB.out | apply below_alloc | apply pw_below_drewN | apply below_drew1 | refine below_set ?_ GE272.out | refine below_set ?_ GE296.out) | exact HB.out)) hb); (try clear hb); (try clear hb2); (try clear hk); (try clear hi); (try clear ho0); obtain ⟨Ao47, co47, eo47⟩ := Kd.R_slice HO299.out; subst eo47; obtain ⟨Ao48, co48, eo48⟩ := Kd.R_slice HO285.out; subst eo48) | ((with_reducible refine gate_callee (f := 49) rfl ?_); refine goesL_ (some 34) rfl rfl Try.func49 (by kernel_rfl) rfl #[.slice Ao47 t297.length co47, .slice Ao48 t283.length co48] rfl (by (try simp only [List.map_toArray, List.map_cons, List.map_nil]); first | done | rfl | (simp only [List.length_drop, List.length_take]; rfl)) ?_; (with_reducible refine (laws_eqByteS.calls k _ _ t297 _ _ t283 true _ ?side1 ?side2 ?side3 ?side4 A11.out).mono ?_); (case side1 => repeat (first | exact (Kd.R_reads' HO299.out).2.2 | (with_reducible refine Kd.C_alloc ?_ _) | (with_reducible refine Kd.C_drewN ?_ _) | (with_reducible refine Kd.C_drew ?_))); (case side2 => exact (Kd.R_reads' HO299.out).2.1); (case side3 => repeat (first | exact (Kd.R_reads' HO285.out).2.2 | (with_reducible refine Kd.C_alloc ?_ _) | (with_reducible refine Kd.C_drewN ?_ _) | (with_reducible refine Kd.C_drew ?_))); (case side4 => exact (Kd.R_reads' HO285.out).2.1); rintro e w' ⟨rfl, ⟨nd, rfl⟩⟩; refine ⟨_, rfl, ?_⟩))
             (try simp only [World.drewN_drewN]); (try (rw [drewN_self w46]; generalize hq_ : World.drewN w46 _ = w46; have n0_ : Aside0 (Kd.S (Kd.slice 5 (Kd.int .u8)) 74 w46 w.heap.size (fun k_ => some k_ ≠ (.slice Ao48 t283.length co48 : Value).ownBlock ∧ some k_ ≠ (.slice Ao43 t287.length co43 : Value).ownBlock ∧ some k_ ≠ (.slice Ao47 t297.length co47 : Value).ownBlock) (.slice Ao38 t274.length co38) t274) := ⟨by rw [← hq_]; exact (by (with_reducible repeat (first | apply Kd.S_alloc | apply Kd.S_drewN | apply Kd.S_drew)); exact Kd.S_mono HO276.out (fun _ hk => ⟨hk.1.1.2, ⟨hk.1.2, hk.2⟩⟩))⟩; have n1_ : Aside0 (Kd.R (Kd.int .u8) 5 w46 w.heap.size (fun k_ => some k_ ≠ (.slice Ao47 t297.length co47 : Value).ownBlock) (.slice Ao48 t283.length co48) t283) := ⟨by rw [← hq_]; exact (by (with_reducible repeat (first | apply Kd.R_alloc | apply Kd.R_drewN | apply Kd.R_drew)); exact Kd.R_mono HO285.out (fun _ hk => hk.2))⟩; have n2_ : Aside0 (Kd.S (Kd.slice 5 (Kd.int .u8)) 74 w46 w.heap.size (fun k_ => some k_ ≠ (.slice Ao38 t274.length co38 : Value).ownBlock ∧ some k_ ≠ (.slice Ao48 t283.length co48 : Value).ownBlock ∧ some k_ ≠ (.slice Ao47 t297.length co47 : Value).ownBlock) (.slice Ao43 t287.length co43) t287) := ⟨by rw [← hq_]; exact (by (with_reducible repeat (first | apply Kd.S_alloc | apply Kd.S_drewN | apply Kd.S_drew)); exact Kd.S_mono HO289.out (fun _ hk => ⟨hk.1.1.2, ⟨hk.1.2, hk.2⟩⟩))⟩; have n3_ : Aside0 (Kd.R (Kd.int .u8) 5 w46 w.heap.size (fun k_ => some k_ ≠ (.slice Ao48 t283.length co48 : Value).ownBlock) (.slice Ao47 t297.length co47) t297) := ⟨by rw [← hq_]; exact (by (with_reducible repeat (first | apply Kd.R_alloc | apply Kd.R_drewN | apply Kd.R_drew)); exact Kd.R_mono HO299.out (fun _ hk => hk.2))⟩; have n4_ : Aside0 (w46.heap[gb272]? = some (.cells #[.slice A0_0 l0_0.length c0_0, .int .i64 a0_1, .int .i64 a0_2, .int .i64 a0_3, .int .i64 a0_4, .int .i64 a0_5, .int .i64 a0_6] 84 (0, 0))) := ⟨by rw [← hq_]; exact (by (with_reducible repeat (first | refine blk_drewN ?_ _ | refine blk_drew ?_ | refine blk_alloc ?_ _)); exact BK272.out)⟩; have n5_ : Aside0 (w46.heap[gb296]? = some (.cells #[.slice Ao43 t287.length co43, .int .i64 t290, .int .i64 t291, .int .i64 t292, .int .i64 t293, .int .i64 t294, .int .i64 t295] 88 (0, 0))) := ⟨by rw [← hq_]; exact (by (with_reducible repeat (first | refine blk_drewN ?_ _ | refine blk_drew ?_ | refine blk_alloc ?_ _)); exact BK296.out)⟩; have n6_ : Aside0 (Below w.heap.size w w46) := ⟨by rw [← hq_]; exact (by repeat (first | (with_reducible first | exact HB.out | apply below_alloc | apply pw_below_drewN | apply below_drew1 | refine below_set ?_ GE272.out | refine below_set ?_ GE296.out) | exact HB.out))⟩; clear HO276 HO285 HO289 HO299 BK272 BK296 HB hq_; have HO276 := n0_; have HO285 := n1_; have HO289 := n2_; have HO299 := n3_; have BK272 := n4_; have BK296 := n5_; have HB := n6_; clear n0_ n1_ n2_ n3_ n4_ n5_ n6_))
             replace HO276 := Aside0.mk (Kd.S_drew HO276.out)
             replace HO285 := Aside0.mk (Kd.R_drew HO285.out)
             replace HO289 := Aside0.mk (Kd.S_drew HO289.out)
             replace HO299 := Aside0.mk (Kd.R_drew HO299.out)
             replace BK272 := Aside0.mk (blk_drew BK272.out)
             replace BK296 := Aside0.mk (blk_drew BK296.out)
             replace HB := Aside0.mk (below_drew1 HB.out)
             refine start_ (n := 5) (S := fun w' => w'.cell? ⟨gb296, 0, none⟩ = some (.slice Ao43 t287.length co43) ∧ w'.cell? ⟨gb296, 1, none⟩ = some (.int .i64 t290) ∧ w'.cell? ⟨gb296, 2, none⟩ = some (.int .i64 t291) ∧ w'.cell? ⟨gb296, 3, none⟩ = some (.int .i64 t292) ∧ w'.cell? ⟨gb296, 4, none⟩ = some (.int .i64 t293) ∧ w'.cell? ⟨gb296, 5, none⟩ = some (.int .i64 t294) ∧ w'.cell? ⟨gb296, 6, none⟩ = some (.int .i64 t295) ∧ w'.cell? ⟨gb272, 0, none⟩ = some (.slice A0_0 l0_0.length c0_0) ∧ w'.cell? ⟨gb272, 1, none⟩ = some (.int .i64 a0_1) ∧ w'.cell? ⟨gb272, 2, none⟩ = some (.int .i64 a0_2) ∧ w'.cell? ⟨gb272, 3, none⟩ = some (.int .i64 a0_3) ∧ w'.cell? ⟨gb272, 4, none⟩ = some (.int .i64 a0_4) ∧ w'.cell? ⟨gb272, 5, none⟩ = some (.int .i64 a0_5) ∧ w'.cell? ⟨gb272, 6, none⟩ = some (.int .i64 a0_6)) (ds := []) #[false, false, false, false, false] (by kernel_rfl) rfl rfl ⟨zc0 BK296 0 rfl, zc0 BK296 1 rfl, zc0 BK296 2 rfl, zc0 BK296 3 rfl, zc0 BK296 4 rfl, zc0 BK296 5 rfl, zc0 BK296 6 rfl, zc0 BK272 0 rfl, zc0 BK272 1 rfl, zc0 BK272 2 rfl, zc0 BK272 3 rfl, zc0 BK272 4 rfl, zc0 BK272 5 rfl, zc0 BK272 6 rfl⟩ (fun hHeld => ?_)
             generalize w46.drew = w49 at HO276 HO285 HO289 HO299 BK272 BK296 HB hHeld ⊢
             refine take_ (i := 0) (N := some 41) (v := ?_) (a' := ?_) #[true, false, false, false, false] rfl rfl (by kernel_rfl) (fun _ _ _ h => h) (Or.inl ⟨by rfl, ?_⟩) hHeld ?_ ?_
             rotate_left
             ·rintro w' ⟨s0, s1, s2, s3, s4, s5, s6, s7, s8, s9, s10, s11, s12, s13⟩
              go_simp
              with_reducible rfl
             rotate_left
             ·simp only [Act.put, zp1, zp2, zp3, i64_w, i32_w]
              rfl
             refine take_ (i := 1) (N := some 42) (v := ?_) (a' := ?_) #[true, true, false, false, false] rfl rfl (by kernel_rfl) (fun _ _ _ h => h) (Or.inl ⟨by rfl, ?_⟩) hHeld ?_ ?_
             rotate_left
             ·rintro w' ⟨s0, s1, s2, s3, s4, s5, s6, s7, s8, s9, s10, s11, s12, s13⟩
              go_simp
              with_reducible rfl
             rotate_left
             ·simp only [Act.put, zp1, zp2, zp3, i64_w, i32_w]
              rfl
             refine one_ (i := 2) (N := some 43) #[true, true, true, false, false] rfl rfl (by kernel_rfl) (by decide) (fun K hK => ?_)
             refine goes_ Try.func58 (by kernel_rfl) rfl #[.agg #[.slice A0_0 l0_0.length c0_0, .int .i64 a0_1, .int .i64 a0_2, .int .i64 a0_3, .int .i64 a0_4, .int .i64 a0_5, .int .i64 a0_6]] (by rfl) rfl rfl (by (try simp only [List.map_toArray, List.map_cons, List.map_nil]); first | done | rfl | (simp only [List.length_drop, List.length_take]; rfl)) ?_
             with_reducible refine (laws_toGap.calls k _ _ l0_0 a0_1 a0_2 a0_3 a0_4 a0_5 a0_6 t302 t305 t306 t307 t308 t309 t310 _ ?side1 ?side2 A14.out).mono ?_
             (case side1 => repeat (first | exact (Kd.C_below HR0_0.out HB.out) | (with_reducible refine Kd.C_alloc ?_ _) | (with_reducible refine Kd.C_drewN ?_ _) | (with_reducible refine Kd.C_drew ?_)))
             (case side2 => exact HC0_0.out)
             rintro e w50 ⟨v303, rfl, ho0, hb⟩
             refine ⟨_, rfl, ?_⟩
             have HO304 := Aside0.mk (Kd.S_lower (Kd.S_new' (Kd.S_new' (Kd.S_new' (Kd.S_new' ho0 (Kd.S_lt (zs0 HO276))) (Kd.R_lt (zr0 HO285))) (Kd.S_lt (zs0 HO289))) (Kd.R_lt (zr0 HO299))) (below_size (zh0 HB)))
             replace HO276 := Aside0.mk (Kd.S_elder' (zs0 HO276) (Kd.S_base ho0) hb)
             replace HO285 := zrb HO285 hb
             replace HO289 := Aside0.mk (Kd.S_elder' (zs0 HO289) (Kd.S_base ho0) hb)
             replace HO299 := zrb HO299 hb
             replace BK272 := zb0 BK272 hb
             replace BK296 := zb0 BK296 hb
             replace HB := zhs HB hb
             (try clear hb)
             (try clear hb2)
             (try clear hk)
             (try clear hi)
             (try clear ho0)
             obtain ⟨Ao51, co51, eo51⟩ := Kd.S_slice HO304.out
             (first | subst eo51 | (injection eo51 with f1_ f2_ f3_; have f4_ := f1_.symm; have f5_ := f3_.symm; clear f1_ f2_ f3_; subst f4_; subst f5_))
             refine hK.out _ _ ⟨zc0 BK296 0 rfl, zc0 BK296 1 rfl, zc0 BK296 2 rfl, zc0 BK296 3 rfl, zc0 BK296 4 rfl, zc0 BK296 5 rfl, zc0 BK296 6 rfl, zc0 BK272 0 rfl, zc0 BK272 1 rfl, zc0 BK272 2 rfl, zc0 BK272 3 rfl, zc0 BK272 4 rfl, zc0 BK272 5 rfl, zc0 BK272 6 rfl⟩ (fun hHeld => ?_)
             clear hK K
             refine norm_ (a' := ?_) ?_ ?_
             rotate_left
             ·show Act.put _ (some 43) _ = _
              simp only [Act.put, zp1, zp2, zp3, i64_w, i32_w]
              rfl
             refine one_ (i := 3) (N := some 44) #[true, true, true, true, false] rfl rfl (by kernel_rfl) (by decide) (fun K hK => ?_)
             refine goes_ Try.func60 (by kernel_rfl) rfl #[.agg #[.slice Ao43 t287.length co43, .int .i64 t290, .int .i64 t291, .int .i64 t292, .int .i64 t293, .int .i64 t294, .int .i64 t295], .agg #[.slice Ao51 t302.length co51, .int .i64 t305, .int .i64 t306, .int .i64 t307, .int .i64 t308, .int .i64 t309, .int .i64 t310]] (by rfl) rfl rfl (by (try simp only [List.map_toArray, List.map_cons, List.map_nil]); first | done | rfl | (simp only [List.length_drop, List.length_take]; rfl)) ?_
             with_reducible refine (laws_eqGap.calls k _ _ t287 t290 t291 t292 t293 t294 t295 _ _ t302 t305 t306 t307 t308 t309 t310 true _ ?side1 ?side2 ?side3 ?side4 A15.out).mono ?_
             (case side1 => repeat (first | exact (Kd.S_reads' HO289.out).2.2 | (with_reducible refine Kd.C_alloc ?_ _) | (with_reducible refine Kd.C_drewN ?_ _) | (with_reducible refine Kd.C_drew ?_)))
             (case side2 => exact (Kd.S_reads' HO289.out).2.1)
             (case side3 => repeat (first | exact (Kd.S_reads' HO304.out).2.2 | (with_reducible refine Kd.C_alloc ?_ _) | (with_reducible refine Kd.C_drewN ?_ _) | (with_reducible refine Kd.C_drew ?_)))
             (case side4 => exact (Kd.S_reads' HO304.out).2.1)
             rintro e w52 ⟨rfl, hb⟩
             refine ⟨_, rfl, ?_⟩
             replace HO276 := zsb HO276 hb
             replace HO285 := zrb HO285 hb
             replace HO289 := zsb HO289 hb
             replace HO299 := zrb HO299 hb
             replace HO304 := zsb HO304 hb
             replace BK272 := zb0 BK272 hb
             replace BK296 := zb0 BK296 hb
             replace HB := zhs HB hb
             (try clear hb)
             (try clear hb2)
             (try clear hk)
             (try clear hi)
             refine hK.out _ _ ⟨zc0 BK296 0 rfl, zc0 BK296 1 rfl, zc0 BK296 2 rfl, zc0 BK296 3 rfl, zc0 BK296 4 rfl, zc0 BK296 5 rfl, zc0 BK296 6 rfl, zc0 BK272 0 rfl, zc0 BK272 1 rfl, zc0 BK272 2 rfl, zc0 BK272 3 rfl, zc0 BK272 4 rfl, zc0 BK272 5 rfl, zc0 BK272 6 rfl⟩ (fun hHeld => ?_)
             clear hK K
             refine norm_ (a' := ?_) ?_ ?_
             rotate_left
             ·show Act.put _ (some 44) _ = _
              simp only [Act.put, zp1, zp2, zp3, i64_w, i32_w]
              rfl
             refine pure_ (i := 4) (N := some 45) (v := ?_) (a' := ?_) #[true, true, true, true, true] rfl rfl (by kernel_rfl) (fun _ _ _ h => h) (Or.inl ⟨by rfl, ?_⟩) ?_ ?_
             rotate_left
             ·intro w'
              go_simp
              with_reducible rfl
             rotate_left
             ·simp only [Act.put, zp1, zp2, zp3, i64_w, i32_w]
              rfl
             refine done_ (by kernel_rfl) ?_
             have hcz53_0 : w52.cell? ⟨gb296, 0, none⟩ = some (.slice Ao43 t287.length co43) := zc0 BK296 0 rfl
             have hcz53_1 : w52.cell? ⟨gb296, 1, none⟩ = some (.int .i64 t290) := zc0 BK296 1 rfl
             have hcz53_2 : w52.cell? ⟨gb296, 2, none⟩ = some (.int .i64 t291) := zc0 BK296 2 rfl
             have hcz53_3 : w52.cell? ⟨gb296, 3, none⟩ = some (.int .i64 t292) := zc0 BK296 3 rfl
             have hcz53_4 : w52.cell? ⟨gb296, 4, none⟩ = some (.int .i64 t293) := zc0 BK296 4 rfl
             have hcz53_5 : w52.cell? ⟨gb296, 5, none⟩ = some (.int .i64 t294) := zc0 BK296 5 rfl
             have hcz53_6 : w52.cell? ⟨gb296, 6, none⟩ = some (.int .i64 t295) := zc0 BK296 6 rfl
             have hfz53_0 := blk_frozen BK296.out 0
             have hfz53_1 := blk_frozen BK296.out 1
             have hfz53_2 := blk_frozen BK296.out 2
             have hfz53_3 := blk_frozen BK296.out 3
             have hfz53_4 := blk_frozen BK296.out 4
             have hfz53_5 := blk_frozen BK296.out 5
             have hfz53_6 := blk_frozen BK296.out 6
             try go_wp2_with (first | ((with_reducible refine gate_callee (f := 61) rfl ?_); refine goesL_ (some 48) rfl rfl Try.func61 (by kernel_rfl) rfl #[.agg #[.slice Ao43 t287.length co43, .int .i64 t290, .int .i64 t291, .int .i64 t292, .int .i64 t293, .int .i64 t294, .int .i64 t295], .int .i64 1] rfl (by (try simp only [List.map_toArray, List.map_cons, List.map_nil]); first | done | rfl | (simp only [List.length_drop, List.length_take]; rfl)) ?_; (with_reducible refine (laws_markGap.calls k (fun k_ => some k_ ≠ (.slice Ao38 t274.length co38 : Value).ownBlock ∧ some k_ ≠ (.slice Ao48 t283.length co48 : Value).ownBlock ∧ some k_ ≠ (.slice Ao47 t297.length co47 : Value).ownBlock ∧ some k_ ≠ (.slice Ao51 t302.length co51 : Value).ownBlock ∧ k_ ≠ gb272 ∧ k_ ≠ gb296) (.slice Ao43 t287.length co43) t287 t290 t291 t292 t293 t294 t295 1 t312 w _ ?side1 ?side2 A17.out).mono ?_); (case side1 => repeat (first | (with_reducible first | exact HB.out | apply below_alloc | apply pw_below_drewN | apply below_drew1 | refine below_set ?_ GE272.out | refine below_set ?_ GE296.out) | exact HB.out)); (case side2 => exact (Kd.S_mono (ok' := fun k_ => some k_ ≠ (.slice Ao38 t274.length co38 : Value).ownBlock ∧ some k_ ≠ (.slice Ao48 t283.length co48 : Value).ownBlock ∧ some k_ ≠ (.slice Ao47 t297.length co47 : Value).ownBlock ∧ some k_ ≠ (.slice Ao51 t302.length co51 : Value).ownBlock ∧ k_ ≠ gb272 ∧ k_ ≠ gb296) (Kd.S_types (Kd.S_types (HO289.out) BK272.out (by decide)) BK296.out (by decide)) (fun k_ hk_ => by first | exact ⟨hk_.1.1.1.1, ⟨hk_.1.1.1.2.1, ⟨hk_.1.1.1.2.2, ⟨hk_.1.1.2, ⟨hk_.1.2, hk_.2⟩⟩⟩⟩⟩ | exact ⟨hk_.1.1.1, ⟨hk_.1.1.2.1, ⟨hk_.1.1.2.2.1, ⟨hk_.1.1.2.2.2, ⟨hk_.1.2, hk_.2⟩⟩⟩⟩⟩ | (simp only [and_assoc, true_and] at hk_ ⊢; exact hk_) | simp_all))); rintro e w54 ⟨rfl, hb, hkp⟩; refine ⟨_, rfl, ?_⟩; have n0_ := Aside0.mk (blk_kept (zk0 BK272) hkp (fun hs_ => (fun e_ => (e_.2.2.2.2.1) rfl) hs_)); have n1_ := Aside0.mk (Kd.R_mono (ok' := fun k_ => some k_ ≠ (.slice Ao47 t297.length co47 : Value).ownBlock) (Kd.R_keptB ((znest (P := fun k_ => some k_ ≠ (.slice Ao38 t274.length co38 : Value).ownBlock ∧ some k_ ≠ (.slice Ao48 t283.length co48 : Value).ownBlock ∧ some k_ ≠ (.slice Ao47 t297.length co47 : Value).ownBlock ∧ some k_ ≠ (.slice Ao51 t302.length co51 : Value).ownBlock ∧ k_ ≠ gb272 ∧ k_ ≠ gb296) rfl HO285.out (fun k_ hs2_ => hs2_.2.1))) hkp (fun k_ hk_ hs_ => (hk_.2) hs_)) (fun k_ hk_ => (by first | exact hk_.1.1 | exact hk_.1.1 | simp_all))); have n2_ := Aside0.mk (blk_kept (zk0 BK296) hkp (fun hs_ => (fun e_ => (e_.2.2.2.2.2) rfl) hs_)); have n3_ := Aside0.mk (Kd.R_mono (ok' := fun k_ => some k_ ≠ (.slice Ao48 t283.length co48 : Value).ownBlock) (Kd.R_keptB ((znest (P := fun k_ => some k_ ≠ (.slice Ao38 t274.length co38 : Value).ownBlock ∧ some k_ ≠ (.slice Ao48 t283.length co48 : Value).ownBlock ∧ some k_ ≠ (.slice Ao47 t297.length co47 : Value).ownBlock ∧ some k_ ≠ (.slice Ao51 t302.length co51 : Value).ownBlock ∧ k_ ≠ gb272 ∧ k_ ≠ gb296) rfl HO299.out (fun k_ hs2_ => hs2_.2.2.1))) hkp (fun k_ hk_ hs_ => (hk_.2) hs_)) (fun k_ hk_ => (by first | exact hk_.1.1 | exact hk_.1.1 | simp_all))); have n4_ := Aside0.mk (hb); clear BK272; clear HO285; clear BK296; clear HO299; clear HB; clear HO276; clear HO289; clear HO304; have BK272 := n0_; have HO285 := n1_; have BK296 := n2_; have HO299 := n3_; have HB := n4_; clear n0_ n1_ n2_ n3_ n4_; (try clear hb); (try clear hkp)) | (go_at_call 49; (with_reducible refine (laws_eqByteS.calls k _ _ t297 _ _ t283 true _ ?side1 ?side2 ?side3 ?side4 A19.out).mono ?_); (case side1 => repeat (first | exact (Kd.R_reads' HO299.out).2.2 | (with_reducible refine Kd.C_alloc ?_ _) | (with_reducible refine Kd.C_drewN ?_ _) | (with_reducible refine Kd.C_drew ?_))); (case side2 => exact (Kd.R_reads' HO299.out).2.1); (case side3 => repeat (first | exact (Kd.R_reads' HO285.out).2.2 | (with_reducible refine Kd.C_alloc ?_ _) | (with_reducible refine Kd.C_drewN ?_ _) | (with_reducible refine Kd.C_drew ?_))); (case side4 => exact (Kd.R_reads' HO285.out).2.1); rintro e w' ⟨rfl, ⟨nd, rfl⟩⟩) | ((with_reducible refine gate_callee (f := 51) rfl ?_); refine goesL_ (some 64) rfl rfl Try.func51 (by kernel_rfl) rfl #[.slice Ao47 t297.length co47, .int .i64 1] rfl (by (try simp only [List.map_toArray, List.map_cons, List.map_nil]); first | done | rfl | (simp only [List.length_drop, List.length_take]; rfl)) ?_; (with_reducible refine (laws_markByteS.calls k (fun k_ => some k_ = (.slice Ao47 t297.length co47 : Value).ownBlock) (.slice Ao47 t297.length co47) t297 1 t314 t315 w _ ?side1 ?side2 A21.out).mono ?_); (case side1 => repeat (first | (with_reducible first | exact HB.out | apply below_alloc | apply pw_below_drewN | apply below_drew1 | refine below_set ?_ GE272.out | refine below_set ?_ GE296.out) | exact HB.out)); (case side2 => exact Kd.R_tight rfl HO299.out); rintro e w55 ⟨rfl, hy0, hb, hkp⟩; refine ⟨_, rfl, ?_⟩; replace BK272 := Aside0.mk (blk_kept (zk0 BK272) hkp (fun hs_ => (fun e_ => (Kd.R_ne HO299.out BK272.out (by decide)) e_) hs_)); replace HO285 := Aside0.mk (Kd.R_mono (ok' := fun k_ => some k_ ≠ (.slice Ao47 t297.length co47 : Value).ownBlock) (Kd.R_keptB (HO285.out) hkp (fun k_ hk_ hs_ => (hk_) hs_)) (fun k_ hk_ => hk_.1)); replace BK296 := Aside0.mk (blk_kept (zk0 BK296) hkp (fun hs_ => (fun e_ => (Kd.R_ne HO299.out BK296.out (by decide)) e_) hs_)); replace HO299 := Aside0.mk (Kd.R_reok rfl hy0 (fun k_ e_ => HO299.out.1 k_ e_)); replace HB := Aside0.mk (hb); (try clear hb); (try clear hkp); (try clear hy0)) | ((with_reducible refine gate_callee (f := 52) rfl ?_); refine goesL_ (some 67) rfl rfl Try.func52 (by kernel_rfl) rfl #[.slice Ao47 t315.length co47, .int .i64 1] rfl (by (try simp only [List.map_toArray, List.map_cons, List.map_nil]); first | done | (rw [show t315.length = t297.length from (Kd.R_reads' HO299.out).1.symm] <;> rfl) | rfl | (simp only [List.length_drop, List.length_take]; rfl)) ?_; (with_reducible refine (laws_heldByteS.calls k _ _ t315 1 t316 _ ?side1 ?side2 A22.out).mono ?_); (case side1 => repeat (first | exact (Kd.R_reads' HO299.out).2.2 | (with_reducible refine Kd.C_alloc ?_ _) | (with_reducible refine Kd.C_drewN ?_ _) | (with_reducible refine Kd.C_drew ?_))); (case side2 => rw [show t315.length = t297.length from (Kd.R_reads' HO299.out).1.symm]; exact (Kd.R_reads' HO299.out).2.1); rintro e w' ⟨rfl, ⟨nd, rfl⟩⟩; refine ⟨_, rfl, ?_⟩; have hcz56_0 : w55.cell? ⟨gb272, 0, none⟩ = some (.slice A0_0 l0_0.length c0_0) := zc0 BK272 0 rfl; have hcz56_1 : w55.cell? ⟨gb272, 1, none⟩ = some (.int .i64 a0_1) := zc0 BK272 1 rfl; have hcz56_2 : w55.cell? ⟨gb272, 2, none⟩ = some (.int .i64 a0_2) := zc0 BK272 2 rfl; have hcz56_3 : w55.cell? ⟨gb272, 3, none⟩ = some (.int .i64 a0_3) := zc0 BK272 3 rfl; have hcz56_4 : w55.cell? ⟨gb272, 4, none⟩ = some (.int .i64 a0_4) := zc0 BK272 4 rfl; have hcz56_5 : w55.cell? ⟨gb272, 5, none⟩ = some (.int .i64 a0_5) := zc0 BK272 5 rfl; have hcz56_6 : w55.cell? ⟨gb272, 6, none⟩ = some (.int .i64 a0_6) := zc0 BK272 6 rfl; have hfz56_0 := blk_frozen BK272.out 0; have hfz56_1 := blk_frozen BK272.out 1; have hfz56_2 := blk_frozen BK272.out 2; have hfz56_3 := blk_frozen BK272.out 3; have hfz56_4 := blk_frozen BK272.out 4; have hfz56_5 := blk_frozen BK272.out 5; have hfz56_6 := blk_frozen BK272.out 6) | ((with_reducible refine gate_callee (f := 58) rfl ?_); refine goesL_ (some 75) rfl rfl Try.func58 (by kernel_rfl) rfl #[.agg #[.slice A0_0 l0_0.length c0_0, .int .i64 a0_1, .int .i64 a0_2, .int .i64 a0_3, .int .i64 a0_4, .int .i64 a0_5, .int .i64 a0_6]] rfl (by (try simp only [List.map_toArray, List.map_cons, List.map_nil]); first | done | rfl | (simp only [List.length_drop, List.length_take]; rfl)) ?_; (with_reducible refine (laws_toGap.calls k _ _ l0_0 a0_1 a0_2 a0_3 a0_4 a0_5 a0_6 t317 t320 t321 t322 t323 t324 t325 _ ?side1 ?side2 A25.out).mono ?_); (case side1 => repeat (first | exact (Kd.C_below HR0_0.out (zh0 HB)) | (with_reducible refine Kd.C_alloc ?_ _) | (with_reducible refine Kd.C_drewN ?_ _) | (with_reducible refine Kd.C_drew ?_))); (case side2 => exact HC0_0.out); rintro e w57 ⟨v318, rfl, ho0, hb⟩; refine ⟨_, rfl, ?_⟩; have HO319 := Aside0.mk (Kd.S_lower (Kd.S_new' (Kd.S_new' ho0 (Kd.R_lt (zr0 HO285))) (Kd.R_lt (zr0 HO299))) (below_size (zh0 HB))); replace HO285 := zrb HO285 hb; replace HO299 := zrb HO299 hb; replace BK272 := zb0 BK272 hb; replace BK296 := zb0 BK296 hb; replace HB := zhs HB hb; (try clear hb); (try clear hb2); (try clear hk); (try clear hi); (try clear ho0); obtain ⟨Ao58, co58, eo58⟩ := Kd.S_slice HO319.out; subst eo58) | ((with_reducible refine gate_callee (f := 59) rfl ?_); refine goesL_ (some 76) rfl rfl Try.func59 (by kernel_rfl) rfl #[.agg #[.slice Ao58 t317.length co58, .int .i64 t320, .int .i64 t321, .int .i64 t322, .int .i64 t323, .int .i64 t324, .int .i64 t325]] rfl (by (try simp only [List.map_toArray, List.map_cons, List.map_nil]); first | done | rfl | (simp only [List.length_drop, List.length_take]; rfl)) ?_; (with_reducible refine (impl_GapText.calls k _ _ t317 t320 t321 t322 t323 t324 t325 t326 t329 _ ?side1 ?side2 A26.out).mono ?_); (case side1 => repeat (first | exact (Kd.S_reads' HO319.out).2.2 | (with_reducible refine Kd.C_alloc ?_ _) | (with_reducible refine Kd.C_drewN ?_ _) | (with_reducible refine Kd.C_drew ?_))); (case side2 => exact (Kd.S_reads' HO319.out).2.1); rintro e w59 ⟨v327, rfl, ho0, hb⟩; refine ⟨_, rfl, ?_⟩; have HO328 := Aside0.mk (Kd.R_lower (Kd.R_new' (Kd.R_new' ho0 (Kd.R_lt (zr0 HO285))) (Kd.R_lt (zr0 HO299))) (below_size (zh0 HB))); replace HO285 := Aside0.mk (Kd.R_elder' (zr0 HO285) (Kd.R_base ho0) hb); replace HO299 := Aside0.mk (Kd.R_elder' (zr0 HO299) (Kd.R_base ho0) hb); replace HO319 := Aside0.mk (Kd.S_elder' (zs0 HO319) (Kd.R_base ho0) hb); replace BK272 := zb0 BK272 hb; replace BK296 := zb0 BK296 hb; replace HB := zhs HB hb; (try clear hb); (try clear hb2); (try clear hk); (try clear hi); (try clear ho0); obtain ⟨Ao60, co60, eo60⟩ := Kd.R_slice HO328.out; subst eo60) | ((with_reducible refine gate_callee (f := 49) rfl ?_); refine goesL_ (some 81) rfl rfl Try.func49 (by kernel_rfl) rfl #[.slice Ao60 t326.length co60, .slice Ao48 t283.length co48] rfl (by (try simp only [List.map_toArray, List.map_cons, List.map_nil]); first | done | rfl | (simp only [List.length_drop, List.length_take]; rfl)) ?_; (with_reducible refine (laws_eqByteS.calls k _ _ t326 _ _ t283 true _ ?side1 ?side2 ?side3 ?side4 A27.out).mono ?_); (case side1 => repeat (first | exact (Kd.R_reads' HO328.out).2.2 | (with_reducible refine Kd.C_alloc ?_ _) | (with_reducible refine Kd.C_drewN ?_ _) | (with_reducible refine Kd.C_drew ?_))); (case side2 => exact (Kd.R_reads' HO328.out).2.1); (case side3 => repeat (first | exact (Kd.R_reads' HO285.out).2.2 | (with_reducible refine Kd.C_alloc ?_ _) | (with_reducible refine Kd.C_drewN ?_ _) | (with_reducible refine Kd.C_drew ?_))); (case side4 => exact (Kd.R_reads' HO285.out).2.1); rintro e w' ⟨rfl, ⟨nd, rfl⟩⟩; refine ⟨_, rfl, ?_⟩) | ((with_reducible refine gate_callee (f := 52) rfl ?_); refine goesL_ (some 90) rfl rfl Try.func52 (by kernel_rfl) rfl #[.slice Ao47 t315.length co47, .int .i64 1] rfl (by (try simp only [List.map_toArray, List.map_cons, List.map_nil]); first | done | (rw [show t315.length = t297.length from (Kd.R_reads' HO299.out).1.symm] <;> rfl) | rfl | (simp only [List.length_drop, List.length_take]; rfl)) ?_; (with_reducible refine (laws_heldByteS.calls k _ _ t315 1 t331 _ ?side1 ?side2 A30.out).mono ?_); (case side1 => repeat (first | exact (Kd.R_reads' HO299.out).2.2 | (with_reducible refine Kd.C_alloc ?_ _) | (with_reducible refine Kd.C_drewN ?_ _) | (with_reducible refine Kd.C_drew ?_))); (case side2 => rw [show t315.length = t297.length from (Kd.R_reads' HO299.out).1.symm]; exact (Kd.R_reads' HO299.out).2.1); rintro e w' ⟨rfl, ⟨nd, rfl⟩⟩; refine ⟨_, rfl, ?_⟩))
             go_ret
             exact ⟨by first | rfl | (simp [errW_none, errW_some] <;> rfl) | (simp [*, errW_none, errW_some] <;> rfl), by repeat (first | (with_reducible first | exact HB.out | apply below_alloc | apply pw_below_drewN | apply below_drew1 | refine below_set ?_ GE272.out | refine below_set ?_ GE296.out) | exact HB.out)⟩
            ·rw [if_neg c32] at H
             exact absurd H (by simp)
         ·replace c28 := Bool.eq_false_iff.mpr c28
          subst c28
          have H1 : (none) = some r := by rw [if_neg (show ¬ (false = true) by decide)] at H; exact H
          clear H
          have H := H1
          clear H1
          exact absurd H (by simp)
        ·rw [if_neg c24] at H
         exact absurd H (by simp)
      ·replace c20 := Bool.eq_false_iff.mpr c20
       subst c20
       have H1 : (none) = some r := by rw [if_neg (show ¬ (false = true) by decide)] at H; exact H
       clear H
       have H := H1
       clear H1
       exact absurd H (by simp)
    ·replace c16 := Bool.eq_false_iff.mpr c16
     subst c16
     have H1 : (none) = some r := by rw [if_neg (show ¬ (false = true) by decide)] at H; exact H
     clear H
     have H := H1
     clear H1
     exact absurd H (by simp)
  ·replace c12 := Bool.eq_false_iff.mpr c12
   subst c12
   have H1 : (none) = some r := by rw [if_neg (show ¬ (false = true) by decide)] at H; exact H
   clear H
   have H := H1
   clear H1
   exact absurd H (by simp)

end Go.Proofs.Ytdojnaghcfhadac.PFnExactGapText
