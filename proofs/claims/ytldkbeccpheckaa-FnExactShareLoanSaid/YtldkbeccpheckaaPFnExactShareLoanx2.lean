/- What is proved here: each Go function that is named below answers, and leaves memory, as the theorem of its name says; no condition beyond those that each theorem states. Laid by this session's own program (wip/driver.py) over the kit's print. -/
import Derived.Test.YtldkbeccpheckaaPFnExactShareLoanx0
import Derived.Test.YtldkbeccpheckaaPFnExactShareLoanx1
namespace Go.Proofs.Ytldkbeccpheckaa.PFnExactShareLoan
open Go.RowKit Go.Proofs.YtldkbeccpheckaaW.PrintWords Go.Proofs.YtldkbeccpheckaaW.PrintLast Go.Proofs.YtldkbeccpheckaaW.PrintMore
attribute [local go_sem] max2_int min2_int max_two min_two max_three min_three max_four min_four   -- for this text's walks alone
set_option linter.unusedVariables false
set_option linter.unusedSimpArgs false

open Go.Proofs.Ytldkbeccpheckaa.Cp
/-! ### spec_l2Window: function 72 -/
def spec_l2Window.j0 : Nat → Bool → List (List Int) → Int → Int → Int → Int → Option (Bool)
 | 0, _, _, _, _, _, _ => none
 | k + 1, x18, x151000, x152000, x152001, x152002, x152003 => if x18 = true then (some false) else (if 0 ≤ x152000 then (if x152000 < (x151000.length : Int) then ((spec_l1In.f x152001 0 ((rd_L1 x151000 x152000).length : Int)).bind fun t155 => (if t155 = true then ((spec_l1In.f x152003 0 (wrap64 (((rd_L1 x151000 x152000).length : Int) - x152001))).bind fun t156 => (if t156 = true then ((spec_l1In.f x152002 0 x152003).bind fun t157 => (some t157)) else (some false))) else (some false))) else (none)) else (none))
def spec_l2Window.f (k : Nat) (l0_0 : List (List Int)) (a1_0 : Int) (a1_1 : Int) (a1_2 : Int) (a1_3 : Int) : Option (Bool) := (spec_l2Memory.f k l0_0).bind fun t152 => (if t152 = true then ((spec_l1In.f a1_0 0 (wrap64 ((l0_0.length : Int) - 1))).bind fun t153 => (spec_l2Window.j0 k (!t153) l0_0 a1_0 a1_1 a1_2 a1_3)) else (spec_l2Window.j0 k true l0_0 a1_0 a1_1 a1_2 a1_3))
theorem spec_l2Window.mono_l : ∀ k, (∀ y0 y1 y2 y3 y4 y5, LeO (spec_l2Window.j0 k y0 y1 y2 y3 y4 y5) (spec_l2Window.j0 (k + 1) y0 y1 y2 y3 y4 y5))
 | 0 => fun _ _ _ _ _ _ r h => by simp [spec_l2Window.j0] at h
 | k + 1 => by
  have ih0 := spec_l2Window.mono_l k
  ·intro y0 y1 y2 y3 y4 y5
   unfold spec_l2Window.j0
   repeat' first
   | (with_reducible exact ih0 _ _ _ _ _ _)
   | (with_reducible exact spec_l2Memory.mono _ _)
   | (with_reducible exact LeO.refl _)
   | (with_reducible exact LeO.none _)
   | (with_reducible refine LeO.ite ?_ ?_)
   | (with_reducible refine LeO.bind ?_ (fun _ => ?_))
   | exact ih0 _ _ _ _ _ _
   | exact spec_l2Memory.mono _ _
   | exact LeO.none _
   | refine LeO.ite ?_ ?_
   | refine LeO.bind ?_ (fun _ => ?_)
theorem spec_l2Window.mono : ∀ a0 a1 a2 a3 a4 k, LeO (spec_l2Window.f k a0 a1 a2 a3 a4) (spec_l2Window.f (k + 1) a0 a1 a2 a3 a4) := by
 intro a0 a1 a2 a3 a4 k
 have ih0 := spec_l2Window.mono_l k
 unfold spec_l2Window.f
 repeat' first
   | (with_reducible exact ih0 _ _ _ _ _ _)
   | (with_reducible exact spec_l2Memory.mono _ _)
   | (with_reducible exact LeO.refl _)
   | (with_reducible exact LeO.none _)
   | (with_reducible refine LeO.ite ?_ ?_)
   | (with_reducible refine LeO.bind ?_ (fun _ => ?_))
   | exact ih0 _ _ _ _ _ _
   | exact spec_l2Memory.mono _ _
   | exact LeO.none _
   | refine LeO.ite ?_ ?_
   | refine LeO.bind ?_ (fun _ => ?_)
set_option maxHeartbeats 8000000 in
set_option maxRecDepth 100000 in
theorem spec_l2Window.calls (k : Nat) (A0_0 : Option Addr) (c0_0 : Nat) (l0_0 : List (List Int)) (a1_0 : Int) (a1_1 : Int) (a1_2 : Int) (a1_3 : Int) (r : Bool) (w : World) (hr0_0 : Kd.C (Kd.slice 5 (Kd.int .u8)) w A0_0 l0_0.length l0_0) (hc0_0 : l0_0.length ≤ c0_0) (h : spec_l2Window.f k l0_0 a1_0 a1_1 a1_2 a1_3 = some r) :
  Calls Try.prog 72 #[.agg #[.slice A0_0 l0_0.length c0_0], .agg #[.int .i64 a1_0, .int .i64 a1_1, .int .i64 a1_2, .int .i64 a1_3]] w fun e w' => e = .returned (.bool r) ∧ Below w.heap.size w w' := by
 have hu31 := Try.underlying31
 have hu33 := Try.underlying33
 have HR0_0 := Aside0.mk hr0_0
 have HC0_0 := Aside0.mk hc0_0
 clear hr0_0 hc0_0
 have HB := Aside0.mk (Below.refl w.heap.size w)
 have H : ((spec_l2Memory.f k l0_0).bind fun t152 => (if t152 = true then ((spec_l1In.f a1_0 0 (wrap64 ((l0_0.length : Int) - 1))).bind fun t153 => (spec_l2Window.j0 k (!t153) l0_0 a1_0 a1_1 a1_2 a1_3)) else (spec_l2Window.j0 k true l0_0 a1_0 a1_1 a1_2 a1_3))) = some r := h
 clear h
 have HC3 := Aside0.mk H
 clear H
 go_enter Try.func72, Try.ntmps72
 go_upto_region 1 with (first | ((with_reducible refine gate_dst (N := 2) rfl ?_); (try (refine gate_guard (by rfl) ?_; dsimp only)); refine box_event ?hg (N := 2) ?hd (cs := #[.slice A0_0 l0_0.length c0_0]) (t := 31) ?hr ?_; (case hd => rfl); (case hg => rfl); (case hr => first | (go_simp; done) | (go_simp; rfl)); intro gb150 hg w4 hbox hb; have BK150 := Aside0.mk (hbox); have GW150 := zge HB hg; have GE150 := zge HB hg; replace HB := zhs HB hb; clear hb hbox hg) | ((with_reducible refine gate_dst (N := 3) rfl ?_); (try (refine gate_guard (by rfl) ?_; dsimp only)); refine box_event ?hg (N := 3) ?hd (cs := #[.int .i64 a1_0, .int .i64 a1_1, .int .i64 a1_2, .int .i64 a1_3]) (t := 33) ?hr ?_; (case hd => rfl); (case hg => rfl); (case hr => first | (go_simp; done) | (go_simp; rfl)); intro gb151 hg w5 hbox hb; have BK151 := Aside0.mk (hbox); have GW151 := zge HB hg; have GE151 := zge HB hg; have NB150_151 := znl BK150 hg; have NB151_150 := znr BK150 hg; replace BK150 := zb0 BK150 hb; replace HB := zhs HB hb; clear hb hbox hg))
 (try simp only [Act.put, zp1, zp2, zp3])
 go_cut [18] (fun v18 wc => ∃ (kq : Nat) (x18_2 : Bool), v18 = .bool x18_2 ∧ Aside0 (spec_l2Window.j0 kq x18_2 l0_0 a1_0 a1_1 a1_2 a1_3 = some r) ∧ Aside0 (kq ≤ k) ∧ Aside0 (wc.heap[gb150]? = some (.cells #[(.slice A0_0 l0_0.length c0_0)] 31 (0, 0))) ∧ Aside0 (wc.heap[gb151]? = some (.cells #[.int .i64 a1_0, .int .i64 a1_1, .int .i64 a1_2, .int .i64 a1_3] 33 (0, 0))) ∧ Aside0 (Below w.heap.size w wc))
 case first =>
  have H := HC3.out
  clear HC3
  replace H := Option.bind_eq_some_iff.mp H
  obtain ⟨t152, A60, H⟩ := H
  replace H : (if t152 = true then ((spec_l1In.f a1_0 0 (wrap64 ((l0_0.length : Int) - 1))).bind fun t153 => (spec_l2Window.j0 k (!t153) l0_0 a1_0 a1_1 a1_2 a1_3)) else (spec_l2Window.j0 k true l0_0 a1_0 a1_1 a1_2 a1_3)) = some r := H
  have A6 := Aside0.mk A60
  clear A60
  by_cases c7 : t152 = true
  ·subst c7
   have H1 : ((spec_l1In.f a1_0 0 (wrap64 ((l0_0.length : Int) - 1))).bind fun t153 => (spec_l2Window.j0 k (!t153) l0_0 a1_0 a1_1 a1_2 a1_3)) = some r := by rw [if_pos rfl] at H; exact H
   clear H
   have H := H1
   clear H1
   replace H := Option.bind_eq_some_iff.mp H
   obtain ⟨t153, A80, H⟩ := H
   replace H : (spec_l2Window.j0 k (!t153) l0_0 a1_0 a1_1 a1_2 a1_3) = some r := H
   have A8 := Aside0.mk A80
   clear A80
   have H' := Aside0.mk H
   clear H
   have hnb9 := NB150_151.out
   have hnc9 := NB151_150.out
   have hcz10_0 := zc0 BK150 0 rfl
   have hfz10_0 := blk_frozen BK150.out 0
   go_wp2_with (first | ((with_reducible refine gate_callee (f := 59) rfl ?_); refine goesL_ (some 7) rfl rfl Try.func59 (by kernel_rfl) rfl #[.agg #[.slice A0_0 l0_0.length c0_0]] rfl (by (try simp only [zq1, zq2, zq3]); first | done | rfl | (simp only [List.length_drop, List.length_take]; rfl)) ?_; (with_reducible refine (spec_l2Memory.calls k _ _ l0_0 true _ ?side1 ?side2 A6.out).mono ?_); (case side1 => exact Kd.C_below HR0_0.out (zh0 HB)); (case side2 => exact HC0_0.out); rintro e w11 ⟨rfl, hb⟩; refine ⟨_, rfl, ?_⟩; replace BK150 := zb0 BK150 hb; replace BK151 := zb0 BK151 hb; replace HB := zhs HB hb; (try clear hb); have hcz12_0 := zc0 BK151 0 rfl; have hcz12_1 := zc0 BK151 1 rfl; have hcz12_2 := zc0 BK151 2 rfl; have hcz12_3 := zc0 BK151 3 rfl; have hfz12_0 := blk_frozen BK151.out 0; have hfz12_1 := blk_frozen BK151.out 1; have hfz12_2 := blk_frozen BK151.out 2; have hfz12_3 := blk_frozen BK151.out 3; have hcz13_0 := zc0 BK150 0 rfl; have hfz13_0 := blk_frozen BK150.out 0) | (go_at_call 78; (with_reducible refine (spec_l1In.calls a1_0 0 (wrap64 ((l0_0.length : Int) - 1)) t153 _ A8.out).mono ?_); rintro e w' ⟨rfl, ⟨nd, rfl⟩⟩))
   go_meet
   case rel => exact ⟨_, (!t153), (by first | rfl | (simp; done) | (simp [*]; done)), H', ⟨by first | omega | exact Nat.le_refl _⟩, ⟨zk0 BK150⟩, ⟨zk0 BK151⟩, ⟨by repeat (first | exact zh0 HB | refine below_set ?_ GE150.out | refine below_set ?_ GE151.out)⟩⟩
  ·replace c7 := Bool.eq_false_iff.mpr c7
   subst c7
   have H1 : (spec_l2Window.j0 k true l0_0 a1_0 a1_1 a1_2 a1_3) = some r := by rw [if_neg (show ¬ (false = true) by decide)] at H; exact H
   clear H
   have H := H1
   clear H1
   have H' := Aside0.mk H
   clear H
   have hnb14 := NB150_151.out
   have hnc14 := NB151_150.out
   have hcz15_0 := zc0 BK150 0 rfl
   have hfz15_0 := blk_frozen BK150.out 0
   go_wp2_with (first | ((with_reducible refine gate_callee (f := 59) rfl ?_); refine goesL_ (some 7) rfl rfl Try.func59 (by kernel_rfl) rfl #[.agg #[.slice A0_0 l0_0.length c0_0]] rfl (by (try simp only [zq1, zq2, zq3]); first | done | rfl | (simp only [List.length_drop, List.length_take]; rfl)) ?_; (with_reducible refine (spec_l2Memory.calls k _ _ l0_0 false _ ?side1 ?side2 A6.out).mono ?_); (case side1 => exact Kd.C_below HR0_0.out (zh0 HB)); (case side2 => exact HC0_0.out); rintro e w16 ⟨rfl, hb⟩; refine ⟨_, rfl, ?_⟩; replace BK150 := zb0 BK150 hb; replace BK151 := zb0 BK151 hb; replace HB := zhs HB hb; (try clear hb)))
   go_meet
   case rel => exact ⟨_, (true), (by first | rfl | (simp; done) | (simp [*]; done)), H', ⟨by first | omega | exact Nat.le_refl _⟩, ⟨zk0 BK150⟩, ⟨zk0 BK151⟩, ⟨by repeat (first | exact zh0 HB | refine below_set ?_ GE150.out | refine below_set ?_ GE151.out)⟩⟩
 case rest =>
  clear HC3
  try clear c1
  try clear p2
  try clear c5
  try clear p6
  try clear c7
  try clear c9
  try clear c14
  try clear hcz10_0
  try clear hcz12_0
  try clear hcz12_1
  try clear hcz12_2
  try clear hcz12_3
  try clear hcz13_0
  try clear hcz15_0
  try clear hfz10_0
  try clear hfz12_0
  try clear hfz12_1
  try clear hfz12_2
  try clear hfz12_3
  try clear hfz13_0
  try clear hfz15_0
  obtain ⟨kq, x18_2, rfl, HA, HJ2, BK150, BK151, HB⟩ := hcut
  cases kq with
  | zero => exact absurd HA.out (by simp [spec_l2Window.j0])
  | succ kj2 =>
   have H := HA.out
   clear HA
   simp only [spec_l2Window.j0] at H
   by_cases c17 : x18_2 = true
   ·subst c17
    have H1 : (some false) = some r := by rw [if_pos rfl] at H; exact H
    clear H
    have H := H1
    clear H1
    obtain rfl := Option.some.inj H
    go_wp2
    go_ret
    exact ⟨by first | rfl | (simp <;> rfl) | (simp [*] <;> rfl), by repeat (first | exact zh0 HB | refine below_set ?_ GE150.out | refine below_set ?_ GE151.out)⟩
   ·replace c17 := Bool.eq_false_iff.mpr c17
    subst c17
    have H1 : (if 0 ≤ a1_0 then (if a1_0 < (l0_0.length : Int) then ((spec_l1In.f a1_1 0 ((rd_L1 l0_0 a1_0).length : Int)).bind fun t155 => (if t155 = true then ((spec_l1In.f a1_3 0 (wrap64 (((rd_L1 l0_0 a1_0).length : Int) - a1_1))).bind fun t156 => (if t156 = true then ((spec_l1In.f a1_2 0 a1_3).bind fun t157 => (some t157)) else (some false))) else (some false))) else (none)) else (none)) = some r := by rw [if_neg (show ¬ (false = true) by decide)] at H; exact H
    clear H
    have H := H1
    clear H1
    by_cases c18 : 0 ≤ a1_0
    ·rw [if_pos c18] at H
     have c18b0 : decide (0 ≤ a1_0) = true := decide_eq_true c18
     clear c18
     by_cases c19 : a1_0 < (l0_0.length : Int)
     ·rw [if_pos c19] at H
      have c19b0 : decide (a1_0 < (l0_0.length : Int)) = true := decide_eq_true c19
      clear c19
      replace H := Option.bind_eq_some_iff.mp H
      obtain ⟨t155, A200, H⟩ := H
      replace H : (if t155 = true then ((spec_l1In.f a1_3 0 (wrap64 (((rd_L1 l0_0 a1_0).length : Int) - a1_1))).bind fun t156 => (if t156 = true then ((spec_l1In.f a1_2 0 a1_3).bind fun t157 => (some t157)) else (some false))) else (some false)) = some r := H
      have A20 := Aside0.mk A200
      clear A200
      by_cases c21 : t155 = true
      ·subst c21
       have H1 : ((spec_l1In.f a1_3 0 (wrap64 (((rd_L1 l0_0 a1_0).length : Int) - a1_1))).bind fun t156 => (if t156 = true then ((spec_l1In.f a1_2 0 a1_3).bind fun t157 => (some t157)) else (some false))) = some r := by rw [if_pos rfl] at H; exact H
       clear H
       have H := H1
       clear H1
       replace H := Option.bind_eq_some_iff.mp H
       obtain ⟨t156, A220, H⟩ := H
       replace H : (if t156 = true then ((spec_l1In.f a1_2 0 a1_3).bind fun t157 => (some t157)) else (some false)) = some r := H
       have A22 := Aside0.mk A220
       clear A220
       by_cases c23 : t156 = true
       ·subst c23
        have H1 : ((spec_l1In.f a1_2 0 a1_3).bind fun t157 => (some t157)) = some r := by rw [if_pos rfl] at H; exact H
        clear H
        have H := H1
        clear H1
        replace H := Option.bind_eq_some_iff.mp H
        obtain ⟨t157, A240, H⟩ := H
        replace H : (some t157) = some r := H
        have A24 := Aside0.mk A240
        clear A240
        obtain rfl := Option.some.inj H
        have hnb25 := NB150_151.out
        have hnc25 := NB151_150.out
        have hcz26_0 := zc0 BK150 0 rfl
        have hfz26_0 := blk_frozen BK150.out 0
        have hcz27_0 := zc0 BK151 0 rfl
        have hcz27_1 := zc0 BK151 1 rfl
        have hcz27_2 := zc0 BK151 2 rfl
        have hcz27_3 := zc0 BK151 3 rfl
        have hfz27_0 := blk_frozen BK151.out 0
        have hfz27_1 := blk_frozen BK151.out 1
        have hfz27_2 := blk_frozen BK151.out 2
        have hfz27_3 := blk_frozen BK151.out 3
        have p154 : 0 ≤ (a1_0 : Int) := of_decide_eq_true (by first | (with_reducible assumption) | assumption)
        have q154 : a1_0 < (l0_0.length : Int) := of_decide_eq_true (by first | (with_reducible assumption) | assumption)
        obtain ⟨ad154, A154_0, c154_0, e154, hx154_0, hl154_0, hi154_0⟩ := at_L1 HR0_0.out a1_0 p154 q154
        cases e154
        replace hx154_0 := (HB.out.cell (World.block_lt_of_cell? w _ hx154_0)).trans hx154_0
        have HR154_0 := Aside0.mk hi154_0
        have HC154_0 := Aside0.mk hl154_0
        clear hi154_0 hl154_0
        replace p154 := eq_true p154
        replace q154 := eq_true q154
        go_wp2_with (first | ((with_reducible refine gate_callee (f := 78) rfl ?_); refine goesL_ (some 29) rfl rfl Try.func78 (by kernel_rfl) rfl #[.int .i64 a1_1, .int .i64 0, .int .i64 ((rd_L1 l0_0 a1_0).length : Int)] rfl (by (try simp only [zq1, zq2, zq3]); first | done | rfl | (simp only [List.length_drop, List.length_take]; rfl)) ?_; (with_reducible refine (spec_l1In.calls a1_1 0 ((rd_L1 l0_0 a1_0).length : Int) true _ A20.out).mono ?_); rintro e w' ⟨rfl, ⟨nd, rfl⟩⟩; refine ⟨_, rfl, ?_⟩) | (go_at_call 78; (with_reducible refine (spec_l1In.calls a1_3 0 (wrap64 (((rd_L1 l0_0 a1_0).length : Int) - a1_1)) true _ A22.out).mono ?_); rintro e w' ⟨rfl, ⟨nd, rfl⟩⟩) | (go_at_call 78; (with_reducible refine (spec_l1In.calls a1_2 0 a1_3 t157 _ A24.out).mono ?_); rintro e w' ⟨rfl, ⟨nd, rfl⟩⟩))
        go_ret
        exact ⟨by first | rfl | (simp <;> rfl) | (simp [*] <;> rfl), by repeat (first | exact zh0 HB | refine below_set ?_ GE150.out | refine below_set ?_ GE151.out)⟩
       ·replace c23 := Bool.eq_false_iff.mpr c23
        subst c23
        have H1 : (some false) = some r := by rw [if_neg (show ¬ (false = true) by decide)] at H; exact H
        clear H
        have H := H1
        clear H1
        obtain rfl := Option.some.inj H
        have hnb28 := NB150_151.out
        have hnc28 := NB151_150.out
        have hcz29_0 := zc0 BK150 0 rfl
        have hfz29_0 := blk_frozen BK150.out 0
        have hcz30_0 := zc0 BK151 0 rfl
        have hcz30_1 := zc0 BK151 1 rfl
        have hcz30_2 := zc0 BK151 2 rfl
        have hcz30_3 := zc0 BK151 3 rfl
        have hfz30_0 := blk_frozen BK151.out 0
        have hfz30_1 := blk_frozen BK151.out 1
        have hfz30_2 := blk_frozen BK151.out 2
        have hfz30_3 := blk_frozen BK151.out 3
        have p154 : 0 ≤ (a1_0 : Int) := of_decide_eq_true (by first | (with_reducible assumption) | assumption)
        have q154 : a1_0 < (l0_0.length : Int) := of_decide_eq_true (by first | (with_reducible assumption) | assumption)
        obtain ⟨ad154, A154_0, c154_0, e154, hx154_0, hl154_0, hi154_0⟩ := at_L1 HR0_0.out a1_0 p154 q154
        cases e154
        replace hx154_0 := (HB.out.cell (World.block_lt_of_cell? w _ hx154_0)).trans hx154_0
        have HR154_0 := Aside0.mk hi154_0
        have HC154_0 := Aside0.mk hl154_0
        clear hi154_0 hl154_0
        replace p154 := eq_true p154
        replace q154 := eq_true q154
        go_wp2_with (first | ((with_reducible refine gate_callee (f := 78) rfl ?_); refine goesL_ (some 29) rfl rfl Try.func78 (by kernel_rfl) rfl #[.int .i64 a1_1, .int .i64 0, .int .i64 ((rd_L1 l0_0 a1_0).length : Int)] rfl (by (try simp only [zq1, zq2, zq3]); first | done | rfl | (simp only [List.length_drop, List.length_take]; rfl)) ?_; (with_reducible refine (spec_l1In.calls a1_1 0 ((rd_L1 l0_0 a1_0).length : Int) true _ A20.out).mono ?_); rintro e w' ⟨rfl, ⟨nd, rfl⟩⟩; refine ⟨_, rfl, ?_⟩) | (go_at_call 78; (with_reducible refine (spec_l1In.calls a1_3 0 (wrap64 (((rd_L1 l0_0 a1_0).length : Int) - a1_1)) false _ A22.out).mono ?_); rintro e w' ⟨rfl, ⟨nd, rfl⟩⟩))
        go_ret
        exact ⟨by first | rfl | (simp <;> rfl) | (simp [*] <;> rfl), by repeat (first | exact zh0 HB | refine below_set ?_ GE150.out | refine below_set ?_ GE151.out)⟩
      ·replace c21 := Bool.eq_false_iff.mpr c21
       subst c21
       have H1 : (some false) = some r := by rw [if_neg (show ¬ (false = true) by decide)] at H; exact H
       clear H
       have H := H1
       clear H1
       obtain rfl := Option.some.inj H
       have hnb31 := NB150_151.out
       have hnc31 := NB151_150.out
       have hcz32_0 := zc0 BK150 0 rfl
       have hfz32_0 := blk_frozen BK150.out 0
       have hcz33_0 := zc0 BK151 0 rfl
       have hcz33_1 := zc0 BK151 1 rfl
       have hcz33_2 := zc0 BK151 2 rfl
       have hcz33_3 := zc0 BK151 3 rfl
       have hfz33_0 := blk_frozen BK151.out 0
       have hfz33_1 := blk_frozen BK151.out 1
       have hfz33_2 := blk_frozen BK151.out 2
       have hfz33_3 := blk_frozen BK151.out 3
       have p154 : 0 ≤ (a1_0 : Int) := of_decide_eq_true (by first | (with_reducible assumption) | assumption)
       have q154 : a1_0 < (l0_0.length : Int) := of_decide_eq_true (by first | (with_reducible assumption) | assumption)
       obtain ⟨ad154, A154_0, c154_0, e154, hx154_0, hl154_0, hi154_0⟩ := at_L1 HR0_0.out a1_0 p154 q154
       cases e154
       replace hx154_0 := (HB.out.cell (World.block_lt_of_cell? w _ hx154_0)).trans hx154_0
       have HR154_0 := Aside0.mk hi154_0
       have HC154_0 := Aside0.mk hl154_0
       clear hi154_0 hl154_0
       replace p154 := eq_true p154
       replace q154 := eq_true q154
       go_wp2_with (first | ((with_reducible refine gate_callee (f := 78) rfl ?_); refine goesL_ (some 29) rfl rfl Try.func78 (by kernel_rfl) rfl #[.int .i64 a1_1, .int .i64 0, .int .i64 ((rd_L1 l0_0 a1_0).length : Int)] rfl (by (try simp only [zq1, zq2, zq3]); first | done | rfl | (simp only [List.length_drop, List.length_take]; rfl)) ?_; (with_reducible refine (spec_l1In.calls a1_1 0 ((rd_L1 l0_0 a1_0).length : Int) false _ A20.out).mono ?_); rintro e w' ⟨rfl, ⟨nd, rfl⟩⟩; refine ⟨_, rfl, ?_⟩))
       go_ret
       exact ⟨by first | rfl | (simp <;> rfl) | (simp [*] <;> rfl), by repeat (first | exact zh0 HB | refine below_set ?_ GE150.out | refine below_set ?_ GE151.out)⟩
     ·rw [if_neg c19] at H
      exact absurd H (by simp)
    ·rw [if_neg c18] at H
     exact absurd H (by simp)

open Go.Proofs.Ytldkbeccpheckaa.Cp
/-! ### spec_l10Loan: function 77 -/
def spec_l10Loan.f (k : Nat) (l0_0 : List (List Int)) (a1_0 : Int) (a1_1 : Int) (a1_2 : Int) (a1_3 : Int) (a1_4 : Bool) (a1_5 : Int) (a1_6 : Int) : Option (Bool) := (spec_l2Window.f k l0_0 a1_0 a1_1 a1_2 a1_3).bind fun t160 => (if t160 = true then ((spec_l1In.f a1_6 0 60).bind fun t161 => (if t161 = true then ((spec_l1In.f a1_5 0 a1_6).bind fun t162 => (some t162)) else (some false))) else (some false))
theorem spec_l10Loan.mono : ∀ a0 a1 a2 a3 a4 a5 a6 a7 k, LeO (spec_l10Loan.f k a0 a1 a2 a3 a4 a5 a6 a7) (spec_l10Loan.f (k + 1) a0 a1 a2 a3 a4 a5 a6 a7) := by
 intro a0 a1 a2 a3 a4 a5 a6 a7 k
 unfold spec_l10Loan.f
 repeat' first
   | (with_reducible exact spec_l2Window.mono _ _ _ _ _ _)
   | (with_reducible exact LeO.refl _)
   | (with_reducible exact LeO.none _)
   | (with_reducible refine LeO.ite ?_ ?_)
   | (with_reducible refine LeO.bind ?_ (fun _ => ?_))
   | exact spec_l2Window.mono _ _ _ _ _ _
   | exact LeO.none _
   | refine LeO.ite ?_ ?_
   | refine LeO.bind ?_ (fun _ => ?_)
set_option maxHeartbeats 8000000 in
set_option maxRecDepth 100000 in
theorem spec_l10Loan.calls (k : Nat) (A0_0 : Option Addr) (c0_0 : Nat) (l0_0 : List (List Int)) (a1_0 : Int) (a1_1 : Int) (a1_2 : Int) (a1_3 : Int) (a1_4 : Bool) (a1_5 : Int) (a1_6 : Int) (r : Bool) (w : World) (hr0_0 : Kd.C (Kd.slice 5 (Kd.int .u8)) w A0_0 l0_0.length l0_0) (hc0_0 : l0_0.length ≤ c0_0) (h : spec_l10Loan.f k l0_0 a1_0 a1_1 a1_2 a1_3 a1_4 a1_5 a1_6 = some r) :
  Calls Try.prog 77 #[.agg #[.slice A0_0 l0_0.length c0_0], .agg #[.int .i64 a1_0, .int .i64 a1_1, .int .i64 a1_2, .int .i64 a1_3, .bool a1_4, .int .i64 a1_5, .int .i64 a1_6]] w fun e w' => e = .returned (.bool r) ∧ Below w.heap.size w w' := by
 have hu31 := Try.underlying31
 have hu71 := Try.underlying71
 have hu33 := Try.underlying33
 have HR0_0 := Aside0.mk hr0_0
 have HC0_0 := Aside0.mk hc0_0
 clear hr0_0 hc0_0
 have HB := Aside0.mk (Below.refl w.heap.size w)
 have H : ((spec_l2Window.f k l0_0 a1_0 a1_1 a1_2 a1_3).bind fun t160 => (if t160 = true then ((spec_l1In.f a1_6 0 60).bind fun t161 => (if t161 = true then ((spec_l1In.f a1_5 0 a1_6).bind fun t162 => (some t162)) else (some false))) else (some false))) = some r := h
 clear h
 replace H := Option.bind_eq_some_iff.mp H
 obtain ⟨t160, A30, H⟩ := H
 replace H : (if t160 = true then ((spec_l1In.f a1_6 0 60).bind fun t161 => (if t161 = true then ((spec_l1In.f a1_5 0 a1_6).bind fun t162 => (some t162)) else (some false))) else (some false)) = some r := H
 have A3 := Aside0.mk A30
 clear A30
 by_cases c4 : t160 = true
 ·subst c4
  have H1 : ((spec_l1In.f a1_6 0 60).bind fun t161 => (if t161 = true then ((spec_l1In.f a1_5 0 a1_6).bind fun t162 => (some t162)) else (some false))) = some r := by rw [if_pos rfl] at H; exact H
  clear H
  have H := H1
  clear H1
  replace H := Option.bind_eq_some_iff.mp H
  obtain ⟨t161, A50, H⟩ := H
  replace H : (if t161 = true then ((spec_l1In.f a1_5 0 a1_6).bind fun t162 => (some t162)) else (some false)) = some r := H
  have A5 := Aside0.mk A50
  clear A50
  by_cases c6 : t161 = true
  ·subst c6
   have H1 : ((spec_l1In.f a1_5 0 a1_6).bind fun t162 => (some t162)) = some r := by rw [if_pos rfl] at H; exact H
   clear H
   have H := H1
   clear H1
   replace H := Option.bind_eq_some_iff.mp H
   obtain ⟨t162, A70, H⟩ := H
   replace H : (some t162) = some r := H
   have A7 := Aside0.mk A70
   clear A70
   obtain rfl := Option.some.inj H
   go_enter Try.func77, Try.ntmps77
   go_wp2_with (first | ((with_reducible refine gate_dst (N := 2) rfl ?_); refine box_event ?hg (N := 2) ?hd (cs := #[.slice A0_0 l0_0.length c0_0]) (t := 31) ?hr ?_; (case hd => rfl); (case hg => rfl); (case hr => first | (go_simp; done) | (go_simp; rfl)); intro gb158 hg w8 hbox hb; have BK158 := Aside0.mk (hbox); have GW158 := zge HB hg; have GE158 := zge HB hg; replace HB := zhs HB hb; clear hb hbox hg) | ((with_reducible refine gate_dst (N := 3) rfl ?_); refine box_event ?hg (N := 3) ?hd (cs := #[.int .i64 a1_0, .int .i64 a1_1, .int .i64 a1_2, .int .i64 a1_3, .bool a1_4, .int .i64 a1_5, .int .i64 a1_6]) (t := 71) ?hr ?_; (case hd => rfl); (case hg => rfl); (case hr => first | (go_simp; done) | (go_simp; rfl)); intro gb159 hg w9 hbox hb; have BK159 := Aside0.mk (hbox); have GW159 := zge HB hg; have GE159 := zge HB hg; have NB158_159 := znl BK158 hg; have NB159_158 := znr BK158 hg; replace BK158 := zb0 BK158 hb; replace HB := zhs HB hb; clear hb hbox hg; have hnb10 := NB158_159.out; have hnc10 := NB159_158.out; have hcz11_0 := zc0 BK158 0 rfl; have hfz11_0 := blk_frozen BK158.out 0; have hcz12_0 := zc0 BK159 0 rfl; have hcz12_1 := zc0 BK159 1 rfl; have hcz12_2 := zc0 BK159 2 rfl; have hcz12_3 := zc0 BK159 3 rfl; have hcz12_4 := zc0 BK159 4 rfl; have hcz12_5 := zc0 BK159 5 rfl; have hcz12_6 := zc0 BK159 6 rfl; have hfz12_0 := blk_frozen BK159.out 0; have hfz12_1 := blk_frozen BK159.out 1; have hfz12_2 := blk_frozen BK159.out 2; have hfz12_3 := blk_frozen BK159.out 3; have hfz12_4 := blk_frozen BK159.out 4; have hfz12_5 := blk_frozen BK159.out 5; have hfz12_6 := blk_frozen BK159.out 6) | ((with_reducible refine gate_callee (f := 72) rfl ?_); refine goesL_ (some 8) rfl rfl Try.func72 (by kernel_rfl) rfl #[.agg #[.slice A0_0 l0_0.length c0_0], .agg #[.int .i64 a1_0, .int .i64 a1_1, .int .i64 a1_2, .int .i64 a1_3]] rfl (by (try simp only [zq1, zq2, zq3]); first | done | rfl | (simp only [List.length_drop, List.length_take]; rfl)) ?_; (with_reducible refine (spec_l2Window.calls k _ _ l0_0 a1_0 a1_1 a1_2 a1_3 true _ ?side1 ?side2 A3.out).mono ?_); (case side1 => exact Kd.C_below HR0_0.out (zh0 HB)); (case side2 => exact HC0_0.out); rintro e w13 ⟨rfl, hb⟩; refine ⟨_, rfl, ?_⟩; replace BK158 := zb0 BK158 hb; replace BK159 := zb0 BK159 hb; replace HB := zhs HB hb; (try clear hb); have hcz14_0 := zc0 BK159 0 rfl; have hcz14_1 := zc0 BK159 1 rfl; have hcz14_2 := zc0 BK159 2 rfl; have hcz14_3 := zc0 BK159 3 rfl; have hcz14_4 := zc0 BK159 4 rfl; have hcz14_5 := zc0 BK159 5 rfl; have hcz14_6 := zc0 BK159 6 rfl; have hfz14_0 := blk_frozen BK159.out 0; have hfz14_1 := blk_frozen BK159.out 1; have hfz14_2 := blk_frozen BK159.out 2; have hfz14_3 := blk_frozen BK159.out 3; have hfz14_4 := blk_frozen BK159.out 4; have hfz14_5 := blk_frozen BK159.out 5; have hfz14_6 := blk_frozen BK159.out 6) | (go_at_call 78; (with_reducible refine (spec_l1In.calls a1_6 0 60 true _ A5.out).mono ?_); rintro e w' ⟨rfl, ⟨nd, rfl⟩⟩) | (go_at_call 78; (with_reducible refine (spec_l1In.calls a1_5 0 a1_6 t162 _ A7.out).mono ?_); rintro e w' ⟨rfl, ⟨nd, rfl⟩⟩))
   go_ret
   exact ⟨by first | rfl | (simp <;> rfl) | (simp [*] <;> rfl), by repeat (first | exact zh0 HB | refine below_set ?_ GE158.out | refine below_set ?_ GE159.out)⟩
  ·replace c6 := Bool.eq_false_iff.mpr c6
   subst c6
   have H1 : (some false) = some r := by rw [if_neg (show ¬ (false = true) by decide)] at H; exact H
   clear H
   have H := H1
   clear H1
   obtain rfl := Option.some.inj H
   go_enter Try.func77, Try.ntmps77
   go_wp2_with (first | ((with_reducible refine gate_dst (N := 2) rfl ?_); refine box_event ?hg (N := 2) ?hd (cs := #[.slice A0_0 l0_0.length c0_0]) (t := 31) ?hr ?_; (case hd => rfl); (case hg => rfl); (case hr => first | (go_simp; done) | (go_simp; rfl)); intro gb158 hg w15 hbox hb; have BK158 := Aside0.mk (hbox); have GW158 := zge HB hg; have GE158 := zge HB hg; replace HB := zhs HB hb; clear hb hbox hg) | ((with_reducible refine gate_dst (N := 3) rfl ?_); refine box_event ?hg (N := 3) ?hd (cs := #[.int .i64 a1_0, .int .i64 a1_1, .int .i64 a1_2, .int .i64 a1_3, .bool a1_4, .int .i64 a1_5, .int .i64 a1_6]) (t := 71) ?hr ?_; (case hd => rfl); (case hg => rfl); (case hr => first | (go_simp; done) | (go_simp; rfl)); intro gb159 hg w16 hbox hb; have BK159 := Aside0.mk (hbox); have GW159 := zge HB hg; have GE159 := zge HB hg; have NB158_159 := znl BK158 hg; have NB159_158 := znr BK158 hg; replace BK158 := zb0 BK158 hb; replace HB := zhs HB hb; clear hb hbox hg; have hnb17 := NB158_159.out; have hnc17 := NB159_158.out; have hcz18_0 := zc0 BK158 0 rfl; have hfz18_0 := blk_frozen BK158.out 0; have hcz19_0 := zc0 BK159 0 rfl; have hcz19_1 := zc0 BK159 1 rfl; have hcz19_2 := zc0 BK159 2 rfl; have hcz19_3 := zc0 BK159 3 rfl; have hcz19_4 := zc0 BK159 4 rfl; have hcz19_5 := zc0 BK159 5 rfl; have hcz19_6 := zc0 BK159 6 rfl; have hfz19_0 := blk_frozen BK159.out 0; have hfz19_1 := blk_frozen BK159.out 1; have hfz19_2 := blk_frozen BK159.out 2; have hfz19_3 := blk_frozen BK159.out 3; have hfz19_4 := blk_frozen BK159.out 4; have hfz19_5 := blk_frozen BK159.out 5; have hfz19_6 := blk_frozen BK159.out 6) | ((with_reducible refine gate_callee (f := 72) rfl ?_); refine goesL_ (some 8) rfl rfl Try.func72 (by kernel_rfl) rfl #[.agg #[.slice A0_0 l0_0.length c0_0], .agg #[.int .i64 a1_0, .int .i64 a1_1, .int .i64 a1_2, .int .i64 a1_3]] rfl (by (try simp only [zq1, zq2, zq3]); first | done | rfl | (simp only [List.length_drop, List.length_take]; rfl)) ?_; (with_reducible refine (spec_l2Window.calls k _ _ l0_0 a1_0 a1_1 a1_2 a1_3 true _ ?side1 ?side2 A3.out).mono ?_); (case side1 => exact Kd.C_below HR0_0.out (zh0 HB)); (case side2 => exact HC0_0.out); rintro e w20 ⟨rfl, hb⟩; refine ⟨_, rfl, ?_⟩; replace BK158 := zb0 BK158 hb; replace BK159 := zb0 BK159 hb; replace HB := zhs HB hb; (try clear hb); have hcz21_0 := zc0 BK159 0 rfl; have hcz21_1 := zc0 BK159 1 rfl; have hcz21_2 := zc0 BK159 2 rfl; have hcz21_3 := zc0 BK159 3 rfl; have hcz21_4 := zc0 BK159 4 rfl; have hcz21_5 := zc0 BK159 5 rfl; have hcz21_6 := zc0 BK159 6 rfl; have hfz21_0 := blk_frozen BK159.out 0; have hfz21_1 := blk_frozen BK159.out 1; have hfz21_2 := blk_frozen BK159.out 2; have hfz21_3 := blk_frozen BK159.out 3; have hfz21_4 := blk_frozen BK159.out 4; have hfz21_5 := blk_frozen BK159.out 5; have hfz21_6 := blk_frozen BK159.out 6) | (go_at_call 78; (with_reducible refine (spec_l1In.calls a1_6 0 60 false _ A5.out).mono ?_); rintro e w' ⟨rfl, ⟨nd, rfl⟩⟩))
   go_ret
   exact ⟨by first | rfl | (simp <;> rfl) | (simp [*] <;> rfl), by repeat (first | exact zh0 HB | refine below_set ?_ GE158.out | refine below_set ?_ GE159.out)⟩
 ·replace c4 := Bool.eq_false_iff.mpr c4
  subst c4
  have H1 : (some false) = some r := by rw [if_neg (show ¬ (false = true) by decide)] at H; exact H
  clear H
  have H := H1
  clear H1
  obtain rfl := Option.some.inj H
  go_enter Try.func77, Try.ntmps77
  go_wp2_with (first | ((with_reducible refine gate_dst (N := 2) rfl ?_); refine box_event ?hg (N := 2) ?hd (cs := #[.slice A0_0 l0_0.length c0_0]) (t := 31) ?hr ?_; (case hd => rfl); (case hg => rfl); (case hr => first | (go_simp; done) | (go_simp; rfl)); intro gb158 hg w22 hbox hb; have BK158 := Aside0.mk (hbox); have GW158 := zge HB hg; have GE158 := zge HB hg; replace HB := zhs HB hb; clear hb hbox hg) | ((with_reducible refine gate_dst (N := 3) rfl ?_); refine box_event ?hg (N := 3) ?hd (cs := #[.int .i64 a1_0, .int .i64 a1_1, .int .i64 a1_2, .int .i64 a1_3, .bool a1_4, .int .i64 a1_5, .int .i64 a1_6]) (t := 71) ?hr ?_; (case hd => rfl); (case hg => rfl); (case hr => first | (go_simp; done) | (go_simp; rfl)); intro gb159 hg w23 hbox hb; have BK159 := Aside0.mk (hbox); have GW159 := zge HB hg; have GE159 := zge HB hg; have NB158_159 := znl BK158 hg; have NB159_158 := znr BK158 hg; replace BK158 := zb0 BK158 hb; replace HB := zhs HB hb; clear hb hbox hg; have hnb24 := NB158_159.out; have hnc24 := NB159_158.out; have hcz25_0 := zc0 BK158 0 rfl; have hfz25_0 := blk_frozen BK158.out 0; have hcz26_0 := zc0 BK159 0 rfl; have hcz26_1 := zc0 BK159 1 rfl; have hcz26_2 := zc0 BK159 2 rfl; have hcz26_3 := zc0 BK159 3 rfl; have hcz26_4 := zc0 BK159 4 rfl; have hcz26_5 := zc0 BK159 5 rfl; have hcz26_6 := zc0 BK159 6 rfl; have hfz26_0 := blk_frozen BK159.out 0; have hfz26_1 := blk_frozen BK159.out 1; have hfz26_2 := blk_frozen BK159.out 2; have hfz26_3 := blk_frozen BK159.out 3; have hfz26_4 := blk_frozen BK159.out 4; have hfz26_5 := blk_frozen BK159.out 5; have hfz26_6 := blk_frozen BK159.out 6) | ((with_reducible refine gate_callee (f := 72) rfl ?_); refine goesL_ (some 8) rfl rfl Try.func72 (by kernel_rfl) rfl #[.agg #[.slice A0_0 l0_0.length c0_0], .agg #[.int .i64 a1_0, .int .i64 a1_1, .int .i64 a1_2, .int .i64 a1_3]] rfl (by (try simp only [zq1, zq2, zq3]); first | done | rfl | (simp only [List.length_drop, List.length_take]; rfl)) ?_; (with_reducible refine (spec_l2Window.calls k _ _ l0_0 a1_0 a1_1 a1_2 a1_3 false _ ?side1 ?side2 A3.out).mono ?_); (case side1 => exact Kd.C_below HR0_0.out (zh0 HB)); (case side2 => exact HC0_0.out); rintro e w27 ⟨rfl, hb⟩; refine ⟨_, rfl, ?_⟩; replace BK158 := zb0 BK158 hb; replace BK159 := zb0 BK159 hb; replace HB := zhs HB hb; (try clear hb)))
  go_ret
  exact ⟨by first | rfl | (simp <;> rfl) | (simp [*] <;> rfl), by repeat (first | exact zh0 HB | refine below_set ?_ GE158.out | refine below_set ?_ GE159.out)⟩

open Go.Proofs.Ytldkbeccpheckaa.Cp
/-! ### spec_l10Made: function 80 -/
def spec_l10Made.f (a0_0 : Int) (a0_1 : Int) (a0_2 : Int) (a0_3 : Int) (a1 : Bool) (a2 : Int) (a3 : Int) : Option (Int × Int × Int × Int × Bool × Int × Int) := some (a0_0, a0_1, a0_2, a0_3, a1, a2, a3)
set_option maxHeartbeats 8000000 in
set_option maxRecDepth 100000 in
theorem spec_l10Made.calls (a0_0 : Int) (a0_1 : Int) (a0_2 : Int) (a0_3 : Int) (a1 : Bool) (a2 : Int) (a3 : Int) (r1 : Int) (r2 : Int) (r3 : Int) (r4 : Int) (r5 : Bool) (r6 : Int) (r7 : Int) (w : World) (h : spec_l10Made.f a0_0 a0_1 a0_2 a0_3 a1 a2 a3 = some (r1, r2, r3, r4, r5, r6, r7)) :
  Calls Try.prog 80 #[.agg #[.int .i64 a0_0, .int .i64 a0_1, .int .i64 a0_2, .int .i64 a0_3], .bool a1, .int .i64 a2, .int .i64 a3] w fun e w' => e = .returned (.agg #[.int .i64 r1, .int .i64 r2, .int .i64 r3, .int .i64 r4, .bool r5, .int .i64 r6, .int .i64 r7]) ∧ Below w.heap.size w w' := by
 have hu33 := Try.underlying33
 have hu71 := Try.underlying71
 have HB := Aside0.mk (Below.refl w.heap.size w)
 have H : (some (a0_0, a0_1, a0_2, a0_3, a1, a2, a3)) = some (r1, r2, r3, r4, r5, r6, r7) := h
 clear h
 simp only [Option.some.injEq, Prod.mk.injEq] at H
 obtain ⟨rfl, rfl, rfl, rfl, rfl, rfl, rfl⟩ := H
 go_enter Try.func80, Try.ntmps80
 go_wp2_with (first | ((with_reducible refine gate_dst (N := 4) rfl ?_); refine box_event ?hg (N := 4) ?hd (cs := #[.int .i64 a0_0, .int .i64 a0_1, .int .i64 a0_2, .int .i64 a0_3]) (t := 33) ?hr ?_; (case hd => rfl); (case hg => rfl); (case hr => first | (go_simp; done) | (go_simp; rfl)); intro gb163 hg w5 hbox hb; have BK163 := Aside0.mk (hbox); have GW163 := zge HB hg; have GE163 := zge HB hg; replace HB := zhs HB hb; clear hb hbox hg) | ((with_reducible refine gate_dst (N := 8) rfl ?_); refine box_event ?hg (N := 8) ?hd (cs := #[.int .i64 0, .int .i64 0, .int .i64 0, .int .i64 0, .bool false, .int .i64 0, .int .i64 0]) (t := 71) ?hr ?_; (case hd => rfl); (case hg => rfl); (case hr => first | (go_simp; done) | (go_simp; rfl)); intro gb164 hg w6 hbox hb; have BK164 := Aside0.mk (hbox); have GW164 := Aside0.mk ((by rw [hg]; exact (below_size (by repeat (first | exact zh0 HB | refine below_set ?_ GE163.out))) : w.heap.size ≤ gb164)); have GE164 := Aside0.mk ((by rw [hg]; exact (below_size (by repeat (first | exact zh0 HB | refine below_set ?_ GE163.out))) : w.heap.size ≤ gb164)); have NB163_164 := znl BK163 hg; have NB164_163 := znr BK163 hg; replace BK163 := zb0 BK163 hb; replace HB := Aside0.mk (below_step (by repeat (first | exact zh0 HB | refine below_set ?_ GE163.out)) hb); clear hb hbox hg; have hnb7 := NB163_164.out; have hnc7 := NB164_163.out; have hcz8_0 := zc0 BK163 0 rfl; have hcz8_1 := zc0 BK163 1 rfl; have hcz8_2 := zc0 BK163 2 rfl; have hcz8_3 := zc0 BK163 3 rfl; have hfz8_0 := blk_frozen BK163.out 0; have hfz8_1 := blk_frozen BK163.out 1; have hfz8_2 := blk_frozen BK163.out 2; have hfz8_3 := blk_frozen BK163.out 3; have hcz9_0 := zc0 BK164 0 rfl; have hcz9_1 := zc0 BK164 1 rfl; have hcz9_2 := zc0 BK164 2 rfl; have hcz9_3 := zc0 BK164 3 rfl; have hcz9_4 := zc0 BK164 4 rfl; have hcz9_5 := zc0 BK164 5 rfl; have hcz9_6 := zc0 BK164 6 rfl; have hfz9_0 := blk_frozen BK164.out 0; have hfz9_1 := blk_frozen BK164.out 1; have hfz9_2 := blk_frozen BK164.out 2; have hfz9_3 := blk_frozen BK164.out 3; have hfz9_4 := blk_frozen BK164.out 4; have hfz9_5 := blk_frozen BK164.out 5; have hfz9_6 := blk_frozen BK164.out 6))
 refine bodyPost_ret (results_cell_row rfl _ _ gb164 71 #[.int .i64 a0_0, .int .i64 a0_1, .int .i64 a0_2, .int .i64 a0_3, .bool a1, .int .i64 a2, .int .i64 a3] (0, 0) _ rfl (by (with_reducible repeat (first | refine blk_drewN ?_ _ | refine blk_drew ?_ | refine blk_alloc ?_ _)); refine blk_put (cs := #[.int .i64 a0_0, .int .i64 a0_1, .int .i64 a0_2, .int .i64 a0_3, .bool a1, .int .i64 a2, .int .i64 0]) ?_ 6 _ rfl; refine blk_put (cs := #[.int .i64 a0_0, .int .i64 a0_1, .int .i64 a0_2, .int .i64 a0_3, .bool a1, .int .i64 0, .int .i64 0]) ?_ 5 _ rfl; refine blk_put (cs := #[.int .i64 a0_0, .int .i64 a0_1, .int .i64 a0_2, .int .i64 a0_3, .bool false, .int .i64 0, .int .i64 0]) ?_ 4 _ rfl; refine blk_put (cs := #[.int .i64 a0_0, .int .i64 a0_1, .int .i64 a0_2, .int .i64 0, .bool false, .int .i64 0, .int .i64 0]) ?_ 3 _ rfl; refine blk_put (cs := #[.int .i64 a0_0, .int .i64 a0_1, .int .i64 0, .int .i64 0, .bool false, .int .i64 0, .int .i64 0]) ?_ 2 _ rfl; refine blk_put (cs := #[.int .i64 a0_0, .int .i64 0, .int .i64 0, .int .i64 0, .bool false, .int .i64 0, .int .i64 0]) ?_ 1 _ rfl; refine blk_put (cs := #[.int .i64 0, .int .i64 0, .int .i64 0, .int .i64 0, .bool false, .int .i64 0, .int .i64 0]) ?_ 0 _ rfl; (with_reducible repeat (first | refine blk_drewN ?_ _ | refine blk_drew ?_ | refine blk_alloc ?_ _)); exact BK164.out) Try.underlying71 rfl (by kernel_rfl)) rfl ?_
 exact ⟨by first | rfl | (simp <;> rfl) | (simp [*] <;> rfl), by repeat (first | exact zh0 HB | refine below_set ?_ GE163.out | refine below_set ?_ GE164.out)⟩

/-! ### spec_ShareLoan: function 49 (by hand) -/
def spec_ShareLoan.f (k : Nat) (l0_0 : List (List Int)) (a1_0 : Int) (a1_1 : Int) (a1_2 : Int) (a1_3 : Int) (a1_4 : Bool) (a1_5 : Int) (a1_6 : Int) (a2 : Int) (a3 : Int) : Option (Int × Int × Int × Int × Bool × Int × Int × Int × Int × Int × Int × Bool × Int × Int × Int × Int × Int × Int × Bool × Int × Int × Bool) := (spec_l10Loan.f k l0_0 a1_0 a1_1 a1_2 a1_3 a1_4 a1_5 a1_6).bind fun y0_0 => if y0_0 = true then if a1_4 = true then (spec_l1In.f a2 a1_5 a1_6).bind fun y1_0 => if y1_0 = true then (spec_l1In.f a3 a2 a1_6).bind fun y2_0 => if y2_0 = true then (spec_l10Made.f a1_0 a1_1 a1_2 a1_3 true a1_5 a2).bind fun y3 => (spec_l10Made.f a1_0 a1_1 a1_2 a1_3 false a2 a3).bind fun y4 => (spec_l10Made.f a1_0 a1_1 a1_2 a1_3 true a3 a1_6).bind fun y5 => some (y3.1, y3.2.1, y3.2.2.1, y3.2.2.2.1, y3.2.2.2.2.1, y3.2.2.2.2.2.1, y3.2.2.2.2.2.2, y4.1, y4.2.1, y4.2.2.1, y4.2.2.2.1, y4.2.2.2.2.1, y4.2.2.2.2.2.1, y4.2.2.2.2.2.2, y5.1, y5.2.1, y5.2.2.1, y5.2.2.2.1, y5.2.2.2.2.1, y5.2.2.2.2.2.1, y5.2.2.2.2.2.2, true) else some (0, 0, 0, 0, false, 0, 0, 0, 0, 0, 0, false, 0, 0, 0, 0, 0, 0, false, 0, 0, false) else some (0, 0, 0, 0, false, 0, 0, 0, 0, 0, 0, false, 0, 0, 0, 0, 0, 0, false, 0, 0, false) else some (0, 0, 0, 0, false, 0, 0, 0, 0, 0, 0, false, 0, 0, 0, 0, 0, 0, false, 0, 0, false) else some (0, 0, 0, 0, false, 0, 0, 0, 0, 0, 0, false, 0, 0, 0, 0, 0, 0, false, 0, 0, false)
theorem spec_ShareLoan.mono : ∀ x0 x1 x2 x3 x4 x5 x6 x7 x8 x9 k, LeO (spec_ShareLoan.f k x0 x1 x2 x3 x4 x5 x6 x7 x8 x9) (spec_ShareLoan.f (k + 1) x0 x1 x2 x3 x4 x5 x6 x7 x8 x9) := by
  intro x0 x1 x2 x3 x4 x5 x6 x7 x8 x9 k
  unfold spec_ShareLoan.f
  exact LeO.bind (by apply spec_l10Loan.mono) (fun _ => LeO.ite (LeO.ite (LeO.bind (LeO.refl _) (fun _ => LeO.ite (LeO.bind (LeO.refl _) (fun _ => LeO.ite (LeO.bind (LeO.refl _) (fun _ => LeO.bind (LeO.refl _) (fun _ => LeO.bind (LeO.refl _) (fun _ => LeO.refl _)))) (LeO.refl _))) (LeO.refl _))) (LeO.refl _)) (LeO.refl _))
set_option maxHeartbeats 4000000 in
set_option maxRecDepth 100000 in
theorem spec_ShareLoan.calls (k : Nat) (A0_0 : Option Addr) (c0_0 : Nat) (l0_0 : List (List Int)) (a1_0 : Int) (a1_1 : Int) (a1_2 : Int) (a1_3 : Int) (a1_4 : Bool) (a1_5 : Int) (a1_6 : Int) (a2 : Int) (a3 : Int) (r1 : Int) (r2 : Int) (r3 : Int) (r4 : Int) (r5 : Bool) (r6 : Int) (r7 : Int) (r8 : Int) (r9 : Int) (r10 : Int) (r11 : Int) (r12 : Bool) (r13 : Int) (r14 : Int) (r15 : Int) (r16 : Int) (r17 : Int) (r18 : Int) (r19 : Bool) (r20 : Int) (r21 : Int) (r22 : Bool) (w : World) (hr0_0 : Kd.C (Kd.slice 5 (Kd.int .u8)) w A0_0 l0_0.length l0_0) (hc0_0 : l0_0.length ≤ c0_0) (h : spec_ShareLoan.f k l0_0 a1_0 a1_1 a1_2 a1_3 a1_4 a1_5 a1_6 a2 a3 = some (r1, r2, r3, r4, r5, r6, r7, r8, r9, r10, r11, r12, r13, r14, r15, r16, r17, r18, r19, r20, r21, r22)) :
    Calls Try.prog 49 #[.agg #[.slice A0_0 l0_0.length c0_0], .agg #[.int .i64 a1_0, .int .i64 a1_1, .int .i64 a1_2, .int .i64 a1_3, .bool a1_4, .int .i64 a1_5, .int .i64 a1_6], .int .i64 a2, .int .i64 a3] w fun e w' => e = .returned (.tuple #[.agg #[.int .i64 r1, .int .i64 r2, .int .i64 r3, .int .i64 r4, .bool r5, .int .i64 r6, .int .i64 r7], .agg #[.int .i64 r8, .int .i64 r9, .int .i64 r10, .int .i64 r11, .bool r12, .int .i64 r13, .int .i64 r14], .agg #[.int .i64 r15, .int .i64 r16, .int .i64 r17, .int .i64 r18, .bool r19, .int .i64 r20, .int .i64 r21], .bool r22]) ∧ Below w.heap.size w w' := by
  have HR0_0 := Lib.hid hr0_0
  have HC0_0 := Lib.hid hc0_0
  clear hr0_0 hc0_0
  obtain ⟨W0, hW⟩ : ∃ W, W = (((((w.alloc (.cells #[.slice A0_0 l0_0.length c0_0] 31)).alloc (.cells #[.int .i64 a1_0, .int .i64 a1_1, .int .i64 a1_2, .int .i64 a1_3, .bool a1_4, .int .i64 a1_5, .int .i64 a1_6] 71)).alloc (.cells #[.int .i64 0, .int .i64 0, .int .i64 0, .int .i64 0, .bool false, .int .i64 0, .int .i64 0] 71)).alloc (.cells #[.int .i64 0, .int .i64 0, .int .i64 0, .int .i64 0, .bool false, .int .i64 0, .int .i64 0] 71)).alloc (.cells #[.int .i64 0, .int .i64 0, .int .i64 0, .int .i64 0, .bool false, .int .i64 0, .int .i64 0] 71)) := ⟨_, rfl⟩
  have HI : Hid (Lv.Inv w W0 [Lv.boxF (w.heap.size + 4) #[.int .i64 0, .int .i64 0, .int .i64 0, .int .i64 0, .bool false, .int .i64 0, .int .i64 0] 71, Lv.boxF (w.heap.size + 3) #[.int .i64 0, .int .i64 0, .int .i64 0, .int .i64 0, .bool false, .int .i64 0, .int .i64 0] 71, Lv.boxF (w.heap.size + 2) #[.int .i64 0, .int .i64 0, .int .i64 0, .int .i64 0, .bool false, .int .i64 0, .int .i64 0] 71, Lv.boxF (w.heap.size + 1) #[.int .i64 a1_0, .int .i64 a1_1, .int .i64 a1_2, .int .i64 a1_3, .bool a1_4, .int .i64 a1_5, .int .i64 a1_6] 71, Lv.boxF (w.heap.size) #[.slice A0_0 l0_0.length c0_0] 31]) := by
    subst hW
    have := ((((((Lv.Inv.refl w).box #[.slice A0_0 l0_0.length c0_0] 31).box #[.int .i64 a1_0, .int .i64 a1_1, .int .i64 a1_2, .int .i64 a1_3, .bool a1_4, .int .i64 a1_5, .int .i64 a1_6] 71).box #[.int .i64 0, .int .i64 0, .int .i64 0, .int .i64 0, .bool false, .int .i64 0, .int .i64 0] 71).box #[.int .i64 0, .int .i64 0, .int .i64 0, .int .i64 0, .bool false, .int .i64 0, .int .i64 0] 71).box #[.int .i64 0, .int .i64 0, .int .i64 0, .int .i64 0, .bool false, .int .i64 0, .int .i64 0] 71)
    exact Lib.hid (by simpa using this)
  unfold spec_ShareLoan.f at h
  replace h := Option.bind_eq_some_iff.mp h
  obtain ⟨y0_0, A0, h⟩ := h
  try dsimp only at h
  have HA0 := Lib.hid A0
  clear A0
  cases y0_0 with
  | true =>
    rw [if_pos rfl] at h
    cases a1_4 with
    | true =>
      rw [if_pos rfl] at h
      replace h := Option.bind_eq_some_iff.mp h
      obtain ⟨y1_0, A1, h⟩ := h
      try dsimp only at h
      have HA1 := Lib.hid A1
      clear A1
      cases y1_0 with
      | true =>
        rw [if_pos rfl] at h
        replace h := Option.bind_eq_some_iff.mp h
        obtain ⟨y2_0, A2, h⟩ := h
        try dsimp only at h
        have HA2 := Lib.hid A2
        clear A2
        cases y2_0 with
        | true =>
          rw [if_pos rfl] at h
          replace h := Option.bind_eq_some_iff.mp h
          obtain ⟨⟨y3_0, y3_1, y3_2, y3_3, y3_4, y3_5, y3_6⟩, A3, h⟩ := h
          try dsimp only at h
          have HA3 := Lib.hid A3
          clear A3
          replace h := Option.bind_eq_some_iff.mp h
          obtain ⟨⟨y4_0, y4_1, y4_2, y4_3, y4_4, y4_5, y4_6⟩, A4, h⟩ := h
          try dsimp only at h
          have HA4 := Lib.hid A4
          clear A4
          replace h := Option.bind_eq_some_iff.mp h
          obtain ⟨⟨y5_0, y5_1, y5_2, y5_3, y5_4, y5_5, y5_6⟩, A5, h⟩ := h
          try dsimp only at h
          have HA5 := Lib.hid A5
          clear A5
          simp only [Option.some.injEq, Prod.mk.injEq] at h
          obtain ⟨rfl, rfl, rfl, rfl, rfl, rfl, rfl, rfl, rfl, rfl, rfl, rfl, rfl, rfl, rfl, rfl, rfl, rfl, rfl, rfl, rfl, rfl⟩ := h
          go_enter Try.func49, Try.ntmps49
          go_upto_region 1 with (fail)
          rw [← hW]
          clear hW
          refine Fl.startL [.take 0, .take 1, .one 2, .take 3, .take 4, .take 5, .take 6, .take 7, .take 8, .take 9, .take 10, .take 11, .take 12, .take 13, .take 14, .one 15, .take 16, .take 17, .take 18, .take 19, .take 20, .take 21, .take 22, .one 23, .take 24, .take 25] (by decide) HI.out ?_
          refine Fl.take (some 12) (v := .agg #[.slice A0_0 l0_0.length c0_0]) rfl rfl (Fl.ld 4 rfl (by rfl) _ _ rfl rfl Try.underlying31 rfl (by kernel_rfl)) ?_
          simp only [Act.put, Fl.z1, Fl.z2, Fl.z3]
          refine Fl.take (some 13) (v := .agg #[.int .i64 a1_0, .int .i64 a1_1, .int .i64 a1_2, .int .i64 a1_3, .bool true, .int .i64 a1_5, .int .i64 a1_6]) rfl rfl (Fl.ld 3 rfl (by rfl) _ _ rfl rfl Try.underlying71 rfl (by kernel_rfl)) ?_
          simp only [Act.put, Fl.z1, Fl.z2, Fl.z3]
          refine Fl.call (some 14) Try.func77 (by kernel_rfl) rfl #[.agg #[.slice A0_0 l0_0.length c0_0], .agg #[.int .i64 a1_0, .int .i64 a1_1, .int .i64 a1_2, .int .i64 a1_3, .bool true, .int .i64 a1_5, .int .i64 a1_6]] rfl rfl rfl (by rfl) rfl (fun E W hE hi => ?_)
          refine (spec_l10Loan.calls k _ _ l0_0 a1_0 a1_1 a1_2 a1_3 true a1_5 a1_6 true W (Kd.C_below HR0_0.out hi.bel) HC0_0.out HA0.out).mono ?_
          rintro e W' ⟨rfl, hb⟩
          refine Fl.keep hi hb ?_
          clear hi hb hE
          simp only [Act.put, Fl.z1, Fl.z2, Fl.z3]
          refine Fl.take (some 15) (v := .bool false) rfl rfl (Or.inl ⟨by rfl, fun _ _ => by rfl⟩) ?_
          simp only [Act.put, Fl.z1, Fl.z2, Fl.z3]
          refine Fl.take (some 16) (v := .bool false) rfl rfl (Or.inl ⟨by rfl, fun _ _ => by rfl⟩) ?_
          simp only [Act.put, Fl.z1, Fl.z2, Fl.z3]
          refine Fl.take (some 17) (v := .pointer (some ⟨w.heap.size + 1, 4, none⟩)) rfl rfl (Or.inl ⟨by rfl, fun _ _ => by first | rfl | (go_simp; done) | (go_simp; simp only [i64_w])⟩) ?_
          simp only [Act.put, Fl.z1, Fl.z2, Fl.z3]
          refine Fl.take (some 18) (v := .bool true) rfl rfl (Or.inl ⟨by rfl, fun W' hW' => by have h_ := hW'.cell 3 rfl 4 rfl; go_simp⟩) ?_
          simp only [Act.put, Fl.z1, Fl.z2, Fl.z3]
          refine Fl.take (some 19) (v := .bool false) rfl rfl (Or.inl ⟨by rfl, fun _ _ => by rfl⟩) ?_
          simp only [Act.put, Fl.z1, Fl.z2, Fl.z3]
          refine Fl.take (some 20) (v := .bool false) rfl rfl (Or.inl ⟨by rfl, fun _ _ => by rfl⟩) ?_
          simp only [Act.put, Fl.z1, Fl.z2, Fl.z3]
          refine Fl.take (some 21) (v := .bool false) rfl rfl (Or.inl ⟨by rfl, fun _ _ => by rfl⟩) ?_
          simp only [Act.put, Fl.z1, Fl.z2, Fl.z3]
          refine Fl.take (some 22) (v := .int .i64 a2) rfl rfl (Or.inl ⟨by rfl, fun _ _ => by rfl⟩) ?_
          simp only [Act.put, Fl.z1, Fl.z2, Fl.z3]
          refine Fl.take (some 23) (v := .pointer (some ⟨w.heap.size + 1, 5, none⟩)) rfl rfl (Or.inl ⟨by rfl, fun _ _ => by first | rfl | (go_simp; done) | (go_simp; simp only [i64_w])⟩) ?_
          simp only [Act.put, Fl.z1, Fl.z2, Fl.z3]
          refine Fl.take (some 24) (v := .int .i64 a1_5) rfl rfl (Or.inl ⟨by rfl, fun W' hW' => by have h_ := hW'.cell 3 rfl 5 rfl; go_simp⟩) ?_
          simp only [Act.put, Fl.z1, Fl.z2, Fl.z3]
          refine Fl.take (some 25) (v := .pointer (some ⟨w.heap.size + 1, 6, none⟩)) rfl rfl (Or.inl ⟨by rfl, fun _ _ => by first | rfl | (go_simp; done) | (go_simp; simp only [i64_w])⟩) ?_
          simp only [Act.put, Fl.z1, Fl.z2, Fl.z3]
          refine Fl.take (some 26) (v := .int .i64 a1_6) rfl rfl (Or.inl ⟨by rfl, fun W' hW' => by have h_ := hW'.cell 3 rfl 6 rfl; go_simp⟩) ?_
          simp only [Act.put, Fl.z1, Fl.z2, Fl.z3]
          refine Fl.call (some 27) Try.func78 (by kernel_rfl) rfl #[.int .i64 a2, .int .i64 a1_5, .int .i64 a1_6] rfl rfl rfl (by rfl) rfl (fun E W hE hi => ?_)
          refine (spec_l1In.calls a2 a1_5 a1_6 true W HA1.out).mono ?_
          rintro e W' ⟨rfl, hb⟩
          refine Fl.keep hi hb.below ?_
          clear hi hb hE
          simp only [Act.put, Fl.z1, Fl.z2, Fl.z3]
          refine Fl.take (some 28) (v := .bool false) rfl rfl (Or.inl ⟨by rfl, fun _ _ => by rfl⟩) ?_
          simp only [Act.put, Fl.z1, Fl.z2, Fl.z3]
          refine Fl.take (some 29) (v := .bool false) rfl rfl (Or.inl ⟨by rfl, fun _ _ => by rfl⟩) ?_
          simp only [Act.put, Fl.z1, Fl.z2, Fl.z3]
          refine Fl.take (some 30) (v := .bool false) rfl rfl (Or.inl ⟨by rfl, fun _ _ => by rfl⟩) ?_
          simp only [Act.put, Fl.z1, Fl.z2, Fl.z3]
          refine Fl.take (some 31) (v := .int .i64 a3) rfl rfl (Or.inl ⟨by rfl, fun _ _ => by rfl⟩) ?_
          simp only [Act.put, Fl.z1, Fl.z2, Fl.z3]
          refine Fl.take (some 32) (v := .int .i64 a2) rfl rfl (Or.inl ⟨by rfl, fun _ _ => by rfl⟩) ?_
          simp only [Act.put, Fl.z1, Fl.z2, Fl.z3]
          refine Fl.take (some 33) (v := .pointer (some ⟨w.heap.size + 1, 6, none⟩)) rfl rfl (Or.inl ⟨by rfl, fun _ _ => by first | rfl | (go_simp; done) | (go_simp; simp only [i64_w])⟩) ?_
          simp only [Act.put, Fl.z1, Fl.z2, Fl.z3]
          refine Fl.take (some 34) (v := .int .i64 a1_6) rfl rfl (Or.inl ⟨by rfl, fun W' hW' => by have h_ := hW'.cell 3 rfl 6 rfl; go_simp⟩) ?_
          simp only [Act.put, Fl.z1, Fl.z2, Fl.z3]
          refine Fl.call (some 35) Try.func78 (by kernel_rfl) rfl #[.int .i64 a3, .int .i64 a2, .int .i64 a1_6] rfl rfl rfl (by rfl) rfl (fun E W hE hi => ?_)
          refine (spec_l1In.calls a3 a2 a1_6 true W HA2.out).mono ?_
          rintro e W' ⟨rfl, hb⟩
          refine Fl.keep hi hb.below ?_
          clear hi hb hE
          simp only [Act.put, Fl.z1, Fl.z2, Fl.z3]
          refine Fl.take (some 36) (v := .bool false) rfl rfl (Or.inl ⟨by rfl, fun _ _ => by rfl⟩) ?_
          simp only [Act.put, Fl.z1, Fl.z2, Fl.z3]
          refine Fl.take (some 37) (v := .bool false) rfl rfl (Or.inl ⟨by rfl, fun _ _ => by rfl⟩) ?_
          simp only [Act.put, Fl.z1, Fl.z2, Fl.z3]
          refine Fl.stop (fun W hi => ?_)
          replace HI := Lib.hid hi
          clear hi
          go_upto_region 3 with (fail)
          replace HI := Lib.hid (Fl.inv_sel HI.out [2, 1, 0, 3, 4] (by decide))
          refine Fl.startF (F := [_, _, _]) [([],[]),([0],[0]),([],[]),([2],[2]),([],[]),([1,3,4],[1,3,4]),([],[]),([6],[6]),([],[]),([],[]),([7,8,9,5],[7,8,9]),([],[]),([11],[11]),([],[]),([],[]),([14],[14]),([12,13,15,10],[12,13,15]),([5,16,0,1,2,3,4,5],[5]),([10,17,0,1,2,3,4,5,6,7,8,9,10,17],[10]),([16,18,0,1,2,3,4,5,6,7,8,9,10,11,12,13,14,15,16,17,18],[16]),([19,0,1,2,3,4,5,6,7,8,9,10,11,12,13,14,15,16,17,18,19],[])] [] 22 [.take 0, .take 1, .take 2, .take 3, .take 4, .take 6, .take 7, .take 8, .take 9, .take 11, .take 12, .take 13, .take 14, .take 15, .one 5, .one 10, .one 16, .one 17, .one 18, .one 19, .take 20] [] (by kernel_rfl) (by kernel_rfl) (by decide) (by decide) (by kernel_rfl) (by kernel_rfl) Fl.mk0 HI.out ?_
          refine Fl.take (some 41) (v := .pointer (some ⟨w.heap.size + 1, 0, none⟩)) rfl rfl (Or.inl ⟨by rfl, fun _ _ => by first | rfl | (go_simp; done) | (go_simp; simp only [i64_w])⟩) ?_
          simp only [Act.put, Fl.z1, Fl.z2, Fl.z3]
          refine Fl.take (some 42) (v := .agg #[.int .i64 a1_0, .int .i64 a1_1, .int .i64 a1_2, .int .i64 a1_3]) rfl rfl (Fl.ldP 0 0 #[.int .i64 a1_0, .int .i64 a1_1, .int .i64 a1_2, .int .i64 a1_3] rfl (by rfl) _ _ rfl rfl rfl Try.underlying33 rfl (by kernel_rfl)) ?_
          simp only [Act.put, Fl.z1, Fl.z2, Fl.z3]
          refine Fl.take (some 43) (v := .pointer (some ⟨w.heap.size + 1, 5, none⟩)) rfl rfl (Or.inl ⟨by rfl, fun _ _ => by first | rfl | (go_simp; done) | (go_simp; simp only [i64_w])⟩) ?_
          simp only [Act.put, Fl.z1, Fl.z2, Fl.z3]
          refine Fl.take (some 44) (v := .int .i64 a1_5) rfl rfl (Or.inl ⟨by rfl, fun W' hW' => by have h_ := hW'.cell 0 rfl 5 rfl; go_simp⟩) ?_
          simp only [Act.put, Fl.z1, Fl.z2, Fl.z3]
          refine Fl.take (some 45) (v := .int .i64 a2) rfl rfl (Or.inl ⟨by rfl, fun _ _ => by rfl⟩) ?_
          simp only [Act.put, Fl.z1, Fl.z2, Fl.z3]
          refine Fl.take (some 47) (v := .pointer (some ⟨w.heap.size + 1, 0, none⟩)) rfl rfl (Or.inl ⟨by rfl, fun _ _ => by first | rfl | (go_simp; done) | (go_simp; simp only [i64_w])⟩) ?_
          simp only [Act.put, Fl.z1, Fl.z2, Fl.z3]
          refine Fl.take (some 48) (v := .agg #[.int .i64 a1_0, .int .i64 a1_1, .int .i64 a1_2, .int .i64 a1_3]) rfl rfl (Fl.ldP 0 0 #[.int .i64 a1_0, .int .i64 a1_1, .int .i64 a1_2, .int .i64 a1_3] rfl (by rfl) _ _ rfl rfl rfl Try.underlying33 rfl (by kernel_rfl)) ?_
          simp only [Act.put, Fl.z1, Fl.z2, Fl.z3]
          refine Fl.take (some 49) (v := .int .i64 a2) rfl rfl (Or.inl ⟨by rfl, fun _ _ => by rfl⟩) ?_
          simp only [Act.put, Fl.z1, Fl.z2, Fl.z3]
          refine Fl.take (some 50) (v := .int .i64 a3) rfl rfl (Or.inl ⟨by rfl, fun _ _ => by rfl⟩) ?_
          simp only [Act.put, Fl.z1, Fl.z2, Fl.z3]
          refine Fl.take (some 52) (v := .pointer (some ⟨w.heap.size + 1, 0, none⟩)) rfl rfl (Or.inl ⟨by rfl, fun _ _ => by first | rfl | (go_simp; done) | (go_simp; simp only [i64_w])⟩) ?_
          simp only [Act.put, Fl.z1, Fl.z2, Fl.z3]
          refine Fl.take (some 53) (v := .agg #[.int .i64 a1_0, .int .i64 a1_1, .int .i64 a1_2, .int .i64 a1_3]) rfl rfl (Fl.ldP 0 0 #[.int .i64 a1_0, .int .i64 a1_1, .int .i64 a1_2, .int .i64 a1_3] rfl (by rfl) _ _ rfl rfl rfl Try.underlying33 rfl (by kernel_rfl)) ?_
          simp only [Act.put, Fl.z1, Fl.z2, Fl.z3]
          refine Fl.take (some 54) (v := .int .i64 a3) rfl rfl (Or.inl ⟨by rfl, fun _ _ => by rfl⟩) ?_
          simp only [Act.put, Fl.z1, Fl.z2, Fl.z3]
          refine Fl.take (some 55) (v := .pointer (some ⟨w.heap.size + 1, 6, none⟩)) rfl rfl (Or.inl ⟨by rfl, fun _ _ => by first | rfl | (go_simp; done) | (go_simp; simp only [i64_w])⟩) ?_
          simp only [Act.put, Fl.z1, Fl.z2, Fl.z3]
          refine Fl.take (some 56) (v := .int .i64 a1_6) rfl rfl (Or.inl ⟨by rfl, fun W' hW' => by have h_ := hW'.cell 0 rfl 6 rfl; go_simp⟩) ?_
          simp only [Act.put, Fl.z1, Fl.z2, Fl.z3]
          refine Fl.call (some 46) Try.func80 (by kernel_rfl) rfl #[.agg #[.int .i64 a1_0, .int .i64 a1_1, .int .i64 a1_2, .int .i64 a1_3], .bool true, .int .i64 a1_5, .int .i64 a2] rfl rfl rfl (by rfl) rfl (fun E W hE hi => ?_)
          refine (spec_l10Made.calls a1_0 a1_1 a1_2 a1_3 true a1_5 a2 y3_0 y3_1 y3_2 y3_3 y3_4 y3_5 y3_6 W HA3.out).mono ?_
          rintro e W' ⟨rfl, hb⟩
          refine Fl.keep hi hb ?_
          clear hi hb hE
          simp only [Act.put, Fl.z1, Fl.z2, Fl.z3]
          refine Fl.call (some 51) Try.func80 (by kernel_rfl) rfl #[.agg #[.int .i64 a1_0, .int .i64 a1_1, .int .i64 a1_2, .int .i64 a1_3], .bool false, .int .i64 a2, .int .i64 a3] rfl rfl rfl (by rfl) rfl (fun E W hE hi => ?_)
          refine (spec_l10Made.calls a1_0 a1_1 a1_2 a1_3 false a2 a3 y4_0 y4_1 y4_2 y4_3 y4_4 y4_5 y4_6 W HA4.out).mono ?_
          rintro e W' ⟨rfl, hb⟩
          refine Fl.keep hi hb ?_
          clear hi hb hE
          simp only [Act.put, Fl.z1, Fl.z2, Fl.z3]
          refine Fl.call (some 57) Try.func80 (by kernel_rfl) rfl #[.agg #[.int .i64 a1_0, .int .i64 a1_1, .int .i64 a1_2, .int .i64 a1_3], .bool true, .int .i64 a3, .int .i64 a1_6] rfl rfl rfl (by rfl) rfl (fun E W hE hi => ?_)
          refine (spec_l10Made.calls a1_0 a1_1 a1_2 a1_3 true a3 a1_6 y5_0 y5_1 y5_2 y5_3 y5_4 y5_5 y5_6 W HA5.out).mono ?_
          rintro e W' ⟨rfl, hb⟩
          refine Fl.keep hi hb ?_
          clear hi hb hE
          simp only [Act.put, Fl.z1, Fl.z2, Fl.z3]
          refine Fl.store 0 #[.int .i64 y3_0, .int .i64 y3_1, .int .i64 y3_2, .int .i64 y3_3, .bool y3_4, .int .i64 y3_5, .int .i64 y3_6] rfl rfl rfl rfl _ _ _ rfl rfl rfl (by rfl) rfl (by kernel_rfl) (by simp [Value.oneCell']) ?_
          refine Fl.store 1 #[.int .i64 y4_0, .int .i64 y4_1, .int .i64 y4_2, .int .i64 y4_3, .bool y4_4, .int .i64 y4_5, .int .i64 y4_6] rfl rfl rfl rfl _ _ _ rfl rfl rfl (by rfl) rfl (by kernel_rfl) (by simp [Value.oneCell']) ?_
          refine Fl.store 2 #[.int .i64 y5_0, .int .i64 y5_1, .int .i64 y5_2, .int .i64 y5_3, .bool y5_4, .int .i64 y5_5, .int .i64 y5_6] rfl rfl rfl rfl _ _ _ rfl rfl rfl (by rfl) rfl (by kernel_rfl) (by simp [Value.oneCell']) ?_
          refine Fl.take (some 11) (v := .bool true) rfl rfl (Or.inl ⟨by rfl, fun _ _ => by rfl⟩) ?_
          simp only [Act.put, Fl.z1, Fl.z2, Fl.z3]
          refine Fl.fin0 ?_
          refine Fl.stopN (fun W hi => ?_)
          replace HI := Lib.hid hi
          clear hi
          go_wp2
          exact bodyPost_ret (v := .tuple #[.agg #[.int .i64 y3_0, .int .i64 y3_1, .int .i64 y3_2, .int .i64 y3_3, .bool y3_4, .int .i64 y3_5, .int .i64 y3_6], .agg #[.int .i64 y4_0, .int .i64 y4_1, .int .i64 y4_2, .int .i64 y4_3, .bool y4_4, .int .i64 y4_5, .int .i64 y4_6], .agg #[.int .i64 y5_0, .int .i64 y5_1, .int .i64 y5_2, .int .i64 y5_3, .bool y5_4, .int .i64 y5_5, .int .i64 y5_6], .bool true]) (results_list (rs := [.cell 8 71, .cell 9 71, .cell 10 71, .tmp 11]) rfl (by simp) (.cell _ _ _ (0, 0) _ rfl (HI.out.blk 0 rfl) Try.underlying71 rfl (by kernel_rfl) (.cell _ _ _ (0, 0) _ rfl (HI.out.blk 1 rfl) Try.underlying71 rfl (by kernel_rfl) (.cell _ _ _ (0, 0) _ rfl (HI.out.blk 2 rfl) Try.underlying71 rfl (by kernel_rfl) (.tmp .nil))))) rfl ⟨rfl, HI.out.bel⟩
        | false =>
          rw [if_neg (by decide)] at h
          simp only [Option.some.injEq, Prod.mk.injEq] at h
          obtain ⟨rfl, rfl, rfl, rfl, rfl, rfl, rfl, rfl, rfl, rfl, rfl, rfl, rfl, rfl, rfl, rfl, rfl, rfl, rfl, rfl, rfl, rfl⟩ := h
          go_enter Try.func49, Try.ntmps49
          go_upto_region 1 with (fail)
          rw [← hW]
          clear hW
          refine Fl.startL [.take 0, .take 1, .one 2, .take 3, .take 4, .take 5, .take 6, .take 7, .take 8, .take 9, .take 10, .take 11, .take 12, .take 13, .take 14, .one 15, .take 16, .take 17, .take 18, .take 19, .take 20, .take 21, .take 22, .one 23, .take 24, .take 25] (by decide) HI.out ?_
          refine Fl.take (some 12) (v := .agg #[.slice A0_0 l0_0.length c0_0]) rfl rfl (Fl.ld 4 rfl (by rfl) _ _ rfl rfl Try.underlying31 rfl (by kernel_rfl)) ?_
          simp only [Act.put, Fl.z1, Fl.z2, Fl.z3]
          refine Fl.take (some 13) (v := .agg #[.int .i64 a1_0, .int .i64 a1_1, .int .i64 a1_2, .int .i64 a1_3, .bool true, .int .i64 a1_5, .int .i64 a1_6]) rfl rfl (Fl.ld 3 rfl (by rfl) _ _ rfl rfl Try.underlying71 rfl (by kernel_rfl)) ?_
          simp only [Act.put, Fl.z1, Fl.z2, Fl.z3]
          refine Fl.call (some 14) Try.func77 (by kernel_rfl) rfl #[.agg #[.slice A0_0 l0_0.length c0_0], .agg #[.int .i64 a1_0, .int .i64 a1_1, .int .i64 a1_2, .int .i64 a1_3, .bool true, .int .i64 a1_5, .int .i64 a1_6]] rfl rfl rfl (by rfl) rfl (fun E W hE hi => ?_)
          refine (spec_l10Loan.calls k _ _ l0_0 a1_0 a1_1 a1_2 a1_3 true a1_5 a1_6 true W (Kd.C_below HR0_0.out hi.bel) HC0_0.out HA0.out).mono ?_
          rintro e W' ⟨rfl, hb⟩
          refine Fl.keep hi hb ?_
          clear hi hb hE
          simp only [Act.put, Fl.z1, Fl.z2, Fl.z3]
          refine Fl.take (some 15) (v := .bool false) rfl rfl (Or.inl ⟨by rfl, fun _ _ => by rfl⟩) ?_
          simp only [Act.put, Fl.z1, Fl.z2, Fl.z3]
          refine Fl.take (some 16) (v := .bool false) rfl rfl (Or.inl ⟨by rfl, fun _ _ => by rfl⟩) ?_
          simp only [Act.put, Fl.z1, Fl.z2, Fl.z3]
          refine Fl.take (some 17) (v := .pointer (some ⟨w.heap.size + 1, 4, none⟩)) rfl rfl (Or.inl ⟨by rfl, fun _ _ => by first | rfl | (go_simp; done) | (go_simp; simp only [i64_w])⟩) ?_
          simp only [Act.put, Fl.z1, Fl.z2, Fl.z3]
          refine Fl.take (some 18) (v := .bool true) rfl rfl (Or.inl ⟨by rfl, fun W' hW' => by have h_ := hW'.cell 3 rfl 4 rfl; go_simp⟩) ?_
          simp only [Act.put, Fl.z1, Fl.z2, Fl.z3]
          refine Fl.take (some 19) (v := .bool false) rfl rfl (Or.inl ⟨by rfl, fun _ _ => by rfl⟩) ?_
          simp only [Act.put, Fl.z1, Fl.z2, Fl.z3]
          refine Fl.take (some 20) (v := .bool false) rfl rfl (Or.inl ⟨by rfl, fun _ _ => by rfl⟩) ?_
          simp only [Act.put, Fl.z1, Fl.z2, Fl.z3]
          refine Fl.take (some 21) (v := .bool false) rfl rfl (Or.inl ⟨by rfl, fun _ _ => by rfl⟩) ?_
          simp only [Act.put, Fl.z1, Fl.z2, Fl.z3]
          refine Fl.take (some 22) (v := .int .i64 a2) rfl rfl (Or.inl ⟨by rfl, fun _ _ => by rfl⟩) ?_
          simp only [Act.put, Fl.z1, Fl.z2, Fl.z3]
          refine Fl.take (some 23) (v := .pointer (some ⟨w.heap.size + 1, 5, none⟩)) rfl rfl (Or.inl ⟨by rfl, fun _ _ => by first | rfl | (go_simp; done) | (go_simp; simp only [i64_w])⟩) ?_
          simp only [Act.put, Fl.z1, Fl.z2, Fl.z3]
          refine Fl.take (some 24) (v := .int .i64 a1_5) rfl rfl (Or.inl ⟨by rfl, fun W' hW' => by have h_ := hW'.cell 3 rfl 5 rfl; go_simp⟩) ?_
          simp only [Act.put, Fl.z1, Fl.z2, Fl.z3]
          refine Fl.take (some 25) (v := .pointer (some ⟨w.heap.size + 1, 6, none⟩)) rfl rfl (Or.inl ⟨by rfl, fun _ _ => by first | rfl | (go_simp; done) | (go_simp; simp only [i64_w])⟩) ?_
          simp only [Act.put, Fl.z1, Fl.z2, Fl.z3]
          refine Fl.take (some 26) (v := .int .i64 a1_6) rfl rfl (Or.inl ⟨by rfl, fun W' hW' => by have h_ := hW'.cell 3 rfl 6 rfl; go_simp⟩) ?_
          simp only [Act.put, Fl.z1, Fl.z2, Fl.z3]
          refine Fl.call (some 27) Try.func78 (by kernel_rfl) rfl #[.int .i64 a2, .int .i64 a1_5, .int .i64 a1_6] rfl rfl rfl (by rfl) rfl (fun E W hE hi => ?_)
          refine (spec_l1In.calls a2 a1_5 a1_6 true W HA1.out).mono ?_
          rintro e W' ⟨rfl, hb⟩
          refine Fl.keep hi hb.below ?_
          clear hi hb hE
          simp only [Act.put, Fl.z1, Fl.z2, Fl.z3]
          refine Fl.take (some 28) (v := .bool false) rfl rfl (Or.inl ⟨by rfl, fun _ _ => by rfl⟩) ?_
          simp only [Act.put, Fl.z1, Fl.z2, Fl.z3]
          refine Fl.take (some 29) (v := .bool false) rfl rfl (Or.inl ⟨by rfl, fun _ _ => by rfl⟩) ?_
          simp only [Act.put, Fl.z1, Fl.z2, Fl.z3]
          refine Fl.take (some 30) (v := .bool false) rfl rfl (Or.inl ⟨by rfl, fun _ _ => by rfl⟩) ?_
          simp only [Act.put, Fl.z1, Fl.z2, Fl.z3]
          refine Fl.take (some 31) (v := .int .i64 a3) rfl rfl (Or.inl ⟨by rfl, fun _ _ => by rfl⟩) ?_
          simp only [Act.put, Fl.z1, Fl.z2, Fl.z3]
          refine Fl.take (some 32) (v := .int .i64 a2) rfl rfl (Or.inl ⟨by rfl, fun _ _ => by rfl⟩) ?_
          simp only [Act.put, Fl.z1, Fl.z2, Fl.z3]
          refine Fl.take (some 33) (v := .pointer (some ⟨w.heap.size + 1, 6, none⟩)) rfl rfl (Or.inl ⟨by rfl, fun _ _ => by first | rfl | (go_simp; done) | (go_simp; simp only [i64_w])⟩) ?_
          simp only [Act.put, Fl.z1, Fl.z2, Fl.z3]
          refine Fl.take (some 34) (v := .int .i64 a1_6) rfl rfl (Or.inl ⟨by rfl, fun W' hW' => by have h_ := hW'.cell 3 rfl 6 rfl; go_simp⟩) ?_
          simp only [Act.put, Fl.z1, Fl.z2, Fl.z3]
          refine Fl.call (some 35) Try.func78 (by kernel_rfl) rfl #[.int .i64 a3, .int .i64 a2, .int .i64 a1_6] rfl rfl rfl (by rfl) rfl (fun E W hE hi => ?_)
          refine (spec_l1In.calls a3 a2 a1_6 false W HA2.out).mono ?_
          rintro e W' ⟨rfl, hb⟩
          refine Fl.keep hi hb.below ?_
          clear hi hb hE
          simp only [Act.put, Fl.z1, Fl.z2, Fl.z3]
          refine Fl.take (some 36) (v := .bool true) rfl rfl (Or.inl ⟨by rfl, fun _ _ => by rfl⟩) ?_
          simp only [Act.put, Fl.z1, Fl.z2, Fl.z3]
          refine Fl.take (some 37) (v := .bool true) rfl rfl (Or.inl ⟨by rfl, fun _ _ => by rfl⟩) ?_
          simp only [Act.put, Fl.z1, Fl.z2, Fl.z3]
          refine Fl.stop (fun W hi => ?_)
          replace HI := Lib.hid hi
          clear hi
          go_upto_region 2 with (fail)
          refine Fl.startW [.take 0, .take 1, .take 2, .one 3, .one 4, .one 5, .take 6] (by decide) HI.out ?_
          refine Fl.take (some 38) (v := .agg #[.int .i64 0, .int .i64 0, .int .i64 0, .int .i64 0, .bool false, .int .i64 0, .int .i64 0]) rfl rfl (Or.inl ⟨by rfl, fun _ _ => by first | rfl | (go_simp; done) | (go_simp; simp only [i64_w])⟩) ?_
          simp only [Act.put, Fl.z1, Fl.z2, Fl.z3]
          refine Fl.take (some 39) (v := .agg #[.int .i64 0, .int .i64 0, .int .i64 0, .int .i64 0, .bool false, .int .i64 0, .int .i64 0]) rfl rfl (Or.inl ⟨by rfl, fun _ _ => by first | rfl | (go_simp; done) | (go_simp; simp only [i64_w])⟩) ?_
          simp only [Act.put, Fl.z1, Fl.z2, Fl.z3]
          refine Fl.take (some 40) (v := .agg #[.int .i64 0, .int .i64 0, .int .i64 0, .int .i64 0, .bool false, .int .i64 0, .int .i64 0]) rfl rfl (Or.inl ⟨by rfl, fun _ _ => by first | rfl | (go_simp; done) | (go_simp; simp only [i64_w])⟩) ?_
          simp only [Act.put, Fl.z1, Fl.z2, Fl.z3]
          refine Fl.store 2 #[.int .i64 0, .int .i64 0, .int .i64 0, .int .i64 0, .bool false, .int .i64 0, .int .i64 0] rfl rfl rfl rfl _ _ _ rfl rfl rfl (by rfl) rfl (by kernel_rfl) (by simp [Value.oneCell']) ?_
          refine Fl.store 1 #[.int .i64 0, .int .i64 0, .int .i64 0, .int .i64 0, .bool false, .int .i64 0, .int .i64 0] rfl rfl rfl rfl _ _ _ rfl rfl rfl (by rfl) rfl (by kernel_rfl) (by simp [Value.oneCell']) ?_
          refine Fl.store 0 #[.int .i64 0, .int .i64 0, .int .i64 0, .int .i64 0, .bool false, .int .i64 0, .int .i64 0] rfl rfl rfl rfl _ _ _ rfl rfl rfl (by rfl) rfl (by kernel_rfl) (by simp [Value.oneCell']) ?_
          refine Fl.take (some 11) (v := .bool false) rfl rfl (Or.inl ⟨by rfl, fun _ _ => by rfl⟩) ?_
          simp only [Act.put, Fl.z1, Fl.z2, Fl.z3]
          refine Fl.stopW (fun W hi => ?_)
          replace HI := Lib.hid hi
          clear hi
          go_wp2
          exact bodyPost_ret (v := .tuple #[.agg #[.int .i64 0, .int .i64 0, .int .i64 0, .int .i64 0, .bool false, .int .i64 0, .int .i64 0], .agg #[.int .i64 0, .int .i64 0, .int .i64 0, .int .i64 0, .bool false, .int .i64 0, .int .i64 0], .agg #[.int .i64 0, .int .i64 0, .int .i64 0, .int .i64 0, .bool false, .int .i64 0, .int .i64 0], .bool false]) (results_list (rs := [.cell 8 71, .cell 9 71, .cell 10 71, .tmp 11]) rfl (by simp) (.cell _ _ _ (0, 0) _ rfl (HI.out.blk 2 rfl) Try.underlying71 rfl (by kernel_rfl) (.cell _ _ _ (0, 0) _ rfl (HI.out.blk 1 rfl) Try.underlying71 rfl (by kernel_rfl) (.cell _ _ _ (0, 0) _ rfl (HI.out.blk 0 rfl) Try.underlying71 rfl (by kernel_rfl) (.tmp .nil))))) rfl ⟨rfl, HI.out.bel⟩
      | false =>
        rw [if_neg (by decide)] at h
        simp only [Option.some.injEq, Prod.mk.injEq] at h
        obtain ⟨rfl, rfl, rfl, rfl, rfl, rfl, rfl, rfl, rfl, rfl, rfl, rfl, rfl, rfl, rfl, rfl, rfl, rfl, rfl, rfl, rfl, rfl⟩ := h
        go_enter Try.func49, Try.ntmps49
        go_upto_region 1 with (fail)
        rw [← hW]
        clear hW
        refine Fl.startL [.take 0, .take 1, .one 2, .take 3, .take 4, .take 5, .take 6, .take 7, .take 8, .take 9, .take 10, .take 11, .take 12, .take 13, .take 14, .one 15, .take 16, .take 17, .take 18, .take 19, .take 20, .take 21, .take 22, .take 23, .take 24, .take 25] (by decide) HI.out ?_
        refine Fl.take (some 12) (v := .agg #[.slice A0_0 l0_0.length c0_0]) rfl rfl (Fl.ld 4 rfl (by rfl) _ _ rfl rfl Try.underlying31 rfl (by kernel_rfl)) ?_
        simp only [Act.put, Fl.z1, Fl.z2, Fl.z3]
        refine Fl.take (some 13) (v := .agg #[.int .i64 a1_0, .int .i64 a1_1, .int .i64 a1_2, .int .i64 a1_3, .bool true, .int .i64 a1_5, .int .i64 a1_6]) rfl rfl (Fl.ld 3 rfl (by rfl) _ _ rfl rfl Try.underlying71 rfl (by kernel_rfl)) ?_
        simp only [Act.put, Fl.z1, Fl.z2, Fl.z3]
        refine Fl.call (some 14) Try.func77 (by kernel_rfl) rfl #[.agg #[.slice A0_0 l0_0.length c0_0], .agg #[.int .i64 a1_0, .int .i64 a1_1, .int .i64 a1_2, .int .i64 a1_3, .bool true, .int .i64 a1_5, .int .i64 a1_6]] rfl rfl rfl (by rfl) rfl (fun E W hE hi => ?_)
        refine (spec_l10Loan.calls k _ _ l0_0 a1_0 a1_1 a1_2 a1_3 true a1_5 a1_6 true W (Kd.C_below HR0_0.out hi.bel) HC0_0.out HA0.out).mono ?_
        rintro e W' ⟨rfl, hb⟩
        refine Fl.keep hi hb ?_
        clear hi hb hE
        simp only [Act.put, Fl.z1, Fl.z2, Fl.z3]
        refine Fl.take (some 15) (v := .bool false) rfl rfl (Or.inl ⟨by rfl, fun _ _ => by rfl⟩) ?_
        simp only [Act.put, Fl.z1, Fl.z2, Fl.z3]
        refine Fl.take (some 16) (v := .bool false) rfl rfl (Or.inl ⟨by rfl, fun _ _ => by rfl⟩) ?_
        simp only [Act.put, Fl.z1, Fl.z2, Fl.z3]
        refine Fl.take (some 17) (v := .pointer (some ⟨w.heap.size + 1, 4, none⟩)) rfl rfl (Or.inl ⟨by rfl, fun _ _ => by first | rfl | (go_simp; done) | (go_simp; simp only [i64_w])⟩) ?_
        simp only [Act.put, Fl.z1, Fl.z2, Fl.z3]
        refine Fl.take (some 18) (v := .bool true) rfl rfl (Or.inl ⟨by rfl, fun W' hW' => by have h_ := hW'.cell 3 rfl 4 rfl; go_simp⟩) ?_
        simp only [Act.put, Fl.z1, Fl.z2, Fl.z3]
        refine Fl.take (some 19) (v := .bool false) rfl rfl (Or.inl ⟨by rfl, fun _ _ => by rfl⟩) ?_
        simp only [Act.put, Fl.z1, Fl.z2, Fl.z3]
        refine Fl.take (some 20) (v := .bool false) rfl rfl (Or.inl ⟨by rfl, fun _ _ => by rfl⟩) ?_
        simp only [Act.put, Fl.z1, Fl.z2, Fl.z3]
        refine Fl.take (some 21) (v := .bool false) rfl rfl (Or.inl ⟨by rfl, fun _ _ => by rfl⟩) ?_
        simp only [Act.put, Fl.z1, Fl.z2, Fl.z3]
        refine Fl.take (some 22) (v := .int .i64 a2) rfl rfl (Or.inl ⟨by rfl, fun _ _ => by rfl⟩) ?_
        simp only [Act.put, Fl.z1, Fl.z2, Fl.z3]
        refine Fl.take (some 23) (v := .pointer (some ⟨w.heap.size + 1, 5, none⟩)) rfl rfl (Or.inl ⟨by rfl, fun _ _ => by first | rfl | (go_simp; done) | (go_simp; simp only [i64_w])⟩) ?_
        simp only [Act.put, Fl.z1, Fl.z2, Fl.z3]
        refine Fl.take (some 24) (v := .int .i64 a1_5) rfl rfl (Or.inl ⟨by rfl, fun W' hW' => by have h_ := hW'.cell 3 rfl 5 rfl; go_simp⟩) ?_
        simp only [Act.put, Fl.z1, Fl.z2, Fl.z3]
        refine Fl.take (some 25) (v := .pointer (some ⟨w.heap.size + 1, 6, none⟩)) rfl rfl (Or.inl ⟨by rfl, fun _ _ => by first | rfl | (go_simp; done) | (go_simp; simp only [i64_w])⟩) ?_
        simp only [Act.put, Fl.z1, Fl.z2, Fl.z3]
        refine Fl.take (some 26) (v := .int .i64 a1_6) rfl rfl (Or.inl ⟨by rfl, fun W' hW' => by have h_ := hW'.cell 3 rfl 6 rfl; go_simp⟩) ?_
        simp only [Act.put, Fl.z1, Fl.z2, Fl.z3]
        refine Fl.call (some 27) Try.func78 (by kernel_rfl) rfl #[.int .i64 a2, .int .i64 a1_5, .int .i64 a1_6] rfl rfl rfl (by rfl) rfl (fun E W hE hi => ?_)
        refine (spec_l1In.calls a2 a1_5 a1_6 false W HA1.out).mono ?_
        rintro e W' ⟨rfl, hb⟩
        refine Fl.keep hi hb.below ?_
        clear hi hb hE
        simp only [Act.put, Fl.z1, Fl.z2, Fl.z3]
        refine Fl.take (some 28) (v := .bool true) rfl rfl (Or.inl ⟨by rfl, fun _ _ => by rfl⟩) ?_
        simp only [Act.put, Fl.z1, Fl.z2, Fl.z3]
        refine Fl.take (some 29) (v := .bool true) rfl rfl (Or.inl ⟨by rfl, fun _ _ => by rfl⟩) ?_
        simp only [Act.put, Fl.z1, Fl.z2, Fl.z3]
        refine Fl.take (some 30) (v := .bool true) rfl rfl (Or.inl ⟨by rfl, fun _ _ => by rfl⟩) ?_
        simp only [Act.put, Fl.z1, Fl.z2, Fl.z3]
        refine Fl.take (some 31) (v := undef) rfl rfl (Or.inr ⟨by rfl, rfl⟩) ?_
        simp only [Act.put, Fl.z1, Fl.z2, Fl.z3]
        refine Fl.take (some 32) (v := undef) rfl rfl (Or.inr ⟨by rfl, rfl⟩) ?_
        simp only [Act.put, Fl.z1, Fl.z2, Fl.z3]
        refine Fl.take (some 33) (v := undef) rfl rfl (Or.inr ⟨by rfl, rfl⟩) ?_
        simp only [Act.put, Fl.z1, Fl.z2, Fl.z3]
        refine Fl.take (some 34) (v := undef) rfl rfl (Or.inr ⟨by rfl, rfl⟩) ?_
        simp only [Act.put, Fl.z1, Fl.z2, Fl.z3]
        refine Fl.take (some 35) (v := undef) rfl rfl (Or.inr ⟨by rfl, rfl⟩) ?_
        simp only [Act.put, Fl.z1, Fl.z2, Fl.z3]
        refine Fl.take (some 36) (v := undef) rfl rfl (Or.inr ⟨by rfl, rfl⟩) ?_
        simp only [Act.put, Fl.z1, Fl.z2, Fl.z3]
        refine Fl.take (some 37) (v := .bool true) rfl rfl (Or.inl ⟨by rfl, fun _ _ => by rfl⟩) ?_
        simp only [Act.put, Fl.z1, Fl.z2, Fl.z3]
        refine Fl.stop (fun W hi => ?_)
        replace HI := Lib.hid hi
        clear hi
        go_upto_region 2 with (fail)
        refine Fl.startW [.take 0, .take 1, .take 2, .one 3, .one 4, .one 5, .take 6] (by decide) HI.out ?_
        refine Fl.take (some 38) (v := .agg #[.int .i64 0, .int .i64 0, .int .i64 0, .int .i64 0, .bool false, .int .i64 0, .int .i64 0]) rfl rfl (Or.inl ⟨by rfl, fun _ _ => by first | rfl | (go_simp; done) | (go_simp; simp only [i64_w])⟩) ?_
        simp only [Act.put, Fl.z1, Fl.z2, Fl.z3]
        refine Fl.take (some 39) (v := .agg #[.int .i64 0, .int .i64 0, .int .i64 0, .int .i64 0, .bool false, .int .i64 0, .int .i64 0]) rfl rfl (Or.inl ⟨by rfl, fun _ _ => by first | rfl | (go_simp; done) | (go_simp; simp only [i64_w])⟩) ?_
        simp only [Act.put, Fl.z1, Fl.z2, Fl.z3]
        refine Fl.take (some 40) (v := .agg #[.int .i64 0, .int .i64 0, .int .i64 0, .int .i64 0, .bool false, .int .i64 0, .int .i64 0]) rfl rfl (Or.inl ⟨by rfl, fun _ _ => by first | rfl | (go_simp; done) | (go_simp; simp only [i64_w])⟩) ?_
        simp only [Act.put, Fl.z1, Fl.z2, Fl.z3]
        refine Fl.store 2 #[.int .i64 0, .int .i64 0, .int .i64 0, .int .i64 0, .bool false, .int .i64 0, .int .i64 0] rfl rfl rfl rfl _ _ _ rfl rfl rfl (by rfl) rfl (by kernel_rfl) (by simp [Value.oneCell']) ?_
        refine Fl.store 1 #[.int .i64 0, .int .i64 0, .int .i64 0, .int .i64 0, .bool false, .int .i64 0, .int .i64 0] rfl rfl rfl rfl _ _ _ rfl rfl rfl (by rfl) rfl (by kernel_rfl) (by simp [Value.oneCell']) ?_
        refine Fl.store 0 #[.int .i64 0, .int .i64 0, .int .i64 0, .int .i64 0, .bool false, .int .i64 0, .int .i64 0] rfl rfl rfl rfl _ _ _ rfl rfl rfl (by rfl) rfl (by kernel_rfl) (by simp [Value.oneCell']) ?_
        refine Fl.take (some 11) (v := .bool false) rfl rfl (Or.inl ⟨by rfl, fun _ _ => by rfl⟩) ?_
        simp only [Act.put, Fl.z1, Fl.z2, Fl.z3]
        refine Fl.stopW (fun W hi => ?_)
        replace HI := Lib.hid hi
        clear hi
        go_wp2
        exact bodyPost_ret (v := .tuple #[.agg #[.int .i64 0, .int .i64 0, .int .i64 0, .int .i64 0, .bool false, .int .i64 0, .int .i64 0], .agg #[.int .i64 0, .int .i64 0, .int .i64 0, .int .i64 0, .bool false, .int .i64 0, .int .i64 0], .agg #[.int .i64 0, .int .i64 0, .int .i64 0, .int .i64 0, .bool false, .int .i64 0, .int .i64 0], .bool false]) (results_list (rs := [.cell 8 71, .cell 9 71, .cell 10 71, .tmp 11]) rfl (by simp) (.cell _ _ _ (0, 0) _ rfl (HI.out.blk 2 rfl) Try.underlying71 rfl (by kernel_rfl) (.cell _ _ _ (0, 0) _ rfl (HI.out.blk 1 rfl) Try.underlying71 rfl (by kernel_rfl) (.cell _ _ _ (0, 0) _ rfl (HI.out.blk 0 rfl) Try.underlying71 rfl (by kernel_rfl) (.tmp .nil))))) rfl ⟨rfl, HI.out.bel⟩
    | false =>
      rw [if_neg (by decide)] at h
      simp only [Option.some.injEq, Prod.mk.injEq] at h
      obtain ⟨rfl, rfl, rfl, rfl, rfl, rfl, rfl, rfl, rfl, rfl, rfl, rfl, rfl, rfl, rfl, rfl, rfl, rfl, rfl, rfl, rfl, rfl⟩ := h
      go_enter Try.func49, Try.ntmps49
      go_upto_region 1 with (fail)
      rw [← hW]
      clear hW
      refine Fl.startL [.take 0, .take 1, .one 2, .take 3, .take 4, .take 5, .take 6, .take 7, .take 8, .take 9, .take 10, .take 11, .take 12, .take 13, .take 14, .take 15, .take 16, .take 17, .take 18, .take 19, .take 20, .take 21, .take 22, .take 23, .take 24, .take 25] (by decide) HI.out ?_
      refine Fl.take (some 12) (v := .agg #[.slice A0_0 l0_0.length c0_0]) rfl rfl (Fl.ld 4 rfl (by rfl) _ _ rfl rfl Try.underlying31 rfl (by kernel_rfl)) ?_
      simp only [Act.put, Fl.z1, Fl.z2, Fl.z3]
      refine Fl.take (some 13) (v := .agg #[.int .i64 a1_0, .int .i64 a1_1, .int .i64 a1_2, .int .i64 a1_3, .bool false, .int .i64 a1_5, .int .i64 a1_6]) rfl rfl (Fl.ld 3 rfl (by rfl) _ _ rfl rfl Try.underlying71 rfl (by kernel_rfl)) ?_
      simp only [Act.put, Fl.z1, Fl.z2, Fl.z3]
      refine Fl.call (some 14) Try.func77 (by kernel_rfl) rfl #[.agg #[.slice A0_0 l0_0.length c0_0], .agg #[.int .i64 a1_0, .int .i64 a1_1, .int .i64 a1_2, .int .i64 a1_3, .bool false, .int .i64 a1_5, .int .i64 a1_6]] rfl rfl rfl (by rfl) rfl (fun E W hE hi => ?_)
      refine (spec_l10Loan.calls k _ _ l0_0 a1_0 a1_1 a1_2 a1_3 false a1_5 a1_6 true W (Kd.C_below HR0_0.out hi.bel) HC0_0.out HA0.out).mono ?_
      rintro e W' ⟨rfl, hb⟩
      refine Fl.keep hi hb ?_
      clear hi hb hE
      simp only [Act.put, Fl.z1, Fl.z2, Fl.z3]
      refine Fl.take (some 15) (v := .bool false) rfl rfl (Or.inl ⟨by rfl, fun _ _ => by rfl⟩) ?_
      simp only [Act.put, Fl.z1, Fl.z2, Fl.z3]
      refine Fl.take (some 16) (v := .bool false) rfl rfl (Or.inl ⟨by rfl, fun _ _ => by rfl⟩) ?_
      simp only [Act.put, Fl.z1, Fl.z2, Fl.z3]
      refine Fl.take (some 17) (v := .pointer (some ⟨w.heap.size + 1, 4, none⟩)) rfl rfl (Or.inl ⟨by rfl, fun _ _ => by first | rfl | (go_simp; done) | (go_simp; simp only [i64_w])⟩) ?_
      simp only [Act.put, Fl.z1, Fl.z2, Fl.z3]
      refine Fl.take (some 18) (v := .bool false) rfl rfl (Or.inl ⟨by rfl, fun W' hW' => by have h_ := hW'.cell 3 rfl 4 rfl; go_simp⟩) ?_
      simp only [Act.put, Fl.z1, Fl.z2, Fl.z3]
      refine Fl.take (some 19) (v := .bool true) rfl rfl (Or.inl ⟨by rfl, fun _ _ => by rfl⟩) ?_
      simp only [Act.put, Fl.z1, Fl.z2, Fl.z3]
      refine Fl.take (some 20) (v := .bool true) rfl rfl (Or.inl ⟨by rfl, fun _ _ => by rfl⟩) ?_
      simp only [Act.put, Fl.z1, Fl.z2, Fl.z3]
      refine Fl.take (some 21) (v := .bool true) rfl rfl (Or.inl ⟨by rfl, fun _ _ => by rfl⟩) ?_
      simp only [Act.put, Fl.z1, Fl.z2, Fl.z3]
      refine Fl.take (some 22) (v := undef) rfl rfl (Or.inr ⟨by rfl, rfl⟩) ?_
      simp only [Act.put, Fl.z1, Fl.z2, Fl.z3]
      refine Fl.take (some 23) (v := undef) rfl rfl (Or.inr ⟨by rfl, rfl⟩) ?_
      simp only [Act.put, Fl.z1, Fl.z2, Fl.z3]
      refine Fl.take (some 24) (v := undef) rfl rfl (Or.inr ⟨by rfl, rfl⟩) ?_
      simp only [Act.put, Fl.z1, Fl.z2, Fl.z3]
      refine Fl.take (some 25) (v := undef) rfl rfl (Or.inr ⟨by rfl, rfl⟩) ?_
      simp only [Act.put, Fl.z1, Fl.z2, Fl.z3]
      refine Fl.take (some 26) (v := undef) rfl rfl (Or.inr ⟨by rfl, rfl⟩) ?_
      simp only [Act.put, Fl.z1, Fl.z2, Fl.z3]
      refine Fl.take (some 27) (v := undef) rfl rfl (Or.inr ⟨by rfl, rfl⟩) ?_
      simp only [Act.put, Fl.z1, Fl.z2, Fl.z3]
      refine Fl.take (some 28) (v := undef) rfl rfl (Or.inr ⟨by rfl, rfl⟩) ?_
      simp only [Act.put, Fl.z1, Fl.z2, Fl.z3]
      refine Fl.take (some 29) (v := .bool true) rfl rfl (Or.inl ⟨by rfl, fun _ _ => by rfl⟩) ?_
      simp only [Act.put, Fl.z1, Fl.z2, Fl.z3]
      refine Fl.take (some 30) (v := .bool true) rfl rfl (Or.inl ⟨by rfl, fun _ _ => by rfl⟩) ?_
      simp only [Act.put, Fl.z1, Fl.z2, Fl.z3]
      refine Fl.take (some 31) (v := undef) rfl rfl (Or.inr ⟨by rfl, rfl⟩) ?_
      simp only [Act.put, Fl.z1, Fl.z2, Fl.z3]
      refine Fl.take (some 32) (v := undef) rfl rfl (Or.inr ⟨by rfl, rfl⟩) ?_
      simp only [Act.put, Fl.z1, Fl.z2, Fl.z3]
      refine Fl.take (some 33) (v := undef) rfl rfl (Or.inr ⟨by rfl, rfl⟩) ?_
      simp only [Act.put, Fl.z1, Fl.z2, Fl.z3]
      refine Fl.take (some 34) (v := undef) rfl rfl (Or.inr ⟨by rfl, rfl⟩) ?_
      simp only [Act.put, Fl.z1, Fl.z2, Fl.z3]
      refine Fl.take (some 35) (v := undef) rfl rfl (Or.inr ⟨by rfl, rfl⟩) ?_
      simp only [Act.put, Fl.z1, Fl.z2, Fl.z3]
      refine Fl.take (some 36) (v := undef) rfl rfl (Or.inr ⟨by rfl, rfl⟩) ?_
      simp only [Act.put, Fl.z1, Fl.z2, Fl.z3]
      refine Fl.take (some 37) (v := .bool true) rfl rfl (Or.inl ⟨by rfl, fun _ _ => by rfl⟩) ?_
      simp only [Act.put, Fl.z1, Fl.z2, Fl.z3]
      refine Fl.stop (fun W hi => ?_)
      replace HI := Lib.hid hi
      clear hi
      go_upto_region 2 with (fail)
      refine Fl.startW [.take 0, .take 1, .take 2, .one 3, .one 4, .one 5, .take 6] (by decide) HI.out ?_
      refine Fl.take (some 38) (v := .agg #[.int .i64 0, .int .i64 0, .int .i64 0, .int .i64 0, .bool false, .int .i64 0, .int .i64 0]) rfl rfl (Or.inl ⟨by rfl, fun _ _ => by first | rfl | (go_simp; done) | (go_simp; simp only [i64_w])⟩) ?_
      simp only [Act.put, Fl.z1, Fl.z2, Fl.z3]
      refine Fl.take (some 39) (v := .agg #[.int .i64 0, .int .i64 0, .int .i64 0, .int .i64 0, .bool false, .int .i64 0, .int .i64 0]) rfl rfl (Or.inl ⟨by rfl, fun _ _ => by first | rfl | (go_simp; done) | (go_simp; simp only [i64_w])⟩) ?_
      simp only [Act.put, Fl.z1, Fl.z2, Fl.z3]
      refine Fl.take (some 40) (v := .agg #[.int .i64 0, .int .i64 0, .int .i64 0, .int .i64 0, .bool false, .int .i64 0, .int .i64 0]) rfl rfl (Or.inl ⟨by rfl, fun _ _ => by first | rfl | (go_simp; done) | (go_simp; simp only [i64_w])⟩) ?_
      simp only [Act.put, Fl.z1, Fl.z2, Fl.z3]
      refine Fl.store 2 #[.int .i64 0, .int .i64 0, .int .i64 0, .int .i64 0, .bool false, .int .i64 0, .int .i64 0] rfl rfl rfl rfl _ _ _ rfl rfl rfl (by rfl) rfl (by kernel_rfl) (by simp [Value.oneCell']) ?_
      refine Fl.store 1 #[.int .i64 0, .int .i64 0, .int .i64 0, .int .i64 0, .bool false, .int .i64 0, .int .i64 0] rfl rfl rfl rfl _ _ _ rfl rfl rfl (by rfl) rfl (by kernel_rfl) (by simp [Value.oneCell']) ?_
      refine Fl.store 0 #[.int .i64 0, .int .i64 0, .int .i64 0, .int .i64 0, .bool false, .int .i64 0, .int .i64 0] rfl rfl rfl rfl _ _ _ rfl rfl rfl (by rfl) rfl (by kernel_rfl) (by simp [Value.oneCell']) ?_
      refine Fl.take (some 11) (v := .bool false) rfl rfl (Or.inl ⟨by rfl, fun _ _ => by rfl⟩) ?_
      simp only [Act.put, Fl.z1, Fl.z2, Fl.z3]
      refine Fl.stopW (fun W hi => ?_)
      replace HI := Lib.hid hi
      clear hi
      go_wp2
      exact bodyPost_ret (v := .tuple #[.agg #[.int .i64 0, .int .i64 0, .int .i64 0, .int .i64 0, .bool false, .int .i64 0, .int .i64 0], .agg #[.int .i64 0, .int .i64 0, .int .i64 0, .int .i64 0, .bool false, .int .i64 0, .int .i64 0], .agg #[.int .i64 0, .int .i64 0, .int .i64 0, .int .i64 0, .bool false, .int .i64 0, .int .i64 0], .bool false]) (results_list (rs := [.cell 8 71, .cell 9 71, .cell 10 71, .tmp 11]) rfl (by simp) (.cell _ _ _ (0, 0) _ rfl (HI.out.blk 2 rfl) Try.underlying71 rfl (by kernel_rfl) (.cell _ _ _ (0, 0) _ rfl (HI.out.blk 1 rfl) Try.underlying71 rfl (by kernel_rfl) (.cell _ _ _ (0, 0) _ rfl (HI.out.blk 0 rfl) Try.underlying71 rfl (by kernel_rfl) (.tmp .nil))))) rfl ⟨rfl, HI.out.bel⟩
  | false =>
    rw [if_neg (by decide)] at h
    simp only [Option.some.injEq, Prod.mk.injEq] at h
    obtain ⟨rfl, rfl, rfl, rfl, rfl, rfl, rfl, rfl, rfl, rfl, rfl, rfl, rfl, rfl, rfl, rfl, rfl, rfl, rfl, rfl, rfl, rfl⟩ := h
    go_enter Try.func49, Try.ntmps49
    go_upto_region 1 with (fail)
    rw [← hW]
    clear hW
    refine Fl.startL [.take 0, .take 1, .one 2, .take 3, .take 4, .take 5, .take 6, .take 7, .take 8, .take 9, .take 10, .take 11, .take 12, .take 13, .take 14, .take 15, .take 16, .take 17, .take 18, .take 19, .take 20, .take 21, .take 22, .take 23, .take 24, .take 25] (by decide) HI.out ?_
    refine Fl.take (some 12) (v := .agg #[.slice A0_0 l0_0.length c0_0]) rfl rfl (Fl.ld 4 rfl (by rfl) _ _ rfl rfl Try.underlying31 rfl (by kernel_rfl)) ?_
    simp only [Act.put, Fl.z1, Fl.z2, Fl.z3]
    refine Fl.take (some 13) (v := .agg #[.int .i64 a1_0, .int .i64 a1_1, .int .i64 a1_2, .int .i64 a1_3, .bool a1_4, .int .i64 a1_5, .int .i64 a1_6]) rfl rfl (Fl.ld 3 rfl (by rfl) _ _ rfl rfl Try.underlying71 rfl (by kernel_rfl)) ?_
    simp only [Act.put, Fl.z1, Fl.z2, Fl.z3]
    refine Fl.call (some 14) Try.func77 (by kernel_rfl) rfl #[.agg #[.slice A0_0 l0_0.length c0_0], .agg #[.int .i64 a1_0, .int .i64 a1_1, .int .i64 a1_2, .int .i64 a1_3, .bool a1_4, .int .i64 a1_5, .int .i64 a1_6]] rfl rfl rfl (by rfl) rfl (fun E W hE hi => ?_)
    refine (spec_l10Loan.calls k _ _ l0_0 a1_0 a1_1 a1_2 a1_3 a1_4 a1_5 a1_6 false W (Kd.C_below HR0_0.out hi.bel) HC0_0.out HA0.out).mono ?_
    rintro e W' ⟨rfl, hb⟩
    refine Fl.keep hi hb ?_
    clear hi hb hE
    simp only [Act.put, Fl.z1, Fl.z2, Fl.z3]
    refine Fl.take (some 15) (v := .bool true) rfl rfl (Or.inl ⟨by rfl, fun _ _ => by rfl⟩) ?_
    simp only [Act.put, Fl.z1, Fl.z2, Fl.z3]
    refine Fl.take (some 16) (v := .bool true) rfl rfl (Or.inl ⟨by rfl, fun _ _ => by rfl⟩) ?_
    simp only [Act.put, Fl.z1, Fl.z2, Fl.z3]
    refine Fl.take (some 17) (v := undef) rfl rfl (Or.inr ⟨by rfl, rfl⟩) ?_
    simp only [Act.put, Fl.z1, Fl.z2, Fl.z3]
    refine Fl.take (some 18) (v := undef) rfl rfl (Or.inr ⟨by rfl, rfl⟩) ?_
    simp only [Act.put, Fl.z1, Fl.z2, Fl.z3]
    refine Fl.take (some 19) (v := undef) rfl rfl (Or.inr ⟨by rfl, rfl⟩) ?_
    simp only [Act.put, Fl.z1, Fl.z2, Fl.z3]
    refine Fl.take (some 20) (v := .bool true) rfl rfl (Or.inl ⟨by rfl, fun _ _ => by rfl⟩) ?_
    simp only [Act.put, Fl.z1, Fl.z2, Fl.z3]
    refine Fl.take (some 21) (v := .bool true) rfl rfl (Or.inl ⟨by rfl, fun _ _ => by rfl⟩) ?_
    simp only [Act.put, Fl.z1, Fl.z2, Fl.z3]
    refine Fl.take (some 22) (v := undef) rfl rfl (Or.inr ⟨by rfl, rfl⟩) ?_
    simp only [Act.put, Fl.z1, Fl.z2, Fl.z3]
    refine Fl.take (some 23) (v := undef) rfl rfl (Or.inr ⟨by rfl, rfl⟩) ?_
    simp only [Act.put, Fl.z1, Fl.z2, Fl.z3]
    refine Fl.take (some 24) (v := undef) rfl rfl (Or.inr ⟨by rfl, rfl⟩) ?_
    simp only [Act.put, Fl.z1, Fl.z2, Fl.z3]
    refine Fl.take (some 25) (v := undef) rfl rfl (Or.inr ⟨by rfl, rfl⟩) ?_
    simp only [Act.put, Fl.z1, Fl.z2, Fl.z3]
    refine Fl.take (some 26) (v := undef) rfl rfl (Or.inr ⟨by rfl, rfl⟩) ?_
    simp only [Act.put, Fl.z1, Fl.z2, Fl.z3]
    refine Fl.take (some 27) (v := undef) rfl rfl (Or.inr ⟨by rfl, rfl⟩) ?_
    simp only [Act.put, Fl.z1, Fl.z2, Fl.z3]
    refine Fl.take (some 28) (v := undef) rfl rfl (Or.inr ⟨by rfl, rfl⟩) ?_
    simp only [Act.put, Fl.z1, Fl.z2, Fl.z3]
    refine Fl.take (some 29) (v := .bool true) rfl rfl (Or.inl ⟨by rfl, fun _ _ => by rfl⟩) ?_
    simp only [Act.put, Fl.z1, Fl.z2, Fl.z3]
    refine Fl.take (some 30) (v := .bool true) rfl rfl (Or.inl ⟨by rfl, fun _ _ => by rfl⟩) ?_
    simp only [Act.put, Fl.z1, Fl.z2, Fl.z3]
    refine Fl.take (some 31) (v := undef) rfl rfl (Or.inr ⟨by rfl, rfl⟩) ?_
    simp only [Act.put, Fl.z1, Fl.z2, Fl.z3]
    refine Fl.take (some 32) (v := undef) rfl rfl (Or.inr ⟨by rfl, rfl⟩) ?_
    simp only [Act.put, Fl.z1, Fl.z2, Fl.z3]
    refine Fl.take (some 33) (v := undef) rfl rfl (Or.inr ⟨by rfl, rfl⟩) ?_
    simp only [Act.put, Fl.z1, Fl.z2, Fl.z3]
    refine Fl.take (some 34) (v := undef) rfl rfl (Or.inr ⟨by rfl, rfl⟩) ?_
    simp only [Act.put, Fl.z1, Fl.z2, Fl.z3]
    refine Fl.take (some 35) (v := undef) rfl rfl (Or.inr ⟨by rfl, rfl⟩) ?_
    simp only [Act.put, Fl.z1, Fl.z2, Fl.z3]
    refine Fl.take (some 36) (v := undef) rfl rfl (Or.inr ⟨by rfl, rfl⟩) ?_
    simp only [Act.put, Fl.z1, Fl.z2, Fl.z3]
    refine Fl.take (some 37) (v := .bool true) rfl rfl (Or.inl ⟨by rfl, fun _ _ => by rfl⟩) ?_
    simp only [Act.put, Fl.z1, Fl.z2, Fl.z3]
    refine Fl.stop (fun W hi => ?_)
    replace HI := Lib.hid hi
    clear hi
    go_upto_region 2 with (fail)
    refine Fl.startW [.take 0, .take 1, .take 2, .one 3, .one 4, .one 5, .take 6] (by decide) HI.out ?_
    refine Fl.take (some 38) (v := .agg #[.int .i64 0, .int .i64 0, .int .i64 0, .int .i64 0, .bool false, .int .i64 0, .int .i64 0]) rfl rfl (Or.inl ⟨by rfl, fun _ _ => by first | rfl | (go_simp; done) | (go_simp; simp only [i64_w])⟩) ?_
    simp only [Act.put, Fl.z1, Fl.z2, Fl.z3]
    refine Fl.take (some 39) (v := .agg #[.int .i64 0, .int .i64 0, .int .i64 0, .int .i64 0, .bool false, .int .i64 0, .int .i64 0]) rfl rfl (Or.inl ⟨by rfl, fun _ _ => by first | rfl | (go_simp; done) | (go_simp; simp only [i64_w])⟩) ?_
    simp only [Act.put, Fl.z1, Fl.z2, Fl.z3]
    refine Fl.take (some 40) (v := .agg #[.int .i64 0, .int .i64 0, .int .i64 0, .int .i64 0, .bool false, .int .i64 0, .int .i64 0]) rfl rfl (Or.inl ⟨by rfl, fun _ _ => by first | rfl | (go_simp; done) | (go_simp; simp only [i64_w])⟩) ?_
    simp only [Act.put, Fl.z1, Fl.z2, Fl.z3]
    refine Fl.store 2 #[.int .i64 0, .int .i64 0, .int .i64 0, .int .i64 0, .bool false, .int .i64 0, .int .i64 0] rfl rfl rfl rfl _ _ _ rfl rfl rfl (by rfl) rfl (by kernel_rfl) (by simp [Value.oneCell']) ?_
    refine Fl.store 1 #[.int .i64 0, .int .i64 0, .int .i64 0, .int .i64 0, .bool false, .int .i64 0, .int .i64 0] rfl rfl rfl rfl _ _ _ rfl rfl rfl (by rfl) rfl (by kernel_rfl) (by simp [Value.oneCell']) ?_
    refine Fl.store 0 #[.int .i64 0, .int .i64 0, .int .i64 0, .int .i64 0, .bool false, .int .i64 0, .int .i64 0] rfl rfl rfl rfl _ _ _ rfl rfl rfl (by rfl) rfl (by kernel_rfl) (by simp [Value.oneCell']) ?_
    refine Fl.take (some 11) (v := .bool false) rfl rfl (Or.inl ⟨by rfl, fun _ _ => by rfl⟩) ?_
    simp only [Act.put, Fl.z1, Fl.z2, Fl.z3]
    refine Fl.stopW (fun W hi => ?_)
    replace HI := Lib.hid hi
    clear hi
    go_wp2
    exact bodyPost_ret (v := .tuple #[.agg #[.int .i64 0, .int .i64 0, .int .i64 0, .int .i64 0, .bool false, .int .i64 0, .int .i64 0], .agg #[.int .i64 0, .int .i64 0, .int .i64 0, .int .i64 0, .bool false, .int .i64 0, .int .i64 0], .agg #[.int .i64 0, .int .i64 0, .int .i64 0, .int .i64 0, .bool false, .int .i64 0, .int .i64 0], .bool false]) (results_list (rs := [.cell 8 71, .cell 9 71, .cell 10 71, .tmp 11]) rfl (by simp) (.cell _ _ _ (0, 0) _ rfl (HI.out.blk 2 rfl) Try.underlying71 rfl (by kernel_rfl) (.cell _ _ _ (0, 0) _ rfl (HI.out.blk 1 rfl) Try.underlying71 rfl (by kernel_rfl) (.cell _ _ _ (0, 0) _ rfl (HI.out.blk 0 rfl) Try.underlying71 rfl (by kernel_rfl) (.tmp .nil))))) rfl ⟨rfl, HI.out.bel⟩

open Go.Proofs.Ytldkbeccpheckaa.Cp
/-! ### impl_within: function 56 -/
def impl_within.f (a0 : Int) (a1 : Int) (a2 : Int) : Option (Bool) := if a0 ≥ a1 then (some (decide (a0 ≤ a2))) else (some false)
set_option maxHeartbeats 8000000 in
set_option maxRecDepth 100000 in
theorem impl_within.calls (a0 : Int) (a1 : Int) (a2 : Int) (r : Bool) (w : World) (h : impl_within.f a0 a1 a2 = some r) :
  Calls Try.prog 56 #[.int .i64 a0, .int .i64 a1, .int .i64 a2] w fun e w' => e = .returned (.bool r) ∧ Drawn0 w w' := by
 have H : (if a0 ≥ a1 then (some (decide (a0 ≤ a2))) else (some false)) = some r := h
 clear h
 by_cases c4 : a0 ≥ a1
 ·rw [if_pos c4] at H
  have c4b0 : decide (a1 ≤ a0) = true := decide_eq_true c4
  clear c4
  obtain rfl := Option.some.inj H
  go_enter Try.func56, Try.ntmps56
  go_wp2
  go_ret
  exact ⟨by first | rfl | (simp; done) | (simp [*]; done), by repeat (first | exact Drawn0.refl _ | apply Drawn0.step)⟩
 ·rw [if_neg c4] at H
  have c4b0 : decide (a1 ≤ a0) = false := decide_eq_false c4
  clear c4
  obtain rfl := Option.some.inj H
  go_enter Try.func56, Try.ntmps56
  go_wp2
  go_ret
  exact ⟨by first | rfl | (simp; done) | (simp [*]; done), by repeat (first | exact Drawn0.refl _ | apply Drawn0.step)⟩

open Go.Proofs.Ytldkbeccpheckaa.Cp
/-! ### impl_IsMemory: function 62 -/
def impl_IsMemory.l0 : Nat → List (List Int) → Int → Int → List (List Int) → Option (Bool)
 | 0, _, _, _, _ => none
 | k + 1, x6, x7, x8, x166000 => if x8 < x7 then (if 0 ≤ x8 then (if x8 < (x6.length : Int) then ((impl_within.f ((rd_L1 x6 x8).length : Int) 1 64).bind fun t167 => (if t167 = true then (impl_IsMemory.l0 k x6 x7 (wrap64 (x8 + 1)) x166000) else (some false))) else (none)) else (none)) else (some (decide ((x166000.length : Int) ≤ 16)))
def impl_IsMemory.f (k : Nat) (l0_0 : List (List Int)) : Option (Bool) := impl_IsMemory.l0 k l0_0 (l0_0.length : Int) 0 l0_0
theorem impl_IsMemory.mono_l : ∀ k, (∀ y0 y1 y2 y3, LeO (impl_IsMemory.l0 k y0 y1 y2 y3) (impl_IsMemory.l0 (k + 1) y0 y1 y2 y3))
 | 0 => fun _ _ _ _ r h => by simp [impl_IsMemory.l0] at h
 | k + 1 => by
  have ih0 := impl_IsMemory.mono_l k
  ·intro y0 y1 y2 y3
   unfold impl_IsMemory.l0
   repeat' first
   | (with_reducible exact ih0 _ _ _ _)
   | (with_reducible exact LeO.refl _)
   | (with_reducible exact LeO.none _)
   | (with_reducible refine LeO.ite ?_ ?_)
   | (with_reducible refine LeO.bind ?_ (fun _ => ?_))
   | exact ih0 _ _ _ _
   | exact LeO.none _
   | refine LeO.ite ?_ ?_
   | refine LeO.bind ?_ (fun _ => ?_)
theorem impl_IsMemory.mono : ∀ a0 k, LeO (impl_IsMemory.f k a0) (impl_IsMemory.f (k + 1) a0) := by
 intro a0 k
 have ih0 := impl_IsMemory.mono_l k
 unfold impl_IsMemory.f
 repeat' first
   | (with_reducible exact ih0 _ _ _ _)
   | (with_reducible exact LeO.refl _)
   | (with_reducible exact LeO.none _)
   | (with_reducible refine LeO.ite ?_ ?_)
   | (with_reducible refine LeO.bind ?_ (fun _ => ?_))
   | exact ih0 _ _ _ _
   | exact LeO.none _
   | refine LeO.ite ?_ ?_
   | refine LeO.bind ?_ (fun _ => ?_)
set_option maxHeartbeats 8000000 in
set_option maxRecDepth 100000 in
theorem impl_IsMemory.calls (k : Nat) (A0_0 : Option Addr) (c0_0 : Nat) (l0_0 : List (List Int)) (r : Bool) (w : World) (hr0_0 : Kd.C (Kd.slice 5 (Kd.int .u8)) w A0_0 l0_0.length l0_0) (hc0_0 : l0_0.length ≤ c0_0) (h : impl_IsMemory.f k l0_0 = some r) :
  Calls Try.prog 62 #[.agg #[.slice A0_0 l0_0.length c0_0]] w fun e w' => e = .returned (.bool r) ∧ Below w.heap.size w w' := by
 have hu31 := Try.underlying31
 have HR0_0 := Aside0.mk hr0_0
 have HC0_0 := Aside0.mk hc0_0
 clear hr0_0 hc0_0
 have HB := Aside0.mk (Below.refl w.heap.size w)
 have H : (impl_IsMemory.l0 k l0_0 (l0_0.length : Int) 0 l0_0) = some r := h
 clear h
 have H' := Aside0.mk H
 clear H
 go_enter Try.func62, Try.ntmps62
 go_wp2_with (first | ((with_reducible refine gate_dst (N := 1) rfl ?_); refine box_event ?hg (N := 1) ?hd (cs := #[.slice A0_0 l0_0.length c0_0]) (t := 31) ?hr ?_; (case hd => rfl); (case hg => rfl); (case hr => first | (go_simp; done) | (go_simp; rfl)); intro gb165 hg w2 hbox hb; have BK165 := Aside0.mk (hbox); have GW165 := zge HB hg; have GE165 := zge HB hg; replace HB := zhs HB hb; clear hb hbox hg; have hcz3_0 := zc0 BK165 0 rfl; have hfz3_0 := blk_frozen BK165.out 0))
 go_loopg [8] k (fun kq v8 w' => ∃ (x8_1 : Int), v8 = .int .i64 x8_1 ∧ Aside0 (impl_IsMemory.l0 kq l0_0 (l0_0.length : Int) x8_1 l0_0 = some r) ∧ Aside0 (kq ≤ k) ∧ Aside0 (w'.heap[gb165]? = some (.cells #[(.slice A0_0 l0_0.length c0_0)] 31 (0, 0))) ∧ Aside0 (Below w.heap.size w w'))
 case atStart => exact ⟨(0), (by first | rfl | (simp; done) | (simp [*]; done)), H', ⟨Nat.le_refl _⟩, ⟨zk0 BK165⟩, ⟨by repeat (first | exact zh0 HB | refine below_set ?_ GE165.out)⟩⟩
 case round =>
  clear H'
  try clear p2
  try clear hcz3_0
  try clear hfz3_0
  obtain ⟨x8_1, rfl, HA, HK1, BK165, HB⟩ := hrel
  cases gk with
  | zero => exact absurd HA.out (by simp [impl_IsMemory.l0])
  | succ k1 =>
   have H := HA.out
   clear HA
   simp only [impl_IsMemory.l0] at H
   by_cases c4 : x8_1 < (l0_0.length : Int)
   ·rw [if_pos c4] at H
    have c4b0 : decide (x8_1 < (l0_0.length : Int)) = true := decide_eq_true c4
    clear c4
    by_cases c5 : 0 ≤ x8_1
    ·rw [if_pos c5] at H
     have c5b0 : decide (0 ≤ x8_1) = true := decide_eq_true c5
     clear c5
     by_cases c6 : x8_1 < (l0_0.length : Int)
     ·rw [if_pos c6] at H
      have c6b0 : decide (x8_1 < (l0_0.length : Int)) = true := decide_eq_true c6
      clear c6
      replace H := Option.bind_eq_some_iff.mp H
      obtain ⟨t167, A70, H⟩ := H
      replace H : (if t167 = true then (impl_IsMemory.l0 k1 l0_0 (l0_0.length : Int) (wrap64 (x8_1 + 1)) l0_0) else (some false)) = some r := H
      have A7 := Aside0.mk A70
      clear A70
      by_cases c8 : t167 = true
      ·subst c8
       have H1 : (impl_IsMemory.l0 k1 l0_0 (l0_0.length : Int) (wrap64 (x8_1 + 1)) l0_0) = some r := by rw [if_pos rfl] at H; exact H
       clear H
       have H := H1
       clear H1
       have H' := Aside0.mk H
       clear H
       have p166 : 0 ≤ (x8_1 : Int) := of_decide_eq_true (by first | (with_reducible assumption) | assumption)
       have q166 : x8_1 < (l0_0.length : Int) := of_decide_eq_true (by first | (with_reducible assumption) | assumption)
       obtain ⟨ad166, A166_0, c166_0, e166, hx166_0, hl166_0, hi166_0⟩ := at_L1 HR0_0.out x8_1 p166 q166
       cases e166
       replace hx166_0 := (HB.out.cell (World.block_lt_of_cell? w _ hx166_0)).trans hx166_0
       have HR166_0 := Aside0.mk hi166_0
       have HC166_0 := Aside0.mk hl166_0
       clear hi166_0 hl166_0
       replace p166 := eq_true p166
       replace q166 := eq_true q166
       go_wp2_with (first | ((with_reducible refine gate_callee (f := 56) rfl ?_); refine goesL_ (some 14) rfl rfl Try.func56 (by kernel_rfl) rfl #[.int .i64 ((rd_L1 l0_0 x8_1).length : Int), .int .i64 1, .int .i64 64] rfl (by (try simp only [zq1, zq2, zq3]); first | done | rfl | (simp only [List.length_drop, List.length_take]; rfl)) ?_; (with_reducible refine (impl_within.calls ((rd_L1 l0_0 x8_1).length : Int) 1 64 true _ A7.out).mono ?_); rintro e w' ⟨rfl, ⟨nd, rfl⟩⟩; refine ⟨_, rfl, ?_⟩))
       go_roundg k1
       case measure => have := HK1.out; omega
       case rel => exact ⟨(wrap64 (x8_1 + 1)), (by first | rfl | (simp; done) | (simp [*]; done)), H', ⟨by have := HK1.out; omega⟩, ⟨zk0 BK165⟩, ⟨by repeat (first | exact zh0 HB | refine below_set ?_ GE165.out)⟩⟩
      ·replace c8 := Bool.eq_false_iff.mpr c8
       subst c8
       have H1 : (some false) = some r := by rw [if_neg (show ¬ (false = true) by decide)] at H; exact H
       clear H
       have H := H1
       clear H1
       obtain rfl := Option.some.inj H
       have p166 : 0 ≤ (x8_1 : Int) := of_decide_eq_true (by first | (with_reducible assumption) | assumption)
       have q166 : x8_1 < (l0_0.length : Int) := of_decide_eq_true (by first | (with_reducible assumption) | assumption)
       obtain ⟨ad166, A166_0, c166_0, e166, hx166_0, hl166_0, hi166_0⟩ := at_L1 HR0_0.out x8_1 p166 q166
       cases e166
       replace hx166_0 := (HB.out.cell (World.block_lt_of_cell? w _ hx166_0)).trans hx166_0
       have HR166_0 := Aside0.mk hi166_0
       have HC166_0 := Aside0.mk hl166_0
       clear hi166_0 hl166_0
       replace p166 := eq_true p166
       replace q166 := eq_true q166
       go_wp2_with (first | ((with_reducible refine gate_callee (f := 56) rfl ?_); refine goesL_ (some 14) rfl rfl Try.func56 (by kernel_rfl) rfl #[.int .i64 ((rd_L1 l0_0 x8_1).length : Int), .int .i64 1, .int .i64 64] rfl (by (try simp only [zq1, zq2, zq3]); first | done | rfl | (simp only [List.length_drop, List.length_take]; rfl)) ?_; (with_reducible refine (impl_within.calls ((rd_L1 l0_0 x8_1).length : Int) 1 64 false _ A7.out).mono ?_); rintro e w' ⟨rfl, ⟨nd, rfl⟩⟩; refine ⟨_, rfl, ?_⟩))
       go_ret
       exact ⟨by first | rfl | (simp <;> rfl) | (simp [*] <;> rfl), by repeat (first | exact zh0 HB | refine below_set ?_ GE165.out)⟩
     ·rw [if_neg c6] at H
      exact absurd H (by simp)
    ·rw [if_neg c5] at H
     exact absurd H (by simp)
   ·rw [if_neg c4] at H
    have c4b0 : decide (x8_1 < (l0_0.length : Int)) = false := decide_eq_false c4
    clear c4
    obtain rfl := Option.some.inj H
    have hcz9_0 := zc0 BK165 0 rfl
    have hfz9_0 := blk_frozen BK165.out 0
    go_wp2
    go_ret
    exact ⟨by first | rfl | (simp <;> rfl) | (simp [*] <;> rfl), by repeat (first | exact zh0 HB | refine below_set ?_ GE165.out)⟩

open Go.Proofs.Ytldkbeccpheckaa.Cp
/-! ### impl_Memory_hasArray: function 97 -/
def impl_Memory_hasArray.f (l0_0 : List (List Int)) (a1 : Int) : Option (Bool) := (impl_within.f a1 0 (wrap64 ((l0_0.length : Int) - 1))).bind fun t169 => (some t169)
set_option maxHeartbeats 8000000 in
set_option maxRecDepth 100000 in
theorem impl_Memory_hasArray.calls (A0_0 : Option Addr) (c0_0 : Nat) (l0_0 : List (List Int)) (a1 : Int) (r : Bool) (w : World) (hr0_0 : Kd.C (Kd.slice 5 (Kd.int .u8)) w A0_0 l0_0.length l0_0) (hc0_0 : l0_0.length ≤ c0_0) (h : impl_Memory_hasArray.f l0_0 a1 = some r) :
  Calls Try.prog 97 #[.agg #[.slice A0_0 l0_0.length c0_0], .int .i64 a1] w fun e w' => e = .returned (.bool r) ∧ Below w.heap.size w w' := by
 have hu31 := Try.underlying31
 have HR0_0 := Aside0.mk hr0_0
 have HC0_0 := Aside0.mk hc0_0
 clear hr0_0 hc0_0
 have HB := Aside0.mk (Below.refl w.heap.size w)
 have H : ((impl_within.f a1 0 (wrap64 ((l0_0.length : Int) - 1))).bind fun t169 => (some t169)) = some r := h
 clear h
 replace H := Option.bind_eq_some_iff.mp H
 obtain ⟨t169, A30, H⟩ := H
 replace H : (some t169) = some r := H
 have A3 := Aside0.mk A30
 clear A30
 obtain rfl := Option.some.inj H
 go_enter Try.func97, Try.ntmps97
 go_wp2_with (first | ((with_reducible refine gate_dst (N := 2) rfl ?_); refine box_event ?hg (N := 2) ?hd (cs := #[.slice A0_0 l0_0.length c0_0]) (t := 31) ?hr ?_; (case hd => rfl); (case hg => rfl); (case hr => first | (go_simp; done) | (go_simp; rfl)); intro gb168 hg w4 hbox hb; have BK168 := Aside0.mk (hbox); have GW168 := zge HB hg; have GE168 := zge HB hg; replace HB := zhs HB hb; clear hb hbox hg; have hcz5_0 := zc0 BK168 0 rfl; have hfz5_0 := blk_frozen BK168.out 0) | ((with_reducible refine gate_callee (f := 56) rfl ?_); refine goesL_ (some 10) rfl rfl Try.func56 (by kernel_rfl) rfl #[.int .i64 a1, .int .i64 0, .int .i64 (wrap64 ((l0_0.length : Int) - 1))] rfl (by (try simp only [zq1, zq2, zq3]); first | done | rfl | (simp only [List.length_drop, List.length_take]; rfl)) ?_; (with_reducible refine (impl_within.calls a1 0 (wrap64 ((l0_0.length : Int) - 1)) t169 _ A3.out).mono ?_); rintro e w' ⟨rfl, ⟨nd, rfl⟩⟩; refine ⟨_, rfl, ?_⟩))
 go_ret
 exact ⟨by first | rfl | (simp <;> rfl) | (simp [*] <;> rfl), by repeat (first | exact zh0 HB | refine below_set ?_ GE168.out)⟩

end Go.Proofs.Ytldkbeccpheckaa.PFnExactShareLoan
