/- What is proved here: each Go function that is named below answers, and leaves memory, as the theorem of its name says; no condition beyond those that each theorem states. Laid by this session's own program (wip/driver.py) over the kit's print. -/
import Derived.Test.YtldkbeccpheckaaPFnExactParseFramesx0
import Derived.Test.YtldkbeccpheckaaPFnExactParseFramesx1
namespace Go.Proofs.Ytldkbeccpheckaa.PFnExactParseFrames
open Go.RowKit Go.Proofs.YtldkbeccpheckaaW.PrintWords Go.Proofs.YtldkbeccpheckaaW.PrintLast Go.Proofs.YtldkbeccpheckaaW.PrintMore
attribute [local go_sem] max2_int min2_int max_two min_two max_three min_three max_four min_four   -- for this text's walks alone
set_option linter.unusedVariables false
set_option linter.unusedSimpArgs false

open Go.Proofs.Ytldkbeccpheckaa.Cp
/-! ### spec_l2Window: function 72 -/
def spec_l2Window.j0 : Nat → Bool → List (List Int) → Int → Int → Int → Int → Option (Bool)
 | 0, _, _, _, _, _, _ => none
 | k + 1, x18, x140000, x141000, x141001, x141002, x141003 => if x18 = true then (some false) else (if 0 ≤ x141000 then (if x141000 < (x140000.length : Int) then ((spec_l1In.f x141001 0 ((rd_L1 x140000 x141000).length : Int)).bind fun t144 => (if t144 = true then ((spec_l1In.f x141003 0 (wrap64 (((rd_L1 x140000 x141000).length : Int) - x141001))).bind fun t145 => (if t145 = true then ((spec_l1In.f x141002 0 x141003).bind fun t146 => (some t146)) else (some false))) else (some false))) else (none)) else (none))
def spec_l2Window.f (k : Nat) (l0_0 : List (List Int)) (a1_0 : Int) (a1_1 : Int) (a1_2 : Int) (a1_3 : Int) : Option (Bool) := (spec_l2Memory.f k l0_0).bind fun t141 => (if t141 = true then ((spec_l1In.f a1_0 0 (wrap64 ((l0_0.length : Int) - 1))).bind fun t142 => (spec_l2Window.j0 k (!t142) l0_0 a1_0 a1_1 a1_2 a1_3)) else (spec_l2Window.j0 k true l0_0 a1_0 a1_1 a1_2 a1_3))
theorem spec_l2Window.mono_l : ∀ k, (∀ y0 y1 y2 y3 y4 y5, LeO (spec_l2Window.j0 k y0 y1 y2 y3 y4 y5) (spec_l2Window.j0 (k + 1) y0 y1 y2 y3 y4 y5))
 | 0 => fun _ _ _ _ _ _ r h => by simp [spec_l2Window.j0] at h
 | k + 1 => by
  have ih0 := spec_l2Window.mono_l k
  ·intro y0 y1 y2 y3 y4 y5
   unfold spec_l2Window.j0
   repeat' first
   | (with_reducible exact ih0 _ _ _ _ _ _)
   | (with_reducible exact spec_l2Memory.mono _ _)
   | (with_reducible exact LeO.refl _)
   | (with_reducible exact LeO.none _)
   | (with_reducible refine LeO.ite ?_ ?_)
   | (with_reducible refine LeO.bind ?_ (fun _ => ?_))
   | exact ih0 _ _ _ _ _ _
   | exact spec_l2Memory.mono _ _
   | exact LeO.none _
   | refine LeO.ite ?_ ?_
   | refine LeO.bind ?_ (fun _ => ?_)
theorem spec_l2Window.mono : ∀ a0 a1 a2 a3 a4 k, LeO (spec_l2Window.f k a0 a1 a2 a3 a4) (spec_l2Window.f (k + 1) a0 a1 a2 a3 a4) := by
 intro a0 a1 a2 a3 a4 k
 have ih0 := spec_l2Window.mono_l k
 unfold spec_l2Window.f
 repeat' first
   | (with_reducible exact ih0 _ _ _ _ _ _)
   | (with_reducible exact spec_l2Memory.mono _ _)
   | (with_reducible exact LeO.refl _)
   | (with_reducible exact LeO.none _)
   | (with_reducible refine LeO.ite ?_ ?_)
   | (with_reducible refine LeO.bind ?_ (fun _ => ?_))
   | exact ih0 _ _ _ _ _ _
   | exact spec_l2Memory.mono _ _
   | exact LeO.none _
   | refine LeO.ite ?_ ?_
   | refine LeO.bind ?_ (fun _ => ?_)
set_option maxHeartbeats 8000000 in
set_option maxRecDepth 100000 in
theorem spec_l2Window.calls (k : Nat) (A0_0 : Option Addr) (c0_0 : Nat) (l0_0 : List (List Int)) (a1_0 : Int) (a1_1 : Int) (a1_2 : Int) (a1_3 : Int) (r : Bool) (w : World) (hr0_0 : Kd.C (Kd.slice 5 (Kd.int .u8)) w A0_0 l0_0.length l0_0) (hc0_0 : l0_0.length ≤ c0_0) (h : spec_l2Window.f k l0_0 a1_0 a1_1 a1_2 a1_3 = some r) :
  Calls Try.prog 72 #[.agg #[.slice A0_0 l0_0.length c0_0], .agg #[.int .i64 a1_0, .int .i64 a1_1, .int .i64 a1_2, .int .i64 a1_3]] w fun e w' => e = .returned (.bool r) ∧ Below w.heap.size w w' := by
 have hu31 := Try.underlying31
 have hu33 := Try.underlying33
 have HR0_0 := Aside0.mk hr0_0
 have HC0_0 := Aside0.mk hc0_0
 clear hr0_0 hc0_0
 have HB := Aside0.mk (Below.refl w.heap.size w)
 have H : ((spec_l2Memory.f k l0_0).bind fun t141 => (if t141 = true then ((spec_l1In.f a1_0 0 (wrap64 ((l0_0.length : Int) - 1))).bind fun t142 => (spec_l2Window.j0 k (!t142) l0_0 a1_0 a1_1 a1_2 a1_3)) else (spec_l2Window.j0 k true l0_0 a1_0 a1_1 a1_2 a1_3))) = some r := h
 clear h
 have HC3 := Aside0.mk H
 clear H
 go_enter Try.func72, Try.ntmps72
 go_upto_region 1 with (first | ((with_reducible refine gate_dst (N := 2) rfl ?_); (try (refine gate_guard (by rfl) ?_; dsimp only)); refine box_event ?hg (N := 2) ?hd (cs := #[.slice A0_0 l0_0.length c0_0]) (t := 31) ?hr ?_; (case hd => rfl); (case hg => rfl); (case hr => first | (go_simp; done) | (go_simp; rfl)); intro gb139 hg w4 hbox hb; have BK139 := Aside0.mk (hbox); have GW139 := zge HB hg; have GE139 := zge HB hg; replace HB := zhs HB hb; clear hb hbox hg) | ((with_reducible refine gate_dst (N := 3) rfl ?_); (try (refine gate_guard (by rfl) ?_; dsimp only)); refine box_event ?hg (N := 3) ?hd (cs := #[.int .i64 a1_0, .int .i64 a1_1, .int .i64 a1_2, .int .i64 a1_3]) (t := 33) ?hr ?_; (case hd => rfl); (case hg => rfl); (case hr => first | (go_simp; done) | (go_simp; rfl)); intro gb140 hg w5 hbox hb; have BK140 := Aside0.mk (hbox); have GW140 := zge HB hg; have GE140 := zge HB hg; have NB139_140 := znl BK139 hg; have NB140_139 := znr BK139 hg; replace BK139 := zb0 BK139 hb; replace HB := zhs HB hb; clear hb hbox hg))
 (try simp only [Act.put, zp1, zp2, zp3])
 go_cut [18] (fun v18 wc => ∃ (kq : Nat) (x18_2 : Bool), v18 = .bool x18_2 ∧ Aside0 (spec_l2Window.j0 kq x18_2 l0_0 a1_0 a1_1 a1_2 a1_3 = some r) ∧ Aside0 (kq ≤ k) ∧ Aside0 (wc.heap[gb139]? = some (.cells #[(.slice A0_0 l0_0.length c0_0)] 31 (0, 0))) ∧ Aside0 (wc.heap[gb140]? = some (.cells #[.int .i64 a1_0, .int .i64 a1_1, .int .i64 a1_2, .int .i64 a1_3] 33 (0, 0))) ∧ Aside0 (Below w.heap.size w wc))
 case first =>
  have H := HC3.out
  clear HC3
  replace H := Option.bind_eq_some_iff.mp H
  obtain ⟨t141, A60, H⟩ := H
  replace H : (if t141 = true then ((spec_l1In.f a1_0 0 (wrap64 ((l0_0.length : Int) - 1))).bind fun t142 => (spec_l2Window.j0 k (!t142) l0_0 a1_0 a1_1 a1_2 a1_3)) else (spec_l2Window.j0 k true l0_0 a1_0 a1_1 a1_2 a1_3)) = some r := H
  have A6 := Aside0.mk A60
  clear A60
  by_cases c7 : t141 = true
  ·subst c7
   have H1 : ((spec_l1In.f a1_0 0 (wrap64 ((l0_0.length : Int) - 1))).bind fun t142 => (spec_l2Window.j0 k (!t142) l0_0 a1_0 a1_1 a1_2 a1_3)) = some r := by rw [if_pos rfl] at H; exact H
   clear H
   have H := H1
   clear H1
   replace H := Option.bind_eq_some_iff.mp H
   obtain ⟨t142, A80, H⟩ := H
   replace H : (spec_l2Window.j0 k (!t142) l0_0 a1_0 a1_1 a1_2 a1_3) = some r := H
   have A8 := Aside0.mk A80
   clear A80
   have H' := Aside0.mk H
   clear H
   have hnb9 := NB139_140.out
   have hnc9 := NB140_139.out
   have hcz10_0 := zc0 BK139 0 rfl
   have hfz10_0 := blk_frozen BK139.out 0
   go_wp2_with (first | ((with_reducible refine gate_callee (f := 59) rfl ?_); refine goesL_ (some 7) rfl rfl Try.func59 (by kernel_rfl) rfl #[.agg #[.slice A0_0 l0_0.length c0_0]] rfl (by (try simp only [zq1, zq2, zq3]); first | done | rfl | (simp only [List.length_drop, List.length_take]; rfl)) ?_; (with_reducible refine (spec_l2Memory.calls k _ _ l0_0 true _ ?side1 ?side2 A6.out).mono ?_); (case side1 => exact Kd.C_below HR0_0.out (zh0 HB)); (case side2 => exact HC0_0.out); rintro e w11 ⟨rfl, hb⟩; refine ⟨_, rfl, ?_⟩; replace BK139 := zb0 BK139 hb; replace BK140 := zb0 BK140 hb; replace HB := zhs HB hb; (try clear hb); have hcz12_0 := zc0 BK140 0 rfl; have hcz12_1 := zc0 BK140 1 rfl; have hcz12_2 := zc0 BK140 2 rfl; have hcz12_3 := zc0 BK140 3 rfl; have hfz12_0 := blk_frozen BK140.out 0; have hfz12_1 := blk_frozen BK140.out 1; have hfz12_2 := blk_frozen BK140.out 2; have hfz12_3 := blk_frozen BK140.out 3; have hcz13_0 := zc0 BK139 0 rfl; have hfz13_0 := blk_frozen BK139.out 0) | (go_at_call 78; (with_reducible refine (spec_l1In.calls a1_0 0 (wrap64 ((l0_0.length : Int) - 1)) t142 _ A8.out).mono ?_); rintro e w' ⟨rfl, ⟨nd, rfl⟩⟩))
   go_meet
   case rel => exact ⟨_, (!t142), (by first | rfl | (simp; done) | (simp [*]; done)), H', ⟨by first | omega | exact Nat.le_refl _⟩, ⟨zk0 BK139⟩, ⟨zk0 BK140⟩, ⟨by repeat (first | exact zh0 HB | refine below_set ?_ GE139.out | refine below_set ?_ GE140.out)⟩⟩
  ·replace c7 := Bool.eq_false_iff.mpr c7
   subst c7
   have H1 : (spec_l2Window.j0 k true l0_0 a1_0 a1_1 a1_2 a1_3) = some r := by rw [if_neg (show ¬ (false = true) by decide)] at H; exact H
   clear H
   have H := H1
   clear H1
   have H' := Aside0.mk H
   clear H
   have hnb14 := NB139_140.out
   have hnc14 := NB140_139.out
   have hcz15_0 := zc0 BK139 0 rfl
   have hfz15_0 := blk_frozen BK139.out 0
   go_wp2_with (first | ((with_reducible refine gate_callee (f := 59) rfl ?_); refine goesL_ (some 7) rfl rfl Try.func59 (by kernel_rfl) rfl #[.agg #[.slice A0_0 l0_0.length c0_0]] rfl (by (try simp only [zq1, zq2, zq3]); first | done | rfl | (simp only [List.length_drop, List.length_take]; rfl)) ?_; (with_reducible refine (spec_l2Memory.calls k _ _ l0_0 false _ ?side1 ?side2 A6.out).mono ?_); (case side1 => exact Kd.C_below HR0_0.out (zh0 HB)); (case side2 => exact HC0_0.out); rintro e w16 ⟨rfl, hb⟩; refine ⟨_, rfl, ?_⟩; replace BK139 := zb0 BK139 hb; replace BK140 := zb0 BK140 hb; replace HB := zhs HB hb; (try clear hb)))
   go_meet
   case rel => exact ⟨_, (true), (by first | rfl | (simp; done) | (simp [*]; done)), H', ⟨by first | omega | exact Nat.le_refl _⟩, ⟨zk0 BK139⟩, ⟨zk0 BK140⟩, ⟨by repeat (first | exact zh0 HB | refine below_set ?_ GE139.out | refine below_set ?_ GE140.out)⟩⟩
 case rest =>
  clear HC3
  try clear c1
  try clear p2
  try clear c5
  try clear p6
  try clear c7
  try clear c9
  try clear c14
  try clear hcz10_0
  try clear hcz12_0
  try clear hcz12_1
  try clear hcz12_2
  try clear hcz12_3
  try clear hcz13_0
  try clear hcz15_0
  try clear hfz10_0
  try clear hfz12_0
  try clear hfz12_1
  try clear hfz12_2
  try clear hfz12_3
  try clear hfz13_0
  try clear hfz15_0
  obtain ⟨kq, x18_2, rfl, HA, HJ2, BK139, BK140, HB⟩ := hcut
  cases kq with
  | zero => exact absurd HA.out (by simp [spec_l2Window.j0])
  | succ kj2 =>
   have H := HA.out
   clear HA
   simp only [spec_l2Window.j0] at H
   by_cases c17 : x18_2 = true
   ·subst c17
    have H1 : (some false) = some r := by rw [if_pos rfl] at H; exact H
    clear H
    have H := H1
    clear H1
    obtain rfl := Option.some.inj H
    go_wp2
    go_ret
    exact ⟨by first | rfl | (simp <;> rfl) | (simp [*] <;> rfl), by repeat (first | exact zh0 HB | refine below_set ?_ GE139.out | refine below_set ?_ GE140.out)⟩
   ·replace c17 := Bool.eq_false_iff.mpr c17
    subst c17
    have H1 : (if 0 ≤ a1_0 then (if a1_0 < (l0_0.length : Int) then ((spec_l1In.f a1_1 0 ((rd_L1 l0_0 a1_0).length : Int)).bind fun t144 => (if t144 = true then ((spec_l1In.f a1_3 0 (wrap64 (((rd_L1 l0_0 a1_0).length : Int) - a1_1))).bind fun t145 => (if t145 = true then ((spec_l1In.f a1_2 0 a1_3).bind fun t146 => (some t146)) else (some false))) else (some false))) else (none)) else (none)) = some r := by rw [if_neg (show ¬ (false = true) by decide)] at H; exact H
    clear H
    have H := H1
    clear H1
    by_cases c18 : 0 ≤ a1_0
    ·rw [if_pos c18] at H
     have c18b0 : decide (0 ≤ a1_0) = true := decide_eq_true c18
     clear c18
     by_cases c19 : a1_0 < (l0_0.length : Int)
     ·rw [if_pos c19] at H
      have c19b0 : decide (a1_0 < (l0_0.length : Int)) = true := decide_eq_true c19
      clear c19
      replace H := Option.bind_eq_some_iff.mp H
      obtain ⟨t144, A200, H⟩ := H
      replace H : (if t144 = true then ((spec_l1In.f a1_3 0 (wrap64 (((rd_L1 l0_0 a1_0).length : Int) - a1_1))).bind fun t145 => (if t145 = true then ((spec_l1In.f a1_2 0 a1_3).bind fun t146 => (some t146)) else (some false))) else (some false)) = some r := H
      have A20 := Aside0.mk A200
      clear A200
      by_cases c21 : t144 = true
      ·subst c21
       have H1 : ((spec_l1In.f a1_3 0 (wrap64 (((rd_L1 l0_0 a1_0).length : Int) - a1_1))).bind fun t145 => (if t145 = true then ((spec_l1In.f a1_2 0 a1_3).bind fun t146 => (some t146)) else (some false))) = some r := by rw [if_pos rfl] at H; exact H
       clear H
       have H := H1
       clear H1
       replace H := Option.bind_eq_some_iff.mp H
       obtain ⟨t145, A220, H⟩ := H
       replace H : (if t145 = true then ((spec_l1In.f a1_2 0 a1_3).bind fun t146 => (some t146)) else (some false)) = some r := H
       have A22 := Aside0.mk A220
       clear A220
       by_cases c23 : t145 = true
       ·subst c23
        have H1 : ((spec_l1In.f a1_2 0 a1_3).bind fun t146 => (some t146)) = some r := by rw [if_pos rfl] at H; exact H
        clear H
        have H := H1
        clear H1
        replace H := Option.bind_eq_some_iff.mp H
        obtain ⟨t146, A240, H⟩ := H
        replace H : (some t146) = some r := H
        have A24 := Aside0.mk A240
        clear A240
        obtain rfl := Option.some.inj H
        have hnb25 := NB139_140.out
        have hnc25 := NB140_139.out
        have hcz26_0 := zc0 BK139 0 rfl
        have hfz26_0 := blk_frozen BK139.out 0
        have hcz27_0 := zc0 BK140 0 rfl
        have hcz27_1 := zc0 BK140 1 rfl
        have hcz27_2 := zc0 BK140 2 rfl
        have hcz27_3 := zc0 BK140 3 rfl
        have hfz27_0 := blk_frozen BK140.out 0
        have hfz27_1 := blk_frozen BK140.out 1
        have hfz27_2 := blk_frozen BK140.out 2
        have hfz27_3 := blk_frozen BK140.out 3
        have p143 : 0 ≤ (a1_0 : Int) := of_decide_eq_true (by first | (with_reducible assumption) | assumption)
        have q143 : a1_0 < (l0_0.length : Int) := of_decide_eq_true (by first | (with_reducible assumption) | assumption)
        obtain ⟨ad143, A143_0, c143_0, e143, hx143_0, hl143_0, hi143_0⟩ := at_L1 HR0_0.out a1_0 p143 q143
        cases e143
        replace hx143_0 := (HB.out.cell (World.block_lt_of_cell? w _ hx143_0)).trans hx143_0
        have HR143_0 := Aside0.mk hi143_0
        have HC143_0 := Aside0.mk hl143_0
        clear hi143_0 hl143_0
        replace p143 := eq_true p143
        replace q143 := eq_true q143
        go_wp2_with (first | ((with_reducible refine gate_callee (f := 78) rfl ?_); refine goesL_ (some 29) rfl rfl Try.func78 (by kernel_rfl) rfl #[.int .i64 a1_1, .int .i64 0, .int .i64 ((rd_L1 l0_0 a1_0).length : Int)] rfl (by (try simp only [zq1, zq2, zq3]); first | done | rfl | (simp only [List.length_drop, List.length_take]; rfl)) ?_; (with_reducible refine (spec_l1In.calls a1_1 0 ((rd_L1 l0_0 a1_0).length : Int) true _ A20.out).mono ?_); rintro e w' ⟨rfl, ⟨nd, rfl⟩⟩; refine ⟨_, rfl, ?_⟩) | (go_at_call 78; (with_reducible refine (spec_l1In.calls a1_3 0 (wrap64 (((rd_L1 l0_0 a1_0).length : Int) - a1_1)) true _ A22.out).mono ?_); rintro e w' ⟨rfl, ⟨nd, rfl⟩⟩) | (go_at_call 78; (with_reducible refine (spec_l1In.calls a1_2 0 a1_3 t146 _ A24.out).mono ?_); rintro e w' ⟨rfl, ⟨nd, rfl⟩⟩))
        go_ret
        exact ⟨by first | rfl | (simp <;> rfl) | (simp [*] <;> rfl), by repeat (first | exact zh0 HB | refine below_set ?_ GE139.out | refine below_set ?_ GE140.out)⟩
       ·replace c23 := Bool.eq_false_iff.mpr c23
        subst c23
        have H1 : (some false) = some r := by rw [if_neg (show ¬ (false = true) by decide)] at H; exact H
        clear H
        have H := H1
        clear H1
        obtain rfl := Option.some.inj H
        have hnb28 := NB139_140.out
        have hnc28 := NB140_139.out
        have hcz29_0 := zc0 BK139 0 rfl
        have hfz29_0 := blk_frozen BK139.out 0
        have hcz30_0 := zc0 BK140 0 rfl
        have hcz30_1 := zc0 BK140 1 rfl
        have hcz30_2 := zc0 BK140 2 rfl
        have hcz30_3 := zc0 BK140 3 rfl
        have hfz30_0 := blk_frozen BK140.out 0
        have hfz30_1 := blk_frozen BK140.out 1
        have hfz30_2 := blk_frozen BK140.out 2
        have hfz30_3 := blk_frozen BK140.out 3
        have p143 : 0 ≤ (a1_0 : Int) := of_decide_eq_true (by first | (with_reducible assumption) | assumption)
        have q143 : a1_0 < (l0_0.length : Int) := of_decide_eq_true (by first | (with_reducible assumption) | assumption)
        obtain ⟨ad143, A143_0, c143_0, e143, hx143_0, hl143_0, hi143_0⟩ := at_L1 HR0_0.out a1_0 p143 q143
        cases e143
        replace hx143_0 := (HB.out.cell (World.block_lt_of_cell? w _ hx143_0)).trans hx143_0
        have HR143_0 := Aside0.mk hi143_0
        have HC143_0 := Aside0.mk hl143_0
        clear hi143_0 hl143_0
        replace p143 := eq_true p143
        replace q143 := eq_true q143
        go_wp2_with (first | ((with_reducible refine gate_callee (f := 78) rfl ?_); refine goesL_ (some 29) rfl rfl Try.func78 (by kernel_rfl) rfl #[.int .i64 a1_1, .int .i64 0, .int .i64 ((rd_L1 l0_0 a1_0).length : Int)] rfl (by (try simp only [zq1, zq2, zq3]); first | done | rfl | (simp only [List.length_drop, List.length_take]; rfl)) ?_; (with_reducible refine (spec_l1In.calls a1_1 0 ((rd_L1 l0_0 a1_0).length : Int) true _ A20.out).mono ?_); rintro e w' ⟨rfl, ⟨nd, rfl⟩⟩; refine ⟨_, rfl, ?_⟩) | (go_at_call 78; (with_reducible refine (spec_l1In.calls a1_3 0 (wrap64 (((rd_L1 l0_0 a1_0).length : Int) - a1_1)) false _ A22.out).mono ?_); rintro e w' ⟨rfl, ⟨nd, rfl⟩⟩))
        go_ret
        exact ⟨by first | rfl | (simp <;> rfl) | (simp [*] <;> rfl), by repeat (first | exact zh0 HB | refine below_set ?_ GE139.out | refine below_set ?_ GE140.out)⟩
      ·replace c21 := Bool.eq_false_iff.mpr c21
       subst c21
       have H1 : (some false) = some r := by rw [if_neg (show ¬ (false = true) by decide)] at H; exact H
       clear H
       have H := H1
       clear H1
       obtain rfl := Option.some.inj H
       have hnb31 := NB139_140.out
       have hnc31 := NB140_139.out
       have hcz32_0 := zc0 BK139 0 rfl
       have hfz32_0 := blk_frozen BK139.out 0
       have hcz33_0 := zc0 BK140 0 rfl
       have hcz33_1 := zc0 BK140 1 rfl
       have hcz33_2 := zc0 BK140 2 rfl
       have hcz33_3 := zc0 BK140 3 rfl
       have hfz33_0 := blk_frozen BK140.out 0
       have hfz33_1 := blk_frozen BK140.out 1
       have hfz33_2 := blk_frozen BK140.out 2
       have hfz33_3 := blk_frozen BK140.out 3
       have p143 : 0 ≤ (a1_0 : Int) := of_decide_eq_true (by first | (with_reducible assumption) | assumption)
       have q143 : a1_0 < (l0_0.length : Int) := of_decide_eq_true (by first | (with_reducible assumption) | assumption)
       obtain ⟨ad143, A143_0, c143_0, e143, hx143_0, hl143_0, hi143_0⟩ := at_L1 HR0_0.out a1_0 p143 q143
       cases e143
       replace hx143_0 := (HB.out.cell (World.block_lt_of_cell? w _ hx143_0)).trans hx143_0
       have HR143_0 := Aside0.mk hi143_0
       have HC143_0 := Aside0.mk hl143_0
       clear hi143_0 hl143_0
       replace p143 := eq_true p143
       replace q143 := eq_true q143
       go_wp2_with (first | ((with_reducible refine gate_callee (f := 78) rfl ?_); refine goesL_ (some 29) rfl rfl Try.func78 (by kernel_rfl) rfl #[.int .i64 a1_1, .int .i64 0, .int .i64 ((rd_L1 l0_0 a1_0).length : Int)] rfl (by (try simp only [zq1, zq2, zq3]); first | done | rfl | (simp only [List.length_drop, List.length_take]; rfl)) ?_; (with_reducible refine (spec_l1In.calls a1_1 0 ((rd_L1 l0_0 a1_0).length : Int) false _ A20.out).mono ?_); rintro e w' ⟨rfl, ⟨nd, rfl⟩⟩; refine ⟨_, rfl, ?_⟩))
       go_ret
       exact ⟨by first | rfl | (simp <;> rfl) | (simp [*] <;> rfl), by repeat (first | exact zh0 HB | refine below_set ?_ GE139.out | refine below_set ?_ GE140.out)⟩
     ·rw [if_neg c19] at H
      exact absurd H (by simp)
    ·rw [if_neg c18] at H
     exact absurd H (by simp)

open Go.Proofs.Ytldkbeccpheckaa.Cp
/-! ### spec_l2At: function 74 -/
def spec_l2At.f (l0_0 : List (List Int)) (a1_0 : Int) (a1_1 : Int) (a1_2 : Int) (a1_3 : Int) (a2 : Int) : Option (Int) := if 0 ≤ a1_0 then (if a1_0 < (l0_0.length : Int) then (if 0 ≤ (wrap64 (a1_1 + a2)) then (if (wrap64 (a1_1 + a2)) < ((rd_L1 l0_0 a1_0).length : Int) then (some (rd (rd_L1 l0_0 a1_0) (wrap64 (a1_1 + a2)))) else (none)) else (none)) else (none)) else (none)
set_option maxHeartbeats 8000000 in
set_option maxRecDepth 100000 in
theorem spec_l2At.calls (A0_0 : Option Addr) (c0_0 : Nat) (l0_0 : List (List Int)) (a1_0 : Int) (a1_1 : Int) (a1_2 : Int) (a1_3 : Int) (a2 : Int) (r : Int) (w : World) (hr0_0 : Kd.C (Kd.slice 5 (Kd.int .u8)) w A0_0 l0_0.length l0_0) (hc0_0 : l0_0.length ≤ c0_0) (h : spec_l2At.f l0_0 a1_0 a1_1 a1_2 a1_3 a2 = some r) :
  Calls Try.prog 74 #[.agg #[.slice A0_0 l0_0.length c0_0], .agg #[.int .i64 a1_0, .int .i64 a1_1, .int .i64 a1_2, .int .i64 a1_3], .int .i64 a2] w fun e w' => e = .returned (.int .u8 r) ∧ Below w.heap.size w w' := by
 have hu31 := Try.underlying31
 have hu33 := Try.underlying33
 have HR0_0 := Aside0.mk hr0_0
 have HC0_0 := Aside0.mk hc0_0
 clear hr0_0 hc0_0
 have HB := Aside0.mk (Below.refl w.heap.size w)
 have H : (if 0 ≤ a1_0 then (if a1_0 < (l0_0.length : Int) then (if 0 ≤ (wrap64 (a1_1 + a2)) then (if (wrap64 (a1_1 + a2)) < ((rd_L1 l0_0 a1_0).length : Int) then (some (rd (rd_L1 l0_0 a1_0) (wrap64 (a1_1 + a2)))) else (none)) else (none)) else (none)) else (none)) = some r := h
 clear h
 by_cases c4 : 0 ≤ a1_0
 ·rw [if_pos c4] at H
  have c4b0 : decide (0 ≤ a1_0) = true := decide_eq_true c4
  clear c4
  by_cases c5 : a1_0 < (l0_0.length : Int)
  ·rw [if_pos c5] at H
   have c5b0 : decide (a1_0 < (l0_0.length : Int)) = true := decide_eq_true c5
   clear c5
   obtain ⟨ji6, hji6⟩ : ∃ j_ : Int, (wrap64 (a1_1 + a2)) = j_ := ⟨_, rfl⟩
   replace H : (if 0 ≤ (ji6) then (if (ji6) < ((rd_L1 l0_0 a1_0).length : Int) then (some (rd (rd_L1 l0_0 a1_0) (ji6))) else (none)) else (none)) = some r := by first | (rw [hji6] at H; exact H) | (simp only [hji6] at H ⊢; exact H)
   have hji6w : (IntKind.i64.wrap (a1_1 + a2)) = ji6 := (i64_w _).trans hji6
   by_cases c7 : 0 ≤ (ji6)
   ·rw [if_pos c7] at H
    have c7b0 : decide (0 ≤ (ji6)) = true := decide_eq_true c7
    clear c7
    by_cases c8 : (ji6) < ((rd_L1 l0_0 a1_0).length : Int)
    ·rw [if_pos c8] at H
     have c8b0 : decide ((ji6) < ((rd_L1 l0_0 a1_0).length : Int)) = true := decide_eq_true c8
     clear c8
     obtain rfl := Option.some.inj H
     go_enter Try.func74, Try.ntmps74
     go_wp2_with (first | ((with_reducible refine gate_dst (N := 3) rfl ?_); refine box_event ?hg (N := 3) ?hd (cs := #[.slice A0_0 l0_0.length c0_0]) (t := 31) ?hr ?_; (case hd => rfl); (case hg => rfl); (case hr => first | (go_simp; done) | (go_simp; rfl)); intro gb147 hg w9 hbox hb; have BK147 := Aside0.mk (hbox); have GW147 := zge HB hg; have GE147 := zge HB hg; replace HB := zhs HB hb; clear hb hbox hg) | ((with_reducible refine gate_dst (N := 4) rfl ?_); refine box_event ?hg (N := 4) ?hd (cs := #[.int .i64 a1_0, .int .i64 a1_1, .int .i64 a1_2, .int .i64 a1_3]) (t := 33) ?hr ?_; (case hd => rfl); (case hg => rfl); (case hr => first | (go_simp; done) | (go_simp; rfl)); intro gb148 hg w10 hbox hb; have BK148 := Aside0.mk (hbox); have GW148 := zge HB hg; have GE148 := zge HB hg; have NB147_148 := znl BK147 hg; have NB148_147 := znr BK147 hg; replace BK147 := zb0 BK147 hb; replace HB := zhs HB hb; clear hb hbox hg; have hnb11 := NB147_148.out; have hnc11 := NB148_147.out; have hcz12_0 := zc0 BK147 0 rfl; have hfz12_0 := blk_frozen BK147.out 0; have hcz13_0 := zc0 BK148 0 rfl; have hcz13_1 := zc0 BK148 1 rfl; have hcz13_2 := zc0 BK148 2 rfl; have hcz13_3 := zc0 BK148 3 rfl; have hfz13_0 := blk_frozen BK148.out 0; have hfz13_1 := blk_frozen BK148.out 1; have hfz13_2 := blk_frozen BK148.out 2; have hfz13_3 := blk_frozen BK148.out 3; have p149 : 0 ≤ (a1_0 : Int) := of_decide_eq_true (by first | (with_reducible assumption) | assumption); have q149 : a1_0 < (l0_0.length : Int) := of_decide_eq_true (by first | (with_reducible assumption) | assumption); obtain ⟨ad149, A149_0, c149_0, e149, hx149_0, hl149_0, hi149_0⟩ := at_L1 HR0_0.out a1_0 p149 q149; cases e149; replace hx149_0 := (HB.out.cell (World.block_lt_of_cell? w _ hx149_0)).trans hx149_0; have HR149_0 := Aside0.mk hi149_0; have HC149_0 := Aside0.mk hl149_0; clear hi149_0 hl149_0; replace p149 := eq_true p149; replace q149 := eq_true q149; have p150 : 0 ≤ ((ji6) : Int) := of_decide_eq_true (by first | (with_reducible assumption) | assumption); have q150 : (ji6) < ((rd_L1 l0_0 a1_0).length : Int) := of_decide_eq_true (by first | (with_reducible assumption) | assumption); obtain ⟨ad150, e150, hx150_0⟩ := Kd.at_int HR149_0.out (ji6) p150 q150; cases e150; replace hx150_0 := (HB.out.cell (World.block_lt_of_cell? w _ hx150_0)).trans hx150_0; replace p150 := eq_true p150; replace q150 := eq_true q150))
     repeat (go_quiet (first | ((with_reducible refine gate_dst (N := 3) rfl ?_); refine box_event ?hg (N := 3) ?hd (cs := #[.slice A0_0 l0_0.length c0_0]) (t := 31) ?hr ?_; (case hd => rfl); (case hg => rfl); (case hr => first | (go_simp; done) | (go_simp; rfl)); intro gb147 hg w9 hbox hb; have BK147 := Aside0.mk (hbox); have GW147 := zge HB hg; have GE147 := zge HB hg; replace HB := zhs HB hb; clear hb hbox hg) | ((with_reducible refine gate_dst (N := 4) rfl ?_); refine box_event ?hg (N := 4) ?hd (cs := #[.int .i64 a1_0, .int .i64 a1_1, .int .i64 a1_2, .int .i64 a1_3]) (t := 33) ?hr ?_; (case hd => rfl); (case hg => rfl); (case hr => first | (go_simp; done) | (go_simp; rfl)); intro gb148 hg w10 hbox hb; have BK148 := Aside0.mk (hbox); have GW148 := zge HB hg; have GE148 := zge HB hg; have NB147_148 := znl BK147 hg; have NB148_147 := znr BK147 hg; replace BK147 := zb0 BK147 hb; replace HB := zhs HB hb; clear hb hbox hg; have hnb11 := NB147_148.out; have hnc11 := NB148_147.out; have hcz12_0 := zc0 BK147 0 rfl; have hfz12_0 := blk_frozen BK147.out 0; have hcz13_0 := zc0 BK148 0 rfl; have hcz13_1 := zc0 BK148 1 rfl; have hcz13_2 := zc0 BK148 2 rfl; have hcz13_3 := zc0 BK148 3 rfl; have hfz13_0 := blk_frozen BK148.out 0; have hfz13_1 := blk_frozen BK148.out 1; have hfz13_2 := blk_frozen BK148.out 2; have hfz13_3 := blk_frozen BK148.out 3; have p149 : 0 ≤ (a1_0 : Int) := of_decide_eq_true (by first | (with_reducible assumption) | assumption); have q149 : a1_0 < (l0_0.length : Int) := of_decide_eq_true (by first | (with_reducible assumption) | assumption); obtain ⟨ad149, A149_0, c149_0, e149, hx149_0, hl149_0, hi149_0⟩ := at_L1 HR0_0.out a1_0 p149 q149; cases e149; replace hx149_0 := (HB.out.cell (World.block_lt_of_cell? w _ hx149_0)).trans hx149_0; have HR149_0 := Aside0.mk hi149_0; have HC149_0 := Aside0.mk hl149_0; clear hi149_0 hl149_0; replace p149 := eq_true p149; replace q149 := eq_true q149; have p150 : 0 ≤ ((ji6) : Int) := of_decide_eq_true (by first | (with_reducible assumption) | assumption); have q150 : (ji6) < ((rd_L1 l0_0 a1_0).length : Int) := of_decide_eq_true (by first | (with_reducible assumption) | assumption); obtain ⟨ad150, e150, hx150_0⟩ := Kd.at_int HR149_0.out (ji6) p150 q150; cases e150; replace hx150_0 := (HB.out.cell (World.block_lt_of_cell? w _ hx150_0)).trans hx150_0; replace p150 := eq_true p150; replace q150 := eq_true q150)); try go_wp2_with (first | ((with_reducible refine gate_dst (N := 3) rfl ?_); refine box_event ?hg (N := 3) ?hd (cs := #[.slice A0_0 l0_0.length c0_0]) (t := 31) ?hr ?_; (case hd => rfl); (case hg => rfl); (case hr => first | (go_simp; done) | (go_simp; rfl)); intro gb147 hg w9 hbox hb; have BK147 := Aside0.mk (hbox); have GW147 := zge HB hg; have GE147 := zge HB hg; replace HB := zhs HB hb; clear hb hbox hg) | ((with_reducible refine gate_dst (N := 4) rfl ?_); refine box_event ?hg (N := 4) ?hd (cs := #[.int .i64 a1_0, .int .i64 a1_1, .int .i64 a1_2, .int .i64 a1_3]) (t := 33) ?hr ?_; (case hd => rfl); (case hg => rfl); (case hr => first | (go_simp; done) | (go_simp; rfl)); intro gb148 hg w10 hbox hb; have BK148 := Aside0.mk (hbox); have GW148 := zge HB hg; have GE148 := zge HB hg; have NB147_148 := znl BK147 hg; have NB148_147 := znr BK147 hg; replace BK147 := zb0 BK147 hb; replace HB := zhs HB hb; clear hb hbox hg; have hnb11 := NB147_148.out; have hnc11 := NB148_147.out; have hcz12_0 := zc0 BK147 0 rfl; have hfz12_0 := blk_frozen BK147.out 0; have hcz13_0 := zc0 BK148 0 rfl; have hcz13_1 := zc0 BK148 1 rfl; have hcz13_2 := zc0 BK148 2 rfl; have hcz13_3 := zc0 BK148 3 rfl; have hfz13_0 := blk_frozen BK148.out 0; have hfz13_1 := blk_frozen BK148.out 1; have hfz13_2 := blk_frozen BK148.out 2; have hfz13_3 := blk_frozen BK148.out 3; have p149 : 0 ≤ (a1_0 : Int) := of_decide_eq_true (by first | (with_reducible assumption) | assumption); have q149 : a1_0 < (l0_0.length : Int) := of_decide_eq_true (by first | (with_reducible assumption) | assumption); obtain ⟨ad149, A149_0, c149_0, e149, hx149_0, hl149_0, hi149_0⟩ := at_L1 HR0_0.out a1_0 p149 q149; cases e149; replace hx149_0 := (HB.out.cell (World.block_lt_of_cell? w _ hx149_0)).trans hx149_0; have HR149_0 := Aside0.mk hi149_0; have HC149_0 := Aside0.mk hl149_0; clear hi149_0 hl149_0; replace p149 := eq_true p149; replace q149 := eq_true q149; have p150 : 0 ≤ ((ji6) : Int) := of_decide_eq_true (by first | (with_reducible assumption) | assumption); have q150 : (ji6) < ((rd_L1 l0_0 a1_0).length : Int) := of_decide_eq_true (by first | (with_reducible assumption) | assumption); obtain ⟨ad150, e150, hx150_0⟩ := Kd.at_int HR149_0.out (ji6) p150 q150; cases e150; replace hx150_0 := (HB.out.cell (World.block_lt_of_cell? w _ hx150_0)).trans hx150_0; replace p150 := eq_true p150; replace q150 := eq_true q150)))
     go_ret
     exact ⟨by first | rfl | (simp [errW_none, errW_some] <;> rfl) | (simp only [← hji6]; first | rfl | (simp [errW_none, errW_some] <;> rfl)) | (simp [*, errW_none, errW_some] <;> rfl), by repeat (first | exact zh0 HB | refine below_set ?_ GE147.out | refine below_set ?_ GE148.out)⟩
    ·rw [if_neg c8] at H
     exact absurd H (by simp)
   ·rw [if_neg c7] at H
    exact absurd H (by simp)
  ·rw [if_neg c5] at H
   exact absurd H (by simp)
 ·rw [if_neg c4] at H
  exact absurd H (by simp)

open Go.Proofs.Ytldkbeccpheckaa.Cp
/-! ### spec_l2Slice: function 79 -/
def spec_l2Slice.f (a0_0 : Int) (a0_1 : Int) (a0_2 : Int) (a0_3 : Int) (a1 : Int) (a2 : Int) (a3 : Int) : Option (Int × Int × Int × Int) := some (a0_0, wrap64 (a0_1 + a1), wrap64 (a2 - a1), wrap64 (a3 - a1))
set_option maxHeartbeats 8000000 in
set_option maxRecDepth 100000 in
theorem spec_l2Slice.calls (a0_0 : Int) (a0_1 : Int) (a0_2 : Int) (a0_3 : Int) (a1 : Int) (a2 : Int) (a3 : Int) (r1 : Int) (r2 : Int) (r3 : Int) (r4 : Int) (w : World) (h : spec_l2Slice.f a0_0 a0_1 a0_2 a0_3 a1 a2 a3 = some (r1, r2, r3, r4)) :
  Calls Try.prog 79 #[.agg #[.int .i64 a0_0, .int .i64 a0_1, .int .i64 a0_2, .int .i64 a0_3], .int .i64 a1, .int .i64 a2, .int .i64 a3] w fun e w' => e = .returned (.agg #[.int .i64 r1, .int .i64 r2, .int .i64 r3, .int .i64 r4]) ∧ Below w.heap.size w w' := by
 have hu33 := Try.underlying33
 have HB := Aside0.mk (Below.refl w.heap.size w)
 have H : (some (a0_0, wrap64 (a0_1 + a1), wrap64 (a2 - a1), wrap64 (a3 - a1))) = some (r1, r2, r3, r4) := h
 clear h
 simp only [Option.some.injEq, Prod.mk.injEq] at H
 obtain ⟨rfl, rfl, rfl, rfl⟩ := H
 go_enter Try.func79, Try.ntmps79
 go_wp2_with (first | ((with_reducible refine gate_dst (N := 4) rfl ?_); refine box_event ?hg (N := 4) ?hd (cs := #[.int .i64 a0_0, .int .i64 a0_1, .int .i64 a0_2, .int .i64 a0_3]) (t := 33) ?hr ?_; (case hd => rfl); (case hg => rfl); (case hr => first | (go_simp; done) | (go_simp; rfl)); intro gb151 hg w5 hbox hb; have BK151 := Aside0.mk (hbox); have GW151 := zge HB hg; have GE151 := zge HB hg; replace HB := zhs HB hb; clear hb hbox hg) | ((with_reducible refine gate_dst (N := 8) rfl ?_); refine box_event ?hg (N := 8) ?hd (cs := #[.int .i64 0, .int .i64 0, .int .i64 0, .int .i64 0]) (t := 33) ?hr ?_; (case hd => rfl); (case hg => rfl); (case hr => first | (go_simp; done) | (go_simp; rfl)); intro gb152 hg w6 hbox hb; have BK152 := Aside0.mk (hbox); have GW152 := Aside0.mk ((by rw [hg]; exact (below_size (by repeat (first | exact zh0 HB | refine below_set ?_ GE151.out))) : w.heap.size ≤ gb152)); have GE152 := Aside0.mk ((by rw [hg]; exact (below_size (by repeat (first | exact zh0 HB | refine below_set ?_ GE151.out))) : w.heap.size ≤ gb152)); have NB151_152 := znl BK151 hg; have NB152_151 := znr BK151 hg; replace BK151 := zb0 BK151 hb; replace HB := Aside0.mk (below_step (by repeat (first | exact zh0 HB | refine below_set ?_ GE151.out)) hb); clear hb hbox hg; have hnb7 := NB151_152.out; have hnc7 := NB152_151.out; have hcz8_0 := zc0 BK151 0 rfl; have hcz8_1 := zc0 BK151 1 rfl; have hcz8_2 := zc0 BK151 2 rfl; have hcz8_3 := zc0 BK151 3 rfl; have hfz8_0 := blk_frozen BK151.out 0; have hfz8_1 := blk_frozen BK151.out 1; have hfz8_2 := blk_frozen BK151.out 2; have hfz8_3 := blk_frozen BK151.out 3; have hcz9_0 := zc0 BK152 0 rfl; have hcz9_1 := zc0 BK152 1 rfl; have hcz9_2 := zc0 BK152 2 rfl; have hcz9_3 := zc0 BK152 3 rfl; have hfz9_0 := blk_frozen BK152.out 0; have hfz9_1 := blk_frozen BK152.out 1; have hfz9_2 := blk_frozen BK152.out 2; have hfz9_3 := blk_frozen BK152.out 3))
 refine bodyPost_ret (results_cell_row rfl _ _ gb152 33 #[.int .i64 a0_0, .int .i64 (wrap64 (a0_1 + a1)), .int .i64 (wrap64 (a2 - a1)), .int .i64 (wrap64 (a3 - a1))] (0, 0) _ rfl (by (with_reducible repeat (first | refine blk_drewN ?_ _ | refine blk_drew ?_ | refine blk_alloc ?_ _)); refine blk_put (cs := #[.int .i64 a0_0, .int .i64 (wrap64 (a0_1 + a1)), .int .i64 (wrap64 (a2 - a1)), .int .i64 0]) ?_ 3 _ rfl; refine blk_put (cs := #[.int .i64 a0_0, .int .i64 (wrap64 (a0_1 + a1)), .int .i64 0, .int .i64 0]) ?_ 2 _ rfl; refine blk_put (cs := #[.int .i64 a0_0, .int .i64 0, .int .i64 0, .int .i64 0]) ?_ 1 _ rfl; refine blk_put (cs := #[.int .i64 0, .int .i64 0, .int .i64 0, .int .i64 0]) ?_ 0 _ rfl; (with_reducible repeat (first | refine blk_drewN ?_ _ | refine blk_drew ?_ | refine blk_alloc ?_ _)); exact BK152.out) Try.underlying33 rfl (by kernel_rfl)) rfl ?_
 exact ⟨by first | rfl | (simp <;> rfl) | (simp [*] <;> rfl), by repeat (first | exact zh0 HB | refine below_set ?_ GE151.out | refine below_set ?_ GE152.out)⟩

open Go.Proofs.Ytldkbeccpheckaa.Cp
/-! ### spec_l9Check: function 99 -/
def spec_l9Check.l0 : Nat → List Int → Int → Int → Option (Int)
 | 0, _, _, _ => none
 | k + 1, x0, x3, x4 => if x4 < (x0.length : Int) then (if 0 ≤ x4 then (spec_l9Check.l0 k x0 (Go.bits .xor .u8 x3 (rd x0 x4)) (wrap64 (x4 + 1))) else (none)) else (some x3)
def spec_l9Check.f (k : Nat) (l0 : List Int) : Option (Int) := spec_l9Check.l0 k l0 0 0
theorem spec_l9Check.mono_l : ∀ k, (∀ y0 y1 y2, LeO (spec_l9Check.l0 k y0 y1 y2) (spec_l9Check.l0 (k + 1) y0 y1 y2))
 | 0 => fun _ _ _ r h => by simp [spec_l9Check.l0] at h
 | k + 1 => by
  have ih0 := spec_l9Check.mono_l k
  ·intro y0 y1 y2
   unfold spec_l9Check.l0
   repeat' first
   | (with_reducible exact ih0 _ _ _)
   | (with_reducible exact LeO.refl _)
   | (with_reducible exact LeO.none _)
   | (with_reducible refine LeO.ite ?_ ?_)
   | (with_reducible refine LeO.bind ?_ (fun _ => ?_))
   | exact ih0 _ _ _
   | exact LeO.none _
   | refine LeO.ite ?_ ?_
   | refine LeO.bind ?_ (fun _ => ?_)
theorem spec_l9Check.mono : ∀ a0 k, LeO (spec_l9Check.f k a0) (spec_l9Check.f (k + 1) a0) := by
 intro a0 k
 have ih0 := spec_l9Check.mono_l k
 unfold spec_l9Check.f
 repeat' first
   | (with_reducible exact ih0 _ _ _)
   | (with_reducible exact LeO.refl _)
   | (with_reducible exact LeO.none _)
   | (with_reducible refine LeO.ite ?_ ?_)
   | (with_reducible refine LeO.bind ?_ (fun _ => ?_))
   | exact ih0 _ _ _
   | exact LeO.none _
   | refine LeO.ite ?_ ?_
   | refine LeO.bind ?_ (fun _ => ?_)
set_option maxHeartbeats 8000000 in
set_option maxRecDepth 100000 in
theorem spec_l9Check.calls (k : Nat) (A0 : Option Addr) (c0 : Nat) (l0 : List Int) (r : Int) (w : World) (hr0 : Kd.C (Kd.int .u8) w A0 l0.length l0) (hc0 : l0.length ≤ c0) (h : spec_l9Check.f k l0 = some r) :
  Calls Try.prog 99 #[.slice A0 l0.length c0] w fun e w' => e = .returned (.int .u8 r) ∧ Drawn0 w w' := by
 have HR0 := Aside0.mk hr0
 have HC0 := Aside0.mk hc0
 clear hr0 hc0
 have H : (spec_l9Check.l0 k l0 0 0) = some r := h
 clear h
 have H' := Aside0.mk H
 clear H
 go_enter Try.func99, Try.ntmps99
 go_wp2
 go_loopg [3, 4] k (fun kq v3 v4 w' => ∃ (x3_1 : Int) (x4_1 : Int), v3 = .int .u8 x3_1 ∧ v4 = .int .i64 x4_1 ∧ Aside0 (spec_l9Check.l0 kq l0 x3_1 x4_1 = some r) ∧ Aside0 (kq ≤ k) ∧ Drawn0 w w')
 case atStart => exact ⟨(0), (0), (by first | rfl | (simp; done) | (simp [*]; done)), (by first | rfl | (simp; done) | (simp [*]; done)), H', ⟨Nat.le_refl _⟩, by repeat (first | exact Drawn0.refl _ | apply Drawn0.step)⟩
 case round =>
  clear H'
  obtain ⟨x3_1, x4_1, rfl, rfl, HA, HK1, ⟨m1, rfl⟩⟩ := hrel
  cases gk with
  | zero => exact absurd HA.out (by simp [spec_l9Check.l0])
  | succ k1 =>
   have H := HA.out
   clear HA
   simp only [spec_l9Check.l0] at H
   by_cases c2 : x4_1 < (l0.length : Int)
   ·rw [if_pos c2] at H
    have c2b0 : decide (x4_1 < (l0.length : Int)) = true := decide_eq_true c2
    clear c2
    by_cases c3 : 0 ≤ x4_1
    ·rw [if_pos c3] at H
     have c3b0 : decide (0 ≤ x4_1) = true := decide_eq_true c3
     clear c3
     have H' := Aside0.mk H
     clear H
     have p153 : 0 ≤ (x4_1 : Int) := of_decide_eq_true (by first | (with_reducible assumption) | assumption)
     have q153 : x4_1 < (l0.length : Int) := of_decide_eq_true (by first | (with_reducible assumption) | assumption)
     obtain ⟨ad153, e153, hx153_0⟩ := Kd.at_int HR0.out x4_1 p153 q153
     cases e153
     replace p153 := eq_true p153
     replace q153 := eq_true q153
     go_wp2
     go_roundg k1
     case measure => have := HK1.out; omega
     case rel => exact ⟨(Go.bits .xor .u8 x3_1 (rd l0 x4_1)), (wrap64 (x4_1 + 1)), (by first | rfl | (simp; done) | (simp [*]; done)), (by first | rfl | (simp; done) | (simp [*]; done)), H', ⟨by have := HK1.out; omega⟩, by repeat (first | exact Drawn0.refl _ | apply Drawn0.step)⟩
    ·rw [if_neg c3] at H
     exact absurd H (by simp)
   ·rw [if_neg c2] at H
    have c2b0 : decide (x4_1 < (l0.length : Int)) = false := decide_eq_false c2
    clear c2
    obtain rfl := Option.some.inj H
    go_wp2
    go_ret
    exact ⟨by first | rfl | (simp; done) | (simp [*]; done), by repeat (first | exact Drawn0.refl _ | apply Drawn0.step)⟩

open Go.Proofs.Ytldkbeccpheckaa.Cp
/-! ### spec_l2Bytes: function 100 -/
def spec_l2Bytes.l0 : Nat → List Int → Int → List (List Int) → Int → Int → Int → Int → Option (List Int)
 | 0, _, _, _, _, _, _, _ => none
 | k + 1, x5, x6, x155000, x156000, x156001, x156002, x156003 => if x6 < x156002 then ((spec_l2At.f x155000 x156000 x156001 x156002 x156003 x6).bind fun t159 => (if x5.length < 140737488355328 then (spec_l2Bytes.l0 k (x5 ++ [t159]) (wrap64 (x6 + 1)) x155000 x156000 x156001 x156002 x156003) else (none))) else (some x5)
def spec_l2Bytes.f (k : Nat) (l0_0 : List (List Int)) (a1_0 : Int) (a1_1 : Int) (a1_2 : Int) (a1_3 : Int) : Option (List Int) := spec_l2Bytes.l0 k (([] : List Int)) 0 l0_0 a1_0 a1_1 a1_2 a1_3
theorem spec_l2Bytes.mono_l : ∀ k, (∀ y0 y1 y2 y3 y4 y5 y6, LeO (spec_l2Bytes.l0 k y0 y1 y2 y3 y4 y5 y6) (spec_l2Bytes.l0 (k + 1) y0 y1 y2 y3 y4 y5 y6))
 | 0 => fun _ _ _ _ _ _ _ r h => by simp [spec_l2Bytes.l0] at h
 | k + 1 => by
  have ih0 := spec_l2Bytes.mono_l k
  ·intro y0 y1 y2 y3 y4 y5 y6
   unfold spec_l2Bytes.l0
   repeat' first
   | (with_reducible exact ih0 _ _ _ _ _ _ _)
   | (with_reducible exact LeO.refl _)
   | (with_reducible exact LeO.none _)
   | (with_reducible refine LeO.ite ?_ ?_)
   | (with_reducible refine LeO.bind ?_ (fun _ => ?_))
   | exact ih0 _ _ _ _ _ _ _
   | exact LeO.none _
   | refine LeO.ite ?_ ?_
   | refine LeO.bind ?_ (fun _ => ?_)
theorem spec_l2Bytes.mono : ∀ a0 a1 a2 a3 a4 k, LeO (spec_l2Bytes.f k a0 a1 a2 a3 a4) (spec_l2Bytes.f (k + 1) a0 a1 a2 a3 a4) := by
 intro a0 a1 a2 a3 a4 k
 have ih0 := spec_l2Bytes.mono_l k
 unfold spec_l2Bytes.f
 repeat' first
   | (with_reducible exact ih0 _ _ _ _ _ _ _)
   | (with_reducible exact LeO.refl _)
   | (with_reducible exact LeO.none _)
   | (with_reducible refine LeO.ite ?_ ?_)
   | (with_reducible refine LeO.bind ?_ (fun _ => ?_))
   | exact ih0 _ _ _ _ _ _ _
   | exact LeO.none _
   | refine LeO.ite ?_ ?_
   | refine LeO.bind ?_ (fun _ => ?_)
set_option maxHeartbeats 8000000 in
set_option maxRecDepth 100000 in
theorem spec_l2Bytes.calls (k : Nat) (A0_0 : Option Addr) (c0_0 : Nat) (l0_0 : List (List Int)) (a1_0 : Int) (a1_1 : Int) (a1_2 : Int) (a1_3 : Int) (r : List Int) (w : World) (hr0_0 : Kd.C (Kd.slice 5 (Kd.int .u8)) w A0_0 l0_0.length l0_0) (hc0_0 : l0_0.length ≤ c0_0) (h : spec_l2Bytes.f k l0_0 a1_0 a1_1 a1_2 a1_3 = some r) :
  Calls Try.prog 100 #[.agg #[.slice A0_0 l0_0.length c0_0], .agg #[.int .i64 a1_0, .int .i64 a1_1, .int .i64 a1_2, .int .i64 a1_3]] w fun e w' => ∃ v0_ : Value, e = .returned (v0_) ∧ Kd.R (Kd.int .u8) 5 w' w.heap.size (fun _ => True) v0_ r ∧ Below w.heap.size w w' := by
 have hu31 := Try.underlying31
 have hu33 := Try.underlying33
 have HR0_0 := Aside0.mk hr0_0
 have HC0_0 := Aside0.mk hc0_0
 clear hr0_0 hc0_0
 have HB := Aside0.mk (Below.refl w.heap.size w)
 have H : (spec_l2Bytes.l0 k (([] : List Int)) 0 l0_0 a1_0 a1_1 a1_2 a1_3) = some r := h
 clear h
 obtain ⟨y156, hy156⟩ : ∃ y_ : List Int, y_ = (([] : List Int)) := ⟨_, rfl⟩
 replace H : (spec_l2Bytes.l0 k y156 0 l0_0 a1_0 a1_1 a1_2 a1_3) = some r := by first | (rw [hy156]; with_reducible exact H) | (have H2_ := (Option.bind_some _ _).symm.trans H; rw [hy156]; with_reducible exact H2_) | (have H2_ := (Option.bind_some _ _).symm.trans H; with_reducible exact H2_) | with_reducible exact H | (rw [hy156]; exact H) | exact H
 have Ny156 := Aside0.mk hy156
 clear hy156
 have H' := Aside0.mk H
 clear H
 go_enter Try.func100, Try.ntmps100
 go_wp2_with (first | ((with_reducible refine gate_dst (N := 2) rfl ?_); refine box_event ?hg (N := 2) ?hd (cs := #[.slice A0_0 l0_0.length c0_0]) (t := 31) ?hr ?_; (case hd => rfl); (case hg => rfl); (case hr => first | (go_simp; done) | (go_simp; rfl)); intro gb154 hg w3 hbox hb; have BK154 := Aside0.mk (hbox); have GW154 := zge HB hg; have GE154 := zge HB hg; replace HB := zhs HB hb; clear hb hbox hg) | ((with_reducible refine gate_dst (N := 3) rfl ?_); refine box_event ?hg (N := 3) ?hd (cs := #[.int .i64 a1_0, .int .i64 a1_1, .int .i64 a1_2, .int .i64 a1_3]) (t := 33) ?hr ?_; (case hd => rfl); (case hg => rfl); (case hr => first | (go_simp; done) | (go_simp; rfl)); intro gb155 hg w4 hbox hb; have BK155 := Aside0.mk (hbox); have GW155 := zge HB hg; have GE155 := zge HB hg; have NB154_155 := znl BK154 hg; have NB155_154 := znr BK154 hg; replace BK154 := zb0 BK154 hb; replace HB := zhs HB hb; clear hb hbox hg) | ((with_reducible refine gate_dst (N := 7) rfl ?_); refine Kd.R_lit (Kd.int .u8) _ 5 ?hg (N := 7) ?hd (xs := ([] : List Int)) (inner := []) (ok := fun _ => True) (okp := fun _ => True) ?hr ?hp (fun _ hk => hk) trivial (Below.refl _ _) (Nat.le_refl _) (by simp) ?_; (case hd => rfl); (case hg => rfl); (case hr => first | (go_simp; done) | (go_simp; rfl)); (case hp => exact (Reps.none _ _)); intro v157 w5 ho6 hb hg_ hnew_; clear hg_ hnew_; (first | rw [← Ny156.out] at ho6 | (simp only [Int.reduceToNat] at ho6; rw [← Ny156.out] at ho6)); have HO158 := Aside0.mk (Kd.R_lower ho6 (below_size (zh0 HB))); replace BK154 := zb0 BK154 hb; replace BK155 := zb0 BK155 hb; replace HB := zhs HB hb; clear hb ho6))
 go_loopg [5, 6] k (fun kq v5 v6 w' => ∃ (x5_1 : List Int) (x6_1 : Int), v6 = .int .i64 x6_1 ∧ Aside0 (spec_l2Bytes.l0 kq x5_1 x6_1 l0_0 a1_0 a1_1 a1_2 a1_3 = some r) ∧ Aside0 (kq ≤ k) ∧ Aside0 (Kd.R (Kd.int .u8) 5 w' w.heap.size (fun _ => True) v5 x5_1) ∧ Aside0 (w'.heap[gb154]? = some (.cells #[(.slice A0_0 l0_0.length c0_0)] 31 (0, 0))) ∧ Aside0 (w'.heap[gb155]? = some (.cells #[.int .i64 a1_0, .int .i64 a1_1, .int .i64 a1_2, .int .i64 a1_3] 33 (0, 0))) ∧ Aside0 (Below w.heap.size w w'))
 case atStart => exact ⟨(y156), (0), (by first | rfl | (simp; done) | (simp [*]; done)), H', ⟨Nat.le_refl _⟩, ⟨zr0 HO158⟩, ⟨zk0 BK154⟩, ⟨zk0 BK155⟩, ⟨by repeat (first | exact zh0 HB | refine below_set ?_ GE154.out | refine below_set ?_ GE155.out)⟩⟩
 case round =>
  clear H'
  try clear c1
  try clear p2
  obtain ⟨x5_1, x6_1, rfl, HA, HK1, HO_5, BK154, BK155, HB⟩ := hrel
  cases gk with
  | zero => exact absurd HA.out (by simp [spec_l2Bytes.l0])
  | succ k1 =>
   have H := HA.out
   clear HA
   simp only [spec_l2Bytes.l0] at H
   by_cases c7 : x6_1 < a1_2
   ·rw [if_pos c7] at H
    have c7b0 : decide (x6_1 < a1_2) = true := decide_eq_true c7
    clear c7
    replace H := Option.bind_eq_some_iff.mp H
    obtain ⟨t159, A80, H⟩ := H
    replace H : (if x5_1.length < 140737488355328 then (spec_l2Bytes.l0 k1 (x5_1 ++ [t159]) (wrap64 (x6_1 + 1)) l0_0 a1_0 a1_1 a1_2 a1_3) else (none)) = some r := H
    have A8 := Aside0.mk A80
    clear A80
    by_cases c9 : x5_1.length < 140737488355328
    ·rw [if_pos c9] at H
     have LMc9 := Aside0.mk c9
     clear c9
     obtain ⟨y160, hy160⟩ : ∃ y_ : List Int, y_ = (x5_1 ++ [t159]) := ⟨_, rfl⟩
     replace H : (spec_l2Bytes.l0 k1 y160 (wrap64 (x6_1 + 1)) l0_0 a1_0 a1_1 a1_2 a1_3) = some r := by first | (rw [hy160]; with_reducible exact H) | (have H2_ := (Option.bind_some _ _).symm.trans H; rw [hy160]; with_reducible exact H2_) | (have H2_ := (Option.bind_some _ _).symm.trans H; with_reducible exact H2_) | with_reducible exact H | (rw [hy160]; exact H) | exact H
     have Ny160 := Aside0.mk hy160
     clear hy160
     have H' := Aside0.mk H
     clear H
     have hnb10 := NB155_154.out
     have hnc10 := NB154_155.out
     have hcz11_0 := zc0 BK155 0 rfl
     have hcz11_1 := zc0 BK155 1 rfl
     have hcz11_2 := zc0 BK155 2 rfl
     have hcz11_3 := zc0 BK155 3 rfl
     have hfz11_0 := blk_frozen BK155.out 0
     have hfz11_1 := blk_frozen BK155.out 1
     have hfz11_2 := blk_frozen BK155.out 2
     have hfz11_3 := blk_frozen BK155.out 3
     have hcz12_0 := zc0 BK154 0 rfl
     have hfz12_0 := blk_frozen BK154.out 0
     go_wp2_with (first | ((with_reducible refine gate_callee (f := 74) rfl ?_); refine goesL_ (some 18) rfl rfl Try.func74 (by kernel_rfl) rfl #[.agg #[.slice A0_0 l0_0.length c0_0], .agg #[.int .i64 a1_0, .int .i64 a1_1, .int .i64 a1_2, .int .i64 a1_3], .int .i64 x6_1] rfl (by (try simp only [zq1, zq2, zq3]); first | done | rfl | (simp only [List.length_drop, List.length_take]; rfl)) ?_; (with_reducible refine (spec_l2At.calls _ _ l0_0 a1_0 a1_1 a1_2 a1_3 x6_1 t159 _ ?side1 ?side2 A8.out).mono ?_); (case side1 => exact Kd.C_below HR0_0.out (zh0 HB)); (case side2 => exact HC0_0.out); rintro e w13 ⟨rfl, hb⟩; refine ⟨_, rfl, ?_⟩; replace HO_5 := zrb HO_5 hb; replace BK154 := zb0 BK154 hb; replace BK155 := zb0 BK155 hb; replace HB := zhs HB hb; (try clear hb)) | ((with_reducible refine gate_builtin (b := .append) (xs := #[.tmp 14, .tmp 19]) rfl ?_); at_builtin; refine Kd.R_append (Kd.int .u8) (w0 := w) w.heap.size rfl (.tmp 14) (.tmp 19) 57 5 (.int .u8 0) 1 rfl Try.underlying57 info5 rfl (by decide) (by omega) u5 x5_1 t159 [.int .u8 t159] (fun _ => True) (fun _ => False) rfl rfl ?aP (fun _ hk => hk.elim) ?aF ?aO ?aB ?aS ?aL ?_; (case aP => exact rfl); (case aB => exact (zh0 HB)); (case aF => exact (fun _ _ => trivial)); (case aO => exact (zr0 HO_5)); (case aS => exact (below_size (zh0 HB))); (case aL => have := LMc9.out; omega); intro v161 w14 ho hb hg hat; rw [← Ny160.out] at ho; have n0_ := Aside0.mk (blk_grown (g := gb154) (o := .cells #[.slice A0_0 l0_0.length c0_0] 31 (0, 0)) (zk0 BK154) hg (Kd.R_ne HO_5.out BK154.out (by decide))); have n1_ := Aside0.mk (blk_grown (g := gb155) (o := .cells #[.int .i64 a1_0, .int .i64 a1_1, .int .i64 a1_2, .int .i64 a1_3] 33 (0, 0)) (zk0 BK155) hg (Kd.R_ne HO_5.out BK155.out (by decide))); have n2_ := Aside0.mk (hb); have n3_ := Aside0.mk (ho); clear BK154; clear BK155; clear HB; clear HO_5; have BK154 := n0_; have BK155 := n1_; have HB := n2_; have HO162 := n3_; clear n0_ n1_ n2_ n3_; clear ho hb hg hat))
     go_roundg k1
     case measure => have := HK1.out; omega
     case rel => exact ⟨(y160), (wrap64 (x6_1 + 1)), (by first | rfl | (simp; done) | (simp [*]; done)), H', ⟨by have := HK1.out; omega⟩, ⟨zr0 HO162⟩, ⟨zk0 BK154⟩, ⟨zk0 BK155⟩, ⟨by repeat (first | exact zh0 HB | refine below_set ?_ GE154.out | refine below_set ?_ GE155.out)⟩⟩
    ·rw [if_neg c9] at H
     exact absurd H (by simp)
   ·rw [if_neg c7] at H
    have c7b0 : decide (x6_1 < a1_2) = false := decide_eq_false c7
    clear c7
    obtain rfl := Option.some.inj H
    have hnb15 := NB155_154.out
    have hnc15 := NB154_155.out
    have hcz16_0 := zc0 BK155 0 rfl
    have hcz16_1 := zc0 BK155 1 rfl
    have hcz16_2 := zc0 BK155 2 rfl
    have hcz16_3 := zc0 BK155 3 rfl
    have hfz16_0 := blk_frozen BK155.out 0
    have hfz16_1 := blk_frozen BK155.out 1
    have hfz16_2 := blk_frozen BK155.out 2
    have hfz16_3 := blk_frozen BK155.out 3
    go_wp2
    go_ret
    exact ⟨_, by first | rfl | (simp <;> rfl) | (simp [*] <;> rfl), (by first | exact zr0 HO_5 | exact Kd.R_mono (zr0 HO_5) (fun _ _ => trivial)), by repeat (first | exact zh0 HB | refine below_set ?_ GE154.out | refine below_set ?_ GE155.out)⟩

open Go.Proofs.Ytldkbeccpheckaa.Cp
/-! ### spec_l9Frame: function 91 -/
def spec_l9Frame.j0 : Nat → Int → Int → Bool → List (List Int) → Int → Int → Int → Int → Option (Int)
 | 0, _, _, _, _, _, _, _, _ => none
 | k + 1, x2, x7, x29, x164000, x165000, x165001, x165002, x165003 => if x29 = true then (some 0) else ((spec_l2Slice.f x165000 x165001 x165002 x165003 x2 (wrap64 ((wrap64 (x2 + x7)) + 3)) (wrap64 ((wrap64 (x2 + x7)) + 3))).bind fun bt166 => ((spec_l2Bytes.f k x164000 bt166.1 bt166.2.1 bt166.2.2.1 bt166.2.2.2).bind fun t170 => ((spec_l9Check.f k t170).bind fun t173 => (if t173 = 0 then (some (wrap64 (x7 + 3))) else (some 0)))))
def spec_l9Frame.f (k : Nat) (l0_0 : List (List Int)) (a1_0 : Int) (a1_1 : Int) (a1_2 : Int) (a1_3 : Int) (a2 : Int) : Option (Int) := if (wrap64 (a1_2 - a2)) < 3 then (some 0) else ((spec_l2At.f l0_0 a1_0 a1_1 a1_2 a1_3 (wrap64 (a2 + 1))).bind fun t165 => (if (wrap64 (t165)) > 30 then (spec_l9Frame.j0 k a2 (wrap64 (t165)) true l0_0 a1_0 a1_1 a1_2 a1_3) else (spec_l9Frame.j0 k a2 (wrap64 (t165)) (decide ((wrap64 (a1_2 - a2)) < (wrap64 ((wrap64 (t165)) + 3)))) l0_0 a1_0 a1_1 a1_2 a1_3)))
theorem spec_l9Frame.mono_l : ∀ k, (∀ y0 y1 y2 y3 y4 y5 y6 y7, LeO (spec_l9Frame.j0 k y0 y1 y2 y3 y4 y5 y6 y7) (spec_l9Frame.j0 (k + 1) y0 y1 y2 y3 y4 y5 y6 y7))
 | 0 => fun _ _ _ _ _ _ _ _ r h => by simp [spec_l9Frame.j0] at h
 | k + 1 => by
  have ih0 := spec_l9Frame.mono_l k
  ·intro y0 y1 y2 y3 y4 y5 y6 y7
   unfold spec_l9Frame.j0
   repeat' first
   | (with_reducible exact ih0 _ _ _ _ _ _ _ _)
   | (with_reducible exact spec_l2Bytes.mono _ _ _ _ _ _)
   | (with_reducible exact spec_l9Check.mono _ _)
   | (with_reducible exact LeO.refl _)
   | (with_reducible exact LeO.none _)
   | (with_reducible refine LeO.ite ?_ ?_)
   | (with_reducible refine LeO.bind ?_ (fun _ => ?_))
   | exact ih0 _ _ _ _ _ _ _ _
   | exact spec_l2Bytes.mono _ _ _ _ _ _
   | exact spec_l9Check.mono _ _
   | exact LeO.none _
   | refine LeO.ite ?_ ?_
   | refine LeO.bind ?_ (fun _ => ?_)
theorem spec_l9Frame.mono : ∀ a0 a1 a2 a3 a4 a5 k, LeO (spec_l9Frame.f k a0 a1 a2 a3 a4 a5) (spec_l9Frame.f (k + 1) a0 a1 a2 a3 a4 a5) := by
 intro a0 a1 a2 a3 a4 a5 k
 have ih0 := spec_l9Frame.mono_l k
 unfold spec_l9Frame.f
 repeat' first
   | (with_reducible exact ih0 _ _ _ _ _ _ _ _)
   | (with_reducible exact spec_l2Bytes.mono _ _ _ _ _ _)
   | (with_reducible exact spec_l9Check.mono _ _)
   | (with_reducible exact LeO.refl _)
   | (with_reducible exact LeO.none _)
   | (with_reducible refine LeO.ite ?_ ?_)
   | (with_reducible refine LeO.bind ?_ (fun _ => ?_))
   | exact ih0 _ _ _ _ _ _ _ _
   | exact spec_l2Bytes.mono _ _ _ _ _ _
   | exact spec_l9Check.mono _ _
   | exact LeO.none _
   | refine LeO.ite ?_ ?_
   | refine LeO.bind ?_ (fun _ => ?_)
def spec_l9Frame.T6 : Bool × List (List Nat × List Nat) := (true, [([], []), ([], []), ([], []), ([], []), ([], []), ([3, 4], [3, 4]), ([5], [5]), ([], []), ([], []), ([7, 8], [7, 8]), ([9], [9]), ([1, 2, 6, 10], [1, 2, 6, 10]), ([0, 11, 11], [0, 11]), ([12, 12], [12]), ([13], [13])])
def spec_l9Frame.B6 : List Nat := [0, 0, 0, 0, 0, 24, 56, 0, 0, 384, 896, 2046, 4095, 8191, 16383]
theorem spec_l9Frame.tab6 : rtab .any (opsOf Try.f91 6) = spec_l9Frame.T6 := by kernel_rfl
theorem spec_l9Frame.bits6 : waitsOk spec_l9Frame.T6.2 spec_l9Frame.B6 = true := by kernel_rfl
set_option maxHeartbeats 8000000 in
set_option maxRecDepth 100000 in
theorem spec_l9Frame.calls (k : Nat) (A0_0 : Option Addr) (c0_0 : Nat) (l0_0 : List (List Int)) (a1_0 : Int) (a1_1 : Int) (a1_2 : Int) (a1_3 : Int) (a2 : Int) (r : Int) (w : World) (hr0_0 : Kd.C (Kd.slice 5 (Kd.int .u8)) w A0_0 l0_0.length l0_0) (hc0_0 : l0_0.length ≤ c0_0) (h : spec_l9Frame.f k l0_0 a1_0 a1_1 a1_2 a1_3 a2 = some r) :
  Calls Try.prog 91 #[.agg #[.slice A0_0 l0_0.length c0_0], .agg #[.int .i64 a1_0, .int .i64 a1_1, .int .i64 a1_2, .int .i64 a1_3], .int .i64 a2] w fun e w' => e = .returned (.int .i64 r) ∧ Below w.heap.size w w' := by
 have hu31 := Try.underlying31
 have hu33 := Try.underlying33
 have HR0_0 := Aside0.mk hr0_0
 have HC0_0 := Aside0.mk hc0_0
 clear hr0_0 hc0_0
 have HB := Aside0.mk (Below.refl w.heap.size w)
 have H : (if (wrap64 (a1_2 - a2)) < 3 then (some 0) else ((spec_l2At.f l0_0 a1_0 a1_1 a1_2 a1_3 (wrap64 (a2 + 1))).bind fun t165 => (if (wrap64 (t165)) > 30 then (spec_l9Frame.j0 k a2 (wrap64 (t165)) true l0_0 a1_0 a1_1 a1_2 a1_3) else (spec_l9Frame.j0 k a2 (wrap64 (t165)) (decide ((wrap64 (a1_2 - a2)) < (wrap64 ((wrap64 (t165)) + 3)))) l0_0 a1_0 a1_1 a1_2 a1_3)))) = some r := h
 clear h
 by_cases c4 : (wrap64 (a1_2 - a2)) < 3
 ·rw [if_pos c4] at H
  have c4b0 : decide ((wrap64 (a1_2 - a2)) < 3) = true := decide_eq_true c4
  clear c4
  obtain rfl := Option.some.inj H
  go_enter Try.func91, Try.ntmps91
  go_wp2_with (first | ((with_reducible refine gate_dst (N := 3) rfl ?_); refine box_event ?hg (N := 3) ?hd (cs := #[.slice A0_0 l0_0.length c0_0]) (t := 31) ?hr ?_; (case hd => rfl); (case hg => rfl); (case hr => first | (go_simp; done) | (go_simp; rfl)); intro gb163 hg w5 hbox hb; have BK163 := Aside0.mk (hbox); have GW163 := zge HB hg; have GE163 := zge HB hg; replace HB := zhs HB hb; clear hb hbox hg) | ((with_reducible refine gate_dst (N := 4) rfl ?_); refine box_event ?hg (N := 4) ?hd (cs := #[.int .i64 a1_0, .int .i64 a1_1, .int .i64 a1_2, .int .i64 a1_3]) (t := 33) ?hr ?_; (case hd => rfl); (case hg => rfl); (case hr => first | (go_simp; done) | (go_simp; rfl)); intro gb164 hg w6 hbox hb; have BK164 := Aside0.mk (hbox); have GW164 := zge HB hg; have GE164 := zge HB hg; have NB163_164 := znl BK163 hg; have NB164_163 := znr BK163 hg; replace BK163 := zb0 BK163 hb; replace HB := zhs HB hb; clear hb hbox hg; have hnb7 := NB164_163.out; have hnc7 := NB163_164.out; have hcz8_0 := zc0 BK164 0 rfl; have hcz8_1 := zc0 BK164 1 rfl; have hcz8_2 := zc0 BK164 2 rfl; have hcz8_3 := zc0 BK164 3 rfl; have hfz8_0 := blk_frozen BK164.out 0; have hfz8_1 := blk_frozen BK164.out 1; have hfz8_2 := blk_frozen BK164.out 2; have hfz8_3 := blk_frozen BK164.out 3))
  go_ret
  exact ⟨by first | rfl | (simp <;> rfl) | (simp [*] <;> rfl), by repeat (first | exact zh0 HB | refine below_set ?_ GE163.out | refine below_set ?_ GE164.out)⟩
 ·rw [if_neg c4] at H
  have c4b0 : decide ((wrap64 (a1_2 - a2)) < 3) = false := decide_eq_false c4
  clear c4
  replace H := Option.bind_eq_some_iff.mp H
  obtain ⟨t165, A90, H⟩ := H
  replace H : (if (wrap64 (t165)) > 30 then (spec_l9Frame.j0 k a2 (wrap64 (t165)) true l0_0 a1_0 a1_1 a1_2 a1_3) else (spec_l9Frame.j0 k a2 (wrap64 (t165)) (decide ((wrap64 (a1_2 - a2)) < (wrap64 ((wrap64 (t165)) + 3)))) l0_0 a1_0 a1_1 a1_2 a1_3)) = some r := H
  have A9 := Aside0.mk A90
  clear A90
  have HC10 := Aside0.mk H
  clear H
  go_enter Try.func91, Try.ntmps91
  go_upto_region 4 with (first | ((with_reducible refine gate_dst (N := 3) rfl ?_); refine box_event ?hg (N := 3) ?hd (cs := #[.slice A0_0 l0_0.length c0_0]) (t := 31) ?hr ?_; (case hd => rfl); (case hg => rfl); (case hr => first | (go_simp; done) | (go_simp; rfl)); intro gb163 hg w11 hbox hb; have BK163 := Aside0.mk (hbox); have GW163 := zge HB hg; have GE163 := zge HB hg; replace HB := zhs HB hb; clear hb hbox hg) | ((with_reducible refine gate_dst (N := 4) rfl ?_); refine box_event ?hg (N := 4) ?hd (cs := #[.int .i64 a1_0, .int .i64 a1_1, .int .i64 a1_2, .int .i64 a1_3]) (t := 33) ?hr ?_; (case hd => rfl); (case hg => rfl); (case hr => first | (go_simp; done) | (go_simp; rfl)); intro gb164 hg w12 hbox hb; have BK164 := Aside0.mk (hbox); have GW164 := zge HB hg; have GE164 := zge HB hg; have NB163_164 := znl BK163 hg; have NB164_163 := znr BK163 hg; replace BK163 := zb0 BK163 hb; replace HB := zhs HB hb; clear hb hbox hg; have hnb13 := NB164_163.out; have hnc13 := NB163_164.out; have hcz14_0 := zc0 BK164 0 rfl; have hcz14_1 := zc0 BK164 1 rfl; have hcz14_2 := zc0 BK164 2 rfl; have hcz14_3 := zc0 BK164 3 rfl; have hfz14_0 := blk_frozen BK164.out 0; have hfz14_1 := blk_frozen BK164.out 1; have hfz14_2 := blk_frozen BK164.out 2; have hfz14_3 := blk_frozen BK164.out 3; have hcz15_0 := zc0 BK163 0 rfl; have hfz15_0 := blk_frozen BK163.out 0) | ((with_reducible refine gate_callee (f := 74) rfl ?_); refine goesL_ (some 17) rfl rfl Try.func74 (by kernel_rfl) rfl #[.agg #[.slice A0_0 l0_0.length c0_0], .agg #[.int .i64 a1_0, .int .i64 a1_1, .int .i64 a1_2, .int .i64 a1_3], .int .i64 (wrap64 (a2 + 1))] rfl (by (try simp only [zq1, zq2, zq3]); first | done | rfl | (simp only [List.length_drop, List.length_take]; rfl)) ?_; (with_reducible refine (spec_l2At.calls _ _ l0_0 a1_0 a1_1 a1_2 a1_3 (wrap64 (a2 + 1)) t165 _ ?side1 ?side2 A9.out).mono ?_); (case side1 => exact Kd.C_below HR0_0.out (zh0 HB)); (case side2 => exact HC0_0.out); rintro e w16 ⟨rfl, hb⟩; refine ⟨_, rfl, ?_⟩; replace BK163 := zb0 BK163 hb; replace BK164 := zb0 BK164 hb; replace HB := zhs HB hb; (try clear hb)))
  (try simp only [Act.put, zp1, zp2, zp3])
  go_cut [29] (fun v29 wc => ∃ (kq : Nat) (x29_9 : Bool), v29 = .bool x29_9 ∧ Aside0 (spec_l9Frame.j0 kq a2 (wrap64 (t165)) x29_9 l0_0 a1_0 a1_1 a1_2 a1_3 = some r) ∧ Aside0 (kq ≤ k) ∧ Aside0 (wc.heap[gb163]? = some (.cells #[(.slice A0_0 l0_0.length c0_0)] 31 (0, 0))) ∧ Aside0 (wc.heap[gb164]? = some (.cells #[.int .i64 a1_0, .int .i64 a1_1, .int .i64 a1_2, .int .i64 a1_3] 33 (0, 0))) ∧ Aside0 (Below w.heap.size w wc))
  case first =>
   have H := HC10.out
   clear HC10
   by_cases c17 : (wrap64 (t165)) > 30
   ·rw [if_pos c17] at H
    have c17b0 : decide (30 < (wrap64 (t165))) = true := decide_eq_true c17
    clear c17
    (first | rw [c17b0] | (simp only [i64_w, i32_w]; rw [c17b0]) | skip)
    have H' := Aside0.mk H
    clear H
    go_wp2
    go_meet
    case rel => exact ⟨_, (true), (by first | rfl | (simp; done) | (simp [*]; done)), H', ⟨by first | omega | exact Nat.le_refl _⟩, ⟨zk0 BK163⟩, ⟨zk0 BK164⟩, ⟨by repeat (first | exact zh0 HB | refine below_set ?_ GE163.out | refine below_set ?_ GE164.out)⟩⟩
   ·rw [if_neg c17] at H
    have c17b0 : decide (30 < (wrap64 (t165))) = false := decide_eq_false c17
    clear c17
    (first | rw [c17b0] | (simp only [i64_w, i32_w]; rw [c17b0]) | skip)
    have H' := Aside0.mk H
    clear H
    have hnb18 := NB164_163.out
    have hnc18 := NB163_164.out
    have hcz19_0 := zc0 BK164 0 rfl
    have hcz19_1 := zc0 BK164 1 rfl
    have hcz19_2 := zc0 BK164 2 rfl
    have hcz19_3 := zc0 BK164 3 rfl
    have hfz19_0 := blk_frozen BK164.out 0
    have hfz19_1 := blk_frozen BK164.out 1
    have hfz19_2 := blk_frozen BK164.out 2
    have hfz19_3 := blk_frozen BK164.out 3
    go_wp2
    go_meet
    case rel => exact ⟨_, (decide ((wrap64 (a1_2 - a2)) < (wrap64 ((wrap64 (t165)) + 3)))), (by first | rfl | (simp; done) | (simp [*]; done)), H', ⟨by first | omega | exact Nat.le_refl _⟩, ⟨zk0 BK163⟩, ⟨zk0 BK164⟩, ⟨by repeat (first | exact zh0 HB | refine below_set ?_ GE163.out | refine below_set ?_ GE164.out)⟩⟩
  case rest =>
   clear HC10
   try clear c1
   try clear p2
   try clear c4
   try clear c4b0
   try clear p6
   try clear c7
   try clear c9
   try clear c13
   try clear c17
   try clear c17b0
   try clear c18
   try clear hcz14_0
   try clear hcz14_1
   try clear hcz14_2
   try clear hcz14_3
   try clear hcz15_0
   try clear hcz19_0
   try clear hcz19_1
   try clear hcz19_2
   try clear hcz19_3
   try clear hcz8_0
   try clear hcz8_1
   try clear hcz8_2
   try clear hcz8_3
   try clear hfz14_0
   try clear hfz14_1
   try clear hfz14_2
   try clear hfz14_3
   try clear hfz15_0
   try clear hfz19_0
   try clear hfz19_1
   try clear hfz19_2
   try clear hfz19_3
   try clear hfz8_0
   try clear hfz8_1
   try clear hfz8_2
   try clear hfz8_3
   obtain ⟨kq, x29_9, rfl, HA, HJ9, BK163, BK164, HB⟩ := hcut
   cases kq with
   | zero => exact absurd HA.out (by simp [spec_l9Frame.j0])
   | succ kj9 =>
    have H := HA.out
    clear HA
    simp only [spec_l9Frame.j0] at H
    by_cases c20 : x29_9 = true
    ·subst c20
     have H1 : (some 0) = some r := by rw [if_pos rfl] at H; exact H
     clear H
     have H := H1
     clear H1
     obtain rfl := Option.some.inj H
     go_wp2
     go_ret
     exact ⟨by first | rfl | (simp <;> rfl) | (simp [*] <;> rfl), by repeat (first | exact zh0 HB | refine below_set ?_ GE163.out | refine below_set ?_ GE164.out)⟩
    ·replace c20 := Bool.eq_false_iff.mpr c20
     subst c20
     have H1 : ((spec_l2Slice.f a1_0 a1_1 a1_2 a1_3 a2 (wrap64 ((wrap64 (a2 + (wrap64 (t165)))) + 3)) (wrap64 ((wrap64 (a2 + (wrap64 (t165)))) + 3))).bind fun bt166 => ((spec_l2Bytes.f kj9 l0_0 bt166.1 bt166.2.1 bt166.2.2.1 bt166.2.2.2).bind fun t170 => ((spec_l9Check.f kj9 t170).bind fun t173 => (if t173 = 0 then (some (wrap64 ((wrap64 (t165)) + 3))) else (some 0))))) = some r := by rw [if_neg (show ¬ (false = true) by decide)] at H; exact H
     clear H
     have H := H1
     clear H1
     replace H := Option.bind_eq_some_iff.mp H
     obtain ⟨⟨t166, t167, t168, t169⟩, A210, H⟩ := H
     replace H : ((spec_l2Bytes.f kj9 l0_0 t166 t167 t168 t169).bind fun t170 => ((spec_l9Check.f kj9 t170).bind fun t173 => (if t173 = 0 then (some (wrap64 ((wrap64 (t165)) + 3))) else (some 0)))) = some r := H
     have A21 := Aside0.mk A210
     clear A210
     replace H := Option.bind_eq_some_iff.mp H
     obtain ⟨t170, A220, H⟩ := H
     replace H : ((spec_l9Check.f kj9 t170).bind fun t173 => (if t173 = 0 then (some (wrap64 ((wrap64 (t165)) + 3))) else (some 0))) = some r := H
     have A22 := Aside0.mk A220
     clear A220
     replace H := Option.bind_eq_some_iff.mp H
     obtain ⟨t173, A230, H⟩ := H
     replace H : (if t173 = 0 then (some (wrap64 ((wrap64 (t165)) + 3))) else (some 0)) = some r := H
     have A23 := Aside0.mk A230
     clear A230
     by_cases c24 : t173 = 0
     ·rw [if_pos c24] at H
      have c24b0 : (t173 == 0) = true := beq_iff_eq.mpr c24
      have c24b1 : (t173 != 0) = false := bne_eq_false_iff_eq.mpr c24
      clear c24
      obtain rfl := Option.some.inj H
      try go_wp2
      replace BK163 := Aside0.mk (blk_drew BK163.out)
      replace BK164 := Aside0.mk (blk_drew BK164.out)
      replace HB := Aside0.mk (below_drew1 HB.out)
      refine start_ (n := 15) (S := fun w' => w'.cell? ⟨gb163, 0, none⟩ = some (.slice A0_0 l0_0.length c0_0) ∧ w'.cell? ⟨gb164, 0, none⟩ = some (.int .i64 a1_0) ∧ w'.cell? ⟨gb164, 1, none⟩ = some (.int .i64 a1_1) ∧ w'.cell? ⟨gb164, 2, none⟩ = some (.int .i64 a1_2) ∧ w'.cell? ⟨gb164, 3, none⟩ = some (.int .i64 a1_3)) (ds := []) #[zF, zF, zF, zF, zF, zF, zF, zF, zF, zF, zF, zF, zF, zF, zF] (by kernel_rfl) rfl rfl ⟨zc0 BK163 0 rfl, zc0 BK164 0 rfl, zc0 BK164 1 rfl, zc0 BK164 2 rfl, zc0 BK164 3 rfl⟩ (fun hHeld => ?_); refine with_tabW spec_l9Frame.tab6 spec_l9Frame.bits6 (fun HT_ HW_ => ?_)
      generalize wc.drew = w25 at BK163 BK164 HB hHeld ⊢
      refine pure_ (i := 2) (N := some 32) (v := ?_) (a' := ?_) #[zF, zF, zT, zF, zF, zF, zF, zF, zF, zF, zF, zF, zF, zF, zF] rfl rfl (any_of HT_.out (by kernel_rfl)) (fun _ _ _ h => h) (Or.inl ⟨by rfl, ?_⟩) ?_ ?_
      rotate_left
      ·intro w'
       go_simp
       with_reducible rfl
      rotate_left
      ·simp only [Act.put, zp1, zp2, zp3, i64_w, i32_w]
       rfl
      refine pure_ (i := 3) (N := some 33) (v := ?_) (a' := ?_) #[zF, zF, zT, zT, zF, zF, zF, zF, zF, zF, zF, zF, zF, zF, zF] rfl rfl (any_of HT_.out (by kernel_rfl)) (fun _ _ _ h => h) (Or.inl ⟨by rfl, ?_⟩) ?_ ?_
      rotate_left
      ·intro w'
       go_simp
       with_reducible rfl
      rotate_left
      ·simp only [Act.put, zp1, zp2, zp3, i64_w, i32_w]
       rfl
      refine pure_ (i := 4) (N := some 34) (v := ?_) (a' := ?_) #[zF, zF, zT, zT, zT, zF, zF, zF, zF, zF, zF, zF, zF, zF, zF] rfl rfl (any_of HT_.out (by kernel_rfl)) (fun _ _ _ h => h) (Or.inl ⟨by rfl, ?_⟩) ?_ ?_
      rotate_left
      ·intro w'
       go_simp
       with_reducible rfl
      rotate_left
      ·simp only [Act.put, zp1, zp2, zp3, i64_w, i32_w]
       rfl
      refine pure_ (i := 5) (N := some 35) (v := ?_) (a' := ?_) #[zF, zF, zT, zT, zT, zT, zF, zF, zF, zF, zF, zF, zF, zF, zF] rfl rfl (any_of HT_.out (by kernel_rfl)) (fun _ _ _ h => h) (Or.inl ⟨by rfl, ?_⟩) ?_ ?_
      rotate_left
      ·intro w'
       go_simp
       with_reducible rfl
      rotate_left
      ·simp only [Act.put, zp1, zp2, zp3, i64_w, i32_w]
       rfl
      refine pure_ (i := 6) (N := some 36) (v := ?_) (a' := ?_) #[zF, zF, zT, zT, zT, zT, zT, zF, zF, zF, zF, zF, zF, zF, zF] rfl rfl (any_of HT_.out (by kernel_rfl)) (fun _ _ _ h => h) (Or.inl ⟨by rfl, ?_⟩) ?_ ?_
      rotate_left
      ·intro w'
       go_simp
       with_reducible rfl
      rotate_left
      ·simp only [Act.put, zp1, zp2, zp3, i64_w, i32_w]
       rfl
      refine pure_ (i := 7) (N := some 37) (v := ?_) (a' := ?_) #[zF, zF, zT, zT, zT, zT, zT, zT, zF, zF, zF, zF, zF, zF, zF] rfl rfl (any_of HT_.out (by kernel_rfl)) (fun _ _ _ h => h) (Or.inl ⟨by rfl, ?_⟩) ?_ ?_
      rotate_left
      ·intro w'
       go_simp
       with_reducible rfl
      rotate_left
      ·simp only [Act.put, zp1, zp2, zp3, i64_w, i32_w]
       rfl
      refine pure_ (i := 8) (N := some 38) (v := ?_) (a' := ?_) #[zF, zF, zT, zT, zT, zT, zT, zT, zT, zF, zF, zF, zF, zF, zF] rfl rfl (any_of HT_.out (by kernel_rfl)) (fun _ _ _ h => h) (Or.inl ⟨by rfl, ?_⟩) ?_ ?_
      rotate_left
      ·intro w'
       go_simp
       with_reducible rfl
      rotate_left
      ·simp only [Act.put, zp1, zp2, zp3, i64_w, i32_w]
       rfl
      refine pure_ (i := 9) (N := some 39) (v := ?_) (a' := ?_) #[zF, zF, zT, zT, zT, zT, zT, zT, zT, zT, zF, zF, zF, zF, zF] rfl rfl (any_of HT_.out (by kernel_rfl)) (fun _ _ _ h => h) (Or.inl ⟨by rfl, ?_⟩) ?_ ?_
      rotate_left
      ·intro w'
       go_simp
       with_reducible rfl
      rotate_left
      ·simp only [Act.put, zp1, zp2, zp3, i64_w, i32_w]
       rfl
      refine pure_ (i := 10) (N := some 40) (v := ?_) (a' := ?_) #[zF, zF, zT, zT, zT, zT, zT, zT, zT, zT, zT, zF, zF, zF, zF] rfl rfl (any_of HT_.out (by kernel_rfl)) (fun _ _ _ h => h) (Or.inl ⟨by rfl, ?_⟩) ?_ ?_
      rotate_left
      ·intro w'
       go_simp
       with_reducible rfl
      rotate_left
      ·simp only [Act.put, zp1, zp2, zp3, i64_w, i32_w]
       rfl
      refine take_ (i := 0) (N := some 30) (v := ?_) (a' := ?_) #[zT, zF, zT, zT, zT, zT, zT, zT, zT, zT, zT, zF, zF, zF, zF] rfl rfl (take_ofW HT_.out HW_.out (by kernel_rfl)) (fun _ _ _ h => h) (Or.inl ⟨by rfl, ?_⟩) hHeld ?_ ?_
      rotate_left
      ·rintro w' ⟨s0, s1, s2, s3, s4⟩
       go_simp
       with_reducible rfl
      rotate_left
      ·simp only [Act.put, zp1, zp2, zp3, i64_w, i32_w]
       rfl
      refine take_ (i := 1) (N := some 31) (v := ?_) (a' := ?_) #[zT, zT, zT, zT, zT, zT, zT, zT, zT, zT, zT, zF, zF, zF, zF] rfl rfl (take_ofW HT_.out HW_.out (by kernel_rfl)) (fun _ _ _ h => h) (Or.inl ⟨by rfl, ?_⟩) hHeld ?_ ?_
      rotate_left
      ·rintro w' ⟨s0, s1, s2, s3, s4⟩
       go_simp
       with_reducible rfl
      rotate_left
      ·simp only [Act.put, zp1, zp2, zp3, i64_w, i32_w]
       rfl
      refine one_ (i := 11) (N := some 41) #[zT, zT, zT, zT, zT, zT, zT, zT, zT, zT, zT, zT, zF, zF, zF] rfl rfl (one_of HT_.out (by kernel_rfl)) (by decide) (fun K hK => ?_)
      refine goes_ Try.func79 (by kernel_rfl) rfl #[.agg #[.int .i64 a1_0, .int .i64 a1_1, .int .i64 a1_2, .int .i64 a1_3], .int .i64 a2, .int .i64 (wrap64 ((wrap64 (a2 + (wrap64 (t165)))) + 3)), .int .i64 (wrap64 ((wrap64 (a2 + (wrap64 (t165)))) + 3))] (by rfl) rfl rfl (by (try simp only [zq1, zq2, zq3]); first | done | rfl | (simp only [List.length_drop, List.length_take]; rfl)) ?_
      with_reducible refine (spec_l2Slice.calls a1_0 a1_1 a1_2 a1_3 a2 (wrap64 ((wrap64 (a2 + (wrap64 (t165)))) + 3)) (wrap64 ((wrap64 (a2 + (wrap64 (t165)))) + 3)) t166 t167 t168 t169 _ A21.out).mono ?_
      rintro e w26 ⟨rfl, hb⟩
      refine ⟨_, rfl, ?_⟩
      replace BK163 := zb0 BK163 hb
      replace BK164 := zb0 BK164 hb
      replace HB := zhs HB hb
      (try clear hb)
      refine hK.out _ _ ⟨zc0 BK163 0 rfl, zc0 BK164 0 rfl, zc0 BK164 1 rfl, zc0 BK164 2 rfl, zc0 BK164 3 rfl⟩ (fun hHeld => ?_)
      clear hK K
      refine norm_ (a' := ?_) ?_ ?_
      rotate_left
      ·show Act.put _ (some 41) _ = _
       simp only [Act.put, zp1, zp2, zp3, i64_w, i32_w]
       rfl
      refine one_ (i := 12) (N := some 42) #[zT, zT, zT, zT, zT, zT, zT, zT, zT, zT, zT, zT, zT, zF, zF] rfl rfl (one_of HT_.out (by kernel_rfl)) (by decide) (fun K hK => ?_)
      refine goes_ Try.func100 (by kernel_rfl) rfl #[.agg #[.slice A0_0 l0_0.length c0_0], .agg #[.int .i64 t166, .int .i64 t167, .int .i64 t168, .int .i64 t169]] (by rfl) rfl rfl (by (try simp only [zq1, zq2, zq3]); first | done | rfl | (simp only [List.length_drop, List.length_take]; rfl)) ?_
      with_reducible refine (spec_l2Bytes.calls kj9 _ _ l0_0 t166 t167 t168 t169 t170 _ ?side1 ?side2 A22.out).mono ?_
      (case side1 => exact Kd.C_below HR0_0.out (zh0 HB))
      (case side2 => exact HC0_0.out)
      rintro e w27 ⟨v171, rfl, ho0, hb⟩
      refine ⟨_, rfl, ?_⟩
      have HO172 := Aside0.mk (Kd.R_lower ho0 (below_size (zh0 HB)))
      replace BK163 := zb0 BK163 hb
      replace BK164 := zb0 BK164 hb
      replace HB := zhs HB hb
      (try clear hb)
      (try clear ho0)
      obtain ⟨Ao28, co28, eo28⟩ := Kd.R_slice HO172.out
      (first | subst eo28 | (injection eo28 with f1_ f2_ f3_; have f4_ := f1_.symm; have f5_ := f3_.symm; clear f1_ f2_ f3_; subst f4_; subst f5_))
      refine hK.out _ _ ⟨zc0 BK163 0 rfl, zc0 BK164 0 rfl, zc0 BK164 1 rfl, zc0 BK164 2 rfl, zc0 BK164 3 rfl⟩ (fun hHeld => ?_)
      clear hK K
      refine norm_ (a' := ?_) ?_ ?_
      rotate_left
      ·show Act.put _ (some 42) _ = _
       simp only [Act.put, zp1, zp2, zp3, i64_w, i32_w]
       rfl
      refine one_ (i := 13) (N := some 43) #[zT, zT, zT, zT, zT, zT, zT, zT, zT, zT, zT, zT, zT, zT, zF] rfl rfl (one_of HT_.out (by kernel_rfl)) (by decide) (fun K hK => ?_)
      refine goes_ Try.func99 (by kernel_rfl) rfl #[.slice Ao28 t170.length co28] (by rfl) rfl rfl (by (try simp only [zq1, zq2, zq3]); first | done | rfl | (simp only [List.length_drop, List.length_take]; rfl)) ?_
      with_reducible refine (spec_l9Check.calls kj9 _ _ t170 t173 _ ?side1 ?side2 A23.out).mono ?_
      (case side1 => repeat (first | exact (Kd.R_reads' HO172.out).2.2 | (with_reducible refine Kd.C_alloc ?_ _) | (with_reducible refine Kd.C_drewN ?_ _) | (with_reducible refine Kd.C_drew ?_)))
      (case side2 => exact (Kd.R_reads' HO172.out).2.1)
      rintro e w' ⟨rfl, ⟨nd, rfl⟩⟩
      refine ⟨_, rfl, ?_⟩
      refine hK.out _ _ ⟨zc0 BK163 0 rfl, zc0 BK164 0 rfl, zc0 BK164 1 rfl, zc0 BK164 2 rfl, zc0 BK164 3 rfl⟩ (fun hHeld => ?_)
      clear hK K
      refine norm_ (a' := ?_) ?_ ?_
      rotate_left
      ·show Act.put _ (some 43) _ = _
       simp only [Act.put, zp1, zp2, zp3, i64_w, i32_w]
       rfl
      refine pure_ (i := 14) (N := some 44) (v := ?_) (a' := ?_) #[zT, zT, zT, zT, zT, zT, zT, zT, zT, zT, zT, zT, zT, zT, zT] rfl rfl (any_of HT_.out (by kernel_rfl)) (fun _ _ _ h => h) (Or.inl ⟨by rfl, ?_⟩) ?_ ?_
      rotate_left
      ·intro w'
       go_simp
       with_reducible rfl
      rotate_left
      ·simp only [Act.put, zp1, zp2, zp3, i64_w, i32_w]
       rfl
      refine done_ (done_of HT_.out (by kernel_rfl)) ?_
      try go_wp2
      go_ret
      exact ⟨by first | rfl | (simp <;> rfl) | (simp [*] <;> rfl), by repeat (first | exact zh0 HB | refine below_set ?_ GE163.out | refine below_set ?_ GE164.out)⟩
     ·rw [if_neg c24] at H
      have c24b0 : (t173 == 0) = false := beq_eq_false_iff_ne.mpr c24
      have c24b1 : (t173 != 0) = true := bne_iff_ne.mpr c24
      obtain rfl := Option.some.inj H
      try go_wp2
      replace BK163 := Aside0.mk (blk_drew BK163.out)
      replace BK164 := Aside0.mk (blk_drew BK164.out)
      replace HB := Aside0.mk (below_drew1 HB.out)
      refine start_ (n := 15) (S := fun w' => w'.cell? ⟨gb163, 0, none⟩ = some (.slice A0_0 l0_0.length c0_0) ∧ w'.cell? ⟨gb164, 0, none⟩ = some (.int .i64 a1_0) ∧ w'.cell? ⟨gb164, 1, none⟩ = some (.int .i64 a1_1) ∧ w'.cell? ⟨gb164, 2, none⟩ = some (.int .i64 a1_2) ∧ w'.cell? ⟨gb164, 3, none⟩ = some (.int .i64 a1_3)) (ds := []) #[zF, zF, zF, zF, zF, zF, zF, zF, zF, zF, zF, zF, zF, zF, zF] (by kernel_rfl) rfl rfl ⟨zc0 BK163 0 rfl, zc0 BK164 0 rfl, zc0 BK164 1 rfl, zc0 BK164 2 rfl, zc0 BK164 3 rfl⟩ (fun hHeld => ?_); refine with_tabW spec_l9Frame.tab6 spec_l9Frame.bits6 (fun HT_ HW_ => ?_)
      generalize wc.drew = w29 at BK163 BK164 HB hHeld ⊢
      refine pure_ (i := 2) (N := some 32) (v := ?_) (a' := ?_) #[zF, zF, zT, zF, zF, zF, zF, zF, zF, zF, zF, zF, zF, zF, zF] rfl rfl (any_of HT_.out (by kernel_rfl)) (fun _ _ _ h => h) (Or.inl ⟨by rfl, ?_⟩) ?_ ?_
      rotate_left
      ·intro w'
       go_simp
       with_reducible rfl
      rotate_left
      ·simp only [Act.put, zp1, zp2, zp3, i64_w, i32_w]
       rfl
      refine pure_ (i := 3) (N := some 33) (v := ?_) (a' := ?_) #[zF, zF, zT, zT, zF, zF, zF, zF, zF, zF, zF, zF, zF, zF, zF] rfl rfl (any_of HT_.out (by kernel_rfl)) (fun _ _ _ h => h) (Or.inl ⟨by rfl, ?_⟩) ?_ ?_
      rotate_left
      ·intro w'
       go_simp
       with_reducible rfl
      rotate_left
      ·simp only [Act.put, zp1, zp2, zp3, i64_w, i32_w]
       rfl
      refine pure_ (i := 4) (N := some 34) (v := ?_) (a' := ?_) #[zF, zF, zT, zT, zT, zF, zF, zF, zF, zF, zF, zF, zF, zF, zF] rfl rfl (any_of HT_.out (by kernel_rfl)) (fun _ _ _ h => h) (Or.inl ⟨by rfl, ?_⟩) ?_ ?_
      rotate_left
      ·intro w'
       go_simp
       with_reducible rfl
      rotate_left
      ·simp only [Act.put, zp1, zp2, zp3, i64_w, i32_w]
       rfl
      refine pure_ (i := 5) (N := some 35) (v := ?_) (a' := ?_) #[zF, zF, zT, zT, zT, zT, zF, zF, zF, zF, zF, zF, zF, zF, zF] rfl rfl (any_of HT_.out (by kernel_rfl)) (fun _ _ _ h => h) (Or.inl ⟨by rfl, ?_⟩) ?_ ?_
      rotate_left
      ·intro w'
       go_simp
       with_reducible rfl
      rotate_left
      ·simp only [Act.put, zp1, zp2, zp3, i64_w, i32_w]
       rfl
      refine pure_ (i := 6) (N := some 36) (v := ?_) (a' := ?_) #[zF, zF, zT, zT, zT, zT, zT, zF, zF, zF, zF, zF, zF, zF, zF] rfl rfl (any_of HT_.out (by kernel_rfl)) (fun _ _ _ h => h) (Or.inl ⟨by rfl, ?_⟩) ?_ ?_
      rotate_left
      ·intro w'
       go_simp
       with_reducible rfl
      rotate_left
      ·simp only [Act.put, zp1, zp2, zp3, i64_w, i32_w]
       rfl
      refine pure_ (i := 7) (N := some 37) (v := ?_) (a' := ?_) #[zF, zF, zT, zT, zT, zT, zT, zT, zF, zF, zF, zF, zF, zF, zF] rfl rfl (any_of HT_.out (by kernel_rfl)) (fun _ _ _ h => h) (Or.inl ⟨by rfl, ?_⟩) ?_ ?_
      rotate_left
      ·intro w'
       go_simp
       with_reducible rfl
      rotate_left
      ·simp only [Act.put, zp1, zp2, zp3, i64_w, i32_w]
       rfl
      refine pure_ (i := 8) (N := some 38) (v := ?_) (a' := ?_) #[zF, zF, zT, zT, zT, zT, zT, zT, zT, zF, zF, zF, zF, zF, zF] rfl rfl (any_of HT_.out (by kernel_rfl)) (fun _ _ _ h => h) (Or.inl ⟨by rfl, ?_⟩) ?_ ?_
      rotate_left
      ·intro w'
       go_simp
       with_reducible rfl
      rotate_left
      ·simp only [Act.put, zp1, zp2, zp3, i64_w, i32_w]
       rfl
      refine pure_ (i := 9) (N := some 39) (v := ?_) (a' := ?_) #[zF, zF, zT, zT, zT, zT, zT, zT, zT, zT, zF, zF, zF, zF, zF] rfl rfl (any_of HT_.out (by kernel_rfl)) (fun _ _ _ h => h) (Or.inl ⟨by rfl, ?_⟩) ?_ ?_
      rotate_left
      ·intro w'
       go_simp
       with_reducible rfl
      rotate_left
      ·simp only [Act.put, zp1, zp2, zp3, i64_w, i32_w]
       rfl
      refine pure_ (i := 10) (N := some 40) (v := ?_) (a' := ?_) #[zF, zF, zT, zT, zT, zT, zT, zT, zT, zT, zT, zF, zF, zF, zF] rfl rfl (any_of HT_.out (by kernel_rfl)) (fun _ _ _ h => h) (Or.inl ⟨by rfl, ?_⟩) ?_ ?_
      rotate_left
      ·intro w'
       go_simp
       with_reducible rfl
      rotate_left
      ·simp only [Act.put, zp1, zp2, zp3, i64_w, i32_w]
       rfl
      refine take_ (i := 0) (N := some 30) (v := ?_) (a' := ?_) #[zT, zF, zT, zT, zT, zT, zT, zT, zT, zT, zT, zF, zF, zF, zF] rfl rfl (take_ofW HT_.out HW_.out (by kernel_rfl)) (fun _ _ _ h => h) (Or.inl ⟨by rfl, ?_⟩) hHeld ?_ ?_
      rotate_left
      ·rintro w' ⟨s0, s1, s2, s3, s4⟩
       go_simp
       with_reducible rfl
      rotate_left
      ·simp only [Act.put, zp1, zp2, zp3, i64_w, i32_w]
       rfl
      refine take_ (i := 1) (N := some 31) (v := ?_) (a' := ?_) #[zT, zT, zT, zT, zT, zT, zT, zT, zT, zT, zT, zF, zF, zF, zF] rfl rfl (take_ofW HT_.out HW_.out (by kernel_rfl)) (fun _ _ _ h => h) (Or.inl ⟨by rfl, ?_⟩) hHeld ?_ ?_
      rotate_left
      ·rintro w' ⟨s0, s1, s2, s3, s4⟩
       go_simp
       with_reducible rfl
      rotate_left
      ·simp only [Act.put, zp1, zp2, zp3, i64_w, i32_w]
       rfl
      refine one_ (i := 11) (N := some 41) #[zT, zT, zT, zT, zT, zT, zT, zT, zT, zT, zT, zT, zF, zF, zF] rfl rfl (one_of HT_.out (by kernel_rfl)) (by decide) (fun K hK => ?_)
      refine goes_ Try.func79 (by kernel_rfl) rfl #[.agg #[.int .i64 a1_0, .int .i64 a1_1, .int .i64 a1_2, .int .i64 a1_3], .int .i64 a2, .int .i64 (wrap64 ((wrap64 (a2 + (wrap64 (t165)))) + 3)), .int .i64 (wrap64 ((wrap64 (a2 + (wrap64 (t165)))) + 3))] (by rfl) rfl rfl (by (try simp only [zq1, zq2, zq3]); first | done | rfl | (simp only [List.length_drop, List.length_take]; rfl)) ?_
      with_reducible refine (spec_l2Slice.calls a1_0 a1_1 a1_2 a1_3 a2 (wrap64 ((wrap64 (a2 + (wrap64 (t165)))) + 3)) (wrap64 ((wrap64 (a2 + (wrap64 (t165)))) + 3)) t166 t167 t168 t169 _ A21.out).mono ?_
      rintro e w30 ⟨rfl, hb⟩
      refine ⟨_, rfl, ?_⟩
      replace BK163 := zb0 BK163 hb
      replace BK164 := zb0 BK164 hb
      replace HB := zhs HB hb
      (try clear hb)
      refine hK.out _ _ ⟨zc0 BK163 0 rfl, zc0 BK164 0 rfl, zc0 BK164 1 rfl, zc0 BK164 2 rfl, zc0 BK164 3 rfl⟩ (fun hHeld => ?_)
      clear hK K
      refine norm_ (a' := ?_) ?_ ?_
      rotate_left
      ·show Act.put _ (some 41) _ = _
       simp only [Act.put, zp1, zp2, zp3, i64_w, i32_w]
       rfl
      refine one_ (i := 12) (N := some 42) #[zT, zT, zT, zT, zT, zT, zT, zT, zT, zT, zT, zT, zT, zF, zF] rfl rfl (one_of HT_.out (by kernel_rfl)) (by decide) (fun K hK => ?_)
      refine goes_ Try.func100 (by kernel_rfl) rfl #[.agg #[.slice A0_0 l0_0.length c0_0], .agg #[.int .i64 t166, .int .i64 t167, .int .i64 t168, .int .i64 t169]] (by rfl) rfl rfl (by (try simp only [zq1, zq2, zq3]); first | done | rfl | (simp only [List.length_drop, List.length_take]; rfl)) ?_
      with_reducible refine (spec_l2Bytes.calls kj9 _ _ l0_0 t166 t167 t168 t169 t170 _ ?side1 ?side2 A22.out).mono ?_
      (case side1 => exact Kd.C_below HR0_0.out (zh0 HB))
      (case side2 => exact HC0_0.out)
      rintro e w31 ⟨v171, rfl, ho0, hb⟩
      refine ⟨_, rfl, ?_⟩
      have HO172 := Aside0.mk (Kd.R_lower ho0 (below_size (zh0 HB)))
      replace BK163 := zb0 BK163 hb
      replace BK164 := zb0 BK164 hb
      replace HB := zhs HB hb
      (try clear hb)
      (try clear ho0)
      obtain ⟨Ao32, co32, eo32⟩ := Kd.R_slice HO172.out
      (first | subst eo32 | (injection eo32 with f1_ f2_ f3_; have f4_ := f1_.symm; have f5_ := f3_.symm; clear f1_ f2_ f3_; subst f4_; subst f5_))
      refine hK.out _ _ ⟨zc0 BK163 0 rfl, zc0 BK164 0 rfl, zc0 BK164 1 rfl, zc0 BK164 2 rfl, zc0 BK164 3 rfl⟩ (fun hHeld => ?_)
      clear hK K
      refine norm_ (a' := ?_) ?_ ?_
      rotate_left
      ·show Act.put _ (some 42) _ = _
       simp only [Act.put, zp1, zp2, zp3, i64_w, i32_w]
       rfl
      refine one_ (i := 13) (N := some 43) #[zT, zT, zT, zT, zT, zT, zT, zT, zT, zT, zT, zT, zT, zT, zF] rfl rfl (one_of HT_.out (by kernel_rfl)) (by decide) (fun K hK => ?_)
      refine goes_ Try.func99 (by kernel_rfl) rfl #[.slice Ao32 t170.length co32] (by rfl) rfl rfl (by (try simp only [zq1, zq2, zq3]); first | done | rfl | (simp only [List.length_drop, List.length_take]; rfl)) ?_
      with_reducible refine (spec_l9Check.calls kj9 _ _ t170 t173 _ ?side1 ?side2 A23.out).mono ?_
      (case side1 => repeat (first | exact (Kd.R_reads' HO172.out).2.2 | (with_reducible refine Kd.C_alloc ?_ _) | (with_reducible refine Kd.C_drewN ?_ _) | (with_reducible refine Kd.C_drew ?_)))
      (case side2 => exact (Kd.R_reads' HO172.out).2.1)
      rintro e w' ⟨rfl, ⟨nd, rfl⟩⟩
      refine ⟨_, rfl, ?_⟩
      refine hK.out _ _ ⟨zc0 BK163 0 rfl, zc0 BK164 0 rfl, zc0 BK164 1 rfl, zc0 BK164 2 rfl, zc0 BK164 3 rfl⟩ (fun hHeld => ?_)
      clear hK K
      refine norm_ (a' := ?_) ?_ ?_
      rotate_left
      ·show Act.put _ (some 43) _ = _
       simp only [Act.put, zp1, zp2, zp3, i64_w, i32_w]
       rfl
      refine pure_ (i := 14) (N := some 44) (v := ?_) (a' := ?_) #[zT, zT, zT, zT, zT, zT, zT, zT, zT, zT, zT, zT, zT, zT, zT] rfl rfl (any_of HT_.out (by kernel_rfl)) (fun _ _ _ h => h) (Or.inl ⟨by rfl, ?_⟩) ?_ ?_
      rotate_left
      ·intro w'
       go_simp
       with_reducible rfl
      rotate_left
      ·simp only [Act.put, zp1, zp2, zp3, i64_w, i32_w]
       rfl
      refine done_ (done_of HT_.out (by kernel_rfl)) ?_
      try go_wp2
      go_ret
      exact ⟨by first | rfl | (simp <;> rfl) | (simp [*] <;> rfl), by repeat (first | exact zh0 HB | refine below_set ?_ GE163.out | refine below_set ?_ GE164.out)⟩

open Go.Proofs.Ytldkbeccpheckaa.Cp
/-! ### spec_l9Frames: function 73 -/
def spec_l9Frames.l0 : Nat → List Int → Int → List (List Int) → Int → Int → Int → Int → Option (List Int × Int)
 | 0, _, _, _, _, _, _, _ => none
 | k + 1, x6, x7, x175000, x176000, x176001, x176002, x176003 => (spec_l9Frame.f k x175000 x176000 x176001 x176002 x176003 x7).bind fun t179 => (if t179 > 0 then (if x6.length < 17592186044416 then ((spec_l9Frame.f k x175000 x176000 x176001 x176002 x176003 x7).bind fun t183 => (spec_l9Frames.l0 k (x6 ++ [x7]) (wrap64 (x7 + t183)) x175000 x176000 x176001 x176002 x176003)) else (none)) else (some (x6, x7)))
def spec_l9Frames.f (k : Nat) (l0_0 : List (List Int)) (a1_0 : Int) (a1_1 : Int) (a1_2 : Int) (a1_3 : Int) : Option (List Int × Int) := spec_l9Frames.l0 k (([] : List Int)) 0 l0_0 a1_0 a1_1 a1_2 a1_3
theorem spec_l9Frames.mono_l : ∀ k, (∀ y0 y1 y2 y3 y4 y5 y6, LeO (spec_l9Frames.l0 k y0 y1 y2 y3 y4 y5 y6) (spec_l9Frames.l0 (k + 1) y0 y1 y2 y3 y4 y5 y6))
 | 0 => fun _ _ _ _ _ _ _ r h => by simp [spec_l9Frames.l0] at h
 | k + 1 => by
  have ih0 := spec_l9Frames.mono_l k
  ·intro y0 y1 y2 y3 y4 y5 y6
   unfold spec_l9Frames.l0
   repeat' first
   | (with_reducible exact ih0 _ _ _ _ _ _ _)
   | (with_reducible exact spec_l9Frame.mono _ _ _ _ _ _ _)
   | (with_reducible exact LeO.refl _)
   | (with_reducible exact LeO.none _)
   | (with_reducible refine LeO.ite ?_ ?_)
   | (with_reducible refine LeO.bind ?_ (fun _ => ?_))
   | exact ih0 _ _ _ _ _ _ _
   | exact spec_l9Frame.mono _ _ _ _ _ _ _
   | exact LeO.none _
   | refine LeO.ite ?_ ?_
   | refine LeO.bind ?_ (fun _ => ?_)
theorem spec_l9Frames.mono : ∀ a0 a1 a2 a3 a4 k, LeO (spec_l9Frames.f k a0 a1 a2 a3 a4) (spec_l9Frames.f (k + 1) a0 a1 a2 a3 a4) := by
 intro a0 a1 a2 a3 a4 k
 have ih0 := spec_l9Frames.mono_l k
 unfold spec_l9Frames.f
 repeat' first
   | (with_reducible exact ih0 _ _ _ _ _ _ _)
   | (with_reducible exact spec_l9Frame.mono _ _ _ _ _ _ _)
   | (with_reducible exact LeO.refl _)
   | (with_reducible exact LeO.none _)
   | (with_reducible refine LeO.ite ?_ ?_)
   | (with_reducible refine LeO.bind ?_ (fun _ => ?_))
   | exact ih0 _ _ _ _ _ _ _
   | exact spec_l9Frame.mono _ _ _ _ _ _ _
   | exact LeO.none _
   | refine LeO.ite ?_ ?_
   | refine LeO.bind ?_ (fun _ => ?_)
set_option maxHeartbeats 8000000 in
set_option maxRecDepth 100000 in
theorem spec_l9Frames.calls (k : Nat) (A0_0 : Option Addr) (c0_0 : Nat) (l0_0 : List (List Int)) (a1_0 : Int) (a1_1 : Int) (a1_2 : Int) (a1_3 : Int) (r1 : List Int) (r2 : Int) (w : World) (hr0_0 : Kd.C (Kd.slice 5 (Kd.int .u8)) w A0_0 l0_0.length l0_0) (hc0_0 : l0_0.length ≤ c0_0) (h : spec_l9Frames.f k l0_0 a1_0 a1_1 a1_2 a1_3 = some (r1, r2)) :
  Calls Try.prog 73 #[.agg #[.slice A0_0 l0_0.length c0_0], .agg #[.int .i64 a1_0, .int .i64 a1_1, .int .i64 a1_2, .int .i64 a1_3]] w fun e w' => ∃ v0_ : Value, e = .returned (.tuple #[v0_, .int .i64 r2]) ∧ Kd.R (Kd.int .i64) 3 w' w.heap.size (fun _ => True) v0_ r1 ∧ Below w.heap.size w w' := by
 have hu31 := Try.underlying31
 have hu33 := Try.underlying33
 have HR0_0 := Aside0.mk hr0_0
 have HC0_0 := Aside0.mk hc0_0
 clear hr0_0 hc0_0
 have HB := Aside0.mk (Below.refl w.heap.size w)
 have H : (spec_l9Frames.l0 k (([] : List Int)) 0 l0_0 a1_0 a1_1 a1_2 a1_3) = some (r1, r2) := h
 clear h
 obtain ⟨y176, hy176⟩ : ∃ y_ : List Int, y_ = (([] : List Int)) := ⟨_, rfl⟩
 replace H : (spec_l9Frames.l0 k y176 0 l0_0 a1_0 a1_1 a1_2 a1_3) = some (r1, r2) := by first | (rw [hy176]; with_reducible exact H) | (have H2_ := (Option.bind_some _ _).symm.trans H; rw [hy176]; with_reducible exact H2_) | (have H2_ := (Option.bind_some _ _).symm.trans H; with_reducible exact H2_) | with_reducible exact H | (rw [hy176]; exact H) | exact H
 have Ny176 := Aside0.mk hy176
 clear hy176
 have H' := Aside0.mk H
 clear H
 go_enter Try.func73, Try.ntmps73
 go_wp2_with (first | ((with_reducible refine gate_dst (N := 2) rfl ?_); refine box_event ?hg (N := 2) ?hd (cs := #[.slice A0_0 l0_0.length c0_0]) (t := 31) ?hr ?_; (case hd => rfl); (case hg => rfl); (case hr => first | (go_simp; done) | (go_simp; rfl)); intro gb174 hg w3 hbox hb; have BK174 := Aside0.mk (hbox); have GW174 := zge HB hg; have GE174 := zge HB hg; replace HB := zhs HB hb; clear hb hbox hg) | ((with_reducible refine gate_dst (N := 3) rfl ?_); refine box_event ?hg (N := 3) ?hd (cs := #[.int .i64 a1_0, .int .i64 a1_1, .int .i64 a1_2, .int .i64 a1_3]) (t := 33) ?hr ?_; (case hd => rfl); (case hg => rfl); (case hr => first | (go_simp; done) | (go_simp; rfl)); intro gb175 hg w4 hbox hb; have BK175 := Aside0.mk (hbox); have GW175 := zge HB hg; have GE175 := zge HB hg; have NB174_175 := znl BK174 hg; have NB175_174 := znr BK174 hg; replace BK174 := zb0 BK174 hb; replace HB := zhs HB hb; clear hb hbox hg) | ((with_reducible refine gate_dst (N := 8) rfl ?_); refine Kd.R_lit (Kd.int .i64) _ 3 ?hg (N := 8) ?hd (xs := ([] : List Int)) (inner := []) (ok := fun _ => True) (okp := fun _ => True) ?hr ?hp (fun _ hk => hk) trivial (Below.refl _ _) (Nat.le_refl _) (by simp) ?_; (case hd => rfl); (case hg => rfl); (case hr => first | (go_simp; done) | (go_simp; rfl)); (case hp => exact (Reps.none _ _)); intro v177 w5 ho6 hb hg_ hnew_; clear hg_ hnew_; (first | rw [← Ny176.out] at ho6 | (simp only [Int.reduceToNat] at ho6; rw [← Ny176.out] at ho6)); have HO178 := Aside0.mk (Kd.R_lower ho6 (below_size (zh0 HB))); replace BK174 := zb0 BK174 hb; replace BK175 := zb0 BK175 hb; replace HB := zhs HB hb; clear hb ho6))
 go_loopg [6, 7] k (fun kq v6 v7 w' => ∃ (x6_1 : List Int) (x7_1 : Int), v7 = .int .i64 x7_1 ∧ Aside0 (spec_l9Frames.l0 kq x6_1 x7_1 l0_0 a1_0 a1_1 a1_2 a1_3 = some (r1, r2)) ∧ Aside0 (kq ≤ k) ∧ Aside0 (Kd.R (Kd.int .i64) 3 w' w.heap.size (fun _ => True) v6 x6_1) ∧ Aside0 (w'.heap[gb174]? = some (.cells #[(.slice A0_0 l0_0.length c0_0)] 31 (0, 0))) ∧ Aside0 (w'.heap[gb175]? = some (.cells #[.int .i64 a1_0, .int .i64 a1_1, .int .i64 a1_2, .int .i64 a1_3] 33 (0, 0))) ∧ Aside0 (Below w.heap.size w w'))
 case atStart => exact ⟨(y176), (0), (by first | rfl | (simp; done) | (simp [*]; done)), H', ⟨Nat.le_refl _⟩, ⟨zr0 HO178⟩, ⟨zk0 BK174⟩, ⟨zk0 BK175⟩, ⟨by repeat (first | exact zh0 HB | refine below_set ?_ GE174.out | refine below_set ?_ GE175.out)⟩⟩
 case round =>
  clear H'
  try clear p2
  obtain ⟨x6_1, x7_1, rfl, HA, HK1, HO_6, BK174, BK175, HB⟩ := hrel
  cases gk with
  | zero => exact absurd HA.out (by simp [spec_l9Frames.l0])
  | succ k1 =>
   have H := HA.out
   clear HA
   simp only [spec_l9Frames.l0] at H
   replace H := Option.bind_eq_some_iff.mp H
   obtain ⟨t179, A70, H⟩ := H
   replace H : (if t179 > 0 then (if x6_1.length < 17592186044416 then ((spec_l9Frame.f k1 l0_0 a1_0 a1_1 a1_2 a1_3 x7_1).bind fun t183 => (spec_l9Frames.l0 k1 (x6_1 ++ [x7_1]) (wrap64 (x7_1 + t183)) l0_0 a1_0 a1_1 a1_2 a1_3)) else (none)) else (some (x6_1, x7_1))) = some (r1, r2) := H
   have A7 := Aside0.mk A70
   clear A70
   by_cases c8 : t179 > 0
   ·rw [if_pos c8] at H
    have c8b0 : decide (0 < t179) = true := decide_eq_true c8
    clear c8
    by_cases c9 : x6_1.length < 17592186044416
    ·rw [if_pos c9] at H
     have LMc9 := Aside0.mk c9
     clear c9
     obtain ⟨y180, hy180⟩ : ∃ y_ : List Int, y_ = (x6_1 ++ [x7_1]) := ⟨_, rfl⟩
     replace H : ((spec_l9Frame.f k1 l0_0 a1_0 a1_1 a1_2 a1_3 x7_1).bind fun t183 => (spec_l9Frames.l0 k1 y180 (wrap64 (x7_1 + t183)) l0_0 a1_0 a1_1 a1_2 a1_3)) = some (r1, r2) := by first | (rw [hy180]; with_reducible exact H) | (have H2_ := (Option.bind_some _ _).symm.trans H; rw [hy180]; with_reducible exact H2_) | (have H2_ := (Option.bind_some _ _).symm.trans H; with_reducible exact H2_) | with_reducible exact H | (rw [hy180]; exact H) | exact H
     have Ny180 := Aside0.mk hy180
     clear hy180
     replace H := Option.bind_eq_some_iff.mp H
     obtain ⟨t183, A100, H⟩ := H
     replace H : (spec_l9Frames.l0 k1 y180 (wrap64 (x7_1 + t183)) l0_0 a1_0 a1_1 a1_2 a1_3) = some (r1, r2) := H
     have A10 := Aside0.mk A100
     clear A100
     have H' := Aside0.mk H
     clear H
     have hnb11 := NB174_175.out
     have hnc11 := NB175_174.out
     have hcz12_0 := zc0 BK174 0 rfl
     have hfz12_0 := blk_frozen BK174.out 0
     have hcz13_0 := zc0 BK175 0 rfl
     have hcz13_1 := zc0 BK175 1 rfl
     have hcz13_2 := zc0 BK175 2 rfl
     have hcz13_3 := zc0 BK175 3 rfl
     have hfz13_0 := blk_frozen BK175.out 0
     have hfz13_1 := blk_frozen BK175.out 1
     have hfz13_2 := blk_frozen BK175.out 2
     have hfz13_3 := blk_frozen BK175.out 3
     go_wp2_with (first | ((with_reducible refine gate_callee (f := 91) rfl ?_); refine goesL_ (some 12) rfl rfl Try.func91 (by kernel_rfl) rfl #[.agg #[.slice A0_0 l0_0.length c0_0], .agg #[.int .i64 a1_0, .int .i64 a1_1, .int .i64 a1_2, .int .i64 a1_3], .int .i64 x7_1] rfl (by (try simp only [zq1, zq2, zq3]); first | done | rfl | (simp only [List.length_drop, List.length_take]; rfl)) ?_; (with_reducible refine (spec_l9Frame.calls k1 _ _ l0_0 a1_0 a1_1 a1_2 a1_3 x7_1 t179 _ ?side1 ?side2 A7.out).mono ?_); (case side1 => exact Kd.C_below HR0_0.out (zh0 HB)); (case side2 => exact HC0_0.out); rintro e w14 ⟨rfl, hb⟩; refine ⟨_, rfl, ?_⟩; replace HO_6 := zrb HO_6 hb; replace BK174 := zb0 BK174 hb; replace BK175 := zb0 BK175 hb; replace HB := zhs HB hb; (try clear hb)) | ((with_reducible refine gate_builtin (b := .append) (xs := #[.tmp 14, .tmp 16]) rfl ?_); at_builtin; refine Kd.R_append (Kd.int .i64) (w0 := w) w.heap.size rfl (.tmp 14) (.tmp 16) 103 3 (.int .i64 0) 8 rfl Try.underlying103 info3 rfl (by decide) (by omega) u6 x6_1 x7_1 [.int .i64 x7_1] (fun _ => True) (fun _ => False) rfl rfl ?aP (fun _ hk => hk.elim) ?aF ?aO ?aB ?aS ?aL ?_; (case aP => exact rfl); (case aB => exact (zh0 HB)); (case aF => exact (fun _ _ => trivial)); (case aO => exact (zr0 HO_6)); (case aS => exact (below_size (zh0 HB))); (case aL => have := LMc9.out; omega); intro v181 w15 ho hb hg hat; rw [← Ny180.out] at ho; have n0_ := Aside0.mk (blk_grown (g := gb174) (o := .cells #[.slice A0_0 l0_0.length c0_0] 31 (0, 0)) (zk0 BK174) hg (Kd.R_ne HO_6.out BK174.out (by decide))); have n1_ := Aside0.mk (blk_grown (g := gb175) (o := .cells #[.int .i64 a1_0, .int .i64 a1_1, .int .i64 a1_2, .int .i64 a1_3] 33 (0, 0)) (zk0 BK175) hg (Kd.R_ne HO_6.out BK175.out (by decide))); have n2_ := Aside0.mk (hb); have n3_ := Aside0.mk (ho); clear BK174; clear BK175; clear HB; clear HO_6; have BK174 := n0_; have BK175 := n1_; have HB := n2_; have HO182 := n3_; clear n0_ n1_ n2_ n3_; clear ho hb hg hat; have hcz16_0 := zc0 BK174 0 rfl; have hfz16_0 := blk_frozen BK174.out 0; have hcz17_0 := zc0 BK175 0 rfl; have hcz17_1 := zc0 BK175 1 rfl; have hcz17_2 := zc0 BK175 2 rfl; have hcz17_3 := zc0 BK175 3 rfl; have hfz17_0 := blk_frozen BK175.out 0; have hfz17_1 := blk_frozen BK175.out 1; have hfz17_2 := blk_frozen BK175.out 2; have hfz17_3 := blk_frozen BK175.out 3) | ((with_reducible refine gate_callee (f := 91) rfl ?_); refine goesL_ (some 22) rfl rfl Try.func91 (by kernel_rfl) rfl #[.agg #[.slice A0_0 l0_0.length c0_0], .agg #[.int .i64 a1_0, .int .i64 a1_1, .int .i64 a1_2, .int .i64 a1_3], .int .i64 x7_1] rfl (by (try simp only [zq1, zq2, zq3]); first | done | rfl | (simp only [List.length_drop, List.length_take]; rfl)) ?_; (with_reducible refine (spec_l9Frame.calls k1 _ _ l0_0 a1_0 a1_1 a1_2 a1_3 x7_1 t183 _ ?side1 ?side2 A10.out).mono ?_); (case side1 => exact Kd.C_below HR0_0.out (zh0 HB)); (case side2 => exact HC0_0.out); rintro e w18 ⟨rfl, hb⟩; refine ⟨_, rfl, ?_⟩; replace HO182 := zrb HO182 hb; replace BK174 := zb0 BK174 hb; replace BK175 := zb0 BK175 hb; replace HB := zhs HB hb; (try clear hb)))
     go_roundg k1
     case measure => have := HK1.out; omega
     case rel => exact ⟨(y180), (wrap64 (x7_1 + t183)), (by first | rfl | (simp; done) | (simp [*]; done)), H', ⟨by have := HK1.out; omega⟩, ⟨zr0 HO182⟩, ⟨zk0 BK174⟩, ⟨zk0 BK175⟩, ⟨by repeat (first | exact zh0 HB | refine below_set ?_ GE174.out | refine below_set ?_ GE175.out)⟩⟩
    ·rw [if_neg c9] at H
     exact absurd H (by simp)
   ·rw [if_neg c8] at H
    have c8b0 : decide (0 < t179) = false := decide_eq_false c8
    clear c8
    simp only [Option.some.injEq, Prod.mk.injEq] at H
    obtain ⟨rfl, rfl⟩ := H
    have hnb19 := NB174_175.out
    have hnc19 := NB175_174.out
    have hcz20_0 := zc0 BK174 0 rfl
    have hfz20_0 := blk_frozen BK174.out 0
    have hcz21_0 := zc0 BK175 0 rfl
    have hcz21_1 := zc0 BK175 1 rfl
    have hcz21_2 := zc0 BK175 2 rfl
    have hcz21_3 := zc0 BK175 3 rfl
    have hfz21_0 := blk_frozen BK175.out 0
    have hfz21_1 := blk_frozen BK175.out 1
    have hfz21_2 := blk_frozen BK175.out 2
    have hfz21_3 := blk_frozen BK175.out 3
    go_wp2_with (first | ((with_reducible refine gate_callee (f := 91) rfl ?_); refine goesL_ (some 12) rfl rfl Try.func91 (by kernel_rfl) rfl #[.agg #[.slice A0_0 l0_0.length c0_0], .agg #[.int .i64 a1_0, .int .i64 a1_1, .int .i64 a1_2, .int .i64 a1_3], .int .i64 x7_1] rfl (by (try simp only [zq1, zq2, zq3]); first | done | rfl | (simp only [List.length_drop, List.length_take]; rfl)) ?_; (with_reducible refine (spec_l9Frame.calls k1 _ _ l0_0 a1_0 a1_1 a1_2 a1_3 x7_1 t179 _ ?side1 ?side2 A7.out).mono ?_); (case side1 => exact Kd.C_below HR0_0.out (zh0 HB)); (case side2 => exact HC0_0.out); rintro e w22 ⟨rfl, hb⟩; refine ⟨_, rfl, ?_⟩; replace HO_6 := zrb HO_6 hb; replace BK174 := zb0 BK174 hb; replace BK175 := zb0 BK175 hb; replace HB := zhs HB hb; (try clear hb)))
    go_ret2
    exact ⟨_, by first | rfl | (simp <;> rfl) | (simp [*] <;> rfl), (by first | exact zr0 HO_6 | exact Kd.R_mono (zr0 HO_6) (fun _ _ => trivial)), by repeat (first | exact zh0 HB | refine below_set ?_ GE174.out | refine below_set ?_ GE175.out)⟩

open Go.Proofs.Ytldkbeccpheckaa.Cp
/-! ### spec_l9Payload: function 76 -/
def spec_l9Payload.f (k : Nat) (l0_0 : List (List Int)) (a1_0 : Int) (a1_1 : Int) (a1_2 : Int) (a1_3 : Int) (a2 : Int) : Option (Int × Int × Int × Int) := (spec_l9Frame.f k l0_0 a1_0 a1_1 a1_2 a1_3 a2).bind fun t187 => ((spec_l2Slice.f a1_0 a1_1 a1_2 a1_3 (wrap64 (a2 + 2)) (wrap64 ((wrap64 (a2 + t187)) - 1)) (wrap64 ((wrap64 (a2 + t187)) - 1))).bind fun bt188 => (some (bt188.1, bt188.2.1, bt188.2.2.1, bt188.2.2.2)))
theorem spec_l9Payload.mono : ∀ a0 a1 a2 a3 a4 a5 k, LeO (spec_l9Payload.f k a0 a1 a2 a3 a4 a5) (spec_l9Payload.f (k + 1) a0 a1 a2 a3 a4 a5) := by
 intro a0 a1 a2 a3 a4 a5 k
 unfold spec_l9Payload.f
 repeat' first
   | (with_reducible exact spec_l9Frame.mono _ _ _ _ _ _ _)
   | (with_reducible exact LeO.refl _)
   | (with_reducible exact LeO.none _)
   | (with_reducible refine LeO.ite ?_ ?_)
   | (with_reducible refine LeO.bind ?_ (fun _ => ?_))
   | exact spec_l9Frame.mono _ _ _ _ _ _ _
   | exact LeO.none _
   | refine LeO.ite ?_ ?_
   | refine LeO.bind ?_ (fun _ => ?_)
set_option maxHeartbeats 8000000 in
set_option maxRecDepth 100000 in
theorem spec_l9Payload.calls (k : Nat) (A0_0 : Option Addr) (c0_0 : Nat) (l0_0 : List (List Int)) (a1_0 : Int) (a1_1 : Int) (a1_2 : Int) (a1_3 : Int) (a2 : Int) (r1 : Int) (r2 : Int) (r3 : Int) (r4 : Int) (w : World) (hr0_0 : Kd.C (Kd.slice 5 (Kd.int .u8)) w A0_0 l0_0.length l0_0) (hc0_0 : l0_0.length ≤ c0_0) (h : spec_l9Payload.f k l0_0 a1_0 a1_1 a1_2 a1_3 a2 = some (r1, r2, r3, r4)) :
  Calls Try.prog 76 #[.agg #[.slice A0_0 l0_0.length c0_0], .agg #[.int .i64 a1_0, .int .i64 a1_1, .int .i64 a1_2, .int .i64 a1_3], .int .i64 a2] w fun e w' => e = .returned (.agg #[.int .i64 r1, .int .i64 r2, .int .i64 r3, .int .i64 r4]) ∧ Below w.heap.size w w' := by
 have hu31 := Try.underlying31
 have hu33 := Try.underlying33
 have HR0_0 := Aside0.mk hr0_0
 have HC0_0 := Aside0.mk hc0_0
 clear hr0_0 hc0_0
 have HB := Aside0.mk (Below.refl w.heap.size w)
 have H : ((spec_l9Frame.f k l0_0 a1_0 a1_1 a1_2 a1_3 a2).bind fun t187 => ((spec_l2Slice.f a1_0 a1_1 a1_2 a1_3 (wrap64 (a2 + 2)) (wrap64 ((wrap64 (a2 + t187)) - 1)) (wrap64 ((wrap64 (a2 + t187)) - 1))).bind fun bt188 => (some (bt188.1, bt188.2.1, bt188.2.2.1, bt188.2.2.2)))) = some (r1, r2, r3, r4) := h
 clear h
 replace H := Option.bind_eq_some_iff.mp H
 obtain ⟨t187, A40, H⟩ := H
 replace H : ((spec_l2Slice.f a1_0 a1_1 a1_2 a1_3 (wrap64 (a2 + 2)) (wrap64 ((wrap64 (a2 + t187)) - 1)) (wrap64 ((wrap64 (a2 + t187)) - 1))).bind fun bt188 => (some (bt188.1, bt188.2.1, bt188.2.2.1, bt188.2.2.2))) = some (r1, r2, r3, r4) := H
 have A4 := Aside0.mk A40
 clear A40
 replace H := Option.bind_eq_some_iff.mp H
 obtain ⟨⟨t188, t189, t190, t191⟩, A50, H⟩ := H
 replace H : (some (t188, t189, t190, t191)) = some (r1, r2, r3, r4) := H
 have A5 := Aside0.mk A50
 clear A50
 simp only [Option.some.injEq, Prod.mk.injEq] at H
 obtain ⟨rfl, rfl, rfl, rfl⟩ := H
 go_enter Try.func76, Try.ntmps76
 go_wp2_with (first | ((with_reducible refine gate_dst (N := 3) rfl ?_); refine box_event ?hg (N := 3) ?hd (cs := #[.slice A0_0 l0_0.length c0_0]) (t := 31) ?hr ?_; (case hd => rfl); (case hg => rfl); (case hr => first | (go_simp; done) | (go_simp; rfl)); intro gb184 hg w6 hbox hb; have BK184 := Aside0.mk (hbox); have GW184 := zge HB hg; have GE184 := zge HB hg; replace HB := zhs HB hb; clear hb hbox hg) | ((with_reducible refine gate_dst (N := 4) rfl ?_); refine box_event ?hg (N := 4) ?hd (cs := #[.int .i64 a1_0, .int .i64 a1_1, .int .i64 a1_2, .int .i64 a1_3]) (t := 33) ?hr ?_; (case hd => rfl); (case hg => rfl); (case hr => first | (go_simp; done) | (go_simp; rfl)); intro gb185 hg w7 hbox hb; have BK185 := Aside0.mk (hbox); have GW185 := zge HB hg; have GE185 := zge HB hg; have NB184_185 := znl BK184 hg; have NB185_184 := znr BK184 hg; replace BK184 := zb0 BK184 hb; replace HB := zhs HB hb; clear hb hbox hg) | ((with_reducible refine gate_dst (N := 6) rfl ?_); refine box_event ?hg (N := 6) ?hd (cs := #[.int .i64 0, .int .i64 0, .int .i64 0, .int .i64 0]) (t := 33) ?hr ?_; (case hd => rfl); (case hg => rfl); (case hr => first | (go_simp; done) | (go_simp; rfl)); intro gb186 hg w8 hbox hb; have BK186 := Aside0.mk (hbox); have GW186 := zge HB hg; have GE186 := zge HB hg; have NB184_186 := znl BK184 hg; have NB186_184 := znr BK184 hg; have NB185_186 := znl BK185 hg; have NB186_185 := znr BK185 hg; replace BK184 := zb0 BK184 hb; replace BK185 := zb0 BK185 hb; replace HB := zhs HB hb; clear hb hbox hg; have hnb9 := NB184_185.out; have hnc9 := NB185_184.out; have hnb10 := NB184_186.out; have hnc10 := NB186_184.out; have hcz11_0 := zc0 BK184 0 rfl; have hfz11_0 := blk_frozen BK184.out 0; have hnb12 := NB185_186.out; have hnc12 := NB186_185.out; have hcz13_0 := zc0 BK185 0 rfl; have hcz13_1 := zc0 BK185 1 rfl; have hcz13_2 := zc0 BK185 2 rfl; have hcz13_3 := zc0 BK185 3 rfl; have hfz13_0 := blk_frozen BK185.out 0; have hfz13_1 := blk_frozen BK185.out 1; have hfz13_2 := blk_frozen BK185.out 2; have hfz13_3 := blk_frozen BK185.out 3) | ((with_reducible refine gate_callee (f := 91) rfl ?_); refine goesL_ (some 12) rfl rfl Try.func91 (by kernel_rfl) rfl #[.agg #[.slice A0_0 l0_0.length c0_0], .agg #[.int .i64 a1_0, .int .i64 a1_1, .int .i64 a1_2, .int .i64 a1_3], .int .i64 a2] rfl (by (try simp only [zq1, zq2, zq3]); first | done | rfl | (simp only [List.length_drop, List.length_take]; rfl)) ?_; (with_reducible refine (spec_l9Frame.calls k _ _ l0_0 a1_0 a1_1 a1_2 a1_3 a2 t187 _ ?side1 ?side2 A4.out).mono ?_); (case side1 => exact Kd.C_below HR0_0.out (zh0 HB)); (case side2 => exact HC0_0.out); rintro e w14 ⟨rfl, hb⟩; refine ⟨_, rfl, ?_⟩; replace BK184 := zb0 BK184 hb; replace BK185 := zb0 BK185 hb; replace BK186 := zb0 BK186 hb; replace HB := zhs HB hb; (try clear hb); have hcz15_0 := zc0 BK185 0 rfl; have hcz15_1 := zc0 BK185 1 rfl; have hcz15_2 := zc0 BK185 2 rfl; have hcz15_3 := zc0 BK185 3 rfl; have hfz15_0 := blk_frozen BK185.out 0; have hfz15_1 := blk_frozen BK185.out 1; have hfz15_2 := blk_frozen BK185.out 2; have hfz15_3 := blk_frozen BK185.out 3) | ((with_reducible refine gate_callee (f := 79) rfl ?_); refine goesL_ (some 20) rfl rfl Try.func79 (by kernel_rfl) rfl #[.agg #[.int .i64 a1_0, .int .i64 a1_1, .int .i64 a1_2, .int .i64 a1_3], .int .i64 (wrap64 (a2 + 2)), .int .i64 (wrap64 ((wrap64 (a2 + t187)) - 1)), .int .i64 (wrap64 ((wrap64 (a2 + t187)) - 1))] rfl (by (try simp only [zq1, zq2, zq3]); first | done | rfl | (simp only [List.length_drop, List.length_take]; rfl)) ?_; (with_reducible refine (spec_l2Slice.calls a1_0 a1_1 a1_2 a1_3 (wrap64 (a2 + 2)) (wrap64 ((wrap64 (a2 + t187)) - 1)) (wrap64 ((wrap64 (a2 + t187)) - 1)) t188 t189 t190 t191 _ A5.out).mono ?_); rintro e w16 ⟨rfl, hb⟩; refine ⟨_, rfl, ?_⟩; replace BK184 := zb0 BK184 hb; replace BK185 := zb0 BK185 hb; replace BK186 := zb0 BK186 hb; replace HB := Aside0.mk (below_step (by repeat (first | exact zh0 HB | refine below_set ?_ GE184.out | refine below_set ?_ GE185.out | refine below_set ?_ GE186.out)) hb); (try clear hb); have hcz17_0 := zc0 BK186 0 rfl; have hcz17_1 := zc0 BK186 1 rfl; have hcz17_2 := zc0 BK186 2 rfl; have hcz17_3 := zc0 BK186 3 rfl; have hfz17_0 := blk_frozen BK186.out 0; have hfz17_1 := blk_frozen BK186.out 1; have hfz17_2 := blk_frozen BK186.out 2; have hfz17_3 := blk_frozen BK186.out 3))
 refine bodyPost_ret (results_cell_row rfl _ _ gb186 33 #[.int .i64 t188, .int .i64 t189, .int .i64 t190, .int .i64 t191] (0, 0) _ rfl (by (with_reducible repeat (first | refine blk_drewN ?_ _ | refine blk_drew ?_ | refine blk_alloc ?_ _)); refine blk_put (cs := #[.int .i64 t188, .int .i64 t189, .int .i64 t190, .int .i64 0]) ?_ 3 _ rfl; refine blk_put (cs := #[.int .i64 t188, .int .i64 t189, .int .i64 0, .int .i64 0]) ?_ 2 _ rfl; refine blk_put (cs := #[.int .i64 t188, .int .i64 0, .int .i64 0, .int .i64 0]) ?_ 1 _ rfl; refine blk_put (cs := #[.int .i64 0, .int .i64 0, .int .i64 0, .int .i64 0]) ?_ 0 _ rfl; (with_reducible repeat (first | refine blk_drewN ?_ _ | refine blk_drew ?_ | refine blk_alloc ?_ _)); exact BK186.out) Try.underlying33 rfl (by kernel_rfl)) rfl ?_
 exact ⟨by first | rfl | (simp <;> rfl) | (simp [*] <;> rfl), by repeat (first | exact zh0 HB | refine below_set ?_ GE184.out | refine below_set ?_ GE185.out | refine below_set ?_ GE186.out)⟩

end Go.Proofs.Ytldkbeccpheckaa.PFnExactParseFrames
