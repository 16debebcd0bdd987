/- What is proved here: each Go function that is named below answers, and leaves memory, as the theorem of its name says; no condition beyond those that each theorem states. Laid by this session's own program (wip/driver.py) over the kit's print. -/
import Derived.Test.YtkifenbcepicjaaPFnKeysx0
import Derived.Test.YtkifenbcepicjaaPFnKeysx2
import Derived.Test.YtkifenbcepicjaaPFnKeysx3
import Derived.Test.YtkifenbcepicjaaPFnKeysx4
namespace Go.Proofs.Ytkifenbcepicjaa.PFnKeys
open Go.RowKit Go.Proofs.YtkifenbcepicjaaW.PrintWords Go.Proofs.YtkifenbcepicjaaW.PrintLast Go.Proofs.YtkifenbcepicjaaW.PrintMore
attribute [local go_sem] max2_int min2_int max_two min_two max_three min_three max_four min_four   -- for this text's walks alone
set_option linter.unusedVariables false
set_option linter.unusedSimpArgs false

open Go.Proofs.Ytkifenbcepicjaa.Cp
/-! ### spec_l2Window: function 65 -/
def spec_l2Window.j0 : Nat → Bool → List (List Int) → Int → Int → Int → Int → Option (Bool)
 | 0, _, _, _, _, _, _ => none
 | k + 1, x18, x263000, x264000, x264001, x264002, x264003 => if x18 = true then (some false) else (if 0 ≤ x264000 then (if x264000 < (x263000.length : Int) then ((spec_l1In.f x264001 0 ((rd_L2 x263000 x264000).length : Int)).bind fun t267 => (if t267 = true then ((spec_l1In.f x264003 0 (wrap64 (((rd_L2 x263000 x264000).length : Int) - x264001))).bind fun t268 => (if t268 = true then ((spec_l1In.f x264002 0 x264003).bind fun t269 => (some t269)) else (some false))) else (some false))) else (none)) else (none))
def spec_l2Window.f (k : Nat) (l0_0 : List (List Int)) (a1_0 : Int) (a1_1 : Int) (a1_2 : Int) (a1_3 : Int) : Option (Bool) := (spec_l2Memory.f k l0_0).bind fun t264 => (if t264 = true then ((spec_l1In.f a1_0 0 (wrap64 ((l0_0.length : Int) - 1))).bind fun t265 => (spec_l2Window.j0 k (!t265) l0_0 a1_0 a1_1 a1_2 a1_3)) else (spec_l2Window.j0 k true l0_0 a1_0 a1_1 a1_2 a1_3))
theorem spec_l2Window.mono_l : ∀ k, (∀ y0 y1 y2 y3 y4 y5, LeO (spec_l2Window.j0 k y0 y1 y2 y3 y4 y5) (spec_l2Window.j0 (k + 1) y0 y1 y2 y3 y4 y5))
 | 0 => fun _ _ _ _ _ _ r h => by simp [spec_l2Window.j0] at h
 | k + 1 => by
  have ih0 := spec_l2Window.mono_l k
  ·intro y0 y1 y2 y3 y4 y5
   unfold spec_l2Window.j0
   repeat' first
   | (with_reducible exact ih0 _ _ _ _ _ _)
   | (with_reducible exact spec_l2Memory.mono _ _)
   | (with_reducible exact LeO.refl _)
   | (with_reducible exact LeO.none _)
   | (with_reducible refine LeO.ite ?_ ?_)
   | (with_reducible refine LeO.bind ?_ (fun _ => ?_))
   | exact ih0 _ _ _ _ _ _
   | exact spec_l2Memory.mono _ _
   | exact LeO.none _
   | refine LeO.ite ?_ ?_
   | refine LeO.bind ?_ (fun _ => ?_)
theorem spec_l2Window.mono : ∀ a0 a1 a2 a3 a4 k, LeO (spec_l2Window.f k a0 a1 a2 a3 a4) (spec_l2Window.f (k + 1) a0 a1 a2 a3 a4) := by
 intro a0 a1 a2 a3 a4 k
 have ih0 := spec_l2Window.mono_l k
 unfold spec_l2Window.f
 repeat' first
   | (with_reducible exact ih0 _ _ _ _ _ _)
   | (with_reducible exact spec_l2Memory.mono _ _)
   | (with_reducible exact LeO.refl _)
   | (with_reducible exact LeO.none _)
   | (with_reducible refine LeO.ite ?_ ?_)
   | (with_reducible refine LeO.bind ?_ (fun _ => ?_))
   | exact ih0 _ _ _ _ _ _
   | exact spec_l2Memory.mono _ _
   | exact LeO.none _
   | refine LeO.ite ?_ ?_
   | refine LeO.bind ?_ (fun _ => ?_)
set_option maxHeartbeats 8000000 in
set_option maxRecDepth 100000 in
theorem spec_l2Window.calls (k : Nat) (A0_0 : Option Addr) (c0_0 : Nat) (l0_0 : List (List Int)) (a1_0 : Int) (a1_1 : Int) (a1_2 : Int) (a1_3 : Int) (r : Bool) (w : World) (hr0_0 : Kd.C (Kd.slice 5 (Kd.int .u8)) w A0_0 l0_0.length l0_0) (hc0_0 : l0_0.length ≤ c0_0) (h : spec_l2Window.f k l0_0 a1_0 a1_1 a1_2 a1_3 = some r) :
  Calls Try.prog 65 #[.agg #[.slice A0_0 l0_0.length c0_0], .agg #[.int .i64 a1_0, .int .i64 a1_1, .int .i64 a1_2, .int .i64 a1_3]] w fun e w' => e = .returned (.bool r) ∧ Below w.heap.size w w' := by
 have hu32 := Try.underlying32
 have hu54 := Try.underlying54
 have HR0_0 := Aside0.mk hr0_0
 have HC0_0 := Aside0.mk hc0_0
 clear hr0_0 hc0_0
 have HB := Aside0.mk (Below.refl w.heap.size w)
 have H : ((spec_l2Memory.f k l0_0).bind fun t264 => (if t264 = true then ((spec_l1In.f a1_0 0 (wrap64 ((l0_0.length : Int) - 1))).bind fun t265 => (spec_l2Window.j0 k (!t265) l0_0 a1_0 a1_1 a1_2 a1_3)) else (spec_l2Window.j0 k true l0_0 a1_0 a1_1 a1_2 a1_3))) = some r := h
 clear h
 have HC3 := Aside0.mk H
 clear H
 go_enter Try.func65, Try.ntmps65
 go_upto_region 1 with (first | ((with_reducible refine gate_dst (N := 2) rfl ?_); (try (refine gate_guard (by rfl) ?_; dsimp only)); refine box_event ?hg (N := 2) ?hd (cs := #[.slice A0_0 l0_0.length c0_0]) (t := 32) ?hr ?_; (case hd => rfl); (case hg => rfl); (case hr => first | (go_simp; done) | (go_simp; rfl)); intro gb262 hg w4 hbox hb; have BK262 := Aside0.mk (hbox); have GW262 := zge HB hg; have GE262 := zge HB hg; replace HB := zhs HB hb; clear hb hbox hg) | ((with_reducible refine gate_dst (N := 3) rfl ?_); (try (refine gate_guard (by rfl) ?_; dsimp only)); refine box_event ?hg (N := 3) ?hd (cs := #[.int .i64 a1_0, .int .i64 a1_1, .int .i64 a1_2, .int .i64 a1_3]) (t := 54) ?hr ?_; (case hd => rfl); (case hg => rfl); (case hr => first | (go_simp; done) | (go_simp; rfl)); intro gb263 hg w5 hbox hb; have BK263 := Aside0.mk (hbox); have GW263 := zge HB hg; have GE263 := zge HB hg; have NB262_263 := znl BK262 hg; have NB263_262 := znr BK262 hg; replace BK262 := zb0 BK262 hb; replace HB := zhs HB hb; clear hb hbox hg))
 (try simp only [Act.put, zp1, zp2, zp3])
 go_cut [18] (fun v18 wc => ∃ (kq : Nat) (x18_2 : Bool), v18 = .bool x18_2 ∧ Aside0 (spec_l2Window.j0 kq x18_2 l0_0 a1_0 a1_1 a1_2 a1_3 = some r) ∧ Aside0 (kq ≤ k) ∧ Aside0 (wc.heap[gb262]? = some (.cells #[(.slice A0_0 l0_0.length c0_0)] 32 (0, 0))) ∧ Aside0 (wc.heap[gb263]? = some (.cells #[.int .i64 a1_0, .int .i64 a1_1, .int .i64 a1_2, .int .i64 a1_3] 54 (0, 0))) ∧ Aside0 (Below w.heap.size w wc))
 case first =>
  have H := HC3.out
  clear HC3
  replace H := Option.bind_eq_some_iff.mp H
  obtain ⟨t264, A60, H⟩ := H
  replace H : (if t264 = true then ((spec_l1In.f a1_0 0 (wrap64 ((l0_0.length : Int) - 1))).bind fun t265 => (spec_l2Window.j0 k (!t265) l0_0 a1_0 a1_1 a1_2 a1_3)) else (spec_l2Window.j0 k true l0_0 a1_0 a1_1 a1_2 a1_3)) = some r := H
  have A6 := Aside0.mk A60
  clear A60
  by_cases c7 : t264 = true
  ·subst c7
   have H1 : ((spec_l1In.f a1_0 0 (wrap64 ((l0_0.length : Int) - 1))).bind fun t265 => (spec_l2Window.j0 k (!t265) l0_0 a1_0 a1_1 a1_2 a1_3)) = some r := by rw [if_pos rfl] at H; exact H
   clear H
   have H := H1
   clear H1
   replace H := Option.bind_eq_some_iff.mp H
   obtain ⟨t265, A80, H⟩ := H
   replace H : (spec_l2Window.j0 k (!t265) l0_0 a1_0 a1_1 a1_2 a1_3) = some r := H
   have A8 := Aside0.mk A80
   clear A80
   have H' := Aside0.mk H
   clear H
   have hnb9 := NB262_263.out
   have hnc9 := NB263_262.out
   have hcz10_0 := zc0 BK262 0 rfl
   have hfz10_0 := blk_frozen BK262.out 0
   go_wp2_with (first | ((with_reducible refine gate_callee (f := 53) rfl ?_); refine goesL_ (some 7) rfl rfl Try.func53 (by kernel_rfl) rfl #[.agg #[.slice A0_0 l0_0.length c0_0]] rfl (by (try simp only [zq1, zq2, zq3]); first | done | rfl | (simp only [List.length_drop, List.length_take]; rfl)) ?_; (with_reducible refine (spec_l2Memory.calls k _ _ l0_0 true _ ?side1 ?side2 A6.out).mono ?_); (case side1 => exact Kd.C_below HR0_0.out (zh0 HB)); (case side2 => exact HC0_0.out); rintro e w11 ⟨rfl, hb⟩; refine ⟨_, rfl, ?_⟩; replace BK262 := zb0 BK262 hb; replace BK263 := zb0 BK263 hb; replace HB := zhs HB hb; (try clear hb); have hcz12_0 := zc0 BK263 0 rfl; have hcz12_1 := zc0 BK263 1 rfl; have hcz12_2 := zc0 BK263 2 rfl; have hcz12_3 := zc0 BK263 3 rfl; have hfz12_0 := blk_frozen BK263.out 0; have hfz12_1 := blk_frozen BK263.out 1; have hfz12_2 := blk_frozen BK263.out 2; have hfz12_3 := blk_frozen BK263.out 3; have hcz13_0 := zc0 BK262 0 rfl; have hfz13_0 := blk_frozen BK262.out 0) | (go_at_call 77; (with_reducible refine (spec_l1In.calls a1_0 0 (wrap64 ((l0_0.length : Int) - 1)) t265 _ A8.out).mono ?_); rintro e w' ⟨rfl, ⟨nd, rfl⟩⟩))
   go_meet
   case rel => exact ⟨_, (!t265), (by first | rfl | (simp; done) | (simp [*]; done)), H', ⟨by first | omega | exact Nat.le_refl _⟩, ⟨zk0 BK262⟩, ⟨zk0 BK263⟩, ⟨by repeat (first | exact zh0 HB | refine below_set ?_ GE262.out | refine below_set ?_ GE263.out)⟩⟩
  ·replace c7 := Bool.eq_false_iff.mpr c7
   subst c7
   have H1 : (spec_l2Window.j0 k true l0_0 a1_0 a1_1 a1_2 a1_3) = some r := by rw [if_neg (show ¬ (false = true) by decide)] at H; exact H
   clear H
   have H := H1
   clear H1
   have H' := Aside0.mk H
   clear H
   have hnb14 := NB262_263.out
   have hnc14 := NB263_262.out
   have hcz15_0 := zc0 BK262 0 rfl
   have hfz15_0 := blk_frozen BK262.out 0
   go_wp2_with (first | ((with_reducible refine gate_callee (f := 53) rfl ?_); refine goesL_ (some 7) rfl rfl Try.func53 (by kernel_rfl) rfl #[.agg #[.slice A0_0 l0_0.length c0_0]] rfl (by (try simp only [zq1, zq2, zq3]); first | done | rfl | (simp only [List.length_drop, List.length_take]; rfl)) ?_; (with_reducible refine (spec_l2Memory.calls k _ _ l0_0 false _ ?side1 ?side2 A6.out).mono ?_); (case side1 => exact Kd.C_below HR0_0.out (zh0 HB)); (case side2 => exact HC0_0.out); rintro e w16 ⟨rfl, hb⟩; refine ⟨_, rfl, ?_⟩; replace BK262 := zb0 BK262 hb; replace BK263 := zb0 BK263 hb; replace HB := zhs HB hb; (try clear hb)))
   go_meet
   case rel => exact ⟨_, (true), (by first | rfl | (simp; done) | (simp [*]; done)), H', ⟨by first | omega | exact Nat.le_refl _⟩, ⟨zk0 BK262⟩, ⟨zk0 BK263⟩, ⟨by repeat (first | exact zh0 HB | refine below_set ?_ GE262.out | refine below_set ?_ GE263.out)⟩⟩
 case rest =>
  clear HC3
  try clear c1
  try clear p2
  try clear c5
  try clear c6
  try clear p6
  try clear c7
  try clear c9
  try clear c14
  try clear hcz10_0
  try clear hcz12_0
  try clear hcz12_1
  try clear hcz12_2
  try clear hcz12_3
  try clear hcz13_0
  try clear hcz15_0
  try clear hfz10_0
  try clear hfz12_0
  try clear hfz12_1
  try clear hfz12_2
  try clear hfz12_3
  try clear hfz13_0
  try clear hfz15_0
  obtain ⟨kq, x18_2, rfl, HA, HJ2, BK262, BK263, HB⟩ := hcut
  cases kq with
  | zero => exact absurd HA.out (by simp [spec_l2Window.j0])
  | succ kj2 =>
   have H := HA.out
   clear HA
   simp only [spec_l2Window.j0] at H
   by_cases c17 : x18_2 = true
   ·subst c17
    have H1 : (some false) = some r := by rw [if_pos rfl] at H; exact H
    clear H
    have H := H1
    clear H1
    obtain rfl := Option.some.inj H
    go_wp2
    go_ret
    exact ⟨by first | rfl | (simp <;> rfl) | (simp [*] <;> rfl), by repeat (first | exact zh0 HB | refine below_set ?_ GE262.out | refine below_set ?_ GE263.out)⟩
   ·replace c17 := Bool.eq_false_iff.mpr c17
    subst c17
    have H1 : (if 0 ≤ a1_0 then (if a1_0 < (l0_0.length : Int) then ((spec_l1In.f a1_1 0 ((rd_L2 l0_0 a1_0).length : Int)).bind fun t267 => (if t267 = true then ((spec_l1In.f a1_3 0 (wrap64 (((rd_L2 l0_0 a1_0).length : Int) - a1_1))).bind fun t268 => (if t268 = true then ((spec_l1In.f a1_2 0 a1_3).bind fun t269 => (some t269)) else (some false))) else (some false))) else (none)) else (none)) = some r := by rw [if_neg (show ¬ (false = true) by decide)] at H; exact H
    clear H
    have H := H1
    clear H1
    by_cases c18 : 0 ≤ a1_0
    ·rw [if_pos c18] at H
     have c18b0 : decide (0 ≤ a1_0) = true := decide_eq_true c18
     clear c18
     by_cases c19 : a1_0 < (l0_0.length : Int)
     ·rw [if_pos c19] at H
      have c19b0 : decide (a1_0 < (l0_0.length : Int)) = true := decide_eq_true c19
      clear c19
      replace H := Option.bind_eq_some_iff.mp H
      obtain ⟨t267, A200, H⟩ := H
      replace H : (if t267 = true then ((spec_l1In.f a1_3 0 (wrap64 (((rd_L2 l0_0 a1_0).length : Int) - a1_1))).bind fun t268 => (if t268 = true then ((spec_l1In.f a1_2 0 a1_3).bind fun t269 => (some t269)) else (some false))) else (some false)) = some r := H
      have A20 := Aside0.mk A200
      clear A200
      by_cases c21 : t267 = true
      ·subst c21
       have H1 : ((spec_l1In.f a1_3 0 (wrap64 (((rd_L2 l0_0 a1_0).length : Int) - a1_1))).bind fun t268 => (if t268 = true then ((spec_l1In.f a1_2 0 a1_3).bind fun t269 => (some t269)) else (some false))) = some r := by rw [if_pos rfl] at H; exact H
       clear H
       have H := H1
       clear H1
       replace H := Option.bind_eq_some_iff.mp H
       obtain ⟨t268, A220, H⟩ := H
       replace H : (if t268 = true then ((spec_l1In.f a1_2 0 a1_3).bind fun t269 => (some t269)) else (some false)) = some r := H
       have A22 := Aside0.mk A220
       clear A220
       by_cases c23 : t268 = true
       ·subst c23
        have H1 : ((spec_l1In.f a1_2 0 a1_3).bind fun t269 => (some t269)) = some r := by rw [if_pos rfl] at H; exact H
        clear H
        have H := H1
        clear H1
        replace H := Option.bind_eq_some_iff.mp H
        obtain ⟨t269, A240, H⟩ := H
        replace H : (some t269) = some r := H
        have A24 := Aside0.mk A240
        clear A240
        obtain rfl := Option.some.inj H
        have hnb25 := NB262_263.out
        have hnc25 := NB263_262.out
        have hcz26_0 := zc0 BK262 0 rfl
        have hfz26_0 := blk_frozen BK262.out 0
        have hcz27_0 := zc0 BK263 0 rfl
        have hcz27_1 := zc0 BK263 1 rfl
        have hcz27_2 := zc0 BK263 2 rfl
        have hcz27_3 := zc0 BK263 3 rfl
        have hfz27_0 := blk_frozen BK263.out 0
        have hfz27_1 := blk_frozen BK263.out 1
        have hfz27_2 := blk_frozen BK263.out 2
        have hfz27_3 := blk_frozen BK263.out 3
        have p266 : 0 ≤ (a1_0 : Int) := of_decide_eq_true (by first | (with_reducible assumption) | assumption)
        have q266 : a1_0 < (l0_0.length : Int) := of_decide_eq_true (by first | (with_reducible assumption) | assumption)
        obtain ⟨ad266, A266_0, c266_0, e266, hx266_0, hl266_0, hi266_0⟩ := at_L2 HR0_0.out a1_0 p266 q266
        cases e266
        replace hx266_0 := (HB.out.cell (World.block_lt_of_cell? w _ hx266_0)).trans hx266_0
        have HR266_0 := Aside0.mk hi266_0
        have HC266_0 := Aside0.mk hl266_0
        clear hi266_0 hl266_0
        replace p266 := eq_true p266
        replace q266 := eq_true q266
        go_wp2_with (first | ((with_reducible refine gate_callee (f := 77) rfl ?_); refine goesL_ (some 29) rfl rfl Try.func77 (by kernel_rfl) rfl #[.int .i64 a1_1, .int .i64 0, .int .i64 ((rd_L2 l0_0 a1_0).length : Int)] rfl (by (try simp only [zq1, zq2, zq3]); first | done | rfl | (simp only [List.length_drop, List.length_take]; rfl)) ?_; (with_reducible refine (spec_l1In.calls a1_1 0 ((rd_L2 l0_0 a1_0).length : Int) true _ A20.out).mono ?_); rintro e w' ⟨rfl, ⟨nd, rfl⟩⟩; refine ⟨_, rfl, ?_⟩) | (go_at_call 77; (with_reducible refine (spec_l1In.calls a1_3 0 (wrap64 (((rd_L2 l0_0 a1_0).length : Int) - a1_1)) true _ A22.out).mono ?_); rintro e w' ⟨rfl, ⟨nd, rfl⟩⟩) | (go_at_call 77; (with_reducible refine (spec_l1In.calls a1_2 0 a1_3 t269 _ A24.out).mono ?_); rintro e w' ⟨rfl, ⟨nd, rfl⟩⟩))
        go_ret
        exact ⟨by first | rfl | (simp <;> rfl) | (simp [*] <;> rfl), by repeat (first | exact zh0 HB | refine below_set ?_ GE262.out | refine below_set ?_ GE263.out)⟩
       ·replace c23 := Bool.eq_false_iff.mpr c23
        subst c23
        have H1 : (some false) = some r := by rw [if_neg (show ¬ (false = true) by decide)] at H; exact H
        clear H
        have H := H1
        clear H1
        obtain rfl := Option.some.inj H
        have hnb28 := NB262_263.out
        have hnc28 := NB263_262.out
        have hcz29_0 := zc0 BK262 0 rfl
        have hfz29_0 := blk_frozen BK262.out 0
        have hcz30_0 := zc0 BK263 0 rfl
        have hcz30_1 := zc0 BK263 1 rfl
        have hcz30_2 := zc0 BK263 2 rfl
        have hcz30_3 := zc0 BK263 3 rfl
        have hfz30_0 := blk_frozen BK263.out 0
        have hfz30_1 := blk_frozen BK263.out 1
        have hfz30_2 := blk_frozen BK263.out 2
        have hfz30_3 := blk_frozen BK263.out 3
        have p266 : 0 ≤ (a1_0 : Int) := of_decide_eq_true (by first | (with_reducible assumption) | assumption)
        have q266 : a1_0 < (l0_0.length : Int) := of_decide_eq_true (by first | (with_reducible assumption) | assumption)
        obtain ⟨ad266, A266_0, c266_0, e266, hx266_0, hl266_0, hi266_0⟩ := at_L2 HR0_0.out a1_0 p266 q266
        cases e266
        replace hx266_0 := (HB.out.cell (World.block_lt_of_cell? w _ hx266_0)).trans hx266_0
        have HR266_0 := Aside0.mk hi266_0
        have HC266_0 := Aside0.mk hl266_0
        clear hi266_0 hl266_0
        replace p266 := eq_true p266
        replace q266 := eq_true q266
        go_wp2_with (first | ((with_reducible refine gate_callee (f := 77) rfl ?_); refine goesL_ (some 29) rfl rfl Try.func77 (by kernel_rfl) rfl #[.int .i64 a1_1, .int .i64 0, .int .i64 ((rd_L2 l0_0 a1_0).length : Int)] rfl (by (try simp only [zq1, zq2, zq3]); first | done | rfl | (simp only [List.length_drop, List.length_take]; rfl)) ?_; (with_reducible refine (spec_l1In.calls a1_1 0 ((rd_L2 l0_0 a1_0).length : Int) true _ A20.out).mono ?_); rintro e w' ⟨rfl, ⟨nd, rfl⟩⟩; refine ⟨_, rfl, ?_⟩) | (go_at_call 77; (with_reducible refine (spec_l1In.calls a1_3 0 (wrap64 (((rd_L2 l0_0 a1_0).length : Int) - a1_1)) false _ A22.out).mono ?_); rintro e w' ⟨rfl, ⟨nd, rfl⟩⟩))
        go_ret
        exact ⟨by first | rfl | (simp <;> rfl) | (simp [*] <;> rfl), by repeat (first | exact zh0 HB | refine below_set ?_ GE262.out | refine below_set ?_ GE263.out)⟩
      ·replace c21 := Bool.eq_false_iff.mpr c21
       subst c21
       have H1 : (some false) = some r := by rw [if_neg (show ¬ (false = true) by decide)] at H; exact H
       clear H
       have H := H1
       clear H1
       obtain rfl := Option.some.inj H
       have hnb31 := NB262_263.out
       have hnc31 := NB263_262.out
       have hcz32_0 := zc0 BK262 0 rfl
       have hfz32_0 := blk_frozen BK262.out 0
       have hcz33_0 := zc0 BK263 0 rfl
       have hcz33_1 := zc0 BK263 1 rfl
       have hcz33_2 := zc0 BK263 2 rfl
       have hcz33_3 := zc0 BK263 3 rfl
       have hfz33_0 := blk_frozen BK263.out 0
       have hfz33_1 := blk_frozen BK263.out 1
       have hfz33_2 := blk_frozen BK263.out 2
       have hfz33_3 := blk_frozen BK263.out 3
       have p266 : 0 ≤ (a1_0 : Int) := of_decide_eq_true (by first | (with_reducible assumption) | assumption)
       have q266 : a1_0 < (l0_0.length : Int) := of_decide_eq_true (by first | (with_reducible assumption) | assumption)
       obtain ⟨ad266, A266_0, c266_0, e266, hx266_0, hl266_0, hi266_0⟩ := at_L2 HR0_0.out a1_0 p266 q266
       cases e266
       replace hx266_0 := (HB.out.cell (World.block_lt_of_cell? w _ hx266_0)).trans hx266_0
       have HR266_0 := Aside0.mk hi266_0
       have HC266_0 := Aside0.mk hl266_0
       clear hi266_0 hl266_0
       replace p266 := eq_true p266
       replace q266 := eq_true q266
       go_wp2_with (first | ((with_reducible refine gate_callee (f := 77) rfl ?_); refine goesL_ (some 29) rfl rfl Try.func77 (by kernel_rfl) rfl #[.int .i64 a1_1, .int .i64 0, .int .i64 ((rd_L2 l0_0 a1_0).length : Int)] rfl (by (try simp only [zq1, zq2, zq3]); first | done | rfl | (simp only [List.length_drop, List.length_take]; rfl)) ?_; (with_reducible refine (spec_l1In.calls a1_1 0 ((rd_L2 l0_0 a1_0).length : Int) false _ A20.out).mono ?_); rintro e w' ⟨rfl, ⟨nd, rfl⟩⟩; refine ⟨_, rfl, ?_⟩))
       go_ret
       exact ⟨by first | rfl | (simp <;> rfl) | (simp [*] <;> rfl), by repeat (first | exact zh0 HB | refine below_set ?_ GE262.out | refine below_set ?_ GE263.out)⟩
     ·rw [if_neg c19] at H
      exact absurd H (by simp)
    ·rw [if_neg c18] at H
     exact absurd H (by simp)

open Go.Proofs.Ytkifenbcepicjaa.Cp
/-! ### spec_l9Has: function 61 -/
def spec_l9Has.f (k : Nat) (l0_0 : List (List Int)) (a1_0 : Int) (a1_1 : Int) (a1_2 : Int) (a1_3 : Int) (a2 : Int) : Option (Bool) := (spec_l2Window.f k l0_0 a1_0 a1_1 a1_2 a1_3).bind fun t272 => (if t272 = true then ((spec_l1In.f a2 0 (wrap64 (a1_2 - 16))).bind fun t273 => (some t273)) else (some false))
theorem spec_l9Has.mono : ∀ a0 a1 a2 a3 a4 a5 k, LeO (spec_l9Has.f k a0 a1 a2 a3 a4 a5) (spec_l9Has.f (k + 1) a0 a1 a2 a3 a4 a5) := by
 intro a0 a1 a2 a3 a4 a5 k
 unfold spec_l9Has.f
 repeat' first
   | (with_reducible exact spec_l2Window.mono _ _ _ _ _ _)
   | (with_reducible exact LeO.refl _)
   | (with_reducible exact LeO.none _)
   | (with_reducible refine LeO.ite ?_ ?_)
   | (with_reducible refine LeO.bind ?_ (fun _ => ?_))
   | exact spec_l2Window.mono _ _ _ _ _ _
   | exact LeO.none _
   | refine LeO.ite ?_ ?_
   | refine LeO.bind ?_ (fun _ => ?_)
set_option maxHeartbeats 8000000 in
set_option maxRecDepth 100000 in
theorem spec_l9Has.calls (k : Nat) (A0_0 : Option Addr) (c0_0 : Nat) (l0_0 : List (List Int)) (a1_0 : Int) (a1_1 : Int) (a1_2 : Int) (a1_3 : Int) (a2 : Int) (r : Bool) (w : World) (hr0_0 : Kd.C (Kd.slice 5 (Kd.int .u8)) w A0_0 l0_0.length l0_0) (hc0_0 : l0_0.length ≤ c0_0) (h : spec_l9Has.f k l0_0 a1_0 a1_1 a1_2 a1_3 a2 = some r) :
  Calls Try.prog 61 #[.agg #[.slice A0_0 l0_0.length c0_0], .agg #[.int .i64 a1_0, .int .i64 a1_1, .int .i64 a1_2, .int .i64 a1_3], .int .i64 a2] w fun e w' => e = .returned (.bool r) ∧ Below w.heap.size w w' := by
 have hu32 := Try.underlying32
 have hu54 := Try.underlying54
 have HR0_0 := Aside0.mk hr0_0
 have HC0_0 := Aside0.mk hc0_0
 clear hr0_0 hc0_0
 have HB := Aside0.mk (Below.refl w.heap.size w)
 have H : ((spec_l2Window.f k l0_0 a1_0 a1_1 a1_2 a1_3).bind fun t272 => (if t272 = true then ((spec_l1In.f a2 0 (wrap64 (a1_2 - 16))).bind fun t273 => (some t273)) else (some false))) = some r := h
 clear h
 replace H := Option.bind_eq_some_iff.mp H
 obtain ⟨t272, A40, H⟩ := H
 replace H : (if t272 = true then ((spec_l1In.f a2 0 (wrap64 (a1_2 - 16))).bind fun t273 => (some t273)) else (some false)) = some r := H
 have A4 := Aside0.mk A40
 clear A40
 by_cases c5 : t272 = true
 ·subst c5
  have H1 : ((spec_l1In.f a2 0 (wrap64 (a1_2 - 16))).bind fun t273 => (some t273)) = some r := by rw [if_pos rfl] at H; exact H
  clear H
  have H := H1
  clear H1
  replace H := Option.bind_eq_some_iff.mp H
  obtain ⟨t273, A60, H⟩ := H
  replace H : (some t273) = some r := H
  have A6 := Aside0.mk A60
  clear A60
  obtain rfl := Option.some.inj H
  go_enter Try.func61, Try.ntmps61
  go_wp2_with (first | ((with_reducible refine gate_dst (N := 3) rfl ?_); refine box_event ?hg (N := 3) ?hd (cs := #[.slice A0_0 l0_0.length c0_0]) (t := 32) ?hr ?_; (case hd => rfl); (case hg => rfl); (case hr => first | (go_simp; done) | (go_simp; rfl)); intro gb270 hg w7 hbox hb; have BK270 := Aside0.mk (hbox); have GW270 := zge HB hg; have GE270 := zge HB hg; replace HB := zhs HB hb; clear hb hbox hg) | ((with_reducible refine gate_dst (N := 4) rfl ?_); refine box_event ?hg (N := 4) ?hd (cs := #[.int .i64 a1_0, .int .i64 a1_1, .int .i64 a1_2, .int .i64 a1_3]) (t := 54) ?hr ?_; (case hd => rfl); (case hg => rfl); (case hr => first | (go_simp; done) | (go_simp; rfl)); intro gb271 hg w8 hbox hb; have BK271 := Aside0.mk (hbox); have GW271 := zge HB hg; have GE271 := zge HB hg; have NB270_271 := znl BK270 hg; have NB271_270 := znr BK270 hg; replace BK270 := zb0 BK270 hb; replace HB := zhs HB hb; clear hb hbox hg; have hnb9 := NB270_271.out; have hnc9 := NB271_270.out; have hcz10_0 := zc0 BK270 0 rfl; have hfz10_0 := blk_frozen BK270.out 0; have hcz11_0 := zc0 BK271 0 rfl; have hcz11_1 := zc0 BK271 1 rfl; have hcz11_2 := zc0 BK271 2 rfl; have hcz11_3 := zc0 BK271 3 rfl; have hfz11_0 := blk_frozen BK271.out 0; have hfz11_1 := blk_frozen BK271.out 1; have hfz11_2 := blk_frozen BK271.out 2; have hfz11_3 := blk_frozen BK271.out 3) | ((with_reducible refine gate_callee (f := 65) rfl ?_); refine goesL_ (some 9) rfl rfl Try.func65 (by kernel_rfl) rfl #[.agg #[.slice A0_0 l0_0.length c0_0], .agg #[.int .i64 a1_0, .int .i64 a1_1, .int .i64 a1_2, .int .i64 a1_3]] rfl (by (try simp only [zq1, zq2, zq3]); first | done | rfl | (simp only [List.length_drop, List.length_take]; rfl)) ?_; (with_reducible refine (spec_l2Window.calls k _ _ l0_0 a1_0 a1_1 a1_2 a1_3 true _ ?side1 ?side2 A4.out).mono ?_); (case side1 => exact Kd.C_below HR0_0.out (zh0 HB)); (case side2 => exact HC0_0.out); rintro e w12 ⟨rfl, hb⟩; refine ⟨_, rfl, ?_⟩; replace BK270 := zb0 BK270 hb; replace BK271 := zb0 BK271 hb; replace HB := zhs HB hb; (try clear hb); have hcz13_0 := zc0 BK271 0 rfl; have hcz13_1 := zc0 BK271 1 rfl; have hcz13_2 := zc0 BK271 2 rfl; have hcz13_3 := zc0 BK271 3 rfl; have hfz13_0 := blk_frozen BK271.out 0; have hfz13_1 := blk_frozen BK271.out 1; have hfz13_2 := blk_frozen BK271.out 2; have hfz13_3 := blk_frozen BK271.out 3) | (go_at_call 77; (with_reducible refine (spec_l1In.calls a2 0 (wrap64 (a1_2 - 16)) t273 _ A6.out).mono ?_); rintro e w' ⟨rfl, ⟨nd, rfl⟩⟩))
  go_ret
  exact ⟨by first | rfl | (simp <;> rfl) | (simp [*] <;> rfl), by repeat (first | exact zh0 HB | refine below_set ?_ GE270.out | refine below_set ?_ GE271.out)⟩
 ·replace c5 := Bool.eq_false_iff.mpr c5
  subst c5
  have H1 : (some false) = some r := by rw [if_neg (show ¬ (false = true) by decide)] at H; exact H
  clear H
  have H := H1
  clear H1
  obtain rfl := Option.some.inj H
  go_enter Try.func61, Try.ntmps61
  go_wp2_with (first | ((with_reducible refine gate_dst (N := 3) rfl ?_); refine box_event ?hg (N := 3) ?hd (cs := #[.slice A0_0 l0_0.length c0_0]) (t := 32) ?hr ?_; (case hd => rfl); (case hg => rfl); (case hr => first | (go_simp; done) | (go_simp; rfl)); intro gb270 hg w14 hbox hb; have BK270 := Aside0.mk (hbox); have GW270 := zge HB hg; have GE270 := zge HB hg; replace HB := zhs HB hb; clear hb hbox hg) | ((with_reducible refine gate_dst (N := 4) rfl ?_); refine box_event ?hg (N := 4) ?hd (cs := #[.int .i64 a1_0, .int .i64 a1_1, .int .i64 a1_2, .int .i64 a1_3]) (t := 54) ?hr ?_; (case hd => rfl); (case hg => rfl); (case hr => first | (go_simp; done) | (go_simp; rfl)); intro gb271 hg w15 hbox hb; have BK271 := Aside0.mk (hbox); have GW271 := zge HB hg; have GE271 := zge HB hg; have NB270_271 := znl BK270 hg; have NB271_270 := znr BK270 hg; replace BK270 := zb0 BK270 hb; replace HB := zhs HB hb; clear hb hbox hg; have hnb16 := NB270_271.out; have hnc16 := NB271_270.out; have hcz17_0 := zc0 BK270 0 rfl; have hfz17_0 := blk_frozen BK270.out 0; have hcz18_0 := zc0 BK271 0 rfl; have hcz18_1 := zc0 BK271 1 rfl; have hcz18_2 := zc0 BK271 2 rfl; have hcz18_3 := zc0 BK271 3 rfl; have hfz18_0 := blk_frozen BK271.out 0; have hfz18_1 := blk_frozen BK271.out 1; have hfz18_2 := blk_frozen BK271.out 2; have hfz18_3 := blk_frozen BK271.out 3) | ((with_reducible refine gate_callee (f := 65) rfl ?_); refine goesL_ (some 9) rfl rfl Try.func65 (by kernel_rfl) rfl #[.agg #[.slice A0_0 l0_0.length c0_0], .agg #[.int .i64 a1_0, .int .i64 a1_1, .int .i64 a1_2, .int .i64 a1_3]] rfl (by (try simp only [zq1, zq2, zq3]); first | done | rfl | (simp only [List.length_drop, List.length_take]; rfl)) ?_; (with_reducible refine (spec_l2Window.calls k _ _ l0_0 a1_0 a1_1 a1_2 a1_3 false _ ?side1 ?side2 A4.out).mono ?_); (case side1 => exact Kd.C_below HR0_0.out (zh0 HB)); (case side2 => exact HC0_0.out); rintro e w19 ⟨rfl, hb⟩; refine ⟨_, rfl, ?_⟩; replace BK270 := zb0 BK270 hb; replace BK271 := zb0 BK271 hb; replace HB := zhs HB hb; (try clear hb)))
  go_ret
  exact ⟨by first | rfl | (simp <;> rfl) | (simp [*] <;> rfl), by repeat (first | exact zh0 HB | refine below_set ?_ GE270.out | refine below_set ?_ GE271.out)⟩

open Go.Proofs.Ytkifenbcepicjaa.Cp
/-! ### spec_l2At: function 84 -/
def spec_l2At.f (l0_0 : List (List Int)) (a1_0 : Int) (a1_1 : Int) (a1_2 : Int) (a1_3 : Int) (a2 : Int) : Option (Int) := if 0 ≤ a1_0 then (if a1_0 < (l0_0.length : Int) then (if 0 ≤ (wrap64 (a1_1 + a2)) then (if (wrap64 (a1_1 + a2)) < ((rd_L2 l0_0 a1_0).length : Int) then (some (rd (rd_L2 l0_0 a1_0) (wrap64 (a1_1 + a2)))) else (none)) else (none)) else (none)) else (none)
set_option maxHeartbeats 8000000 in
set_option maxRecDepth 100000 in
theorem spec_l2At.calls (A0_0 : Option Addr) (c0_0 : Nat) (l0_0 : List (List Int)) (a1_0 : Int) (a1_1 : Int) (a1_2 : Int) (a1_3 : Int) (a2 : Int) (r : Int) (w : World) (hr0_0 : Kd.C (Kd.slice 5 (Kd.int .u8)) w A0_0 l0_0.length l0_0) (hc0_0 : l0_0.length ≤ c0_0) (h : spec_l2At.f l0_0 a1_0 a1_1 a1_2 a1_3 a2 = some r) :
  Calls Try.prog 84 #[.agg #[.slice A0_0 l0_0.length c0_0], .agg #[.int .i64 a1_0, .int .i64 a1_1, .int .i64 a1_2, .int .i64 a1_3], .int .i64 a2] w fun e w' => e = .returned (.int .u8 r) ∧ Below w.heap.size w w' := by
 have hu32 := Try.underlying32
 have hu54 := Try.underlying54
 have HR0_0 := Aside0.mk hr0_0
 have HC0_0 := Aside0.mk hc0_0
 clear hr0_0 hc0_0
 have HB := Aside0.mk (Below.refl w.heap.size w)
 have H : (if 0 ≤ a1_0 then (if a1_0 < (l0_0.length : Int) then (if 0 ≤ (wrap64 (a1_1 + a2)) then (if (wrap64 (a1_1 + a2)) < ((rd_L2 l0_0 a1_0).length : Int) then (some (rd (rd_L2 l0_0 a1_0) (wrap64 (a1_1 + a2)))) else (none)) else (none)) else (none)) else (none)) = some r := h
 clear h
 by_cases c4 : 0 ≤ a1_0
 ·rw [if_pos c4] at H
  have c4b0 : decide (0 ≤ a1_0) = true := decide_eq_true c4
  clear c4
  by_cases c5 : a1_0 < (l0_0.length : Int)
  ·rw [if_pos c5] at H
   have c5b0 : decide (a1_0 < (l0_0.length : Int)) = true := decide_eq_true c5
   clear c5
   obtain ⟨ji6, hji6⟩ : ∃ j_ : Int, (wrap64 (a1_1 + a2)) = j_ := ⟨_, rfl⟩
   replace H : (if 0 ≤ (ji6) then (if (ji6) < ((rd_L2 l0_0 a1_0).length : Int) then (some (rd (rd_L2 l0_0 a1_0) (ji6))) else (none)) else (none)) = some r := by first | (rw [hji6] at H; exact H) | (simp only [hji6] at H ⊢; exact H)
   have hji6w : (IntKind.i64.wrap (a1_1 + a2)) = ji6 := (i64_w _).trans hji6
   by_cases c7 : 0 ≤ (ji6)
   ·rw [if_pos c7] at H
    have c7b0 : decide (0 ≤ (ji6)) = true := decide_eq_true c7
    clear c7
    by_cases c8 : (ji6) < ((rd_L2 l0_0 a1_0).length : Int)
    ·rw [if_pos c8] at H
     have c8b0 : decide ((ji6) < ((rd_L2 l0_0 a1_0).length : Int)) = true := decide_eq_true c8
     clear c8
     obtain rfl := Option.some.inj H
     go_enter Try.func84, Try.ntmps84
     go_wp2_with (first | ((with_reducible refine gate_dst (N := 3) rfl ?_); refine box_event ?hg (N := 3) ?hd (cs := #[.slice A0_0 l0_0.length c0_0]) (t := 32) ?hr ?_; (case hd => rfl); (case hg => rfl); (case hr => first | (go_simp; done) | (go_simp; rfl)); intro gb274 hg w9 hbox hb; have BK274 := Aside0.mk (hbox); have GW274 := zge HB hg; have GE274 := zge HB hg; replace HB := zhs HB hb; clear hb hbox hg) | ((with_reducible refine gate_dst (N := 4) rfl ?_); refine box_event ?hg (N := 4) ?hd (cs := #[.int .i64 a1_0, .int .i64 a1_1, .int .i64 a1_2, .int .i64 a1_3]) (t := 54) ?hr ?_; (case hd => rfl); (case hg => rfl); (case hr => first | (go_simp; done) | (go_simp; rfl)); intro gb275 hg w10 hbox hb; have BK275 := Aside0.mk (hbox); have GW275 := zge HB hg; have GE275 := zge HB hg; have NB274_275 := znl BK274 hg; have NB275_274 := znr BK274 hg; replace BK274 := zb0 BK274 hb; replace HB := zhs HB hb; clear hb hbox hg; have hnb11 := NB274_275.out; have hnc11 := NB275_274.out; have hcz12_0 := zc0 BK274 0 rfl; have hfz12_0 := blk_frozen BK274.out 0; have hcz13_0 := zc0 BK275 0 rfl; have hcz13_1 := zc0 BK275 1 rfl; have hcz13_2 := zc0 BK275 2 rfl; have hcz13_3 := zc0 BK275 3 rfl; have hfz13_0 := blk_frozen BK275.out 0; have hfz13_1 := blk_frozen BK275.out 1; have hfz13_2 := blk_frozen BK275.out 2; have hfz13_3 := blk_frozen BK275.out 3; have p276 : 0 ≤ (a1_0 : Int) := of_decide_eq_true (by first | (with_reducible assumption) | assumption); have q276 : a1_0 < (l0_0.length : Int) := of_decide_eq_true (by first | (with_reducible assumption) | assumption); obtain ⟨ad276, A276_0, c276_0, e276, hx276_0, hl276_0, hi276_0⟩ := at_L2 HR0_0.out a1_0 p276 q276; cases e276; replace hx276_0 := (HB.out.cell (World.block_lt_of_cell? w _ hx276_0)).trans hx276_0; have HR276_0 := Aside0.mk hi276_0; have HC276_0 := Aside0.mk hl276_0; clear hi276_0 hl276_0; replace p276 := eq_true p276; replace q276 := eq_true q276; have p277 : 0 ≤ ((ji6) : Int) := of_decide_eq_true (by first | (with_reducible assumption) | assumption); have q277 : (ji6) < ((rd_L2 l0_0 a1_0).length : Int) := of_decide_eq_true (by first | (with_reducible assumption) | assumption); obtain ⟨ad277, e277, hx277_0⟩ := Kd.at_int HR276_0.out (ji6) p277 q277; cases e277; replace hx277_0 := (HB.out.cell (World.block_lt_of_cell? w _ hx277_0)).trans hx277_0; replace p277 := eq_true p277; replace q277 := eq_true q277))
     repeat (go_quiet (first | ((with_reducible refine gate_dst (N := 3) rfl ?_); refine box_event ?hg (N := 3) ?hd (cs := #[.slice A0_0 l0_0.length c0_0]) (t := 32) ?hr ?_; (case hd => rfl); (case hg => rfl); (case hr => first | (go_simp; done) | (go_simp; rfl)); intro gb274 hg w9 hbox hb; have BK274 := Aside0.mk (hbox); have GW274 := zge HB hg; have GE274 := zge HB hg; replace HB := zhs HB hb; clear hb hbox hg) | ((with_reducible refine gate_dst (N := 4) rfl ?_); refine box_event ?hg (N := 4) ?hd (cs := #[.int .i64 a1_0, .int .i64 a1_1, .int .i64 a1_2, .int .i64 a1_3]) (t := 54) ?hr ?_; (case hd => rfl); (case hg => rfl); (case hr => first | (go_simp; done) | (go_simp; rfl)); intro gb275 hg w10 hbox hb; have BK275 := Aside0.mk (hbox); have GW275 := zge HB hg; have GE275 := zge HB hg; have NB274_275 := znl BK274 hg; have NB275_274 := znr BK274 hg; replace BK274 := zb0 BK274 hb; replace HB := zhs HB hb; clear hb hbox hg; have hnb11 := NB274_275.out; have hnc11 := NB275_274.out; have hcz12_0 := zc0 BK274 0 rfl; have hfz12_0 := blk_frozen BK274.out 0; have hcz13_0 := zc0 BK275 0 rfl; have hcz13_1 := zc0 BK275 1 rfl; have hcz13_2 := zc0 BK275 2 rfl; have hcz13_3 := zc0 BK275 3 rfl; have hfz13_0 := blk_frozen BK275.out 0; have hfz13_1 := blk_frozen BK275.out 1; have hfz13_2 := blk_frozen BK275.out 2; have hfz13_3 := blk_frozen BK275.out 3; have p276 : 0 ≤ (a1_0 : Int) := of_decide_eq_true (by first | (with_reducible assumption) | assumption); have q276 : a1_0 < (l0_0.length : Int) := of_decide_eq_true (by first | (with_reducible assumption) | assumption); obtain ⟨ad276, A276_0, c276_0, e276, hx276_0, hl276_0, hi276_0⟩ := at_L2 HR0_0.out a1_0 p276 q276; cases e276; replace hx276_0 := (HB.out.cell (World.block_lt_of_cell? w _ hx276_0)).trans hx276_0; have HR276_0 := Aside0.mk hi276_0; have HC276_0 := Aside0.mk hl276_0; clear hi276_0 hl276_0; replace p276 := eq_true p276; replace q276 := eq_true q276; have p277 : 0 ≤ ((ji6) : Int) := of_decide_eq_true (by first | (with_reducible assumption) | assumption); have q277 : (ji6) < ((rd_L2 l0_0 a1_0).length : Int) := of_decide_eq_true (by first | (with_reducible assumption) | assumption); obtain ⟨ad277, e277, hx277_0⟩ := Kd.at_int HR276_0.out (ji6) p277 q277; cases e277; replace hx277_0 := (HB.out.cell (World.block_lt_of_cell? w _ hx277_0)).trans hx277_0; replace p277 := eq_true p277; replace q277 := eq_true q277)); try go_wp2_with (first | ((with_reducible refine gate_dst (N := 3) rfl ?_); refine box_event ?hg (N := 3) ?hd (cs := #[.slice A0_0 l0_0.length c0_0]) (t := 32) ?hr ?_; (case hd => rfl); (case hg => rfl); (case hr => first | (go_simp; done) | (go_simp; rfl)); intro gb274 hg w9 hbox hb; have BK274 := Aside0.mk (hbox); have GW274 := zge HB hg; have GE274 := zge HB hg; replace HB := zhs HB hb; clear hb hbox hg) | ((with_reducible refine gate_dst (N := 4) rfl ?_); refine box_event ?hg (N := 4) ?hd (cs := #[.int .i64 a1_0, .int .i64 a1_1, .int .i64 a1_2, .int .i64 a1_3]) (t := 54) ?hr ?_; (case hd => rfl); (case hg => rfl); (case hr => first | (go_simp; done) | (go_simp; rfl)); intro gb275 hg w10 hbox hb; have BK275 := Aside0.mk (hbox); have GW275 := zge HB hg; have GE275 := zge HB hg; have NB274_275 := znl BK274 hg; have NB275_274 := znr BK274 hg; replace BK274 := zb0 BK274 hb; replace HB := zhs HB hb; clear hb hbox hg; have hnb11 := NB274_275.out; have hnc11 := NB275_274.out; have hcz12_0 := zc0 BK274 0 rfl; have hfz12_0 := blk_frozen BK274.out 0; have hcz13_0 := zc0 BK275 0 rfl; have hcz13_1 := zc0 BK275 1 rfl; have hcz13_2 := zc0 BK275 2 rfl; have hcz13_3 := zc0 BK275 3 rfl; have hfz13_0 := blk_frozen BK275.out 0; have hfz13_1 := blk_frozen BK275.out 1; have hfz13_2 := blk_frozen BK275.out 2; have hfz13_3 := blk_frozen BK275.out 3; have p276 : 0 ≤ (a1_0 : Int) := of_decide_eq_true (by first | (with_reducible assumption) | assumption); have q276 : a1_0 < (l0_0.length : Int) := of_decide_eq_true (by first | (with_reducible assumption) | assumption); obtain ⟨ad276, A276_0, c276_0, e276, hx276_0, hl276_0, hi276_0⟩ := at_L2 HR0_0.out a1_0 p276 q276; cases e276; replace hx276_0 := (HB.out.cell (World.block_lt_of_cell? w _ hx276_0)).trans hx276_0; have HR276_0 := Aside0.mk hi276_0; have HC276_0 := Aside0.mk hl276_0; clear hi276_0 hl276_0; replace p276 := eq_true p276; replace q276 := eq_true q276; have p277 : 0 ≤ ((ji6) : Int) := of_decide_eq_true (by first | (with_reducible assumption) | assumption); have q277 : (ji6) < ((rd_L2 l0_0 a1_0).length : Int) := of_decide_eq_true (by first | (with_reducible assumption) | assumption); obtain ⟨ad277, e277, hx277_0⟩ := Kd.at_int HR276_0.out (ji6) p277 q277; cases e277; replace hx277_0 := (HB.out.cell (World.block_lt_of_cell? w _ hx277_0)).trans hx277_0; replace p277 := eq_true p277; replace q277 := eq_true q277)))
     go_ret
     exact ⟨by first | rfl | (simp [errW_none, errW_some] <;> rfl) | (simp only [← hji6]; first | rfl | (simp [errW_none, errW_some] <;> rfl)) | (simp [*, errW_none, errW_some] <;> rfl), by repeat (first | exact zh0 HB | refine below_set ?_ GE274.out | refine below_set ?_ GE275.out)⟩
    ·rw [if_neg c8] at H
     exact absurd H (by simp)
   ·rw [if_neg c7] at H
    exact absurd H (by simp)
  ·rw [if_neg c5] at H
   exact absurd H (by simp)
 ·rw [if_neg c4] at H
  exact absurd H (by simp)

/-! ### spec_l9Key: function 62 (by hand) -/
def spec_l9Key.f (l0_0 : List (List Int)) (a1_0 : Int) (a1_1 : Int) (a1_2 : Int) (a1_3 : Int) (a2 : Int) : Option (List Int) := if 0 ≤ a2 ∧ a2 ≤ 4611686018427387904 then Ky.keyO (fun j => spec_l2At.f l0_0 a1_0 a1_1 a1_2 a1_3 (a2 + (j : Int))) 16 else none
set_option maxHeartbeats 4000000 in
set_option maxRecDepth 100000 in
theorem spec_l9Key.calls (A0_0 : Option Addr) (c0_0 : Nat) (l0_0 : List (List Int)) (a1_0 : Int) (a1_1 : Int) (a1_2 : Int) (a1_3 : Int) (a2 : Int) (r : List Int) (w : World) (hr0_0 : Kd.C (Kd.slice 5 (Kd.int .u8)) w A0_0 l0_0.length l0_0) (hc0_0 : l0_0.length ≤ c0_0) (h : spec_l9Key.f l0_0 a1_0 a1_1 a1_2 a1_3 a2 = some r) :
    Calls Try.prog 62 #[.agg #[.slice A0_0 l0_0.length c0_0], .agg #[.int .i64 a1_0, .int .i64 a1_1, .int .i64 a1_2, .int .i64 a1_3], .int .i64 a2] w fun e w' => e = .returned (.agg (Ky.bs r)) ∧ Below w.heap.size w w' ∧ Ky.Key r := by
  have HR0_0 := Lib.hid hr0_0
  have HC0_0 := Lib.hid hc0_0
  clear hr0_0 hc0_0
  obtain ⟨W0, hW⟩ : ∃ W, W = (((w.alloc (.cells #[.slice A0_0 l0_0.length c0_0] 32)).alloc (.cells #[.int .i64 a1_0, .int .i64 a1_1, .int .i64 a1_2, .int .i64 a1_3] 54)).alloc (.cells (Ky.bs (List.replicate 16 0)) 26)) := ⟨_, rfl⟩
  have HI : Hid (Lv.Inv w W0 [Lv.boxF (w.heap.size + 2) (Ky.bs (List.replicate 16 0)) 26, Lv.boxF (w.heap.size + 1) #[.int .i64 a1_0, .int .i64 a1_1, .int .i64 a1_2, .int .i64 a1_3] 54, Lv.boxF (w.heap.size) #[.slice A0_0 l0_0.length c0_0] 32]) := by
    subst hW
    have := ((((Lv.Inv.refl w).box #[.slice A0_0 l0_0.length c0_0] 32).box #[.int .i64 a1_0, .int .i64 a1_1, .int .i64 a1_2, .int .i64 a1_3] 54).box (Ky.bs (List.replicate 16 0)) 26)
    exact Lib.hid (by simpa using this)
  unfold spec_l9Key.f at h
  obtain ⟨⟨hb0, hb1⟩, h⟩ := Ky.of_condO h
  have HS := Lib.hid (Ky.keyO_spec h)
  have HB := Lib.hid (And.intro hb0 hb1)
  clear h hb0 hb1
  go_enter Try.func62, Try.ntmps62
  go_upto_region 1 with (fail)
  rw [Ky.bs_zero, ← hW]
  clear hW
  refine Fl.startL [.take 0, .one 1, .one 2] (by decide) HI.out ?_
  refine Fl.take (some 9) (v := .agg (Ky.bs (List.replicate 16 0))) rfl rfl (Or.inl ⟨by rfl, fun _ _ => by go_simp; rfl⟩) ?_
  simp only [Act.put, Fl.z1, Fl.z2, Fl.z3]
  refine Fl.var (N := 7) (cs := #[.int .u8 0, .int .u8 0, .int .u8 0, .int .u8 0, .int .u8 0, .int .u8 0, .int .u8 0, .int .u8 0, .int .u8 0, .int .u8 0, .int .u8 0, .int .u8 0, .int .u8 0, .int .u8 0, .int .u8 0, .int .u8 0]) (t := 26) ⟨_, rfl, rfl, fun _ => rfl, fun e w => by go_simp⟩ (fun b => ?_)
  simp only [Act.put, Fl.z1, Fl.z2, Fl.z3]
  refine Fl.store 0 (Ky.bs (List.replicate 16 0)) rfl rfl rfl rfl _ _ _ rfl rfl rfl (by rfl) (Ky.size_key Ky.key0 Ky.key0) (Ky.hKk Ky.key0) (Ky.bs_one _) ?_
  refine Fl.stop (fun W hi => ?_)
  replace HI := Lib.hid hi
  clear hi
  go_upto_region 2 with (fail)
  go_wp2
  go_loopg [8] 16 (fun gg s8 wr => ∃ (k : Nat) (l : List Int), s8 = .int .i64 k ∧ Hid (k ≤ 16 ∧ 16 - k ≤ gg) ∧ Hid (Lv.Inv w wr [Lv.boxF b (Ky.bs l) 26, Lv.boxF (w.heap.size + 2) (Ky.bs (List.replicate 16 0)) 26, Lv.boxF (w.heap.size + 1) #[.int .i64 a1_0, .int .i64 a1_1, .int .i64 a1_2, .int .i64 a1_3] 54, Lv.boxF (w.heap.size) #[.slice A0_0 l0_0.length c0_0] 32]) ∧ Hid (l.length = 16 ∧ l.take k = r.take k))
  case atStart => exact ⟨0, _, rfl, Lib.hid (by omega), HI, Lib.hid ⟨rfl, rfl⟩⟩
  case round =>
    clear HI
    obtain ⟨k, l, rfl, HK, HI, HL⟩ := hrel
    by_cases hlt : k < 16
    · obtain ⟨x, hx, hg⟩ := HS.out.2 k hlt
      have HX := Lib.hid hx
      have HG := Lib.hid hg
      clear hx hg
      obtain ⟨y, hy⟩ : ∃ y, l[k]? = some y := ⟨_, List.getElem?_eq_getElem (by have := HL.out.1; omega)⟩
      have c0 := HI.out.cell 3 rfl 0 rfl
      have c1 := HI.out.cell 2 rfl 0 rfl
      have c2 := HI.out.cell 2 rfl 1 rfl
      have c3 := HI.out.cell 2 rfl 2 rfl
      have c4 := HI.out.cell 2 rfl 3 rfl
      have HY := Lib.hid hy
      clear hy
      have k0 : (0 : Int) ≤ (k : Int) := by omega
      have k1 : (k : Int) < 16 := by omega
      have e1 : IntKind.i64.wrap (a2 + (k : Int)) = a2 + (k : Int) := by rw [IntKind.wrap_i64]; have := HB.out; omega
      go_wp2_with (go_at_call 84; refine (spec_l2At.calls _ _ l0_0 a1_0 a1_1 a1_2 a1_3 (a2 + (k : Int)) x _ (Kd.C_below HR0_0.out HI.out.bel) HC0_0.out HG.out).mono ?_; rintro e w1 ⟨rfl, hb1⟩; replace HI := Lib.hid (HI.out.below hb1); clear hb1 c0 c1 c2 c3 c4; have cy := HI.out.cell 0 rfl k (Ky.bs_get HY.out); have fy := HI.out.free 0 rfl k)
      go_roundg (16 - (k + 1))
      case measure => have := HK.out; omega
      case rel =>
        refine ⟨k + 1, l.set k x, by go_num, Lib.hid (by have := HK.out; omega), Lib.hid (by have := HI.out.set 0 rfl k (.int .u8 x); rw [Ky.bs_set] at this; exact this), Lib.hid ⟨by rw [List.length_set]; exact HL.out.1, ?_⟩⟩
        rw [List.take_add_one, List.take_add_one, HX.out, List.getElem?_set_self (by have := HL.out.1; omega), List.take_set_of_le (Nat.le_refl _), HL.out.2]
    · have HE : Hid (l = r) := Lib.hid (by
        have h := HL.out.2
        rwa [List.take_of_length_le (by have := HL.out.1; omega), List.take_of_length_le (by have := HS.out.1; omega)] at h)
      have c0 : decide ((k : Int) < 16) = false := decide_eq_false (by omega)
      obtain rfl := HE.out
      have HKL : Hid (Ky.Key l) := Lib.hid HL.out.1
      clear hlt HE HL HK
      go_upto_region 6 with (fail)
      replace HI := Lib.hid (Fl.inv_sel HI.out [0, 1, 2, 3] (by decide))
      refine Fl.startW [.one 0, .one 1] (by decide) HI.out ?_
      refine Fl.ldF (some 22) 0 rfl rfl rfl (by rfl) _ _ rfl rfl Try.underlying26 rfl (Ky.hKk HKL.out) ?_
      simp only [Act.put, Fl.z1, Fl.z2, Fl.z3]
      refine Fl.store 1 (Ky.bs l) rfl rfl rfl rfl _ _ _ rfl rfl rfl (by rfl) (Ky.size_key HKL.out Ky.key0) (Ky.hKk HKL.out) (Ky.bs_one _) ?_
      refine Fl.stopW (fun W hi => ?_)
      replace HI := Lib.hid hi
      clear hi
      go_wp2
      exact bodyPost_ret (v := .agg (Ky.bs l)) (results_cell_row rfl _ _ (w.heap.size + 2) 26 (Ky.bs l) (0, 0) _ rfl (HI.out.blk 1 rfl) Try.underlying26 rfl (Ky.hKk HKL.out)) rfl ⟨rfl, HI.out.bel, HKL.out⟩

/-! ### spec_KeyAt: function 30 (by hand) -/
def spec_KeyAt.f (k : Nat) (l0_0 : List (List Int)) (a1_0 : Int) (a1_1 : Int) (a1_2 : Int) (a1_3 : Int) (a2 : Int) : Option (List Int × Bool) := (spec_l9Has.f k l0_0 a1_0 a1_1 a1_2 a1_3 a2).bind fun y0_0 => if y0_0 = true then (spec_l9Key.f l0_0 a1_0 a1_1 a1_2 a1_3 a2).bind fun y1_0 => some (y1_0, true) else some ((List.replicate 16 0), false)
theorem spec_KeyAt.mono : ∀ x0 x1 x2 x3 x4 x5 k, LeO (spec_KeyAt.f k x0 x1 x2 x3 x4 x5) (spec_KeyAt.f (k + 1) x0 x1 x2 x3 x4 x5) := by
  intro x0 x1 x2 x3 x4 x5 k
  unfold spec_KeyAt.f
  exact LeO.bind (by apply spec_l9Has.mono) (fun _ => LeO.ite (LeO.bind (LeO.refl _) (fun _ => LeO.refl _)) (LeO.refl _))
set_option maxHeartbeats 4000000 in
set_option maxRecDepth 100000 in
theorem spec_KeyAt.calls (k : Nat) (A0_0 : Option Addr) (c0_0 : Nat) (l0_0 : List (List Int)) (a1_0 : Int) (a1_1 : Int) (a1_2 : Int) (a1_3 : Int) (a2 : Int) (r1 : List Int) (r2 : Bool) (w : World) (hr0_0 : Kd.C (Kd.slice 5 (Kd.int .u8)) w A0_0 l0_0.length l0_0) (hc0_0 : l0_0.length ≤ c0_0) (h : spec_KeyAt.f k l0_0 a1_0 a1_1 a1_2 a1_3 a2 = some (r1, r2)) :
    Calls Try.prog 30 #[.agg #[.slice A0_0 l0_0.length c0_0], .agg #[.int .i64 a1_0, .int .i64 a1_1, .int .i64 a1_2, .int .i64 a1_3], .int .i64 a2] w fun e w' => e = .returned (.tuple #[.agg (Ky.bs r1), .bool r2]) ∧ Below w.heap.size w w' ∧ Ky.Key r1 := by
  have HR0_0 := Lib.hid hr0_0
  have HC0_0 := Lib.hid hc0_0
  clear hr0_0 hc0_0
  obtain ⟨W0, hW⟩ : ∃ W, W = (((w.alloc (.cells #[.slice A0_0 l0_0.length c0_0] 32)).alloc (.cells #[.int .i64 a1_0, .int .i64 a1_1, .int .i64 a1_2, .int .i64 a1_3] 54)).alloc (.cells (Ky.bs (List.replicate 16 0)) 26)) := ⟨_, rfl⟩
  have HI : Hid (Lv.Inv w W0 [Lv.boxF (w.heap.size + 2) (Ky.bs (List.replicate 16 0)) 26, Lv.boxF (w.heap.size + 1) #[.int .i64 a1_0, .int .i64 a1_1, .int .i64 a1_2, .int .i64 a1_3] 54, Lv.boxF (w.heap.size) #[.slice A0_0 l0_0.length c0_0] 32]) := by
    subst hW
    have := ((((Lv.Inv.refl w).box #[.slice A0_0 l0_0.length c0_0] 32).box #[.int .i64 a1_0, .int .i64 a1_1, .int .i64 a1_2, .int .i64 a1_3] 54).box (Ky.bs (List.replicate 16 0)) 26)
    exact Lib.hid (by simpa using this)
  unfold spec_KeyAt.f at h
  replace h := Option.bind_eq_some_iff.mp h
  obtain ⟨y0_0, A0, h⟩ := h
  try dsimp only at h
  have HA0 := Lib.hid A0
  clear A0
  cases y0_0 with
  | true =>
    rw [if_pos rfl] at h
    replace h := Option.bind_eq_some_iff.mp h
    obtain ⟨y1_0, A1, h⟩ := h
    try dsimp only at h
    have HA1 := Lib.hid A1
    clear A1
    simp only [Option.some.injEq, Prod.mk.injEq] at h
    obtain ⟨rfl, rfl⟩ := h
    go_enter Try.func30, Try.ntmps30
    go_upto_region 1 with (fail)
    rw [Ky.bs_zero, ← hW]
    clear hW
    refine Fl.startL [.take 0, .take 1, .take 2, .one 3, .take 4] (by decide) HI.out ?_
    refine Fl.take (some 8) (v := .agg #[.slice A0_0 l0_0.length c0_0]) rfl rfl (Fl.ld 2 rfl (by rfl) _ _ rfl rfl Try.underlying32 rfl (by kernel_rfl)) ?_
    simp only [Act.put, Fl.z1, Fl.z2, Fl.z3]
    refine Fl.take (some 9) (v := .agg #[.int .i64 a1_0, .int .i64 a1_1, .int .i64 a1_2, .int .i64 a1_3]) rfl rfl (Fl.ld 1 rfl (by rfl) _ _ rfl rfl Try.underlying54 rfl (by kernel_rfl)) ?_
    simp only [Act.put, Fl.z1, Fl.z2, Fl.z3]
    refine Fl.take (some 10) (v := .int .i64 a2) rfl rfl (Or.inl ⟨by rfl, fun _ _ => by rfl⟩) ?_
    simp only [Act.put, Fl.z1, Fl.z2, Fl.z3]
    refine Fl.call (some 11) Try.func61 (by kernel_rfl) rfl #[.agg #[.slice A0_0 l0_0.length c0_0], .agg #[.int .i64 a1_0, .int .i64 a1_1, .int .i64 a1_2, .int .i64 a1_3], .int .i64 a2] rfl rfl rfl (by rfl) rfl (fun E W hE hi => ?_)
    refine (spec_l9Has.calls k _ _ l0_0 a1_0 a1_1 a1_2 a1_3 a2 true W (Kd.C_below HR0_0.out hi.bel) HC0_0.out HA0.out).mono ?_
    rintro e W' ⟨rfl, hb⟩
    refine Fl.keep hi hb ?_
    clear hi hb hE
    simp only [Act.put, Fl.z1, Fl.z2, Fl.z3]
    refine Fl.take (some 12) (v := .bool false) rfl rfl (Or.inl ⟨by rfl, fun _ _ => by rfl⟩) ?_
    simp only [Act.put, Fl.z1, Fl.z2, Fl.z3]
    refine Fl.stop (fun W hi => ?_)
    replace HI := Lib.hid hi
    clear hi
    go_upto_region 3 with (fail)
    refine Fl.startW [.one 0, .one 1, .take 2, .one 3, .one 4, .take 5] (by decide) HI.out ?_
    refine Fl.ldF (some 14) 2 rfl rfl rfl (by rfl) _ _ rfl rfl Try.underlying32 rfl (by kernel_rfl) ?_
    simp only [Act.put, Fl.z1, Fl.z2, Fl.z3]
    refine Fl.ldF (some 15) 1 rfl rfl rfl (by rfl) _ _ rfl rfl Try.underlying54 rfl (by kernel_rfl) ?_
    simp only [Act.put, Fl.z1, Fl.z2, Fl.z3]
    refine Fl.take (some 16) (v := .int .i64 a2) rfl rfl (Or.inl ⟨by rfl, fun _ _ => by rfl⟩) ?_
    simp only [Act.put, Fl.z1, Fl.z2, Fl.z3]
    refine Fl.call (some 17) Try.func62 (by kernel_rfl) rfl #[.agg #[.slice A0_0 l0_0.length c0_0], .agg #[.int .i64 a1_0, .int .i64 a1_1, .int .i64 a1_2, .int .i64 a1_3], .int .i64 a2] rfl rfl rfl (by rfl) rfl (fun E W hE hi => ?_)
    refine (spec_l9Key.calls _ _ l0_0 a1_0 a1_1 a1_2 a1_3 a2 y1_0 W (Kd.C_below HR0_0.out hi.bel) HC0_0.out HA1.out).mono ?_
    rintro e W' ⟨rfl, hb, hky1_0⟩
    have HKy1_0 := Lib.hid hky1_0
    clear hky1_0
    refine Fl.keep hi hb ?_
    clear hi hb hE
    simp only [Act.put, Fl.z1, Fl.z2, Fl.z3]
    refine Fl.store 0 (Ky.bs y1_0) rfl rfl rfl rfl _ _ _ rfl rfl rfl (by rfl) (Ky.size_key HKy1_0.out Ky.key0) (Ky.hKk HKy1_0.out) (Ky.bs_one _) ?_
    refine Fl.take (some 7) (v := .bool true) rfl rfl (Or.inl ⟨by rfl, fun _ _ => by rfl⟩) ?_
    simp only [Act.put, Fl.z1, Fl.z2, Fl.z3]
    refine Fl.stopW (fun W hi => ?_)
    replace HI := Lib.hid hi
    clear hi
    go_wp2
    exact bodyPost_ret (v := .tuple #[.agg (Ky.bs y1_0), .bool true]) (results_list (rs := [.cell 6 26, .tmp 7]) rfl (by simp) (.cell _ _ _ (0, 0) _ rfl (HI.out.blk 0 rfl) Try.underlying26 rfl (Ky.hKk HKy1_0.out) (.tmp .nil))) rfl ⟨rfl, HI.out.bel, HKy1_0.out⟩
  | false =>
    rw [if_neg (by decide)] at h
    simp only [Option.some.injEq, Prod.mk.injEq] at h
    obtain ⟨rfl, rfl⟩ := h
    go_enter Try.func30, Try.ntmps30
    go_upto_region 1 with (fail)
    rw [Ky.bs_zero, ← hW]
    clear hW
    refine Fl.startL [.take 0, .take 1, .take 2, .one 3, .take 4] (by decide) HI.out ?_
    refine Fl.take (some 8) (v := .agg #[.slice A0_0 l0_0.length c0_0]) rfl rfl (Fl.ld 2 rfl (by rfl) _ _ rfl rfl Try.underlying32 rfl (by kernel_rfl)) ?_
    simp only [Act.put, Fl.z1, Fl.z2, Fl.z3]
    refine Fl.take (some 9) (v := .agg #[.int .i64 a1_0, .int .i64 a1_1, .int .i64 a1_2, .int .i64 a1_3]) rfl rfl (Fl.ld 1 rfl (by rfl) _ _ rfl rfl Try.underlying54 rfl (by kernel_rfl)) ?_
    simp only [Act.put, Fl.z1, Fl.z2, Fl.z3]
    refine Fl.take (some 10) (v := .int .i64 a2) rfl rfl (Or.inl ⟨by rfl, fun _ _ => by rfl⟩) ?_
    simp only [Act.put, Fl.z1, Fl.z2, Fl.z3]
    refine Fl.call (some 11) Try.func61 (by kernel_rfl) rfl #[.agg #[.slice A0_0 l0_0.length c0_0], .agg #[.int .i64 a1_0, .int .i64 a1_1, .int .i64 a1_2, .int .i64 a1_3], .int .i64 a2] rfl rfl rfl (by rfl) rfl (fun E W hE hi => ?_)
    refine (spec_l9Has.calls k _ _ l0_0 a1_0 a1_1 a1_2 a1_3 a2 false W (Kd.C_below HR0_0.out hi.bel) HC0_0.out HA0.out).mono ?_
    rintro e W' ⟨rfl, hb⟩
    refine Fl.keep hi hb ?_
    clear hi hb hE
    simp only [Act.put, Fl.z1, Fl.z2, Fl.z3]
    refine Fl.take (some 12) (v := .bool true) rfl rfl (Or.inl ⟨by rfl, fun _ _ => by rfl⟩) ?_
    simp only [Act.put, Fl.z1, Fl.z2, Fl.z3]
    refine Fl.stop (fun W hi => ?_)
    replace HI := Lib.hid hi
    clear hi
    go_upto_region 2 with (fail)
    refine Fl.startW [.take 0, .one 1, .take 2] (by decide) HI.out ?_
    refine Fl.take (some 13) (v := .agg (Ky.bs (List.replicate 16 0))) rfl rfl (Or.inl ⟨by rfl, fun _ _ => by go_simp; rfl⟩) ?_
    simp only [Act.put, Fl.z1, Fl.z2, Fl.z3]
    refine Fl.store 0 (Ky.bs (List.replicate 16 0)) rfl rfl rfl rfl _ _ _ rfl rfl rfl (by rfl) (Ky.size_key Ky.key0 Ky.key0) (Ky.hKk Ky.key0) (Ky.bs_one _) ?_
    refine Fl.take (some 7) (v := .bool false) rfl rfl (Or.inl ⟨by rfl, fun _ _ => by rfl⟩) ?_
    simp only [Act.put, Fl.z1, Fl.z2, Fl.z3]
    refine Fl.stopW (fun W hi => ?_)
    replace HI := Lib.hid hi
    clear hi
    go_wp2
    exact bodyPost_ret (v := .tuple #[.agg (Ky.bs (List.replicate 16 0)), .bool false]) (results_list (rs := [.cell 6 26, .tmp 7]) rfl (by simp) (.cell _ _ _ (0, 0) _ rfl (HI.out.blk 0 rfl) Try.underlying26 rfl (Ky.hKk Ky.key0) (.tmp .nil))) rfl ⟨rfl, HI.out.bel, Ky.key0⟩

/-! ### spec_LessKey: function 31 (by hand) -/
def spec_LessKey.f (a0 : List Int) (a1 : List Int) : Option Bool := some (Ky.lessF a0 a1)
theorem spec_LessKey.calls (a0 : List Int) (a1 : List Int) (r : Bool) (w : World) (hk0 : Ky.Key a0) (hk1 : Ky.Key a1) (h : spec_LessKey.f a0 a1 = some r) :
    Calls Try.prog 31 #[.agg (Ky.bs a0), .agg (Ky.bs a1)] w fun e w' => e = .returned (.bool r) ∧ Below w.heap.size w w' := by
  obtain rfl := Option.some.inj h
  exact Ky.specLess a0 a1 hk0 hk1 w

/-! ### spec_CommonBits: function 32 (by hand) -/
def spec_CommonBits.f (a0 : List Int) (a1 : List Int) : Option Int := if (∀ x ∈ a0, 0 ≤ x ∧ x ≤ 255) ∧ (∀ x ∈ a1, 0 ≤ x ∧ x ≤ 255) then some (((Ky.commonF a0 a1 : Nat) : Int)) else none
theorem spec_CommonBits.calls (a0 : List Int) (a1 : List Int) (r : Int) (w : World) (hk0 : Ky.Key a0) (hk1 : Ky.Key a1) (h : spec_CommonBits.f a0 a1 = some r) :
    Calls Try.prog 32 #[.agg (Ky.bs a0), .agg (Ky.bs a1)] w fun e w' => e = .returned (.int .i64 r) ∧ Below w.heap.size w w' := by
  obtain ⟨hc, rfl⟩ := Ky.of_cond h
  exact Ky.specCommon a0 a1 hk0 hk1 hc.1 hc.2 w

/-! ### impl_SliceThree: function 33 (by hand) -/
def impl_SliceThree.f (k : Nat) (l0_0 : List (List Int)) (a1_0 : Int) (a1_1 : Int) (a1_2 : Int) (a1_3 : Int) (a2 : Int) (a3 : Int) (a4 : Int) : Option (Int × Int × Int × Int × Bool) := (impl_areOn.f k l0_0 [(⟨a1_0, a1_1, a1_2, a1_3⟩ : S54)]).bind fun y0_0 => if y0_0 = true then (impl_within.f a4 0 a1_3).bind fun y1_0 => if y1_0 = true then (impl_within.f a3 0 a4).bind fun y2_0 => if y2_0 = true then (impl_within.f a2 0 a3).bind fun y3_0 => if y3_0 = true then some (a1_0, (wrap64 (a1_1 + a2)), (wrap64 (a3 - a2)), (wrap64 (a4 - a2)), true) else some (0, 0, 0, 0, false) else some (0, 0, 0, 0, false) else some (0, 0, 0, 0, false) else some (0, 0, 0, 0, false)
theorem impl_SliceThree.mono : ∀ x0 x1 x2 x3 x4 x5 x6 x7 k, LeO (impl_SliceThree.f k x0 x1 x2 x3 x4 x5 x6 x7) (impl_SliceThree.f (k + 1) x0 x1 x2 x3 x4 x5 x6 x7) := by
  intro x0 x1 x2 x3 x4 x5 x6 x7 k
  unfold impl_SliceThree.f
  exact LeO.bind (by apply impl_areOn.mono) (fun _ => LeO.ite (LeO.bind (LeO.refl _) (fun _ => LeO.ite (LeO.bind (LeO.refl _) (fun _ => LeO.ite (LeO.bind (LeO.refl _) (fun _ => LeO.ite (LeO.refl _) (LeO.refl _))) (LeO.refl _))) (LeO.refl _))) (LeO.refl _))
set_option maxHeartbeats 4000000 in
set_option maxRecDepth 100000 in
theorem impl_SliceThree.calls (k : Nat) (A0_0 : Option Addr) (c0_0 : Nat) (l0_0 : List (List Int)) (a1_0 : Int) (a1_1 : Int) (a1_2 : Int) (a1_3 : Int) (a2 : Int) (a3 : Int) (a4 : Int) (r1 : Int) (r2 : Int) (r3 : Int) (r4 : Int) (r5 : Bool) (w : World) (hr0_0 : Kd.C (Kd.slice 5 (Kd.int .u8)) w A0_0 l0_0.length l0_0) (hc0_0 : l0_0.length ≤ c0_0) (h : impl_SliceThree.f k l0_0 a1_0 a1_1 a1_2 a1_3 a2 a3 a4 = some (r1, r2, r3, r4, r5)) :
    Calls Try.prog 33 #[.agg #[.slice A0_0 l0_0.length c0_0], .agg #[.int .i64 a1_0, .int .i64 a1_1, .int .i64 a1_2, .int .i64 a1_3], .int .i64 a2, .int .i64 a3, .int .i64 a4] w fun e w' => e = .returned (.tuple #[.agg #[.int .i64 r1, .int .i64 r2, .int .i64 r3, .int .i64 r4], .bool r5]) ∧ Below w.heap.size w w' := by
  have HR0_0 := Lib.hid hr0_0
  have HC0_0 := Lib.hid hc0_0
  clear hr0_0 hc0_0
  obtain ⟨W0, hW⟩ : ∃ W, W = (((w.alloc (.cells #[.slice A0_0 l0_0.length c0_0] 32)).alloc (.cells #[.int .i64 a1_0, .int .i64 a1_1, .int .i64 a1_2, .int .i64 a1_3] 54)).alloc (.cells #[.int .i64 0, .int .i64 0, .int .i64 0, .int .i64 0] 54)) := ⟨_, rfl⟩
  have HI : Hid (Lv.Inv w W0 [Lv.boxF (w.heap.size + 2) #[.int .i64 0, .int .i64 0, .int .i64 0, .int .i64 0] 54, Lv.boxF (w.heap.size + 1) #[.int .i64 a1_0, .int .i64 a1_1, .int .i64 a1_2, .int .i64 a1_3] 54, Lv.boxF (w.heap.size) #[.slice A0_0 l0_0.length c0_0] 32]) := by
    subst hW
    have := ((((Lv.Inv.refl w).box #[.slice A0_0 l0_0.length c0_0] 32).box #[.int .i64 a1_0, .int .i64 a1_1, .int .i64 a1_2, .int .i64 a1_3] 54).box #[.int .i64 0, .int .i64 0, .int .i64 0, .int .i64 0] 54)
    exact Lib.hid (by simpa using this)
  unfold impl_SliceThree.f at h
  replace h := Option.bind_eq_some_iff.mp h
  obtain ⟨y0_0, A0, h⟩ := h
  try dsimp only at h
  have HA0 := Lib.hid A0
  clear A0
  cases y0_0 with
  | true =>
    rw [if_pos rfl] at h
    replace h := Option.bind_eq_some_iff.mp h
    obtain ⟨y1_0, A1, h⟩ := h
    try dsimp only at h
    have HA1 := Lib.hid A1
    clear A1
    cases y1_0 with
    | true =>
      rw [if_pos rfl] at h
      replace h := Option.bind_eq_some_iff.mp h
      obtain ⟨y2_0, A2, h⟩ := h
      try dsimp only at h
      have HA2 := Lib.hid A2
      clear A2
      cases y2_0 with
      | true =>
        rw [if_pos rfl] at h
        replace h := Option.bind_eq_some_iff.mp h
        obtain ⟨y3_0, A3, h⟩ := h
        try dsimp only at h
        have HA3 := Lib.hid A3
        clear A3
        cases y3_0 with
        | true =>
          rw [if_pos rfl] at h
          simp only [Option.some.injEq, Prod.mk.injEq] at h
          obtain ⟨rfl, rfl, rfl, rfl, rfl⟩ := h
          go_enter Try.func33, Try.ntmps33
          go_upto_region 1 with (fail)
          rw [← hW]
          clear hW
          refine Fl.startL [.take 0, .take 1, .one 2, .one 3, .take 4, .take 5, .take 6, .take 7, .take 8, .one 9, .take 10, .take 11, .take 12, .take 13, .take 14, .one 15, .take 16, .take 17, .take 18, .take 19, .take 20, .one 21, .take 22, .take 23] (by decide) HI.out ?_
          refine Fl.take (some 12) (v := .agg #[.slice A0_0 l0_0.length c0_0]) rfl rfl (Fl.ld 2 rfl (by rfl) _ _ rfl rfl Try.underlying32 rfl (by kernel_rfl)) ?_
          simp only [Act.put, Fl.z1, Fl.z2, Fl.z3]
          refine Fl.take (some 13) (v := .agg #[.int .i64 a1_0, .int .i64 a1_1, .int .i64 a1_2, .int .i64 a1_3]) rfl rfl (Fl.ld 1 rfl (by rfl) _ _ rfl rfl Try.underlying54 rfl (by kernel_rfl)) ?_
          simp only [Act.put, Fl.z1, Fl.z2, Fl.z3]
          refine Fl.lit (N := 14) (cs := #[.int .i64 a1_0, .int .i64 a1_1, .int .i64 a1_2, .int .i64 a1_3]) (t := 54) (n := 1) rfl rfl (by rfl) (fun w => by go_simp) (fun b1 => ?_)
          simp only [Act.put, Fl.z1, Fl.z2, Fl.z3]
          refine Fl.call (some 15) Try.func58 (by kernel_rfl) rfl #[.agg #[.slice A0_0 l0_0.length c0_0], .slice (some ⟨b1, 0, none⟩) 1 1] rfl rfl rfl (by rfl) rfl (fun E W hE hi => ?_)
          refine (impl_areOn.calls k _ _ l0_0 _ _ [(⟨a1_0, a1_1, a1_2, a1_3⟩ : S54)] true W (Kd.C_below HR0_0.out hi.bel) HC0_0.out (Fl.c_one (hi.blk 0 rfl) (k54_mk _ ⟨a1_0, a1_1, a1_2, a1_3⟩)) (Nat.le_refl _) HA0.out).mono ?_
          rintro e W' ⟨rfl, hb⟩
          refine Fl.keep hi hb ?_
          clear hi hb hE
          simp only [Act.put, Fl.z1, Fl.z2, Fl.z3]
          refine Fl.take (some 16) (v := .bool false) rfl rfl (Or.inl ⟨by rfl, fun _ _ => by rfl⟩) ?_
          simp only [Act.put, Fl.z1, Fl.z2, Fl.z3]
          refine Fl.take (some 17) (v := .bool false) rfl rfl (Or.inl ⟨by rfl, fun _ _ => by rfl⟩) ?_
          simp only [Act.put, Fl.z1, Fl.z2, Fl.z3]
          refine Fl.take (some 18) (v := .int .i64 a4) rfl rfl (Or.inl ⟨by rfl, fun _ _ => by rfl⟩) ?_
          simp only [Act.put, Fl.z1, Fl.z2, Fl.z3]
          refine Fl.take (some 19) (v := .pointer (some ⟨w.heap.size + 1, 3, none⟩)) rfl rfl (Or.inl ⟨by rfl, fun _ _ => by first | rfl | (go_simp; done) | (go_simp; simp only [i64_w])⟩) ?_
          simp only [Act.put, Fl.z1, Fl.z2, Fl.z3]
          refine Fl.take (some 20) (v := .int .i64 a1_3) rfl rfl (Or.inl ⟨by rfl, fun W' hW' => by have h_ := hW'.cell 1 rfl 3 rfl; go_simp⟩) ?_
          simp only [Act.put, Fl.z1, Fl.z2, Fl.z3]
          refine Fl.call (some 21) Try.func59 (by kernel_rfl) rfl #[.int .i64 a4, .int .i64 0, .int .i64 a1_3] rfl rfl rfl (by rfl) rfl (fun E W hE hi => ?_)
          refine (impl_within.calls a4 0 a1_3 true W HA1.out).mono ?_
          rintro e W' ⟨rfl, hb⟩
          refine Fl.keep hi hb.below ?_
          clear hi hb hE
          simp only [Act.put, Fl.z1, Fl.z2, Fl.z3]
          refine Fl.take (some 22) (v := .bool false) rfl rfl (Or.inl ⟨by rfl, fun _ _ => by rfl⟩) ?_
          simp only [Act.put, Fl.z1, Fl.z2, Fl.z3]
          refine Fl.take (some 23) (v := .bool false) rfl rfl (Or.inl ⟨by rfl, fun _ _ => by rfl⟩) ?_
          simp only [Act.put, Fl.z1, Fl.z2, Fl.z3]
          refine Fl.take (some 24) (v := .bool false) rfl rfl (Or.inl ⟨by rfl, fun _ _ => by rfl⟩) ?_
          simp only [Act.put, Fl.z1, Fl.z2, Fl.z3]
          refine Fl.take (some 25) (v := .int .i64 a3) rfl rfl (Or.inl ⟨by rfl, fun _ _ => by rfl⟩) ?_
          simp only [Act.put, Fl.z1, Fl.z2, Fl.z3]
          refine Fl.take (some 26) (v := .int .i64 a4) rfl rfl (Or.inl ⟨by rfl, fun _ _ => by rfl⟩) ?_
          simp only [Act.put, Fl.z1, Fl.z2, Fl.z3]
          refine Fl.call (some 27) Try.func59 (by kernel_rfl) rfl #[.int .i64 a3, .int .i64 0, .int .i64 a4] rfl rfl rfl (by rfl) rfl (fun E W hE hi => ?_)
          refine (impl_within.calls a3 0 a4 true W HA2.out).mono ?_
          rintro e W' ⟨rfl, hb⟩
          refine Fl.keep hi hb.below ?_
          clear hi hb hE
          simp only [Act.put, Fl.z1, Fl.z2, Fl.z3]
          refine Fl.take (some 28) (v := .bool false) rfl rfl (Or.inl ⟨by rfl, fun _ _ => by rfl⟩) ?_
          simp only [Act.put, Fl.z1, Fl.z2, Fl.z3]
          refine Fl.take (some 29) (v := .bool false) rfl rfl (Or.inl ⟨by rfl, fun _ _ => by rfl⟩) ?_
          simp only [Act.put, Fl.z1, Fl.z2, Fl.z3]
          refine Fl.take (some 30) (v := .bool false) rfl rfl (Or.inl ⟨by rfl, fun _ _ => by rfl⟩) ?_
          simp only [Act.put, Fl.z1, Fl.z2, Fl.z3]
          refine Fl.take (some 31) (v := .int .i64 a2) rfl rfl (Or.inl ⟨by rfl, fun _ _ => by rfl⟩) ?_
          simp only [Act.put, Fl.z1, Fl.z2, Fl.z3]
          refine Fl.take (some 32) (v := .int .i64 a3) rfl rfl (Or.inl ⟨by rfl, fun _ _ => by rfl⟩) ?_
          simp only [Act.put, Fl.z1, Fl.z2, Fl.z3]
          refine Fl.call (some 33) Try.func59 (by kernel_rfl) rfl #[.int .i64 a2, .int .i64 0, .int .i64 a3] rfl rfl rfl (by rfl) rfl (fun E W hE hi => ?_)
          refine (impl_within.calls a2 0 a3 true W HA3.out).mono ?_
          rintro e W' ⟨rfl, hb⟩
          refine Fl.keep hi hb.below ?_
          clear hi hb hE
          simp only [Act.put, Fl.z1, Fl.z2, Fl.z3]
          refine Fl.take (some 34) (v := .bool false) rfl rfl (Or.inl ⟨by rfl, fun _ _ => by rfl⟩) ?_
          simp only [Act.put, Fl.z1, Fl.z2, Fl.z3]
          refine Fl.take (some 35) (v := .bool false) rfl rfl (Or.inl ⟨by rfl, fun _ _ => by rfl⟩) ?_
          simp only [Act.put, Fl.z1, Fl.z2, Fl.z3]
          refine Fl.stop (fun W hi => ?_)
          replace HI := Lib.hid hi
          clear hi
          go_upto_region 3 with (fail)
          refine Fl.startW [.take 0, .one 1, .take 2, .one 3, .take 4, .take 5, .take 6, .take 7, .take 8, .take 9, .take 10, .take 11, .take 12, .one 13, .take 14] (by decide) HI.out ?_
          refine Fl.take (some 37) (v := .pointer (some ⟨w.heap.size + 1, 0, none⟩)) rfl rfl (Or.inl ⟨by rfl, fun _ _ => by first | rfl | (go_simp; done) | (go_simp; simp only [i64_w])⟩) ?_
          simp only [Act.put, Fl.z1, Fl.z2, Fl.z3]
          refine Fl.ldXc (some 38) 2 0 rfl rfl rfl (by rfl) _ _ rfl rfl rfl Try.underlying3 rfl ?_
          simp only [Act.put, Fl.z1, Fl.z2, Fl.z3]
          refine Fl.take (some 39) (v := .pointer (some ⟨w.heap.size + 1, 1, none⟩)) rfl rfl (Or.inl ⟨by rfl, fun _ _ => by first | rfl | (go_simp; done) | (go_simp; simp only [i64_w])⟩) ?_
          simp only [Act.put, Fl.z1, Fl.z2, Fl.z3]
          refine Fl.ldXc (some 40) 2 1 rfl rfl rfl (by rfl) _ _ rfl rfl rfl Try.underlying3 rfl ?_
          simp only [Act.put, Fl.z1, Fl.z2, Fl.z3]
          refine Fl.take (some 41) (v := .int .i64 a2) rfl rfl (Or.inl ⟨by rfl, fun _ _ => by rfl⟩) ?_
          simp only [Act.put, Fl.z1, Fl.z2, Fl.z3]
          refine Fl.take (some 42) (v := .int .i64 (wrap64 (a1_1 + a2))) rfl rfl (Or.inl ⟨by rfl, fun _ _ => by first | rfl | (go_simp; done) | (go_simp; simp only [i64_w])⟩) ?_
          simp only [Act.put, Fl.z1, Fl.z2, Fl.z3]
          refine Fl.take (some 43) (v := .int .i64 a3) rfl rfl (Or.inl ⟨by rfl, fun _ _ => by rfl⟩) ?_
          simp only [Act.put, Fl.z1, Fl.z2, Fl.z3]
          refine Fl.take (some 44) (v := .int .i64 a2) rfl rfl (Or.inl ⟨by rfl, fun _ _ => by rfl⟩) ?_
          simp only [Act.put, Fl.z1, Fl.z2, Fl.z3]
          refine Fl.take (some 45) (v := .int .i64 (wrap64 (a3 - a2))) rfl rfl (Or.inl ⟨by rfl, fun _ _ => by first | rfl | (go_simp; done) | (go_simp; simp only [i64_w])⟩) ?_
          simp only [Act.put, Fl.z1, Fl.z2, Fl.z3]
          refine Fl.take (some 46) (v := .int .i64 a4) rfl rfl (Or.inl ⟨by rfl, fun _ _ => by rfl⟩) ?_
          simp only [Act.put, Fl.z1, Fl.z2, Fl.z3]
          refine Fl.take (some 47) (v := .int .i64 a2) rfl rfl (Or.inl ⟨by rfl, fun _ _ => by rfl⟩) ?_
          simp only [Act.put, Fl.z1, Fl.z2, Fl.z3]
          refine Fl.take (some 48) (v := .int .i64 (wrap64 (a4 - a2))) rfl rfl (Or.inl ⟨by rfl, fun _ _ => by first | rfl | (go_simp; done) | (go_simp; simp only [i64_w])⟩) ?_
          simp only [Act.put, Fl.z1, Fl.z2, Fl.z3]
          refine Fl.take (some 49) (v := .agg #[.int .i64 a1_0, .int .i64 (wrap64 (a1_1 + a2)), .int .i64 (wrap64 (a3 - a2)), .int .i64 (wrap64 (a4 - a2))]) rfl rfl (Or.inl ⟨by rfl, fun _ _ => by first | rfl | (go_simp; done) | (go_simp; simp only [i64_w])⟩) ?_
          simp only [Act.put, Fl.z1, Fl.z2, Fl.z3]
          refine Fl.store 1 #[.int .i64 a1_0, .int .i64 (wrap64 (a1_1 + a2)), .int .i64 (wrap64 (a3 - a2)), .int .i64 (wrap64 (a4 - a2))] rfl rfl rfl rfl _ _ _ rfl rfl rfl (by rfl) rfl (by kernel_rfl) (by simp [Value.oneCell']) ?_
          refine Fl.take (some 11) (v := .bool true) rfl rfl (Or.inl ⟨by rfl, fun _ _ => by rfl⟩) ?_
          simp only [Act.put, Fl.z1, Fl.z2, Fl.z3]
          refine Fl.stopW (fun W hi => ?_)
          replace HI := Lib.hid hi
          clear hi
          go_wp2
          exact bodyPost_ret (v := .tuple #[.agg #[.int .i64 a1_0, .int .i64 (wrap64 (a1_1 + a2)), .int .i64 (wrap64 (a3 - a2)), .int .i64 (wrap64 (a4 - a2))], .bool true]) (results_list (rs := [.cell 10 54, .tmp 11]) rfl (by simp) (.cell _ _ _ (0, 0) _ rfl (HI.out.blk 1 rfl) Try.underlying54 rfl (by kernel_rfl) (.tmp .nil))) rfl ⟨rfl, HI.out.bel⟩
        | false =>
          rw [if_neg (by decide)] at h
          simp only [Option.some.injEq, Prod.mk.injEq] at h
          obtain ⟨rfl, rfl, rfl, rfl, rfl⟩ := h
          go_enter Try.func33, Try.ntmps33
          go_upto_region 1 with (fail)
          rw [← hW]
          clear hW
          refine Fl.startL [.take 0, .take 1, .one 2, .one 3, .take 4, .take 5, .take 6, .take 7, .take 8, .one 9, .take 10, .take 11, .take 12, .take 13, .take 14, .one 15, .take 16, .take 17, .take 18, .take 19, .take 20, .one 21, .take 22, .take 23] (by decide) HI.out ?_
          refine Fl.take (some 12) (v := .agg #[.slice A0_0 l0_0.length c0_0]) rfl rfl (Fl.ld 2 rfl (by rfl) _ _ rfl rfl Try.underlying32 rfl (by kernel_rfl)) ?_
          simp only [Act.put, Fl.z1, Fl.z2, Fl.z3]
          refine Fl.take (some 13) (v := .agg #[.int .i64 a1_0, .int .i64 a1_1, .int .i64 a1_2, .int .i64 a1_3]) rfl rfl (Fl.ld 1 rfl (by rfl) _ _ rfl rfl Try.underlying54 rfl (by kernel_rfl)) ?_
          simp only [Act.put, Fl.z1, Fl.z2, Fl.z3]
          refine Fl.lit (N := 14) (cs := #[.int .i64 a1_0, .int .i64 a1_1, .int .i64 a1_2, .int .i64 a1_3]) (t := 54) (n := 1) rfl rfl (by rfl) (fun w => by go_simp) (fun b1 => ?_)
          simp only [Act.put, Fl.z1, Fl.z2, Fl.z3]
          refine Fl.call (some 15) Try.func58 (by kernel_rfl) rfl #[.agg #[.slice A0_0 l0_0.length c0_0], .slice (some ⟨b1, 0, none⟩) 1 1] rfl rfl rfl (by rfl) rfl (fun E W hE hi => ?_)
          refine (impl_areOn.calls k _ _ l0_0 _ _ [(⟨a1_0, a1_1, a1_2, a1_3⟩ : S54)] true W (Kd.C_below HR0_0.out hi.bel) HC0_0.out (Fl.c_one (hi.blk 0 rfl) (k54_mk _ ⟨a1_0, a1_1, a1_2, a1_3⟩)) (Nat.le_refl _) HA0.out).mono ?_
          rintro e W' ⟨rfl, hb⟩
          refine Fl.keep hi hb ?_
          clear hi hb hE
          simp only [Act.put, Fl.z1, Fl.z2, Fl.z3]
          refine Fl.take (some 16) (v := .bool false) rfl rfl (Or.inl ⟨by rfl, fun _ _ => by rfl⟩) ?_
          simp only [Act.put, Fl.z1, Fl.z2, Fl.z3]
          refine Fl.take (some 17) (v := .bool false) rfl rfl (Or.inl ⟨by rfl, fun _ _ => by rfl⟩) ?_
          simp only [Act.put, Fl.z1, Fl.z2, Fl.z3]
          refine Fl.take (some 18) (v := .int .i64 a4) rfl rfl (Or.inl ⟨by rfl, fun _ _ => by rfl⟩) ?_
          simp only [Act.put, Fl.z1, Fl.z2, Fl.z3]
          refine Fl.take (some 19) (v := .pointer (some ⟨w.heap.size + 1, 3, none⟩)) rfl rfl (Or.inl ⟨by rfl, fun _ _ => by first | rfl | (go_simp; done) | (go_simp; simp only [i64_w])⟩) ?_
          simp only [Act.put, Fl.z1, Fl.z2, Fl.z3]
          refine Fl.take (some 20) (v := .int .i64 a1_3) rfl rfl (Or.inl ⟨by rfl, fun W' hW' => by have h_ := hW'.cell 1 rfl 3 rfl; go_simp⟩) ?_
          simp only [Act.put, Fl.z1, Fl.z2, Fl.z3]
          refine Fl.call (some 21) Try.func59 (by kernel_rfl) rfl #[.int .i64 a4, .int .i64 0, .int .i64 a1_3] rfl rfl rfl (by rfl) rfl (fun E W hE hi => ?_)
          refine (impl_within.calls a4 0 a1_3 true W HA1.out).mono ?_
          rintro e W' ⟨rfl, hb⟩
          refine Fl.keep hi hb.below ?_
          clear hi hb hE
          simp only [Act.put, Fl.z1, Fl.z2, Fl.z3]
          refine Fl.take (some 22) (v := .bool false) rfl rfl (Or.inl ⟨by rfl, fun _ _ => by rfl⟩) ?_
          simp only [Act.put, Fl.z1, Fl.z2, Fl.z3]
          refine Fl.take (some 23) (v := .bool false) rfl rfl (Or.inl ⟨by rfl, fun _ _ => by rfl⟩) ?_
          simp only [Act.put, Fl.z1, Fl.z2, Fl.z3]
          refine Fl.take (some 24) (v := .bool false) rfl rfl (Or.inl ⟨by rfl, fun _ _ => by rfl⟩) ?_
          simp only [Act.put, Fl.z1, Fl.z2, Fl.z3]
          refine Fl.take (some 25) (v := .int .i64 a3) rfl rfl (Or.inl ⟨by rfl, fun _ _ => by rfl⟩) ?_
          simp only [Act.put, Fl.z1, Fl.z2, Fl.z3]
          refine Fl.take (some 26) (v := .int .i64 a4) rfl rfl (Or.inl ⟨by rfl, fun _ _ => by rfl⟩) ?_
          simp only [Act.put, Fl.z1, Fl.z2, Fl.z3]
          refine Fl.call (some 27) Try.func59 (by kernel_rfl) rfl #[.int .i64 a3, .int .i64 0, .int .i64 a4] rfl rfl rfl (by rfl) rfl (fun E W hE hi => ?_)
          refine (impl_within.calls a3 0 a4 true W HA2.out).mono ?_
          rintro e W' ⟨rfl, hb⟩
          refine Fl.keep hi hb.below ?_
          clear hi hb hE
          simp only [Act.put, Fl.z1, Fl.z2, Fl.z3]
          refine Fl.take (some 28) (v := .bool false) rfl rfl (Or.inl ⟨by rfl, fun _ _ => by rfl⟩) ?_
          simp only [Act.put, Fl.z1, Fl.z2, Fl.z3]
          refine Fl.take (some 29) (v := .bool false) rfl rfl (Or.inl ⟨by rfl, fun _ _ => by rfl⟩) ?_
          simp only [Act.put, Fl.z1, Fl.z2, Fl.z3]
          refine Fl.take (some 30) (v := .bool false) rfl rfl (Or.inl ⟨by rfl, fun _ _ => by rfl⟩) ?_
          simp only [Act.put, Fl.z1, Fl.z2, Fl.z3]
          refine Fl.take (some 31) (v := .int .i64 a2) rfl rfl (Or.inl ⟨by rfl, fun _ _ => by rfl⟩) ?_
          simp only [Act.put, Fl.z1, Fl.z2, Fl.z3]
          refine Fl.take (some 32) (v := .int .i64 a3) rfl rfl (Or.inl ⟨by rfl, fun _ _ => by rfl⟩) ?_
          simp only [Act.put, Fl.z1, Fl.z2, Fl.z3]
          refine Fl.call (some 33) Try.func59 (by kernel_rfl) rfl #[.int .i64 a2, .int .i64 0, .int .i64 a3] rfl rfl rfl (by rfl) rfl (fun E W hE hi => ?_)
          refine (impl_within.calls a2 0 a3 false W HA3.out).mono ?_
          rintro e W' ⟨rfl, hb⟩
          refine Fl.keep hi hb.below ?_
          clear hi hb hE
          simp only [Act.put, Fl.z1, Fl.z2, Fl.z3]
          refine Fl.take (some 34) (v := .bool true) rfl rfl (Or.inl ⟨by rfl, fun _ _ => by rfl⟩) ?_
          simp only [Act.put, Fl.z1, Fl.z2, Fl.z3]
          refine Fl.take (some 35) (v := .bool true) rfl rfl (Or.inl ⟨by rfl, fun _ _ => by rfl⟩) ?_
          simp only [Act.put, Fl.z1, Fl.z2, Fl.z3]
          refine Fl.stop (fun W hi => ?_)
          replace HI := Lib.hid hi
          clear hi
          go_upto_region 2 with (fail)
          refine Fl.startW [.take 0, .one 1, .take 2] (by decide) HI.out ?_
          refine Fl.take (some 36) (v := .agg #[.int .i64 0, .int .i64 0, .int .i64 0, .int .i64 0]) rfl rfl (Or.inl ⟨by rfl, fun _ _ => by first | rfl | (go_simp; done) | (go_simp; simp only [i64_w])⟩) ?_
          simp only [Act.put, Fl.z1, Fl.z2, Fl.z3]
          refine Fl.store 1 #[.int .i64 0, .int .i64 0, .int .i64 0, .int .i64 0] rfl rfl rfl rfl _ _ _ rfl rfl rfl (by rfl) rfl (by kernel_rfl) (by simp [Value.oneCell']) ?_
          refine Fl.take (some 11) (v := .bool false) rfl rfl (Or.inl ⟨by rfl, fun _ _ => by rfl⟩) ?_
          simp only [Act.put, Fl.z1, Fl.z2, Fl.z3]
          refine Fl.stopW (fun W hi => ?_)
          replace HI := Lib.hid hi
          clear hi
          go_wp2
          exact bodyPost_ret (v := .tuple #[.agg #[.int .i64 0, .int .i64 0, .int .i64 0, .int .i64 0], .bool false]) (results_list (rs := [.cell 10 54, .tmp 11]) rfl (by simp) (.cell _ _ _ (0, 0) _ rfl (HI.out.blk 1 rfl) Try.underlying54 rfl (by kernel_rfl) (.tmp .nil))) rfl ⟨rfl, HI.out.bel⟩
      | false =>
        rw [if_neg (by decide)] at h
        simp only [Option.some.injEq, Prod.mk.injEq] at h
        obtain ⟨rfl, rfl, rfl, rfl, rfl⟩ := h
        go_enter Try.func33, Try.ntmps33
        go_upto_region 1 with (fail)
        rw [← hW]
        clear hW
        refine Fl.startL [.take 0, .take 1, .one 2, .one 3, .take 4, .take 5, .take 6, .take 7, .take 8, .one 9, .take 10, .take 11, .take 12, .take 13, .take 14, .one 15, .take 16, .take 17, .take 18, .take 19, .take 20, .take 21, .take 22, .take 23] (by decide) HI.out ?_
        refine Fl.take (some 12) (v := .agg #[.slice A0_0 l0_0.length c0_0]) rfl rfl (Fl.ld 2 rfl (by rfl) _ _ rfl rfl Try.underlying32 rfl (by kernel_rfl)) ?_
        simp only [Act.put, Fl.z1, Fl.z2, Fl.z3]
        refine Fl.take (some 13) (v := .agg #[.int .i64 a1_0, .int .i64 a1_1, .int .i64 a1_2, .int .i64 a1_3]) rfl rfl (Fl.ld 1 rfl (by rfl) _ _ rfl rfl Try.underlying54 rfl (by kernel_rfl)) ?_
        simp only [Act.put, Fl.z1, Fl.z2, Fl.z3]
        refine Fl.lit (N := 14) (cs := #[.int .i64 a1_0, .int .i64 a1_1, .int .i64 a1_2, .int .i64 a1_3]) (t := 54) (n := 1) rfl rfl (by rfl) (fun w => by go_simp) (fun b1 => ?_)
        simp only [Act.put, Fl.z1, Fl.z2, Fl.z3]
        refine Fl.call (some 15) Try.func58 (by kernel_rfl) rfl #[.agg #[.slice A0_0 l0_0.length c0_0], .slice (some ⟨b1, 0, none⟩) 1 1] rfl rfl rfl (by rfl) rfl (fun E W hE hi => ?_)
        refine (impl_areOn.calls k _ _ l0_0 _ _ [(⟨a1_0, a1_1, a1_2, a1_3⟩ : S54)] true W (Kd.C_below HR0_0.out hi.bel) HC0_0.out (Fl.c_one (hi.blk 0 rfl) (k54_mk _ ⟨a1_0, a1_1, a1_2, a1_3⟩)) (Nat.le_refl _) HA0.out).mono ?_
        rintro e W' ⟨rfl, hb⟩
        refine Fl.keep hi hb ?_
        clear hi hb hE
        simp only [Act.put, Fl.z1, Fl.z2, Fl.z3]
        refine Fl.take (some 16) (v := .bool false) rfl rfl (Or.inl ⟨by rfl, fun _ _ => by rfl⟩) ?_
        simp only [Act.put, Fl.z1, Fl.z2, Fl.z3]
        refine Fl.take (some 17) (v := .bool false) rfl rfl (Or.inl ⟨by rfl, fun _ _ => by rfl⟩) ?_
        simp only [Act.put, Fl.z1, Fl.z2, Fl.z3]
        refine Fl.take (some 18) (v := .int .i64 a4) rfl rfl (Or.inl ⟨by rfl, fun _ _ => by rfl⟩) ?_
        simp only [Act.put, Fl.z1, Fl.z2, Fl.z3]
        refine Fl.take (some 19) (v := .pointer (some ⟨w.heap.size + 1, 3, none⟩)) rfl rfl (Or.inl ⟨by rfl, fun _ _ => by first | rfl | (go_simp; done) | (go_simp; simp only [i64_w])⟩) ?_
        simp only [Act.put, Fl.z1, Fl.z2, Fl.z3]
        refine Fl.take (some 20) (v := .int .i64 a1_3) rfl rfl (Or.inl ⟨by rfl, fun W' hW' => by have h_ := hW'.cell 1 rfl 3 rfl; go_simp⟩) ?_
        simp only [Act.put, Fl.z1, Fl.z2, Fl.z3]
        refine Fl.call (some 21) Try.func59 (by kernel_rfl) rfl #[.int .i64 a4, .int .i64 0, .int .i64 a1_3] rfl rfl rfl (by rfl) rfl (fun E W hE hi => ?_)
        refine (impl_within.calls a4 0 a1_3 true W HA1.out).mono ?_
        rintro e W' ⟨rfl, hb⟩
        refine Fl.keep hi hb.below ?_
        clear hi hb hE
        simp only [Act.put, Fl.z1, Fl.z2, Fl.z3]
        refine Fl.take (some 22) (v := .bool false) rfl rfl (Or.inl ⟨by rfl, fun _ _ => by rfl⟩) ?_
        simp only [Act.put, Fl.z1, Fl.z2, Fl.z3]
        refine Fl.take (some 23) (v := .bool false) rfl rfl (Or.inl ⟨by rfl, fun _ _ => by rfl⟩) ?_
        simp only [Act.put, Fl.z1, Fl.z2, Fl.z3]
        refine Fl.take (some 24) (v := .bool false) rfl rfl (Or.inl ⟨by rfl, fun _ _ => by rfl⟩) ?_
        simp only [Act.put, Fl.z1, Fl.z2, Fl.z3]
        refine Fl.take (some 25) (v := .int .i64 a3) rfl rfl (Or.inl ⟨by rfl, fun _ _ => by rfl⟩) ?_
        simp only [Act.put, Fl.z1, Fl.z2, Fl.z3]
        refine Fl.take (some 26) (v := .int .i64 a4) rfl rfl (Or.inl ⟨by rfl, fun _ _ => by rfl⟩) ?_
        simp only [Act.put, Fl.z1, Fl.z2, Fl.z3]
        refine Fl.call (some 27) Try.func59 (by kernel_rfl) rfl #[.int .i64 a3, .int .i64 0, .int .i64 a4] rfl rfl rfl (by rfl) rfl (fun E W hE hi => ?_)
        refine (impl_within.calls a3 0 a4 false W HA2.out).mono ?_
        rintro e W' ⟨rfl, hb⟩
        refine Fl.keep hi hb.below ?_
        clear hi hb hE
        simp only [Act.put, Fl.z1, Fl.z2, Fl.z3]
        refine Fl.take (some 28) (v := .bool true) rfl rfl (Or.inl ⟨by rfl, fun _ _ => by rfl⟩) ?_
        simp only [Act.put, Fl.z1, Fl.z2, Fl.z3]
        refine Fl.take (some 29) (v := .bool true) rfl rfl (Or.inl ⟨by rfl, fun _ _ => by rfl⟩) ?_
        simp only [Act.put, Fl.z1, Fl.z2, Fl.z3]
        refine Fl.take (some 30) (v := .bool true) rfl rfl (Or.inl ⟨by rfl, fun _ _ => by rfl⟩) ?_
        simp only [Act.put, Fl.z1, Fl.z2, Fl.z3]
        refine Fl.take (some 31) (v := undef) rfl rfl (Or.inr ⟨by rfl, rfl⟩) ?_
        simp only [Act.put, Fl.z1, Fl.z2, Fl.z3]
        refine Fl.take (some 32) (v := undef) rfl rfl (Or.inr ⟨by rfl, rfl⟩) ?_
        simp only [Act.put, Fl.z1, Fl.z2, Fl.z3]
        refine Fl.take (some 33) (v := undef) rfl rfl (Or.inr ⟨by rfl, rfl⟩) ?_
        simp only [Act.put, Fl.z1, Fl.z2, Fl.z3]
        refine Fl.take (some 34) (v := undef) rfl rfl (Or.inr ⟨by rfl, rfl⟩) ?_
        simp only [Act.put, Fl.z1, Fl.z2, Fl.z3]
        refine Fl.take (some 35) (v := .bool true) rfl rfl (Or.inl ⟨by rfl, fun _ _ => by rfl⟩) ?_
        simp only [Act.put, Fl.z1, Fl.z2, Fl.z3]
        refine Fl.stop (fun W hi => ?_)
        replace HI := Lib.hid hi
        clear hi
        go_upto_region 2 with (fail)
        refine Fl.startW [.take 0, .one 1, .take 2] (by decide) HI.out ?_
        refine Fl.take (some 36) (v := .agg #[.int .i64 0, .int .i64 0, .int .i64 0, .int .i64 0]) rfl rfl (Or.inl ⟨by rfl, fun _ _ => by first | rfl | (go_simp; done) | (go_simp; simp only [i64_w])⟩) ?_
        simp only [Act.put, Fl.z1, Fl.z2, Fl.z3]
        refine Fl.store 1 #[.int .i64 0, .int .i64 0, .int .i64 0, .int .i64 0] rfl rfl rfl rfl _ _ _ rfl rfl rfl (by rfl) rfl (by kernel_rfl) (by simp [Value.oneCell']) ?_
        refine Fl.take (some 11) (v := .bool false) rfl rfl (Or.inl ⟨by rfl, fun _ _ => by rfl⟩) ?_
        simp only [Act.put, Fl.z1, Fl.z2, Fl.z3]
        refine Fl.stopW (fun W hi => ?_)
        replace HI := Lib.hid hi
        clear hi
        go_wp2
        exact bodyPost_ret (v := .tuple #[.agg #[.int .i64 0, .int .i64 0, .int .i64 0, .int .i64 0], .bool false]) (results_list (rs := [.cell 10 54, .tmp 11]) rfl (by simp) (.cell _ _ _ (0, 0) _ rfl (HI.out.blk 1 rfl) Try.underlying54 rfl (by kernel_rfl) (.tmp .nil))) rfl ⟨rfl, HI.out.bel⟩
    | false =>
      rw [if_neg (by decide)] at h
      simp only [Option.some.injEq, Prod.mk.injEq] at h
      obtain ⟨rfl, rfl, rfl, rfl, rfl⟩ := h
      go_enter Try.func33, Try.ntmps33
      go_upto_region 1 with (fail)
      rw [← hW]
      clear hW
      refine Fl.startL [.take 0, .take 1, .one 2, .one 3, .take 4, .take 5, .take 6, .take 7, .take 8, .one 9, .take 10, .take 11, .take 12, .take 13, .take 14, .take 15, .take 16, .take 17, .take 18, .take 19, .take 20, .take 21, .take 22, .take 23] (by decide) HI.out ?_
      refine Fl.take (some 12) (v := .agg #[.slice A0_0 l0_0.length c0_0]) rfl rfl (Fl.ld 2 rfl (by rfl) _ _ rfl rfl Try.underlying32 rfl (by kernel_rfl)) ?_
      simp only [Act.put, Fl.z1, Fl.z2, Fl.z3]
      refine Fl.take (some 13) (v := .agg #[.int .i64 a1_0, .int .i64 a1_1, .int .i64 a1_2, .int .i64 a1_3]) rfl rfl (Fl.ld 1 rfl (by rfl) _ _ rfl rfl Try.underlying54 rfl (by kernel_rfl)) ?_
      simp only [Act.put, Fl.z1, Fl.z2, Fl.z3]
      refine Fl.lit (N := 14) (cs := #[.int .i64 a1_0, .int .i64 a1_1, .int .i64 a1_2, .int .i64 a1_3]) (t := 54) (n := 1) rfl rfl (by rfl) (fun w => by go_simp) (fun b1 => ?_)
      simp only [Act.put, Fl.z1, Fl.z2, Fl.z3]
      refine Fl.call (some 15) Try.func58 (by kernel_rfl) rfl #[.agg #[.slice A0_0 l0_0.length c0_0], .slice (some ⟨b1, 0, none⟩) 1 1] rfl rfl rfl (by rfl) rfl (fun E W hE hi => ?_)
      refine (impl_areOn.calls k _ _ l0_0 _ _ [(⟨a1_0, a1_1, a1_2, a1_3⟩ : S54)] true W (Kd.C_below HR0_0.out hi.bel) HC0_0.out (Fl.c_one (hi.blk 0 rfl) (k54_mk _ ⟨a1_0, a1_1, a1_2, a1_3⟩)) (Nat.le_refl _) HA0.out).mono ?_
      rintro e W' ⟨rfl, hb⟩
      refine Fl.keep hi hb ?_
      clear hi hb hE
      simp only [Act.put, Fl.z1, Fl.z2, Fl.z3]
      refine Fl.take (some 16) (v := .bool false) rfl rfl (Or.inl ⟨by rfl, fun _ _ => by rfl⟩) ?_
      simp only [Act.put, Fl.z1, Fl.z2, Fl.z3]
      refine Fl.take (some 17) (v := .bool false) rfl rfl (Or.inl ⟨by rfl, fun _ _ => by rfl⟩) ?_
      simp only [Act.put, Fl.z1, Fl.z2, Fl.z3]
      refine Fl.take (some 18) (v := .int .i64 a4) rfl rfl (Or.inl ⟨by rfl, fun _ _ => by rfl⟩) ?_
      simp only [Act.put, Fl.z1, Fl.z2, Fl.z3]
      refine Fl.take (some 19) (v := .pointer (some ⟨w.heap.size + 1, 3, none⟩)) rfl rfl (Or.inl ⟨by rfl, fun _ _ => by first | rfl | (go_simp; done) | (go_simp; simp only [i64_w])⟩) ?_
      simp only [Act.put, Fl.z1, Fl.z2, Fl.z3]
      refine Fl.take (some 20) (v := .int .i64 a1_3) rfl rfl (Or.inl ⟨by rfl, fun W' hW' => by have h_ := hW'.cell 1 rfl 3 rfl; go_simp⟩) ?_
      simp only [Act.put, Fl.z1, Fl.z2, Fl.z3]
      refine Fl.call (some 21) Try.func59 (by kernel_rfl) rfl #[.int .i64 a4, .int .i64 0, .int .i64 a1_3] rfl rfl rfl (by rfl) rfl (fun E W hE hi => ?_)
      refine (impl_within.calls a4 0 a1_3 false W HA1.out).mono ?_
      rintro e W' ⟨rfl, hb⟩
      refine Fl.keep hi hb.below ?_
      clear hi hb hE
      simp only [Act.put, Fl.z1, Fl.z2, Fl.z3]
      refine Fl.take (some 22) (v := .bool true) rfl rfl (Or.inl ⟨by rfl, fun _ _ => by rfl⟩) ?_
      simp only [Act.put, Fl.z1, Fl.z2, Fl.z3]
      refine Fl.take (some 23) (v := .bool true) rfl rfl (Or.inl ⟨by rfl, fun _ _ => by rfl⟩) ?_
      simp only [Act.put, Fl.z1, Fl.z2, Fl.z3]
      refine Fl.take (some 24) (v := .bool true) rfl rfl (Or.inl ⟨by rfl, fun _ _ => by rfl⟩) ?_
      simp only [Act.put, Fl.z1, Fl.z2, Fl.z3]
      refine Fl.take (some 25) (v := undef) rfl rfl (Or.inr ⟨by rfl, rfl⟩) ?_
      simp only [Act.put, Fl.z1, Fl.z2, Fl.z3]
      refine Fl.take (some 26) (v := undef) rfl rfl (Or.inr ⟨by rfl, rfl⟩) ?_
      simp only [Act.put, Fl.z1, Fl.z2, Fl.z3]
      refine Fl.take (some 27) (v := undef) rfl rfl (Or.inr ⟨by rfl, rfl⟩) ?_
      simp only [Act.put, Fl.z1, Fl.z2, Fl.z3]
      refine Fl.take (some 28) (v := undef) rfl rfl (Or.inr ⟨by rfl, rfl⟩) ?_
      simp only [Act.put, Fl.z1, Fl.z2, Fl.z3]
      refine Fl.take (some 29) (v := .bool true) rfl rfl (Or.inl ⟨by rfl, fun _ _ => by rfl⟩) ?_
      simp only [Act.put, Fl.z1, Fl.z2, Fl.z3]
      refine Fl.take (some 30) (v := .bool true) rfl rfl (Or.inl ⟨by rfl, fun _ _ => by rfl⟩) ?_
      simp only [Act.put, Fl.z1, Fl.z2, Fl.z3]
      refine Fl.take (some 31) (v := undef) rfl rfl (Or.inr ⟨by rfl, rfl⟩) ?_
      simp only [Act.put, Fl.z1, Fl.z2, Fl.z3]
      refine Fl.take (some 32) (v := undef) rfl rfl (Or.inr ⟨by rfl, rfl⟩) ?_
      simp only [Act.put, Fl.z1, Fl.z2, Fl.z3]
      refine Fl.take (some 33) (v := undef) rfl rfl (Or.inr ⟨by rfl, rfl⟩) ?_
      simp only [Act.put, Fl.z1, Fl.z2, Fl.z3]
      refine Fl.take (some 34) (v := undef) rfl rfl (Or.inr ⟨by rfl, rfl⟩) ?_
      simp only [Act.put, Fl.z1, Fl.z2, Fl.z3]
      refine Fl.take (some 35) (v := .bool true) rfl rfl (Or.inl ⟨by rfl, fun _ _ => by rfl⟩) ?_
      simp only [Act.put, Fl.z1, Fl.z2, Fl.z3]
      refine Fl.stop (fun W hi => ?_)
      replace HI := Lib.hid hi
      clear hi
      go_upto_region 2 with (fail)
      refine Fl.startW [.take 0, .one 1, .take 2] (by decide) HI.out ?_
      refine Fl.take (some 36) (v := .agg #[.int .i64 0, .int .i64 0, .int .i64 0, .int .i64 0]) rfl rfl (Or.inl ⟨by rfl, fun _ _ => by first | rfl | (go_simp; done) | (go_simp; simp only [i64_w])⟩) ?_
      simp only [Act.put, Fl.z1, Fl.z2, Fl.z3]
      refine Fl.store 1 #[.int .i64 0, .int .i64 0, .int .i64 0, .int .i64 0] rfl rfl rfl rfl _ _ _ rfl rfl rfl (by rfl) rfl (by kernel_rfl) (by simp [Value.oneCell']) ?_
      refine Fl.take (some 11) (v := .bool false) rfl rfl (Or.inl ⟨by rfl, fun _ _ => by rfl⟩) ?_
      simp only [Act.put, Fl.z1, Fl.z2, Fl.z3]
      refine Fl.stopW (fun W hi => ?_)
      replace HI := Lib.hid hi
      clear hi
      go_wp2
      exact bodyPost_ret (v := .tuple #[.agg #[.int .i64 0, .int .i64 0, .int .i64 0, .int .i64 0], .bool false]) (results_list (rs := [.cell 10 54, .tmp 11]) rfl (by simp) (.cell _ _ _ (0, 0) _ rfl (HI.out.blk 1 rfl) Try.underlying54 rfl (by kernel_rfl) (.tmp .nil))) rfl ⟨rfl, HI.out.bel⟩
  | false =>
    rw [if_neg (by decide)] at h
    simp only [Option.some.injEq, Prod.mk.injEq] at h
    obtain ⟨rfl, rfl, rfl, rfl, rfl⟩ := h
    go_enter Try.func33, Try.ntmps33
    go_upto_region 1 with (fail)
    rw [← hW]
    clear hW
    refine Fl.startL [.take 0, .take 1, .one 2, .one 3, .take 4, .take 5, .take 6, .take 7, .take 8, .take 9, .take 10, .take 11, .take 12, .take 13, .take 14, .take 15, .take 16, .take 17, .take 18, .take 19, .take 20, .take 21, .take 22, .take 23] (by decide) HI.out ?_
    refine Fl.take (some 12) (v := .agg #[.slice A0_0 l0_0.length c0_0]) rfl rfl (Fl.ld 2 rfl (by rfl) _ _ rfl rfl Try.underlying32 rfl (by kernel_rfl)) ?_
    simp only [Act.put, Fl.z1, Fl.z2, Fl.z3]
    refine Fl.take (some 13) (v := .agg #[.int .i64 a1_0, .int .i64 a1_1, .int .i64 a1_2, .int .i64 a1_3]) rfl rfl (Fl.ld 1 rfl (by rfl) _ _ rfl rfl Try.underlying54 rfl (by kernel_rfl)) ?_
    simp only [Act.put, Fl.z1, Fl.z2, Fl.z3]
    refine Fl.lit (N := 14) (cs := #[.int .i64 a1_0, .int .i64 a1_1, .int .i64 a1_2, .int .i64 a1_3]) (t := 54) (n := 1) rfl rfl (by rfl) (fun w => by go_simp) (fun b1 => ?_)
    simp only [Act.put, Fl.z1, Fl.z2, Fl.z3]
    refine Fl.call (some 15) Try.func58 (by kernel_rfl) rfl #[.agg #[.slice A0_0 l0_0.length c0_0], .slice (some ⟨b1, 0, none⟩) 1 1] rfl rfl rfl (by rfl) rfl (fun E W hE hi => ?_)
    refine (impl_areOn.calls k _ _ l0_0 _ _ [(⟨a1_0, a1_1, a1_2, a1_3⟩ : S54)] false W (Kd.C_below HR0_0.out hi.bel) HC0_0.out (Fl.c_one (hi.blk 0 rfl) (k54_mk _ ⟨a1_0, a1_1, a1_2, a1_3⟩)) (Nat.le_refl _) HA0.out).mono ?_
    rintro e W' ⟨rfl, hb⟩
    refine Fl.keep hi hb ?_
    clear hi hb hE
    simp only [Act.put, Fl.z1, Fl.z2, Fl.z3]
    refine Fl.take (some 16) (v := .bool true) rfl rfl (Or.inl ⟨by rfl, fun _ _ => by rfl⟩) ?_
    simp only [Act.put, Fl.z1, Fl.z2, Fl.z3]
    refine Fl.take (some 17) (v := .bool true) rfl rfl (Or.inl ⟨by rfl, fun _ _ => by rfl⟩) ?_
    simp only [Act.put, Fl.z1, Fl.z2, Fl.z3]
    refine Fl.take (some 18) (v := undef) rfl rfl (Or.inr ⟨by rfl, rfl⟩) ?_
    simp only [Act.put, Fl.z1, Fl.z2, Fl.z3]
    refine Fl.take (some 19) (v := undef) rfl rfl (Or.inr ⟨by rfl, rfl⟩) ?_
    simp only [Act.put, Fl.z1, Fl.z2, Fl.z3]
    refine Fl.take (some 20) (v := undef) rfl rfl (Or.inr ⟨by rfl, rfl⟩) ?_
    simp only [Act.put, Fl.z1, Fl.z2, Fl.z3]
    refine Fl.take (some 21) (v := undef) rfl rfl (Or.inr ⟨by rfl, rfl⟩) ?_
    simp only [Act.put, Fl.z1, Fl.z2, Fl.z3]
    refine Fl.take (some 22) (v := undef) rfl rfl (Or.inr ⟨by rfl, rfl⟩) ?_
    simp only [Act.put, Fl.z1, Fl.z2, Fl.z3]
    refine Fl.take (some 23) (v := .bool true) rfl rfl (Or.inl ⟨by rfl, fun _ _ => by rfl⟩) ?_
    simp only [Act.put, Fl.z1, Fl.z2, Fl.z3]
    refine Fl.take (some 24) (v := .bool true) rfl rfl (Or.inl ⟨by rfl, fun _ _ => by rfl⟩) ?_
    simp only [Act.put, Fl.z1, Fl.z2, Fl.z3]
    refine Fl.take (some 25) (v := undef) rfl rfl (Or.inr ⟨by rfl, rfl⟩) ?_
    simp only [Act.put, Fl.z1, Fl.z2, Fl.z3]
    refine Fl.take (some 26) (v := undef) rfl rfl (Or.inr ⟨by rfl, rfl⟩) ?_
    simp only [Act.put, Fl.z1, Fl.z2, Fl.z3]
    refine Fl.take (some 27) (v := undef) rfl rfl (Or.inr ⟨by rfl, rfl⟩) ?_
    simp only [Act.put, Fl.z1, Fl.z2, Fl.z3]
    refine Fl.take (some 28) (v := undef) rfl rfl (Or.inr ⟨by rfl, rfl⟩) ?_
    simp only [Act.put, Fl.z1, Fl.z2, Fl.z3]
    refine Fl.take (some 29) (v := .bool true) rfl rfl (Or.inl ⟨by rfl, fun _ _ => by rfl⟩) ?_
    simp only [Act.put, Fl.z1, Fl.z2, Fl.z3]
    refine Fl.take (some 30) (v := .bool true) rfl rfl (Or.inl ⟨by rfl, fun _ _ => by rfl⟩) ?_
    simp only [Act.put, Fl.z1, Fl.z2, Fl.z3]
    refine Fl.take (some 31) (v := undef) rfl rfl (Or.inr ⟨by rfl, rfl⟩) ?_
    simp only [Act.put, Fl.z1, Fl.z2, Fl.z3]
    refine Fl.take (some 32) (v := undef) rfl rfl (Or.inr ⟨by rfl, rfl⟩) ?_
    simp only [Act.put, Fl.z1, Fl.z2, Fl.z3]
    refine Fl.take (some 33) (v := undef) rfl rfl (Or.inr ⟨by rfl, rfl⟩) ?_
    simp only [Act.put, Fl.z1, Fl.z2, Fl.z3]
    refine Fl.take (some 34) (v := undef) rfl rfl (Or.inr ⟨by rfl, rfl⟩) ?_
    simp only [Act.put, Fl.z1, Fl.z2, Fl.z3]
    refine Fl.take (some 35) (v := .bool true) rfl rfl (Or.inl ⟨by rfl, fun _ _ => by rfl⟩) ?_
    simp only [Act.put, Fl.z1, Fl.z2, Fl.z3]
    refine Fl.stop (fun W hi => ?_)
    replace HI := Lib.hid hi
    clear hi
    go_upto_region 2 with (fail)
    refine Fl.startW [.take 0, .one 1, .take 2] (by decide) HI.out ?_
    refine Fl.take (some 36) (v := .agg #[.int .i64 0, .int .i64 0, .int .i64 0, .int .i64 0]) rfl rfl (Or.inl ⟨by rfl, fun _ _ => by first | rfl | (go_simp; done) | (go_simp; simp only [i64_w])⟩) ?_
    simp only [Act.put, Fl.z1, Fl.z2, Fl.z3]
    refine Fl.store 1 #[.int .i64 0, .int .i64 0, .int .i64 0, .int .i64 0] rfl rfl rfl rfl _ _ _ rfl rfl rfl (by rfl) rfl (by kernel_rfl) (by simp [Value.oneCell']) ?_
    refine Fl.take (some 11) (v := .bool false) rfl rfl (Or.inl ⟨by rfl, fun _ _ => by rfl⟩) ?_
    simp only [Act.put, Fl.z1, Fl.z2, Fl.z3]
    refine Fl.stopW (fun W hi => ?_)
    replace HI := Lib.hid hi
    clear hi
    go_wp2
    exact bodyPost_ret (v := .tuple #[.agg #[.int .i64 0, .int .i64 0, .int .i64 0, .int .i64 0], .bool false]) (results_list (rs := [.cell 10 54, .tmp 11]) rfl (by simp) (.cell _ _ _ (0, 0) _ rfl (HI.out.blk 1 rfl) Try.underlying54 rfl (by kernel_rfl) (.tmp .nil))) rfl ⟨rfl, HI.out.bel⟩

open Go.Proofs.Ytkifenbcepicjaa.Cp
/-! ### impl_Memory_seen: function 60 -/
def impl_Memory_seen.f (l0_0 : List (List Int)) (a1_0 : Int) (a1_1 : Int) (a1_2 : Int) (a1_3 : Int) : Option (List Int) := if 0 ≤ a1_0 then (if a1_0 < (l0_0.length : Int) then (if 0 ≤ a1_1 then (if a1_1 ≤ (wrap64 (a1_1 + a1_2)) then (if (wrap64 (a1_1 + a1_2)) ≤ ((rd_L2 l0_0 a1_0).length : Int) then (some (((rd_L2 l0_0 a1_0).take ((wrap64 (a1_1 + a1_2)) : Int).toNat).drop (a1_1 : Int).toNat)) else (none)) else (none)) else (none)) else (none)) else (none)
set_option maxHeartbeats 8000000 in
set_option maxRecDepth 100000 in
theorem impl_Memory_seen.calls (P0_0_ : Nat → Prop) (A0_0 : Option Addr) (c0_0 : Nat) (l0_0 : List (List Int)) (a1_0 : Int) (a1_1 : Int) (a1_2 : Int) (a1_3 : Int) (r : List Int) (w : World) (hs0_0 : Kd.V (Kd.slice 5 (Kd.int .u8)) 43 w w.heap.size (fun k_ => P0_0_ k_) (.slice A0_0 l0_0.length c0_0) l0_0) (h : impl_Memory_seen.f l0_0 a1_0 a1_1 a1_2 a1_3 = some r) :
  Calls Try.prog 60 #[.agg #[.slice A0_0 l0_0.length c0_0], .agg #[.int .i64 a1_0, .int .i64 a1_1, .int .i64 a1_2, .int .i64 a1_3]] w fun e w' => ∃ v0_ : Value, e = .returned (v0_) ∧ Kd.V (Kd.int .u8) 5 w' w.heap.size (fun k_ => (P0_0_ k_ ∨ w.heap.size ≤ k_)) v0_ r ∧ Below w.heap.size w w' := by
 have hu32 := Try.underlying32
 have hu54 := Try.underlying54
 have HO0_0 := Aside0.mk (show Kd.V (Kd.slice 5 (Kd.int .u8)) 43 w w.heap.size (fun k_ => (P0_0_ k_ ∨ w.heap.size ≤ k_)) (.slice A0_0 l0_0.length c0_0) l0_0 from Kd.V_mono hs0_0 (fun k_ hk => .inl hk))
 have HB := Aside0.mk (Below.refl w.heap.size w)
 have H : (if 0 ≤ a1_0 then (if a1_0 < (l0_0.length : Int) then (if 0 ≤ a1_1 then (if a1_1 ≤ (wrap64 (a1_1 + a1_2)) then (if (wrap64 (a1_1 + a1_2)) ≤ ((rd_L2 l0_0 a1_0).length : Int) then (some (((rd_L2 l0_0 a1_0).take ((wrap64 (a1_1 + a1_2)) : Int).toNat).drop (a1_1 : Int).toNat)) else (none)) else (none)) else (none)) else (none)) else (none)) = some r := h
 clear h
 by_cases c3 : 0 ≤ a1_0
 ·rw [if_pos c3] at H
  have c3b0 : decide (0 ≤ a1_0) = true := decide_eq_true c3
  clear c3
  by_cases c4 : a1_0 < (l0_0.length : Int)
  ·rw [if_pos c4] at H
   have c4b0 : decide (a1_0 < (l0_0.length : Int)) = true := decide_eq_true c4
   clear c4
   by_cases c5 : 0 ≤ a1_1
   ·rw [if_pos c5] at H
    have c5b0 := eq_true c5
    have c5b1 : decide (0 ≤ a1_1) = true := decide_eq_true c5
    clear c5
    by_cases c6 : a1_1 ≤ (wrap64 (a1_1 + a1_2))
    ·rw [if_pos c6] at H
     have c6b0 := eq_true c6
     have c6b1 : decide (a1_1 ≤ (wrap64 (a1_1 + a1_2))) = true := decide_eq_true c6
     by_cases c7 : (wrap64 (a1_1 + a1_2)) ≤ ((rd_L2 l0_0 a1_0).length : Int)
     ·rw [if_pos c7] at H
      have c7b0 := eq_true c7
      have c7b1 : decide ((wrap64 (a1_1 + a1_2)) ≤ ((rd_L2 l0_0 a1_0).length : Int)) = true := decide_eq_true c7
      obtain ⟨y281, hy281⟩ : ∃ y_ : List Int, y_ = (((rd_L2 l0_0 a1_0).take ((wrap64 (a1_1 + a1_2)) : Int).toNat).drop (a1_1 : Int).toNat) := ⟨_, rfl⟩
      replace H : (some y281) = some r := by first | (rw [hy281]; with_reducible exact H) | (have H2_ := (Option.bind_some _ _).symm.trans H; rw [hy281]; with_reducible exact H2_) | (have H2_ := (Option.bind_some _ _).symm.trans H; with_reducible exact H2_) | with_reducible exact H | (rw [hy281]; exact H) | exact H
      have Ny281 := Aside0.mk hy281
      clear hy281
      obtain rfl := Option.some.inj H
      go_enter Try.func60, Try.ntmps60
      go_wp2_with (first | ((with_reducible refine gate_dst (N := 2) rfl ?_); refine box_event ?hg (N := 2) ?hd (cs := #[.slice A0_0 l0_0.length c0_0]) (t := 32) ?hr ?_; (case hd => rfl); (case hg => rfl); (case hr => first | (go_simp; done) | (go_simp; rfl)); intro gb278 hg w8 hbox hb; have BK278 := Aside0.mk (hbox); have GW278 := zge HB hg; have GE278 := zge HB hg; replace HO0_0 := Aside0.mk (Kd.V_below (Kd.V_elderB (by (with_reducible repeat (first | apply Kd.V_alloc | apply Kd.V_drewN | apply Kd.V_drew)); exact HO0_0.out) gb278 (Nat.le_of_eq hg.symm)) hb); replace HB := zhs HB hb; clear hb hbox hg) | ((with_reducible refine gate_dst (N := 3) rfl ?_); refine box_event ?hg (N := 3) ?hd (cs := #[.int .i64 a1_0, .int .i64 a1_1, .int .i64 a1_2, .int .i64 a1_3]) (t := 54) ?hr ?_; (case hd => rfl); (case hg => rfl); (case hr => first | (go_simp; done) | (go_simp; rfl)); intro gb279 hg w9 hbox hb; have BK279 := Aside0.mk (hbox); have GW279 := zge HB hg; have GE279 := zge HB hg; have NB278_279 := znl BK278 hg; have NB279_278 := znr BK278 hg; replace HO0_0 := Aside0.mk (Kd.V_below (Kd.V_elderB (by (with_reducible repeat (first | apply Kd.V_alloc | apply Kd.V_drewN | apply Kd.V_drew)); exact HO0_0.out) gb279 (Nat.le_of_eq hg.symm)) hb); replace BK278 := zb0 BK278 hb; replace HB := zhs HB hb; clear hb hbox hg; have hnb10 := NB278_279.out; have hnc10 := NB279_278.out; have hcz11_0 := zc0 BK278 0 rfl; have hfz11_0 := blk_frozen BK278.out 0; have hcz12_0 := zc0 BK279 0 rfl; have hcz12_1 := zc0 BK279 1 rfl; have hcz12_2 := zc0 BK279 2 rfl; have hcz12_3 := zc0 BK279 3 rfl; have hfz12_0 := blk_frozen BK279.out 0; have hfz12_1 := blk_frozen BK279.out 1; have hfz12_2 := blk_frozen BK279.out 2; have hfz12_3 := blk_frozen BK279.out 3; have p280 : 0 ≤ (a1_0 : Int) := of_decide_eq_true (by first | (with_reducible assumption) | assumption); have q280 : a1_0 < (l0_0.length : Int) := of_decide_eq_true (by first | (with_reducible assumption) | assumption); obtain ⟨ad280, A280_0, c280_0, e280, hx280_0, hl280_0, hi280_0⟩ := at_L2 (Kd.V_reads' HO0_0.out).2.2 a1_0 p280 q280; cases e280; obtain ⟨ce280, hce280, hMe280, hcc280⟩ := Kd.V_get HO0_0.out [] a1_0 p280 (by first | exact q280 | exact of_decide_eq_true (by first | (with_reducible assumption) | assumption) | (have e_ := (Kd.V_reads' HO0_0.out).1; omega)); obtain ⟨ua280_0, uc280_0, rfl, ul280_0, ge280_0⟩ := Kd.FK_slice_open hMe280; have hv280_0 := hcc280 0 _ rfl; rw [Nat.add_zero, show ((Kd.slice 5 (Kd.int .u8))).sz = 1 from rfl, Nat.mul_one] at hv280_0; replace hv280_0 := Option.some.inj (hv280_0.symm.trans hx280_0); injection hv280_0 with hva_ hvn_ hvc_; rw [hva_] at ge280_0; rw [hvc_] at ul280_0; have HL280_0 := Aside0.mk (show Kd.V (Kd.int .u8) 5 _ w.heap.size _ _ (rd_L2 l0_0 a1_0) from Kd.V_mk ul280_0 ge280_0); clear hva_ hvn_ hvc_ ge280_0 ul280_0; clear hcc280 hce280; have HR280_0 := Aside0.mk hi280_0; have HC280_0 := Aside0.mk hl280_0; clear hi280_0 hl280_0; replace p280 := eq_true p280; replace q280 := eq_true q280; have q13 : ((wrap64 (a1_1 + a1_2)) : Int) ≤ (((rd_L2 l0_0 a1_0).length : Int) : Int) := of_decide_eq_true (by first | (with_reducible assumption) | assumption); obtain ⟨i013, hi013, _, hsz13, _⟩ := info_parts info5; have hroom13 : (rd_L2 l0_0 a1_0).length ≤ c280_0 := HC280_0.out; have hC13 : Kd.F (Kd.int .u8) _ _ A280_0 (rd_L2 l0_0 a1_0).length (rd_L2 l0_0 a1_0) := (Kd.V_at (base := w.heap.size) HL280_0.out).2.2; have ql13 : (a1_1 : Int) ≤ ((wrap64 (a1_1 + a1_2)) : Int) := of_decide_eq_true (by first | (with_reducible assumption) | assumption); have q013 : (0 : Int) ≤ (a1_1 : Int) := of_decide_eq_true (by first | (with_reducible assumption) | assumption); have hcut13 := cut_mid (P := Try.prog) 43 5 .i64 .i64 Try.underlying43 hi013 1 hsz13 A280_0 (rd_L2 l0_0 a1_0).length c280_0 a1_1 (wrap64 (a1_1 + a1_2)) q013 ql13 q13 hroom13; have hr13 := Kd.F_mid (lo := (a1_1 : Int).toNat) (hi := ((wrap64 (a1_1 + a1_2)) : Int).toNat) (c := c280_0) hC13 (by omega) (by omega) hroom13; obtain ⟨A13, hA13⟩ : ∃ A1, A1 = (if c280_0 = (a1_1 : Int).toNat then A280_0 else (A280_0 : Option Addr).map (·.add ((a1_1 : Int).toNat * 1))) := ⟨_, rfl⟩; obtain ⟨c13, hc13⟩ : ∃ c1, c1 = c280_0 - (a1_1 : Int).toNat := ⟨_, rfl⟩; have hy13 : y281.length = ((wrap64 (a1_1 + a1_2)) : Int).toNat - (a1_1 : Int).toNat := (by rw [Ny281.out, List.length_drop, List.length_take] <;> omega); rw [show ((rd_L2 l0_0 a1_0).take ((wrap64 (a1_1 + a1_2)) : Int).toNat).drop (a1_1 : Int).toNat = y281 from Ny281.out.symm] at hr13; replace hr13 : Kd.F (Kd.int .u8) _ _ A13 y281.length y281 := (by rw [hA13]; exact hr13); rw [← hy13, ← hA13, ← hc13] at hcut13; have HO285 := Aside0.mk (show Kd.V (Kd.int .u8) 5 _ w.heap.size _ (.slice A13 y281.length c13) y281 from Kd.V_mk (by rw [hy13, hc13]; exact Nat.sub_le_sub_right (Nat.le_trans (by omega) hroom13) _) hr13); have HC285 := Aside0.mk (show y281.length ≤ c13 from by rw [hy13, hc13]; exact Nat.sub_le_sub_right (Nat.le_trans (by omega) hroom13) _); clear hr13 hC13 hroom13 hi013 hsz13 hc13; have KY13 := Aside0.mk hy13; have KA13 := Aside0.mk hA13; clear hy13 hA13; replace q13 := eq_true q13))
      repeat (go_quiet (first | ((with_reducible refine gate_dst (N := 2) rfl ?_); refine box_event ?hg (N := 2) ?hd (cs := #[.slice A0_0 l0_0.length c0_0]) (t := 32) ?hr ?_; (case hd => rfl); (case hg => rfl); (case hr => first | (go_simp; done) | (go_simp; rfl)); intro gb278 hg w8 hbox hb; have BK278 := Aside0.mk (hbox); have GW278 := zge HB hg; have GE278 := zge HB hg; replace HO0_0 := Aside0.mk (Kd.V_below (Kd.V_elderB (by (with_reducible repeat (first | apply Kd.V_alloc | apply Kd.V_drewN | apply Kd.V_drew)); exact HO0_0.out) gb278 (Nat.le_of_eq hg.symm)) hb); replace HB := zhs HB hb; clear hb hbox hg) | ((with_reducible refine gate_dst (N := 3) rfl ?_); refine box_event ?hg (N := 3) ?hd (cs := #[.int .i64 a1_0, .int .i64 a1_1, .int .i64 a1_2, .int .i64 a1_3]) (t := 54) ?hr ?_; (case hd => rfl); (case hg => rfl); (case hr => first | (go_simp; done) | (go_simp; rfl)); intro gb279 hg w9 hbox hb; have BK279 := Aside0.mk (hbox); have GW279 := zge HB hg; have GE279 := zge HB hg; have NB278_279 := znl BK278 hg; have NB279_278 := znr BK278 hg; replace HO0_0 := Aside0.mk (Kd.V_below (Kd.V_elderB (by (with_reducible repeat (first | apply Kd.V_alloc | apply Kd.V_drewN | apply Kd.V_drew)); exact HO0_0.out) gb279 (Nat.le_of_eq hg.symm)) hb); replace BK278 := zb0 BK278 hb; replace HB := zhs HB hb; clear hb hbox hg; have hnb10 := NB278_279.out; have hnc10 := NB279_278.out; have hcz11_0 := zc0 BK278 0 rfl; have hfz11_0 := blk_frozen BK278.out 0; have hcz12_0 := zc0 BK279 0 rfl; have hcz12_1 := zc0 BK279 1 rfl; have hcz12_2 := zc0 BK279 2 rfl; have hcz12_3 := zc0 BK279 3 rfl; have hfz12_0 := blk_frozen BK279.out 0; have hfz12_1 := blk_frozen BK279.out 1; have hfz12_2 := blk_frozen BK279.out 2; have hfz12_3 := blk_frozen BK279.out 3; have p280 : 0 ≤ (a1_0 : Int) := of_decide_eq_true (by first | (with_reducible assumption) | assumption); have q280 : a1_0 < (l0_0.length : Int) := of_decide_eq_true (by first | (with_reducible assumption) | assumption); obtain ⟨ad280, A280_0, c280_0, e280, hx280_0, hl280_0, hi280_0⟩ := at_L2 (Kd.V_reads' HO0_0.out).2.2 a1_0 p280 q280; cases e280; obtain ⟨ce280, hce280, hMe280, hcc280⟩ := Kd.V_get HO0_0.out [] a1_0 p280 (by first | exact q280 | exact of_decide_eq_true (by first | (with_reducible assumption) | assumption) | (have e_ := (Kd.V_reads' HO0_0.out).1; omega)); obtain ⟨ua280_0, uc280_0, rfl, ul280_0, ge280_0⟩ := Kd.FK_slice_open hMe280; have hv280_0 := hcc280 0 _ rfl; rw [Nat.add_zero, show ((Kd.slice 5 (Kd.int .u8))).sz = 1 from rfl, Nat.mul_one] at hv280_0; replace hv280_0 := Option.some.inj (hv280_0.symm.trans hx280_0); injection hv280_0 with hva_ hvn_ hvc_; rw [hva_] at ge280_0; rw [hvc_] at ul280_0; have HL280_0 := Aside0.mk (show Kd.V (Kd.int .u8) 5 _ w.heap.size _ _ (rd_L2 l0_0 a1_0) from Kd.V_mk ul280_0 ge280_0); clear hva_ hvn_ hvc_ ge280_0 ul280_0; clear hcc280 hce280; have HR280_0 := Aside0.mk hi280_0; have HC280_0 := Aside0.mk hl280_0; clear hi280_0 hl280_0; replace p280 := eq_true p280; replace q280 := eq_true q280; have q13 : ((wrap64 (a1_1 + a1_2)) : Int) ≤ (((rd_L2 l0_0 a1_0).length : Int) : Int) := of_decide_eq_true (by first | (with_reducible assumption) | assumption); obtain ⟨i013, hi013, _, hsz13, _⟩ := info_parts info5; have hroom13 : (rd_L2 l0_0 a1_0).length ≤ c280_0 := HC280_0.out; have hC13 : Kd.F (Kd.int .u8) _ _ A280_0 (rd_L2 l0_0 a1_0).length (rd_L2 l0_0 a1_0) := (Kd.V_at (base := w.heap.size) HL280_0.out).2.2; have ql13 : (a1_1 : Int) ≤ ((wrap64 (a1_1 + a1_2)) : Int) := of_decide_eq_true (by first | (with_reducible assumption) | assumption); have q013 : (0 : Int) ≤ (a1_1 : Int) := of_decide_eq_true (by first | (with_reducible assumption) | assumption); have hcut13 := cut_mid (P := Try.prog) 43 5 .i64 .i64 Try.underlying43 hi013 1 hsz13 A280_0 (rd_L2 l0_0 a1_0).length c280_0 a1_1 (wrap64 (a1_1 + a1_2)) q013 ql13 q13 hroom13; have hr13 := Kd.F_mid (lo := (a1_1 : Int).toNat) (hi := ((wrap64 (a1_1 + a1_2)) : Int).toNat) (c := c280_0) hC13 (by omega) (by omega) hroom13; obtain ⟨A13, hA13⟩ : ∃ A1, A1 = (if c280_0 = (a1_1 : Int).toNat then A280_0 else (A280_0 : Option Addr).map (·.add ((a1_1 : Int).toNat * 1))) := ⟨_, rfl⟩; obtain ⟨c13, hc13⟩ : ∃ c1, c1 = c280_0 - (a1_1 : Int).toNat := ⟨_, rfl⟩; have hy13 : y281.length = ((wrap64 (a1_1 + a1_2)) : Int).toNat - (a1_1 : Int).toNat := (by rw [Ny281.out, List.length_drop, List.length_take] <;> omega); rw [show ((rd_L2 l0_0 a1_0).take ((wrap64 (a1_1 + a1_2)) : Int).toNat).drop (a1_1 : Int).toNat = y281 from Ny281.out.symm] at hr13; replace hr13 : Kd.F (Kd.int .u8) _ _ A13 y281.length y281 := (by rw [hA13]; exact hr13); rw [← hy13, ← hA13, ← hc13] at hcut13; have HO285 := Aside0.mk (show Kd.V (Kd.int .u8) 5 _ w.heap.size _ (.slice A13 y281.length c13) y281 from Kd.V_mk (by rw [hy13, hc13]; exact Nat.sub_le_sub_right (Nat.le_trans (by omega) hroom13) _) hr13); have HC285 := Aside0.mk (show y281.length ≤ c13 from by rw [hy13, hc13]; exact Nat.sub_le_sub_right (Nat.le_trans (by omega) hroom13) _); clear hr13 hC13 hroom13 hi013 hsz13 hc13; have KY13 := Aside0.mk hy13; have KA13 := Aside0.mk hA13; clear hy13 hA13; replace q13 := eq_true q13)); try go_wp2_with (first | ((with_reducible refine gate_dst (N := 2) rfl ?_); refine box_event ?hg (N := 2) ?hd (cs := #[.slice A0_0 l0_0.length c0_0]) (t := 32) ?hr ?_; (case hd => rfl); (case hg => rfl); (case hr => first | (go_simp; done) | (go_simp; rfl)); intro gb278 hg w8 hbox hb; have BK278 := Aside0.mk (hbox); have GW278 := zge HB hg; have GE278 := zge HB hg; replace HO0_0 := Aside0.mk (Kd.V_below (Kd.V_elderB (by (with_reducible repeat (first | apply Kd.V_alloc | apply Kd.V_drewN | apply Kd.V_drew)); exact HO0_0.out) gb278 (Nat.le_of_eq hg.symm)) hb); replace HB := zhs HB hb; clear hb hbox hg) | ((with_reducible refine gate_dst (N := 3) rfl ?_); refine box_event ?hg (N := 3) ?hd (cs := #[.int .i64 a1_0, .int .i64 a1_1, .int .i64 a1_2, .int .i64 a1_3]) (t := 54) ?hr ?_; (case hd => rfl); (case hg => rfl); (case hr => first | (go_simp; done) | (go_simp; rfl)); intro gb279 hg w9 hbox hb; have BK279 := Aside0.mk (hbox); have GW279 := zge HB hg; have GE279 := zge HB hg; have NB278_279 := znl BK278 hg; have NB279_278 := znr BK278 hg; replace HO0_0 := Aside0.mk (Kd.V_below (Kd.V_elderB (by (with_reducible repeat (first | apply Kd.V_alloc | apply Kd.V_drewN | apply Kd.V_drew)); exact HO0_0.out) gb279 (Nat.le_of_eq hg.symm)) hb); replace BK278 := zb0 BK278 hb; replace HB := zhs HB hb; clear hb hbox hg; have hnb10 := NB278_279.out; have hnc10 := NB279_278.out; have hcz11_0 := zc0 BK278 0 rfl; have hfz11_0 := blk_frozen BK278.out 0; have hcz12_0 := zc0 BK279 0 rfl; have hcz12_1 := zc0 BK279 1 rfl; have hcz12_2 := zc0 BK279 2 rfl; have hcz12_3 := zc0 BK279 3 rfl; have hfz12_0 := blk_frozen BK279.out 0; have hfz12_1 := blk_frozen BK279.out 1; have hfz12_2 := blk_frozen BK279.out 2; have hfz12_3 := blk_frozen BK279.out 3; have p280 : 0 ≤ (a1_0 : Int) := of_decide_eq_true (by first | (with_reducible assumption) | assumption); have q280 : a1_0 < (l0_0.length : Int) := of_decide_eq_true (by first | (with_reducible assumption) | assumption); obtain ⟨ad280, A280_0, c280_0, e280, hx280_0, hl280_0, hi280_0⟩ := at_L2 (Kd.V_reads' HO0_0.out).2.2 a1_0 p280 q280; cases e280; obtain ⟨ce280, hce280, hMe280, hcc280⟩ := Kd.V_get HO0_0.out [] a1_0 p280 (by first | exact q280 | exact of_decide_eq_true (by first | (with_reducible assumption) | assumption) | (have e_ := (Kd.V_reads' HO0_0.out).1; omega)); obtain ⟨ua280_0, uc280_0, rfl, ul280_0, ge280_0⟩ := Kd.FK_slice_open hMe280; have hv280_0 := hcc280 0 _ rfl; rw [Nat.add_zero, show ((Kd.slice 5 (Kd.int .u8))).sz = 1 from rfl, Nat.mul_one] at hv280_0; replace hv280_0 := Option.some.inj (hv280_0.symm.trans hx280_0); injection hv280_0 with hva_ hvn_ hvc_; rw [hva_] at ge280_0; rw [hvc_] at ul280_0; have HL280_0 := Aside0.mk (show Kd.V (Kd.int .u8) 5 _ w.heap.size _ _ (rd_L2 l0_0 a1_0) from Kd.V_mk ul280_0 ge280_0); clear hva_ hvn_ hvc_ ge280_0 ul280_0; clear hcc280 hce280; have HR280_0 := Aside0.mk hi280_0; have HC280_0 := Aside0.mk hl280_0; clear hi280_0 hl280_0; replace p280 := eq_true p280; replace q280 := eq_true q280; have q13 : ((wrap64 (a1_1 + a1_2)) : Int) ≤ (((rd_L2 l0_0 a1_0).length : Int) : Int) := of_decide_eq_true (by first | (with_reducible assumption) | assumption); obtain ⟨i013, hi013, _, hsz13, _⟩ := info_parts info5; have hroom13 : (rd_L2 l0_0 a1_0).length ≤ c280_0 := HC280_0.out; have hC13 : Kd.F (Kd.int .u8) _ _ A280_0 (rd_L2 l0_0 a1_0).length (rd_L2 l0_0 a1_0) := (Kd.V_at (base := w.heap.size) HL280_0.out).2.2; have ql13 : (a1_1 : Int) ≤ ((wrap64 (a1_1 + a1_2)) : Int) := of_decide_eq_true (by first | (with_reducible assumption) | assumption); have q013 : (0 : Int) ≤ (a1_1 : Int) := of_decide_eq_true (by first | (with_reducible assumption) | assumption); have hcut13 := cut_mid (P := Try.prog) 43 5 .i64 .i64 Try.underlying43 hi013 1 hsz13 A280_0 (rd_L2 l0_0 a1_0).length c280_0 a1_1 (wrap64 (a1_1 + a1_2)) q013 ql13 q13 hroom13; have hr13 := Kd.F_mid (lo := (a1_1 : Int).toNat) (hi := ((wrap64 (a1_1 + a1_2)) : Int).toNat) (c := c280_0) hC13 (by omega) (by omega) hroom13; obtain ⟨A13, hA13⟩ : ∃ A1, A1 = (if c280_0 = (a1_1 : Int).toNat then A280_0 else (A280_0 : Option Addr).map (·.add ((a1_1 : Int).toNat * 1))) := ⟨_, rfl⟩; obtain ⟨c13, hc13⟩ : ∃ c1, c1 = c280_0 - (a1_1 : Int).toNat := ⟨_, rfl⟩; have hy13 : y281.length = ((wrap64 (a1_1 + a1_2)) : Int).toNat - (a1_1 : Int).toNat := (by rw [Ny281.out, List.length_drop, List.length_take] <;> omega); rw [show ((rd_L2 l0_0 a1_0).take ((wrap64 (a1_1 + a1_2)) : Int).toNat).drop (a1_1 : Int).toNat = y281 from Ny281.out.symm] at hr13; replace hr13 : Kd.F (Kd.int .u8) _ _ A13 y281.length y281 := (by rw [hA13]; exact hr13); rw [← hy13, ← hA13, ← hc13] at hcut13; have HO285 := Aside0.mk (show Kd.V (Kd.int .u8) 5 _ w.heap.size _ (.slice A13 y281.length c13) y281 from Kd.V_mk (by rw [hy13, hc13]; exact Nat.sub_le_sub_right (Nat.le_trans (by omega) hroom13) _) hr13); have HC285 := Aside0.mk (show y281.length ≤ c13 from by rw [hy13, hc13]; exact Nat.sub_le_sub_right (Nat.le_trans (by omega) hroom13) _); clear hr13 hC13 hroom13 hi013 hsz13 hc13; have KY13 := Aside0.mk hy13; have KA13 := Aside0.mk hA13; clear hy13 hA13; replace q13 := eq_true q13)))
      go_ret
      exact ⟨_, by first | rfl | (simp <;> rfl) | (simp [*] <;> rfl), by (with_reducible repeat (first | apply Kd.V_alloc | apply Kd.V_drewN | apply Kd.V_drew)); exact Kd.V_mono HO285.out (fun _ hk => hk.1.1), by repeat (first | exact zh0 HB | refine below_set ?_ GE278.out | refine below_set ?_ GE279.out)⟩
     ·rw [if_neg c7] at H
      exact absurd H (by simp)
    ·rw [if_neg c6] at H
     exact absurd H (by simp)
   ·rw [if_neg c5] at H
    exact absurd H (by simp)
  ·rw [if_neg c4] at H
   exact absurd H (by simp)
 ·rw [if_neg c3] at H
  exact absurd H (by simp)

/-! ### slices_Clone_byte_byte: function 63 (by hand) -/
def slices_Clone_byte_byte.f (l0 : List Int) : Option (List Int) := if 0 < l0.length ∧ l0.length ≤ 1048576 then some l0 else none
set_option maxHeartbeats 4000000 in
set_option maxRecDepth 100000 in
theorem slices_Clone_byte_byte.calls (A0 : Option Addr) (c0 : Nat) (l0 : List Int) (r : List Int) (w : World) (hr0 : Kd.C (Kd.int .u8) w A0 l0.length l0) (hc0 : l0.length ≤ c0) (h : slices_Clone_byte_byte.f l0 = some r) :
    Calls Try.prog 63 #[.slice A0 l0.length c0] w fun e w' => ∃ v0_ : Value, e = .returned v0_ ∧ Kd.R (Kd.int .u8) 5 w' w.heap.size (fun _ => True) v0_ r ∧ Below w.heap.size w w' := by
  obtain ⟨⟨h0, hle⟩, rfl⟩ := Ky.of_cond h
  have HR0 := Lib.hid hr0
  obtain ⟨b, o, hA, _⟩ := Lx.row_cells (d := Kd.int .u8) (f := fun x : Int => [.int .u8 x]) (fun _ _ _ h => h) (fun _ => by simp) hr0 h0
  subst hA
  obtain ⟨n, hn⟩ : ∃ n, n = l0.length := ⟨_, rfl⟩
  rw [← hn] at hle HR0 ⊢
  have HM := Lib.hid hle
  have HI : Hid (Lv.Inv w w []) := Lib.hid (Lv.Inv.refl w)
  clear hr0 h0 hn hle hc0 h
  go_enter Try.func63, Try.ntmps63
  have hnil : ∀ W : World, (binOp .eql 43 (.slice (some ⟨b, o, none⟩) n c0) (.slice none 0 0)).run Try.prog W = .ok (.bool false) W := fun W => by
    rw [Lib.run_eql_slice_nil W 43 5 (some ⟨b, o, none⟩) n c0 0 0 Try.underlying43]
    rfl
  go_upto_region 3 with (fail)
  clear hnil
  refine Fl.startL [.one 0, .take 1, .one 2, .take 3] (by decide) HI.out ?_
  refine Fl.lit0 (Kd.int .u8) (e := 5) (N := 5) rfl rfl (by rfl) (fun W => by first | (go_simp; done) | (go_simp; rfl)) (fun v0 => ?_)
  simp only [Act.put, Fl.z1, Fl.z2, Fl.z3]
  refine Fl.take (some 6) (v := .slice (some ⟨b, o, none⟩) n c0) rfl rfl (Or.inl ⟨by rfl, fun _ _ => by rfl⟩) ?_
  simp only [Act.put, Fl.z1, Fl.z2, Fl.z3]
  refine Fl.appRows (N := 7) (bytes := 1) (z := .int .u8 0) (ys := l0) (fun _ _ _ _ hk => hk) rfl rfl (by rfl) rfl Try.underlying43 (by kernel_rfl) rfl (by decide) (by decide) rfl rfl (by have := HM.out; simp; omega) (fun W hb => Kd.C_below HR0.out hb) (fun v1 => ?_)
  simp only [Act.put, Fl.z1, Fl.z2, Fl.z3]
  refine Fl.take (some 2) (v := v1) rfl rfl (Or.inl ⟨by rfl, fun _ _ => by rfl⟩) ?_
  simp only [Act.put, Fl.z1, Fl.z2, Fl.z3]
  refine Fl.stop (fun W hi => ?_)
  replace HI := Lib.hid hi
  clear hi
  go_wp2
  go_ret
  obtain ⟨S, _, hR⟩ := HI.out.get 0 rfl
  exact ⟨_, rfl, Kd.R_mono hR (fun _ _ => trivial), HI.out.bel⟩

open Go.Proofs.Ytkifenbcepicjaa.Cp
/-! ### impl_WindowBytes: function 34 -/
def impl_WindowBytes.f (k : Nat) (l0_0 : List (List Int)) (a1_0 : Int) (a1_1 : Int) (a1_2 : Int) (a1_3 : Int) : Option (List Int × Bool) := (impl_areOn.f k l0_0 (([(⟨a1_0, a1_1, a1_2, a1_3⟩ : S54)] : List (S54)))).bind fun t291 => (if t291 = true then ((impl_Memory_seen.f l0_0 a1_0 a1_1 a1_2 a1_3).bind fun t292 => ((slices_Clone_byte_byte.f t292).bind fun t295 => (some (t295, true)))) else (some (([] : List Int), false)))
theorem impl_WindowBytes.mono : ∀ a0 a1 a2 a3 a4 k, LeO (impl_WindowBytes.f k a0 a1 a2 a3 a4) (impl_WindowBytes.f (k + 1) a0 a1 a2 a3 a4) := by
 intro a0 a1 a2 a3 a4 k
 unfold impl_WindowBytes.f
 repeat' first
   | (with_reducible exact impl_areOn.mono _ _ _)
   | (with_reducible exact LeO.refl _)
   | (with_reducible exact LeO.none _)
   | (with_reducible refine LeO.ite ?_ ?_)
   | (with_reducible refine LeO.bind ?_ (fun _ => ?_))
   | exact impl_areOn.mono _ _ _
   | exact LeO.none _
   | refine LeO.ite ?_ ?_
   | refine LeO.bind ?_ (fun _ => ?_)
set_option maxHeartbeats 8000000 in
set_option maxRecDepth 100000 in
theorem impl_WindowBytes.calls (k : Nat) (A0_0 : Option Addr) (c0_0 : Nat) (l0_0 : List (List Int)) (a1_0 : Int) (a1_1 : Int) (a1_2 : Int) (a1_3 : Int) (r1 : List Int) (r2 : Bool) (w : World) (hr0_0 : Kd.C (Kd.slice 5 (Kd.int .u8)) w A0_0 l0_0.length l0_0) (hc0_0 : l0_0.length ≤ c0_0) (h : impl_WindowBytes.f k l0_0 a1_0 a1_1 a1_2 a1_3 = some (r1, r2)) :
  Calls Try.prog 34 #[.agg #[.slice A0_0 l0_0.length c0_0], .agg #[.int .i64 a1_0, .int .i64 a1_1, .int .i64 a1_2, .int .i64 a1_3]] w fun e w' => ∃ v0_ : Value, e = .returned (.tuple #[v0_, .bool r2]) ∧ Kd.R (Kd.int .u8) 5 w' w.heap.size (fun _ => True) v0_ r1 ∧ Below w.heap.size w w' := by
 have hu32 := Try.underlying32
 have hu54 := Try.underlying54
 have HR0_0 := Aside0.mk hr0_0
 have HC0_0 := Aside0.mk hc0_0
 clear hr0_0 hc0_0
 have HB := Aside0.mk (Below.refl w.heap.size w)
 have H : ((impl_areOn.f k l0_0 (([(⟨a1_0, a1_1, a1_2, a1_3⟩ : S54)] : List (S54)))).bind fun t291 => (if t291 = true then ((impl_Memory_seen.f l0_0 a1_0 a1_1 a1_2 a1_3).bind fun t292 => ((slices_Clone_byte_byte.f t292).bind fun t295 => (some (t295, true)))) else (some (([] : List Int), false)))) = some (r1, r2) := h
 clear h
 obtain ⟨y288, hy288⟩ : ∃ y_ : List (S54), y_ = (([(⟨a1_0, a1_1, a1_2, a1_3⟩ : S54)] : List (S54))) := ⟨_, rfl⟩
 replace H : ((impl_areOn.f k l0_0 y288).bind fun t291 => (if t291 = true then ((impl_Memory_seen.f l0_0 a1_0 a1_1 a1_2 a1_3).bind fun t292 => ((slices_Clone_byte_byte.f t292).bind fun t295 => (some (t295, true)))) else (some (([] : List Int), false)))) = some (r1, r2) := by first | (rw [hy288]; with_reducible exact H) | (have H2_ := (Option.bind_some _ _).symm.trans H; rw [hy288]; with_reducible exact H2_) | (have H2_ := (Option.bind_some _ _).symm.trans H; with_reducible exact H2_) | with_reducible exact H | (rw [hy288]; exact H) | exact H
 have Ny288 := Aside0.mk hy288
 clear hy288
 replace H := Option.bind_eq_some_iff.mp H
 obtain ⟨t291, A30, H⟩ := H
 replace H : (if t291 = true then ((impl_Memory_seen.f l0_0 a1_0 a1_1 a1_2 a1_3).bind fun t292 => ((slices_Clone_byte_byte.f t292).bind fun t295 => (some (t295, true)))) else (some (([] : List Int), false))) = some (r1, r2) := H
 have A3 := Aside0.mk A30
 clear A30
 by_cases c4 : t291 = true
 ·subst c4
  have H1 : ((impl_Memory_seen.f l0_0 a1_0 a1_1 a1_2 a1_3).bind fun t292 => ((slices_Clone_byte_byte.f t292).bind fun t295 => (some (t295, true)))) = some (r1, r2) := by rw [if_pos rfl] at H; exact H
  clear H
  have H := H1
  clear H1
  replace H := Option.bind_eq_some_iff.mp H
  obtain ⟨t292, A50, H⟩ := H
  replace H : ((slices_Clone_byte_byte.f t292).bind fun t295 => (some (t295, true))) = some (r1, r2) := H
  have A5 := Aside0.mk A50
  clear A50
  replace H := Option.bind_eq_some_iff.mp H
  obtain ⟨t295, A60, H⟩ := H
  replace H : (some (t295, true)) = some (r1, r2) := H
  have A6 := Aside0.mk A60
  clear A60
  simp only [Option.some.injEq, Prod.mk.injEq] at H
  obtain ⟨rfl, rfl⟩ := H
  go_enter Try.func34, Try.ntmps34
  go_wp2_with (first | ((with_reducible refine gate_dst (N := 2) rfl ?_); refine box_event ?hg (N := 2) ?hd (cs := #[.slice A0_0 l0_0.length c0_0]) (t := 32) ?hr ?_; (case hd => rfl); (case hg => rfl); (case hr => first | (go_simp; done) | (go_simp; rfl)); intro gb286 hg w7 hbox hb; have BK286 := Aside0.mk (hbox); have GW286 := zge HB hg; have GE286 := zge HB hg; replace HB := zhs HB hb; clear hb hbox hg) | ((with_reducible refine gate_dst (N := 3) rfl ?_); refine box_event ?hg (N := 3) ?hd (cs := #[.int .i64 a1_0, .int .i64 a1_1, .int .i64 a1_2, .int .i64 a1_3]) (t := 54) ?hr ?_; (case hd => rfl); (case hg => rfl); (case hr => first | (go_simp; done) | (go_simp; rfl)); intro gb287 hg w8 hbox hb; have BK287 := Aside0.mk (hbox); have GW287 := zge HB hg; have GE287 := zge HB hg; have NB286_287 := znl BK286 hg; have NB287_286 := znr BK286 hg; replace BK286 := zb0 BK286 hb; replace HB := zhs HB hb; clear hb hbox hg; have hnb9 := NB286_287.out; have hnc9 := NB287_286.out; have hcz10_0 := zc0 BK286 0 rfl; have hfz10_0 := blk_frozen BK286.out 0; have hcz11_0 := zc0 BK287 0 rfl; have hcz11_1 := zc0 BK287 1 rfl; have hcz11_2 := zc0 BK287 2 rfl; have hcz11_3 := zc0 BK287 3 rfl; have hfz11_0 := blk_frozen BK287.out 0; have hfz11_1 := blk_frozen BK287.out 1; have hfz11_2 := blk_frozen BK287.out 2; have hfz11_3 := blk_frozen BK287.out 3) | ((with_reducible refine gate_dst (N := 8) rfl ?_); refine Kd.R_lit k54 _ 54 ?hg (N := 8) ?hd (xs := ([(⟨a1_0, a1_1, a1_2, a1_3⟩ : S54)] : List (S54))) (inner := [.int .i64 a1_0, .int .i64 a1_1, .int .i64 a1_2, .int .i64 a1_3]) (ok := fun _ => True) (okp := fun _ => True) ?hr ?hp (fun _ hk => hk) trivial (Below.refl _ _) (Nat.le_refl _) (by simp) ?_; (case hd => rfl); (case hg => rfl); (case hr => first | (go_simp; done) | (go_simp; rfl)); (case hp => exact (Reps.c4 (show Kd.M k54 _ _ _ (⟨a1_0, a1_1, a1_2, a1_3⟩ : S54) [.int .i64 a1_0, .int .i64 a1_1, .int .i64 a1_2, .int .i64 a1_3] from (k54_mkM _ _ _ (⟨a1_0, a1_1, a1_2, a1_3⟩ : S54) )) (Reps.none _ _))); intro v289 w12 ho13 hb hg_ hnew_; clear hg_ hnew_; (first | rw [← Ny288.out] at ho13 | (simp only [Int.reduceToNat] at ho13; rw [← Ny288.out] at ho13)); have HO290 := Aside0.mk (Kd.R_lower (Kd.R_newB ho13 (g := gb287) (o := .cells #[.int .i64 a1_0, .int .i64 a1_1, .int .i64 a1_2, .int .i64 a1_3] 54 (0, 0)) (zk0 BK287)) (below_size (zh0 HB))); replace BK286 := zb0 BK286 hb; replace BK287 := zb0 BK287 hb; replace HB := zhs HB hb; clear hb ho13; obtain ⟨Ao14, co14, eo14⟩ := Kd.R_slice HO290.out; subst eo14) | ((with_reducible refine gate_callee (f := 58) rfl ?_); refine goesL_ (some 9) rfl rfl Try.func58 (by kernel_rfl) rfl #[.agg #[.slice A0_0 l0_0.length c0_0], .slice Ao14 y288.length co14] rfl (by (try simp only [zq1, zq2, zq3]); first | done | rfl | (simp only [List.length_drop, List.length_take]; rfl)) ?_; (with_reducible refine (impl_areOn.calls k _ _ l0_0 _ _ y288 true _ ?side1 ?side2 ?side3 ?side4 A3.out).mono ?_); (case side1 => exact Kd.C_below HR0_0.out (zh0 HB)); (case side2 => exact HC0_0.out); (case side3 => repeat (first | exact (Kd.R_reads' HO290.out).2.2 | (with_reducible refine Kd.C_alloc ?_ _) | (with_reducible refine Kd.C_drewN ?_ _) | (with_reducible refine Kd.C_drew ?_))); (case side4 => exact (Kd.R_reads' HO290.out).2.1); rintro e w15 ⟨rfl, hb⟩; refine ⟨_, rfl, ?_⟩; replace HO290 := zrb HO290 hb; replace BK286 := zb0 BK286 hb; replace BK287 := zb0 BK287 hb; replace HB := zhs HB hb; (try clear hb); have hcz16_0 := zc0 BK286 0 rfl; have hfz16_0 := blk_frozen BK286.out 0; have hcz17_0 := zc0 BK287 0 rfl; have hcz17_1 := zc0 BK287 1 rfl; have hcz17_2 := zc0 BK287 2 rfl; have hcz17_3 := zc0 BK287 3 rfl; have hfz17_0 := blk_frozen BK287.out 0; have hfz17_1 := blk_frozen BK287.out 1; have hfz17_2 := blk_frozen BK287.out 2; have hfz17_3 := blk_frozen BK287.out 3) | ((with_reducible refine gate_callee (f := 60) rfl ?_); refine goesL_ (some 13) rfl rfl Try.func60 (by kernel_rfl) rfl #[.agg #[.slice A0_0 l0_0.length c0_0], .agg #[.int .i64 a1_0, .int .i64 a1_1, .int .i64 a1_2, .int .i64 a1_3]] rfl (by (try simp only [zq1, zq2, zq3]); first | done | rfl | (simp only [List.length_drop, List.length_take]; rfl)) ?_; (with_reducible refine (impl_Memory_seen.calls (fun k_ => k_ < w.heap.size) _ _ l0_0 a1_0 a1_1 a1_2 a1_3 t292 _ ?side1 A5.out).mono ?_); (case side1 => exact Kd.V_mk HC0_0.out (Kd.F_below (Kd.C_F (Kd.heap_slice 5 (Kd.heap_int .u8)) HR0_0.out) (zh0 HB))); rintro e w18 ⟨v293, rfl, ho0, hb⟩; refine ⟨_, rfl, ?_⟩; have HO294 := Aside0.mk (Kd.V_lower (Kd.V_mono (ok' := fun k_ => some k_ ≠ (.slice Ao14 y288.length co14 : Value).ownBlock ∧ k_ ≠ gb286 ∧ k_ ≠ gb287) ho0 (fun k_ hk_ => ⟨Or.elim hk_ (fun hs_ => fun e_ => Nat.not_le.2 hs_ (Kd.R_base HO290.out k_ e_.symm)) (fun hn_ => (Kd.fresh' (Kd.R_lt (zr0 HO290)) k_ hn_)), Or.elim hk_ (fun hs_ => fun e_ => Nat.not_le.2 hs_ (by rw [e_]; exact GW286.out)) (fun hn_ => (Kd.freshB (g := gb286) (o := .cells #[.slice A0_0 l0_0.length c0_0] 32 (0, 0)) (zk0 BK286) k_ hn_)), Or.elim hk_ (fun hs_ => fun e_ => Nat.not_le.2 hs_ (by rw [e_]; exact GW287.out)) (fun hn_ => (Kd.freshB (g := gb287) (o := .cells #[.int .i64 a1_0, .int .i64 a1_1, .int .i64 a1_2, .int .i64 a1_3] 54 (0, 0)) (zk0 BK287) k_ hn_))⟩)) (below_size (zh0 HB))); replace HO290 := zrb HO290 hb; replace BK286 := zb0 BK286 hb; replace BK287 := zb0 BK287 hb; replace HB := zhs HB hb; (try clear hb); (try clear ho0); obtain ⟨Ao19, co19, eo19⟩ := Kd.V_slice HO294.out; subst eo19) | ((with_reducible refine gate_callee (f := 63) rfl ?_); refine goesL_ (some 14) rfl rfl Try.func63 (by kernel_rfl) rfl #[.slice Ao19 t292.length co19] rfl (by (try simp only [zq1, zq2, zq3]); first | done | rfl | (simp only [List.length_drop, List.length_take]; rfl)) ?_; (with_reducible refine (slices_Clone_byte_byte.calls _ _ t292 t295 _ ?side1 ?side2 A6.out).mono ?_); (case side1 => repeat (first | exact (Kd.V_reads' HO294.out).2.2 | (with_reducible refine Kd.C_alloc ?_ _) | (with_reducible refine Kd.C_drewN ?_ _) | (with_reducible refine Kd.C_drew ?_))); (case side2 => exact (Kd.V_reads' HO294.out).2.1); rintro e w20 ⟨v296, rfl, ho0, hb⟩; refine ⟨_, rfl, ?_⟩; have HO297 := Aside0.mk (Kd.R_lower ho0 (below_size (zh0 HB))); replace HO290 := zrb HO290 hb; replace HO294 := Aside0.mk (Kd.V_elder' (by (with_reducible repeat (first | apply Kd.V_alloc | apply Kd.V_drewN | apply Kd.V_drew)); exact HO294.out) (Kd.R_base ho0) hb); replace BK286 := zb0 BK286 hb; replace BK287 := zb0 BK287 hb; replace HB := zhs HB hb; (try clear hb); (try clear ho0)))
  go_ret2
  exact ⟨_, by first | rfl | (simp <;> rfl) | (simp [*] <;> rfl), (by first | exact zr0 HO297 | exact Kd.R_mono (zr0 HO297) (fun _ _ => trivial)), by repeat (first | exact zh0 HB | refine below_set ?_ GE286.out | refine below_set ?_ GE287.out)⟩
 ·replace c4 := Bool.eq_false_iff.mpr c4
  subst c4
  have H1 : (some (([] : List Int), false)) = some (r1, r2) := by rw [if_neg (show ¬ (false = true) by decide)] at H; exact H
  clear H
  have H := H1
  clear H1
  simp only [Option.some.injEq, Prod.mk.injEq] at H
  obtain ⟨rfl, rfl⟩ := H
  go_enter Try.func34, Try.ntmps34
  go_wp2_with (first | ((with_reducible refine gate_dst (N := 2) rfl ?_); refine box_event ?hg (N := 2) ?hd (cs := #[.slice A0_0 l0_0.length c0_0]) (t := 32) ?hr ?_; (case hd => rfl); (case hg => rfl); (case hr => first | (go_simp; done) | (go_simp; rfl)); intro gb286 hg w21 hbox hb; have BK286 := Aside0.mk (hbox); have GW286 := zge HB hg; have GE286 := zge HB hg; replace HB := zhs HB hb; clear hb hbox hg) | ((with_reducible refine gate_dst (N := 3) rfl ?_); refine box_event ?hg (N := 3) ?hd (cs := #[.int .i64 a1_0, .int .i64 a1_1, .int .i64 a1_2, .int .i64 a1_3]) (t := 54) ?hr ?_; (case hd => rfl); (case hg => rfl); (case hr => first | (go_simp; done) | (go_simp; rfl)); intro gb287 hg w22 hbox hb; have BK287 := Aside0.mk (hbox); have GW287 := zge HB hg; have GE287 := zge HB hg; have NB286_287 := znl BK286 hg; have NB287_286 := znr BK286 hg; replace BK286 := zb0 BK286 hb; replace HB := zhs HB hb; clear hb hbox hg; have hnb23 := NB286_287.out; have hnc23 := NB287_286.out; have hcz24_0 := zc0 BK286 0 rfl; have hfz24_0 := blk_frozen BK286.out 0; have hcz25_0 := zc0 BK287 0 rfl; have hcz25_1 := zc0 BK287 1 rfl; have hcz25_2 := zc0 BK287 2 rfl; have hcz25_3 := zc0 BK287 3 rfl; have hfz25_0 := blk_frozen BK287.out 0; have hfz25_1 := blk_frozen BK287.out 1; have hfz25_2 := blk_frozen BK287.out 2; have hfz25_3 := blk_frozen BK287.out 3) | ((with_reducible refine gate_dst (N := 8) rfl ?_); refine Kd.R_lit k54 _ 54 ?hg (N := 8) ?hd (xs := ([(⟨a1_0, a1_1, a1_2, a1_3⟩ : S54)] : List (S54))) (inner := [.int .i64 a1_0, .int .i64 a1_1, .int .i64 a1_2, .int .i64 a1_3]) (ok := fun _ => True) (okp := fun _ => True) ?hr ?hp (fun _ hk => hk) trivial (Below.refl _ _) (Nat.le_refl _) (by simp) ?_; (case hd => rfl); (case hg => rfl); (case hr => first | (go_simp; done) | (go_simp; rfl)); (case hp => exact (Reps.c4 (show Kd.M k54 _ _ _ (⟨a1_0, a1_1, a1_2, a1_3⟩ : S54) [.int .i64 a1_0, .int .i64 a1_1, .int .i64 a1_2, .int .i64 a1_3] from (k54_mkM _ _ _ (⟨a1_0, a1_1, a1_2, a1_3⟩ : S54) )) (Reps.none _ _))); intro v289 w26 ho27 hb hg_ hnew_; clear hg_ hnew_; (first | rw [← Ny288.out] at ho27 | (simp only [Int.reduceToNat] at ho27; rw [← Ny288.out] at ho27)); have HO290 := Aside0.mk (Kd.R_lower (Kd.R_newB ho27 (g := gb287) (o := .cells #[.int .i64 a1_0, .int .i64 a1_1, .int .i64 a1_2, .int .i64 a1_3] 54 (0, 0)) (zk0 BK287)) (below_size (zh0 HB))); replace BK286 := zb0 BK286 hb; replace BK287 := zb0 BK287 hb; replace HB := zhs HB hb; clear hb ho27; obtain ⟨Ao28, co28, eo28⟩ := Kd.R_slice HO290.out; subst eo28) | ((with_reducible refine gate_callee (f := 58) rfl ?_); refine goesL_ (some 9) rfl rfl Try.func58 (by kernel_rfl) rfl #[.agg #[.slice A0_0 l0_0.length c0_0], .slice Ao28 y288.length co28] rfl (by (try simp only [zq1, zq2, zq3]); first | done | rfl | (simp only [List.length_drop, List.length_take]; rfl)) ?_; (with_reducible refine (impl_areOn.calls k _ _ l0_0 _ _ y288 false _ ?side1 ?side2 ?side3 ?side4 A3.out).mono ?_); (case side1 => exact Kd.C_below HR0_0.out (zh0 HB)); (case side2 => exact HC0_0.out); (case side3 => repeat (first | exact (Kd.R_reads' HO290.out).2.2 | (with_reducible refine Kd.C_alloc ?_ _) | (with_reducible refine Kd.C_drewN ?_ _) | (with_reducible refine Kd.C_drew ?_))); (case side4 => exact (Kd.R_reads' HO290.out).2.1); rintro e w29 ⟨rfl, hb⟩; refine ⟨_, rfl, ?_⟩; replace HO290 := zrb HO290 hb; replace BK286 := zb0 BK286 hb; replace BK287 := zb0 BK287 hb; replace HB := zhs HB hb; (try clear hb)))
  go_ret2
  exact ⟨_, by first | rfl | (simp <;> rfl) | (simp [*] <;> rfl), by first | exact Kd.R_nil _ _ _ _ _ | exact Kd.N_nil _ _ _ _ _ | exact Kd.V_nil _ _ _ _ _ | exact Kd.Q_nil _ _ _ _ _ | exact Kd.S_nil _ _ _ _ _, by repeat (first | exact zh0 HB | refine below_set ?_ GE286.out | refine below_set ?_ GE287.out)⟩

open Go.Proofs.Ytkifenbcepicjaa.Cp
/-! ### laws_vBytes: function 35 -/
def laws_vBytes.f (l0 : List Int) (l1 : List Int) : Option (Bool) := some ((strOfNums l0).toList == (strOfNums l1).toList)
set_option maxHeartbeats 8000000 in
set_option maxRecDepth 100000 in
theorem laws_vBytes.calls (A0 : Option Addr) (c0 : Nat) (l0 : List Int) (A1 : Option Addr) (c1 : Nat) (l1 : List Int) (r : Bool) (w : World) (hr0 : Kd.C (Kd.int .u8) w A0 l0.length l0) (hc0 : l0.length ≤ c0) (hr1 : Kd.C (Kd.int .u8) w A1 l1.length l1) (hc1 : l1.length ≤ c1) (h : laws_vBytes.f l0 l1 = some r) :
  Calls Try.prog 35 #[.slice A0 l0.length c0, .slice A1 l1.length c1] w fun e w' => e = .returned (.bool r) ∧ Drawn0 w w' := by
 have HR0 := Aside0.mk hr0
 have HC0 := Aside0.mk hc0
 clear hr0 hc0
 have HR1 := Aside0.mk hr1
 have HC1 := Aside0.mk hc1
 clear hr1 hc1
 have H : (some ((strOfNums l0).toList == (strOfNums l1).toList)) = some r := h
 clear h
 obtain rfl := Option.some.inj H
 have hcv3 := Kd.C_string (P := Try.prog) (A := A0) (c := c0) Try.underlying43 Try.underlying5 Try.underlying9 HR0.out
 have hcv4 := Kd.C_string (P := Try.prog) (A := A1) (c := c1) Try.underlying43 Try.underlying5 Try.underlying9 HR1.out
 go_enter Try.func35, Try.ntmps35
 go_wp2
 go_ret
 exact ⟨by first | rfl | (simp; done) | (simp [*]; done), by repeat (first | exact Drawn0.refl _ | apply Drawn0.step)⟩

end Go.Proofs.Ytkifenbcepicjaa.PFnKeys
