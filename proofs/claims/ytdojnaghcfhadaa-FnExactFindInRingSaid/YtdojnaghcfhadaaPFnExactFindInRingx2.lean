/- What is proved here: each Go function that is named below answers, and leaves memory, as the theorem of its name says; no condition beyond those that each theorem states. Laid by this session's own program (wip/driver.py) over the kit's print. -/
import Derived.Test.YtdojnaghcfhadaaPFnExactFindInRingx0
import Derived.Test.YtdojnaghcfhadaaPFnExactFindInRingx1
namespace Go.Proofs.Ytdojnaghcfhadaa.PFnExactFindInRing
open Go.RowKit Go.Proofs.YtdojnaghcfhadaaW.PrintWords Go.Proofs.YtdojnaghcfhadaaW.PrintLast Go.Proofs.YtdojnaghcfhadaaW.PrintMore
attribute [local go_sem] max2_int min2_int max_two min_two max_three min_three max_four min_four   -- for this text's walks alone
set_option linter.unusedVariables false
set_option linter.unusedSimpArgs false

open Go.Proofs.Ytdojnaghcfhadaa.Cp
/-! ### spec_l5Ring: function 74 -/
def spec_l5Ring.f (k : Nat) (l0_0 : List (List Int)) (a1_0 : Int) (a1_1 : Int) (a1_2 : Int) (a1_3 : Int) (a1_4 : Int) (a1_5 : Int) : Option (Bool) := (spec_l2Window.f k l0_0 a1_0 a1_1 a1_2 a1_3).bind fun t155 => (if t155 = true then (if a1_2 > 0 then ((spec_l1In.f a1_4 0 (wrap64 (a1_2 - 1))).bind fun t156 => (if t156 = true then ((spec_l1In.f a1_5 0 a1_2).bind fun t157 => (some t157)) else (some false))) else (some false)) else (some false))
theorem spec_l5Ring.mono : ∀ a0 a1 a2 a3 a4 a5 a6 k, LeO (spec_l5Ring.f k a0 a1 a2 a3 a4 a5 a6) (spec_l5Ring.f (k + 1) a0 a1 a2 a3 a4 a5 a6) := by
 intro a0 a1 a2 a3 a4 a5 a6 k
 unfold spec_l5Ring.f
 repeat' first
   | (with_reducible exact spec_l2Window.mono _ _ _ _ _ _)
   | (with_reducible exact LeO.refl _)
   | (with_reducible exact LeO.none _)
   | (with_reducible refine LeO.ite ?_ ?_)
   | (with_reducible refine LeO.bind ?_ (fun _ => ?_))
   | exact spec_l2Window.mono _ _ _ _ _ _
   | exact LeO.none _
   | refine LeO.ite ?_ ?_
   | refine LeO.bind ?_ (fun _ => ?_)
set_option maxHeartbeats 8000000 in
set_option maxRecDepth 100000 in
theorem spec_l5Ring.calls (k : Nat) (A0_0 : Option Addr) (c0_0 : Nat) (l0_0 : List (List Int)) (a1_0 : Int) (a1_1 : Int) (a1_2 : Int) (a1_3 : Int) (a1_4 : Int) (a1_5 : Int) (r : Bool) (w : World) (hr0_0 : Kd.C (Kd.slice 5 (Kd.int .u8)) w A0_0 l0_0.length l0_0) (hc0_0 : l0_0.length ≤ c0_0) (h : spec_l5Ring.f k l0_0 a1_0 a1_1 a1_2 a1_3 a1_4 a1_5 = some r) :
  Calls Try.prog 74 #[.agg #[.slice A0_0 l0_0.length c0_0], .agg #[.int .i64 a1_0, .int .i64 a1_1, .int .i64 a1_2, .int .i64 a1_3, .int .i64 a1_4, .int .i64 a1_5]] w fun e w' => e = .returned (.bool r) ∧ Below w.heap.size w w' := by
 have hu32 := Try.underlying32
 have hu36 := Try.underlying36
 have hu34 := Try.underlying34
 have HR0_0 := Aside0.mk hr0_0
 have HC0_0 := Aside0.mk hc0_0
 clear hr0_0 hc0_0
 have HB := Aside0.mk (Below.refl w.heap.size w)
 have H : ((spec_l2Window.f k l0_0 a1_0 a1_1 a1_2 a1_3).bind fun t155 => (if t155 = true then (if a1_2 > 0 then ((spec_l1In.f a1_4 0 (wrap64 (a1_2 - 1))).bind fun t156 => (if t156 = true then ((spec_l1In.f a1_5 0 a1_2).bind fun t157 => (some t157)) else (some false))) else (some false)) else (some false))) = some r := h
 clear h
 replace H := Option.bind_eq_some_iff.mp H
 obtain ⟨t155, A30, H⟩ := H
 replace H : (if t155 = true then (if a1_2 > 0 then ((spec_l1In.f a1_4 0 (wrap64 (a1_2 - 1))).bind fun t156 => (if t156 = true then ((spec_l1In.f a1_5 0 a1_2).bind fun t157 => (some t157)) else (some false))) else (some false)) else (some false)) = some r := H
 have A3 := Aside0.mk A30
 clear A30
 by_cases c4 : t155 = true
 ·subst c4
  have H1 : (if a1_2 > 0 then ((spec_l1In.f a1_4 0 (wrap64 (a1_2 - 1))).bind fun t156 => (if t156 = true then ((spec_l1In.f a1_5 0 a1_2).bind fun t157 => (some t157)) else (some false))) else (some false)) = some r := by rw [if_pos rfl] at H; exact H
  clear H
  have H := H1
  clear H1
  by_cases c5 : a1_2 > 0
  ·rw [if_pos c5] at H
   have c5b0 : decide (0 < a1_2) = true := decide_eq_true c5
   clear c5
   replace H := Option.bind_eq_some_iff.mp H
   obtain ⟨t156, A60, H⟩ := H
   replace H : (if t156 = true then ((spec_l1In.f a1_5 0 a1_2).bind fun t157 => (some t157)) else (some false)) = some r := H
   have A6 := Aside0.mk A60
   clear A60
   by_cases c7 : t156 = true
   ·subst c7
    have H1 : ((spec_l1In.f a1_5 0 a1_2).bind fun t157 => (some t157)) = some r := by rw [if_pos rfl] at H; exact H
    clear H
    have H := H1
    clear H1
    replace H := Option.bind_eq_some_iff.mp H
    obtain ⟨t157, A80, H⟩ := H
    replace H : (some t157) = some r := H
    have A8 := Aside0.mk A80
    clear A80
    obtain rfl := Option.some.inj H
    go_enter Try.func74, Try.ntmps74
    go_wp2_with (first | ((with_reducible refine gate_dst (N := 2) rfl ?_); refine box_event ?hg (N := 2) ?hd (cs := #[.slice A0_0 l0_0.length c0_0]) (t := 32) ?hr ?_; (case hd => rfl); (case hg => rfl); (case hr => first | (go_simp; done) | (go_simp; rfl)); intro gb153 hg w9 hbox hb; have BK153 := Aside0.mk (hbox); have GW153 := zge HB hg; have GE153 := zge HB hg; replace HB := zhs HB hb; clear hb hbox hg) | ((with_reducible refine gate_dst (N := 3) rfl ?_); refine box_event ?hg (N := 3) ?hd (cs := #[.int .i64 a1_0, .int .i64 a1_1, .int .i64 a1_2, .int .i64 a1_3, .int .i64 a1_4, .int .i64 a1_5]) (t := 36) ?hr ?_; (case hd => rfl); (case hg => rfl); (case hr => first | (go_simp; done) | (go_simp; rfl)); intro gb154 hg w10 hbox hb; have BK154 := Aside0.mk (hbox); have GW154 := zge HB hg; have GE154 := zge HB hg; have NB153_154 := znl BK153 hg; have NB154_153 := znr BK153 hg; replace BK153 := zb0 BK153 hb; replace HB := zhs HB hb; clear hb hbox hg; have hnb11 := NB153_154.out; have hnc11 := NB154_153.out; have hcz12_0 := zc0 BK153 0 rfl; have hfz12_0 := blk_frozen BK153.out 0; have hcz13_0 := zc0 BK154 0 rfl; have hcz13_1 := zc0 BK154 1 rfl; have hcz13_2 := zc0 BK154 2 rfl; have hcz13_3 := zc0 BK154 3 rfl; have hcz13_4 := zc0 BK154 4 rfl; have hcz13_5 := zc0 BK154 5 rfl; have hfz13_0 := blk_frozen BK154.out 0; have hfz13_1 := blk_frozen BK154.out 1; have hfz13_2 := blk_frozen BK154.out 2; have hfz13_3 := blk_frozen BK154.out 3; have hfz13_4 := blk_frozen BK154.out 4; have hfz13_5 := blk_frozen BK154.out 5) | ((with_reducible refine gate_callee (f := 115) rfl ?_); refine goesL_ (some 8) rfl rfl Try.func115 (by kernel_rfl) rfl #[.agg #[.slice A0_0 l0_0.length c0_0], .agg #[.int .i64 a1_0, .int .i64 a1_1, .int .i64 a1_2, .int .i64 a1_3]] rfl (by (try simp only [List.map_toArray, List.map_cons, List.map_nil]); first | done | rfl | (simp only [List.length_drop, List.length_take]; rfl)) ?_; (with_reducible refine (spec_l2Window.calls k _ _ l0_0 a1_0 a1_1 a1_2 a1_3 true _ ?side1 ?side2 A3.out).mono ?_); (case side1 => exact Kd.C_below HR0_0.out (zh0 HB)); (case side2 => exact HC0_0.out); rintro e w14 ⟨rfl, hb⟩; refine ⟨_, rfl, ?_⟩; replace BK153 := zb0 BK153 hb; replace BK154 := zb0 BK154 hb; replace HB := zhs HB hb; (try clear hb); (try clear hb2); (try clear hk); (try clear hi); have hcz15_0 := zc0 BK154 0 rfl; have hcz15_1 := zc0 BK154 1 rfl; have hcz15_2 := zc0 BK154 2 rfl; have hcz15_3 := zc0 BK154 3 rfl; have hcz15_4 := zc0 BK154 4 rfl; have hcz15_5 := zc0 BK154 5 rfl; have hfz15_0 := blk_frozen BK154.out 0; have hfz15_1 := blk_frozen BK154.out 1; have hfz15_2 := blk_frozen BK154.out 2; have hfz15_3 := blk_frozen BK154.out 3; have hfz15_4 := blk_frozen BK154.out 4; have hfz15_5 := blk_frozen BK154.out 5) | (go_at_call 114; (with_reducible refine (spec_l1In.calls a1_4 0 (wrap64 (a1_2 - 1)) true _ A6.out).mono ?_); rintro e w' ⟨rfl, ⟨nd, rfl⟩⟩) | (go_at_call 114; (with_reducible refine (spec_l1In.calls a1_5 0 a1_2 t157 _ A8.out).mono ?_); rintro e w' ⟨rfl, ⟨nd, rfl⟩⟩))
    go_ret
    exact ⟨by first | rfl | (simp [errW_none, errW_some] <;> rfl) | (simp [*, errW_none, errW_some] <;> rfl), by repeat (first | exact zh0 HB | refine below_set ?_ GE153.out | refine below_set ?_ GE154.out)⟩
   ·replace c7 := Bool.eq_false_iff.mpr c7
    subst c7
    have H1 : (some false) = some r := by rw [if_neg (show ¬ (false = true) by decide)] at H; exact H
    clear H
    have H := H1
    clear H1
    obtain rfl := Option.some.inj H
    go_enter Try.func74, Try.ntmps74
    go_wp2_with (first | ((with_reducible refine gate_dst (N := 2) rfl ?_); refine box_event ?hg (N := 2) ?hd (cs := #[.slice A0_0 l0_0.length c0_0]) (t := 32) ?hr ?_; (case hd => rfl); (case hg => rfl); (case hr => first | (go_simp; done) | (go_simp; rfl)); intro gb153 hg w16 hbox hb; have BK153 := Aside0.mk (hbox); have GW153 := zge HB hg; have GE153 := zge HB hg; replace HB := zhs HB hb; clear hb hbox hg) | ((with_reducible refine gate_dst (N := 3) rfl ?_); refine box_event ?hg (N := 3) ?hd (cs := #[.int .i64 a1_0, .int .i64 a1_1, .int .i64 a1_2, .int .i64 a1_3, .int .i64 a1_4, .int .i64 a1_5]) (t := 36) ?hr ?_; (case hd => rfl); (case hg => rfl); (case hr => first | (go_simp; done) | (go_simp; rfl)); intro gb154 hg w17 hbox hb; have BK154 := Aside0.mk (hbox); have GW154 := zge HB hg; have GE154 := zge HB hg; have NB153_154 := znl BK153 hg; have NB154_153 := znr BK153 hg; replace BK153 := zb0 BK153 hb; replace HB := zhs HB hb; clear hb hbox hg; have hnb18 := NB153_154.out; have hnc18 := NB154_153.out; have hcz19_0 := zc0 BK153 0 rfl; have hfz19_0 := blk_frozen BK153.out 0; have hcz20_0 := zc0 BK154 0 rfl; have hcz20_1 := zc0 BK154 1 rfl; have hcz20_2 := zc0 BK154 2 rfl; have hcz20_3 := zc0 BK154 3 rfl; have hcz20_4 := zc0 BK154 4 rfl; have hcz20_5 := zc0 BK154 5 rfl; have hfz20_0 := blk_frozen BK154.out 0; have hfz20_1 := blk_frozen BK154.out 1; have hfz20_2 := blk_frozen BK154.out 2; have hfz20_3 := blk_frozen BK154.out 3; have hfz20_4 := blk_frozen BK154.out 4; have hfz20_5 := blk_frozen BK154.out 5) | ((with_reducible refine gate_callee (f := 115) rfl ?_); refine goesL_ (some 8) rfl rfl Try.func115 (by kernel_rfl) rfl #[.agg #[.slice A0_0 l0_0.length c0_0], .agg #[.int .i64 a1_0, .int .i64 a1_1, .int .i64 a1_2, .int .i64 a1_3]] rfl (by (try simp only [List.map_toArray, List.map_cons, List.map_nil]); first | done | rfl | (simp only [List.length_drop, List.length_take]; rfl)) ?_; (with_reducible refine (spec_l2Window.calls k _ _ l0_0 a1_0 a1_1 a1_2 a1_3 true _ ?side1 ?side2 A3.out).mono ?_); (case side1 => exact Kd.C_below HR0_0.out (zh0 HB)); (case side2 => exact HC0_0.out); rintro e w21 ⟨rfl, hb⟩; refine ⟨_, rfl, ?_⟩; replace BK153 := zb0 BK153 hb; replace BK154 := zb0 BK154 hb; replace HB := zhs HB hb; (try clear hb); (try clear hb2); (try clear hk); (try clear hi); have hcz22_0 := zc0 BK154 0 rfl; have hcz22_1 := zc0 BK154 1 rfl; have hcz22_2 := zc0 BK154 2 rfl; have hcz22_3 := zc0 BK154 3 rfl; have hcz22_4 := zc0 BK154 4 rfl; have hcz22_5 := zc0 BK154 5 rfl; have hfz22_0 := blk_frozen BK154.out 0; have hfz22_1 := blk_frozen BK154.out 1; have hfz22_2 := blk_frozen BK154.out 2; have hfz22_3 := blk_frozen BK154.out 3; have hfz22_4 := blk_frozen BK154.out 4; have hfz22_5 := blk_frozen BK154.out 5) | (go_at_call 114; (with_reducible refine (spec_l1In.calls a1_4 0 (wrap64 (a1_2 - 1)) false _ A6.out).mono ?_); rintro e w' ⟨rfl, ⟨nd, rfl⟩⟩))
    go_ret
    exact ⟨by first | rfl | (simp [errW_none, errW_some] <;> rfl) | (simp [*, errW_none, errW_some] <;> rfl), by repeat (first | exact zh0 HB | refine below_set ?_ GE153.out | refine below_set ?_ GE154.out)⟩
  ·rw [if_neg c5] at H
   have c5b0 : decide (0 < a1_2) = false := decide_eq_false c5
   clear c5
   obtain rfl := Option.some.inj H
   go_enter Try.func74, Try.ntmps74
   go_wp2_with (first | ((with_reducible refine gate_dst (N := 2) rfl ?_); refine box_event ?hg (N := 2) ?hd (cs := #[.slice A0_0 l0_0.length c0_0]) (t := 32) ?hr ?_; (case hd => rfl); (case hg => rfl); (case hr => first | (go_simp; done) | (go_simp; rfl)); intro gb153 hg w23 hbox hb; have BK153 := Aside0.mk (hbox); have GW153 := zge HB hg; have GE153 := zge HB hg; replace HB := zhs HB hb; clear hb hbox hg) | ((with_reducible refine gate_dst (N := 3) rfl ?_); refine box_event ?hg (N := 3) ?hd (cs := #[.int .i64 a1_0, .int .i64 a1_1, .int .i64 a1_2, .int .i64 a1_3, .int .i64 a1_4, .int .i64 a1_5]) (t := 36) ?hr ?_; (case hd => rfl); (case hg => rfl); (case hr => first | (go_simp; done) | (go_simp; rfl)); intro gb154 hg w24 hbox hb; have BK154 := Aside0.mk (hbox); have GW154 := zge HB hg; have GE154 := zge HB hg; have NB153_154 := znl BK153 hg; have NB154_153 := znr BK153 hg; replace BK153 := zb0 BK153 hb; replace HB := zhs HB hb; clear hb hbox hg; have hnb25 := NB153_154.out; have hnc25 := NB154_153.out; have hcz26_0 := zc0 BK153 0 rfl; have hfz26_0 := blk_frozen BK153.out 0; have hcz27_0 := zc0 BK154 0 rfl; have hcz27_1 := zc0 BK154 1 rfl; have hcz27_2 := zc0 BK154 2 rfl; have hcz27_3 := zc0 BK154 3 rfl; have hcz27_4 := zc0 BK154 4 rfl; have hcz27_5 := zc0 BK154 5 rfl; have hfz27_0 := blk_frozen BK154.out 0; have hfz27_1 := blk_frozen BK154.out 1; have hfz27_2 := blk_frozen BK154.out 2; have hfz27_3 := blk_frozen BK154.out 3; have hfz27_4 := blk_frozen BK154.out 4; have hfz27_5 := blk_frozen BK154.out 5) | ((with_reducible refine gate_callee (f := 115) rfl ?_); refine goesL_ (some 8) rfl rfl Try.func115 (by kernel_rfl) rfl #[.agg #[.slice A0_0 l0_0.length c0_0], .agg #[.int .i64 a1_0, .int .i64 a1_1, .int .i64 a1_2, .int .i64 a1_3]] rfl (by (try simp only [List.map_toArray, List.map_cons, List.map_nil]); first | done | rfl | (simp only [List.length_drop, List.length_take]; rfl)) ?_; (with_reducible refine (spec_l2Window.calls k _ _ l0_0 a1_0 a1_1 a1_2 a1_3 true _ ?side1 ?side2 A3.out).mono ?_); (case side1 => exact Kd.C_below HR0_0.out (zh0 HB)); (case side2 => exact HC0_0.out); rintro e w28 ⟨rfl, hb⟩; refine ⟨_, rfl, ?_⟩; replace BK153 := zb0 BK153 hb; replace BK154 := zb0 BK154 hb; replace HB := zhs HB hb; (try clear hb); (try clear hb2); (try clear hk); (try clear hi); have hcz29_0 := zc0 BK154 0 rfl; have hcz29_1 := zc0 BK154 1 rfl; have hcz29_2 := zc0 BK154 2 rfl; have hcz29_3 := zc0 BK154 3 rfl; have hcz29_4 := zc0 BK154 4 rfl; have hcz29_5 := zc0 BK154 5 rfl; have hfz29_0 := blk_frozen BK154.out 0; have hfz29_1 := blk_frozen BK154.out 1; have hfz29_2 := blk_frozen BK154.out 2; have hfz29_3 := blk_frozen BK154.out 3; have hfz29_4 := blk_frozen BK154.out 4; have hfz29_5 := blk_frozen BK154.out 5))
   go_ret
   exact ⟨by first | rfl | (simp [errW_none, errW_some] <;> rfl) | (simp [*, errW_none, errW_some] <;> rfl), by repeat (first | exact zh0 HB | refine below_set ?_ GE153.out | refine below_set ?_ GE154.out)⟩
 ·replace c4 := Bool.eq_false_iff.mpr c4
  subst c4
  have H1 : (some false) = some r := by rw [if_neg (show ¬ (false = true) by decide)] at H; exact H
  clear H
  have H := H1
  clear H1
  obtain rfl := Option.some.inj H
  go_enter Try.func74, Try.ntmps74
  go_wp2_with (first | ((with_reducible refine gate_dst (N := 2) rfl ?_); refine box_event ?hg (N := 2) ?hd (cs := #[.slice A0_0 l0_0.length c0_0]) (t := 32) ?hr ?_; (case hd => rfl); (case hg => rfl); (case hr => first | (go_simp; done) | (go_simp; rfl)); intro gb153 hg w30 hbox hb; have BK153 := Aside0.mk (hbox); have GW153 := zge HB hg; have GE153 := zge HB hg; replace HB := zhs HB hb; clear hb hbox hg) | ((with_reducible refine gate_dst (N := 3) rfl ?_); refine box_event ?hg (N := 3) ?hd (cs := #[.int .i64 a1_0, .int .i64 a1_1, .int .i64 a1_2, .int .i64 a1_3, .int .i64 a1_4, .int .i64 a1_5]) (t := 36) ?hr ?_; (case hd => rfl); (case hg => rfl); (case hr => first | (go_simp; done) | (go_simp; rfl)); intro gb154 hg w31 hbox hb; have BK154 := Aside0.mk (hbox); have GW154 := zge HB hg; have GE154 := zge HB hg; have NB153_154 := znl BK153 hg; have NB154_153 := znr BK153 hg; replace BK153 := zb0 BK153 hb; replace HB := zhs HB hb; clear hb hbox hg; have hnb32 := NB153_154.out; have hnc32 := NB154_153.out; have hcz33_0 := zc0 BK153 0 rfl; have hfz33_0 := blk_frozen BK153.out 0; have hcz34_0 := zc0 BK154 0 rfl; have hcz34_1 := zc0 BK154 1 rfl; have hcz34_2 := zc0 BK154 2 rfl; have hcz34_3 := zc0 BK154 3 rfl; have hcz34_4 := zc0 BK154 4 rfl; have hcz34_5 := zc0 BK154 5 rfl; have hfz34_0 := blk_frozen BK154.out 0; have hfz34_1 := blk_frozen BK154.out 1; have hfz34_2 := blk_frozen BK154.out 2; have hfz34_3 := blk_frozen BK154.out 3; have hfz34_4 := blk_frozen BK154.out 4; have hfz34_5 := blk_frozen BK154.out 5) | ((with_reducible refine gate_callee (f := 115) rfl ?_); refine goesL_ (some 8) rfl rfl Try.func115 (by kernel_rfl) rfl #[.agg #[.slice A0_0 l0_0.length c0_0], .agg #[.int .i64 a1_0, .int .i64 a1_1, .int .i64 a1_2, .int .i64 a1_3]] rfl (by (try simp only [List.map_toArray, List.map_cons, List.map_nil]); first | done | rfl | (simp only [List.length_drop, List.length_take]; rfl)) ?_; (with_reducible refine (spec_l2Window.calls k _ _ l0_0 a1_0 a1_1 a1_2 a1_3 false _ ?side1 ?side2 A3.out).mono ?_); (case side1 => exact Kd.C_below HR0_0.out (zh0 HB)); (case side2 => exact HC0_0.out); rintro e w35 ⟨rfl, hb⟩; refine ⟨_, rfl, ?_⟩; replace BK153 := zb0 BK153 hb; replace BK154 := zb0 BK154 hb; replace HB := zhs HB hb; (try clear hb); (try clear hb2); (try clear hk); (try clear hi)))
  go_ret
  exact ⟨by first | rfl | (simp [errW_none, errW_some] <;> rfl) | (simp [*, errW_none, errW_some] <;> rfl), by repeat (first | exact zh0 HB | refine below_set ?_ GE153.out | refine below_set ?_ GE154.out)⟩

open Go.Proofs.Ytdojnaghcfhadaa.Cp
/-! ### spec_l5Slot: function 85 -/
def spec_l5Slot.f (a0_0 : Int) (a0_1 : Int) (a0_2 : Int) (a0_3 : Int) (a0_4 : Int) (a0_5 : Int) (a1 : Int) : Option (Int) := if a0_2 = 0 then (none) else (some (Int.tmod (wrap64 (a0_4 + a1)) a0_2))
set_option maxHeartbeats 8000000 in
set_option maxRecDepth 100000 in
theorem spec_l5Slot.calls (a0_0 : Int) (a0_1 : Int) (a0_2 : Int) (a0_3 : Int) (a0_4 : Int) (a0_5 : Int) (a1 : Int) (r : Int) (w : World) (h : spec_l5Slot.f a0_0 a0_1 a0_2 a0_3 a0_4 a0_5 a1 = some r) :
  Calls Try.prog 85 #[.agg #[.int .i64 a0_0, .int .i64 a0_1, .int .i64 a0_2, .int .i64 a0_3, .int .i64 a0_4, .int .i64 a0_5], .int .i64 a1] w fun e w' => e = .returned (.int .i64 r) ∧ Below w.heap.size w w' := by
 have hu36 := Try.underlying36
 have HB := Aside0.mk (Below.refl w.heap.size w)
 have H : (if a0_2 = 0 then (none) else (some (Int.tmod (wrap64 (a0_4 + a1)) a0_2))) = some r := h
 clear h
 by_cases c3 : a0_2 = 0
 ·rw [if_pos c3] at H
  exact absurd H (by simp)
 ·rw [if_neg c3] at H
  have c3b0 : (a0_2 == 0) = false := beq_eq_false_iff_ne.mpr c3
  have c3b1 : (a0_2 != 0) = true := bne_iff_ne.mpr c3
  obtain rfl := Option.some.inj H
  go_enter Try.func85, Try.ntmps85
  go_wp2_with (first | ((with_reducible refine gate_dst (N := 2) rfl ?_); refine box_event ?hg (N := 2) ?hd (cs := #[.int .i64 a0_0, .int .i64 a0_1, .int .i64 a0_2, .int .i64 a0_3, .int .i64 a0_4, .int .i64 a0_5]) (t := 36) ?hr ?_; (case hd => rfl); (case hg => rfl); (case hr => first | (go_simp; done) | (go_simp; rfl)); intro gb158 hg w4 hbox hb; have BK158 := Aside0.mk (hbox); have GW158 := zge HB hg; have GE158 := zge HB hg; replace HB := zhs HB hb; clear hb hbox hg; have hcz5_0 := zc0 BK158 0 rfl; have hcz5_1 := zc0 BK158 1 rfl; have hcz5_2 := zc0 BK158 2 rfl; have hcz5_3 := zc0 BK158 3 rfl; have hcz5_4 := zc0 BK158 4 rfl; have hcz5_5 := zc0 BK158 5 rfl; have hfz5_0 := blk_frozen BK158.out 0; have hfz5_1 := blk_frozen BK158.out 1; have hfz5_2 := blk_frozen BK158.out 2; have hfz5_3 := blk_frozen BK158.out 3; have hfz5_4 := blk_frozen BK158.out 4; have hfz5_5 := blk_frozen BK158.out 5))
  go_ret
  exact ⟨by first | rfl | (simp [errW_none, errW_some] <;> rfl) | (simp [*, errW_none, errW_some] <;> rfl), by repeat (first | exact zh0 HB | refine below_set ?_ GE158.out)⟩

open Go.Proofs.Ytdojnaghcfhadaa.Cp
/-! ### spec_l2At: function 86 -/
def spec_l2At.f (l0_0 : List (List Int)) (a1_0 : Int) (a1_1 : Int) (a1_2 : Int) (a1_3 : Int) (a2 : Int) : Option (Int) := if 0 ≤ a1_0 then (if a1_0 < (l0_0.length : Int) then (if 0 ≤ (wrap64 (a1_1 + a2)) then (if (wrap64 (a1_1 + a2)) < ((rd_L1 l0_0 a1_0).length : Int) then (some (rd (rd_L1 l0_0 a1_0) (wrap64 (a1_1 + a2)))) else (none)) else (none)) else (none)) else (none)
set_option maxHeartbeats 8000000 in
set_option maxRecDepth 100000 in
theorem spec_l2At.calls (A0_0 : Option Addr) (c0_0 : Nat) (l0_0 : List (List Int)) (a1_0 : Int) (a1_1 : Int) (a1_2 : Int) (a1_3 : Int) (a2 : Int) (r : Int) (w : World) (hr0_0 : Kd.C (Kd.slice 5 (Kd.int .u8)) w A0_0 l0_0.length l0_0) (hc0_0 : l0_0.length ≤ c0_0) (h : spec_l2At.f l0_0 a1_0 a1_1 a1_2 a1_3 a2 = some r) :
  Calls Try.prog 86 #[.agg #[.slice A0_0 l0_0.length c0_0], .agg #[.int .i64 a1_0, .int .i64 a1_1, .int .i64 a1_2, .int .i64 a1_3], .int .i64 a2] w fun e w' => e = .returned (.int .u8 r) ∧ Below w.heap.size w w' := by
 have hu32 := Try.underlying32
 have hu34 := Try.underlying34
 have HR0_0 := Aside0.mk hr0_0
 have HC0_0 := Aside0.mk hc0_0
 clear hr0_0 hc0_0
 have HB := Aside0.mk (Below.refl w.heap.size w)
 have H : (if 0 ≤ a1_0 then (if a1_0 < (l0_0.length : Int) then (if 0 ≤ (wrap64 (a1_1 + a2)) then (if (wrap64 (a1_1 + a2)) < ((rd_L1 l0_0 a1_0).length : Int) then (some (rd (rd_L1 l0_0 a1_0) (wrap64 (a1_1 + a2)))) else (none)) else (none)) else (none)) else (none)) = some r := h
 clear h
 by_cases c4 : 0 ≤ a1_0
 ·rw [if_pos c4] at H
  have c4b0 : decide (0 ≤ a1_0) = true := decide_eq_true c4
  clear c4
  by_cases c5 : a1_0 < (l0_0.length : Int)
  ·rw [if_pos c5] at H
   have c5b0 : decide (a1_0 < (l0_0.length : Int)) = true := decide_eq_true c5
   clear c5
   obtain ⟨ji6, hji6⟩ : ∃ j_ : Int, (wrap64 (a1_1 + a2)) = j_ := ⟨_, rfl⟩
   replace H : (if 0 ≤ (ji6) then (if (ji6) < ((rd_L1 l0_0 a1_0).length : Int) then (some (rd (rd_L1 l0_0 a1_0) (ji6))) else (none)) else (none)) = some r := by first | (rw [hji6] at H; exact H) | (simp only [hji6] at H ⊢; exact H)
   have hji6w : (IntKind.i64.wrap (a1_1 + a2)) = ji6 := (i64_w _).trans hji6
   by_cases c7 : 0 ≤ (ji6)
   ·rw [if_pos c7] at H
    have c7b0 : decide (0 ≤ (ji6)) = true := decide_eq_true c7
    clear c7
    by_cases c8 : (ji6) < ((rd_L1 l0_0 a1_0).length : Int)
    ·rw [if_pos c8] at H
     have c8b0 : decide ((ji6) < ((rd_L1 l0_0 a1_0).length : Int)) = true := decide_eq_true c8
     clear c8
     obtain rfl := Option.some.inj H
     go_enter Try.func86, Try.ntmps86
     go_wp2_with (first | ((with_reducible refine gate_dst (N := 3) rfl ?_); refine box_event ?hg (N := 3) ?hd (cs := #[.slice A0_0 l0_0.length c0_0]) (t := 32) ?hr ?_; (case hd => rfl); (case hg => rfl); (case hr => first | (go_simp; done) | (go_simp; rfl)); intro gb159 hg w9 hbox hb; have BK159 := Aside0.mk (hbox); have GW159 := zge HB hg; have GE159 := zge HB hg; replace HB := zhs HB hb; clear hb hbox hg) | ((with_reducible refine gate_dst (N := 4) rfl ?_); refine box_event ?hg (N := 4) ?hd (cs := #[.int .i64 a1_0, .int .i64 a1_1, .int .i64 a1_2, .int .i64 a1_3]) (t := 34) ?hr ?_; (case hd => rfl); (case hg => rfl); (case hr => first | (go_simp; done) | (go_simp; rfl)); intro gb160 hg w10 hbox hb; have BK160 := Aside0.mk (hbox); have GW160 := zge HB hg; have GE160 := zge HB hg; have NB159_160 := znl BK159 hg; have NB160_159 := znr BK159 hg; replace BK159 := zb0 BK159 hb; replace HB := zhs HB hb; clear hb hbox hg; have hnb11 := NB159_160.out; have hnc11 := NB160_159.out; have hcz12_0 := zc0 BK159 0 rfl; have hfz12_0 := blk_frozen BK159.out 0; have hcz13_0 := zc0 BK160 0 rfl; have hcz13_1 := zc0 BK160 1 rfl; have hcz13_2 := zc0 BK160 2 rfl; have hcz13_3 := zc0 BK160 3 rfl; have hfz13_0 := blk_frozen BK160.out 0; have hfz13_1 := blk_frozen BK160.out 1; have hfz13_2 := blk_frozen BK160.out 2; have hfz13_3 := blk_frozen BK160.out 3; have p161 : 0 ≤ (a1_0 : Int) := of_decide_eq_true (by first | (with_reducible assumption) | assumption); have q161 : a1_0 < (l0_0.length : Int) := of_decide_eq_true (by first | (with_reducible assumption) | assumption); obtain ⟨ad161, A161_0, c161_0, e161, hx161_0, hl161_0, hi161_0⟩ := at_L1 HR0_0.out a1_0 p161 q161; cases e161; replace hx161_0 := (HB.out.cell (World.block_lt_of_cell? w _ hx161_0)).trans hx161_0; have HR161_0 := Aside0.mk hi161_0; have HC161_0 := Aside0.mk hl161_0; clear hi161_0 hl161_0; replace p161 := eq_true p161; replace q161 := eq_true q161; have p162 : 0 ≤ ((ji6) : Int) := of_decide_eq_true (by first | (with_reducible assumption) | assumption); have q162 : (ji6) < ((rd_L1 l0_0 a1_0).length : Int) := of_decide_eq_true (by first | (with_reducible assumption) | assumption); obtain ⟨ad162, e162, hx162_0⟩ := Kd.at_int HR161_0.out (ji6) p162 q162; cases e162; replace hx162_0 := (HB.out.cell (World.block_lt_of_cell? w _ hx162_0)).trans hx162_0; replace p162 := eq_true p162; replace q162 := eq_true q162))
     repeat (go_quiet (first | ((with_reducible refine gate_dst (N := 3) rfl ?_); refine box_event ?hg (N := 3) ?hd (cs := #[.slice A0_0 l0_0.length c0_0]) (t := 32) ?hr ?_; (case hd => rfl); (case hg => rfl); (case hr => first | (go_simp; done) | (go_simp; rfl)); intro gb159 hg w9 hbox hb; have BK159 := Aside0.mk (hbox); have GW159 := zge HB hg; have GE159 := zge HB hg; replace HB := zhs HB hb; clear hb hbox hg) | ((with_reducible refine gate_dst (N := 4) rfl ?_); refine box_event ?hg (N := 4) ?hd (cs := #[.int .i64 a1_0, .int .i64 a1_1, .int .i64 a1_2, .int .i64 a1_3]) (t := 34) ?hr ?_; (case hd => rfl); (case hg => rfl); (case hr => first | (go_simp; done) | (go_simp; rfl)); intro gb160 hg w10 hbox hb; have BK160 := Aside0.mk (hbox); have GW160 := zge HB hg; have GE160 := zge HB hg; have NB159_160 := znl BK159 hg; have NB160_159 := znr BK159 hg; replace BK159 := zb0 BK159 hb; replace HB := zhs HB hb; clear hb hbox hg; have hnb11 := NB159_160.out; have hnc11 := NB160_159.out; have hcz12_0 := zc0 BK159 0 rfl; have hfz12_0 := blk_frozen BK159.out 0; have hcz13_0 := zc0 BK160 0 rfl; have hcz13_1 := zc0 BK160 1 rfl; have hcz13_2 := zc0 BK160 2 rfl; have hcz13_3 := zc0 BK160 3 rfl; have hfz13_0 := blk_frozen BK160.out 0; have hfz13_1 := blk_frozen BK160.out 1; have hfz13_2 := blk_frozen BK160.out 2; have hfz13_3 := blk_frozen BK160.out 3; have p161 : 0 ≤ (a1_0 : Int) := of_decide_eq_true (by first | (with_reducible assumption) | assumption); have q161 : a1_0 < (l0_0.length : Int) := of_decide_eq_true (by first | (with_reducible assumption) | assumption); obtain ⟨ad161, A161_0, c161_0, e161, hx161_0, hl161_0, hi161_0⟩ := at_L1 HR0_0.out a1_0 p161 q161; cases e161; replace hx161_0 := (HB.out.cell (World.block_lt_of_cell? w _ hx161_0)).trans hx161_0; have HR161_0 := Aside0.mk hi161_0; have HC161_0 := Aside0.mk hl161_0; clear hi161_0 hl161_0; replace p161 := eq_true p161; replace q161 := eq_true q161; have p162 : 0 ≤ ((ji6) : Int) := of_decide_eq_true (by first | (with_reducible assumption) | assumption); have q162 : (ji6) < ((rd_L1 l0_0 a1_0).length : Int) := of_decide_eq_true (by first | (with_reducible assumption) | assumption); obtain ⟨ad162, e162, hx162_0⟩ := Kd.at_int HR161_0.out (ji6) p162 q162; cases e162; replace hx162_0 := (HB.out.cell (World.block_lt_of_cell? w _ hx162_0)).trans hx162_0; replace p162 := eq_true p162; replace q162 := eq_true q162)); try go_wp2_with (first | ((with_reducible refine gate_dst (N := 3) rfl ?_); refine box_event ?hg (N := 3) ?hd (cs := #[.slice A0_0 l0_0.length c0_0]) (t := 32) ?hr ?_; (case hd => rfl); (case hg => rfl); (case hr => first | (go_simp; done) | (go_simp; rfl)); intro gb159 hg w9 hbox hb; have BK159 := Aside0.mk (hbox); have GW159 := zge HB hg; have GE159 := zge HB hg; replace HB := zhs HB hb; clear hb hbox hg) | ((with_reducible refine gate_dst (N := 4) rfl ?_); refine box_event ?hg (N := 4) ?hd (cs := #[.int .i64 a1_0, .int .i64 a1_1, .int .i64 a1_2, .int .i64 a1_3]) (t := 34) ?hr ?_; (case hd => rfl); (case hg => rfl); (case hr => first | (go_simp; done) | (go_simp; rfl)); intro gb160 hg w10 hbox hb; have BK160 := Aside0.mk (hbox); have GW160 := zge HB hg; have GE160 := zge HB hg; have NB159_160 := znl BK159 hg; have NB160_159 := znr BK159 hg; replace BK159 := zb0 BK159 hb; replace HB := zhs HB hb; clear hb hbox hg; have hnb11 := NB159_160.out; have hnc11 := NB160_159.out; have hcz12_0 := zc0 BK159 0 rfl; have hfz12_0 := blk_frozen BK159.out 0; have hcz13_0 := zc0 BK160 0 rfl; have hcz13_1 := zc0 BK160 1 rfl; have hcz13_2 := zc0 BK160 2 rfl; have hcz13_3 := zc0 BK160 3 rfl; have hfz13_0 := blk_frozen BK160.out 0; have hfz13_1 := blk_frozen BK160.out 1; have hfz13_2 := blk_frozen BK160.out 2; have hfz13_3 := blk_frozen BK160.out 3; have p161 : 0 ≤ (a1_0 : Int) := of_decide_eq_true (by first | (with_reducible assumption) | assumption); have q161 : a1_0 < (l0_0.length : Int) := of_decide_eq_true (by first | (with_reducible assumption) | assumption); obtain ⟨ad161, A161_0, c161_0, e161, hx161_0, hl161_0, hi161_0⟩ := at_L1 HR0_0.out a1_0 p161 q161; cases e161; replace hx161_0 := (HB.out.cell (World.block_lt_of_cell? w _ hx161_0)).trans hx161_0; have HR161_0 := Aside0.mk hi161_0; have HC161_0 := Aside0.mk hl161_0; clear hi161_0 hl161_0; replace p161 := eq_true p161; replace q161 := eq_true q161; have p162 : 0 ≤ ((ji6) : Int) := of_decide_eq_true (by first | (with_reducible assumption) | assumption); have q162 : (ji6) < ((rd_L1 l0_0 a1_0).length : Int) := of_decide_eq_true (by first | (with_reducible assumption) | assumption); obtain ⟨ad162, e162, hx162_0⟩ := Kd.at_int HR161_0.out (ji6) p162 q162; cases e162; replace hx162_0 := (HB.out.cell (World.block_lt_of_cell? w _ hx162_0)).trans hx162_0; replace p162 := eq_true p162; replace q162 := eq_true q162)))
     go_ret
     exact ⟨by first | rfl | (simp [errW_none, errW_some] <;> rfl) | (simp only [← hji6]; first | rfl | (simp [errW_none, errW_some] <;> rfl)) | (simp [*, errW_none, errW_some] <;> rfl), by repeat (first | exact zh0 HB | refine below_set ?_ GE159.out | refine below_set ?_ GE160.out)⟩
    ·rw [if_neg c8] at H
     exact absurd H (by simp)
   ·rw [if_neg c7] at H
    exact absurd H (by simp)
  ·rw [if_neg c5] at H
   exact absurd H (by simp)
 ·rw [if_neg c4] at H
  exact absurd H (by simp)

open Go.Proofs.Ytdojnaghcfhadaa.Cp
/-! ### spec_l5Bytes: function 91 -/
def spec_l5Bytes.l0 : Nat → List Int → Int → List (List Int) → Int → Int → Int → Int → Int → Int → Option (List Int)
 | 0, _, _, _, _, _, _, _, _, _ => none
 | k + 1, x5, x6, x164000, x165000, x165001, x165002, x165003, x165004, x165005 => if x6 < x165005 then ((spec_l5Slot.f x165000 x165001 x165002 x165003 x165004 x165005 x6).bind fun t168 => ((spec_l2At.f x164000 x165000 x165001 x165002 x165003 t168).bind fun t169 => (if x5.length < 140737488355328 then (spec_l5Bytes.l0 k (x5 ++ [t169]) (wrap64 (x6 + 1)) x164000 x165000 x165001 x165002 x165003 x165004 x165005) else (none)))) else (some x5)
def spec_l5Bytes.f (k : Nat) (l0_0 : List (List Int)) (a1_0 : Int) (a1_1 : Int) (a1_2 : Int) (a1_3 : Int) (a1_4 : Int) (a1_5 : Int) : Option (List Int) := spec_l5Bytes.l0 k (([] : List Int)) 0 l0_0 a1_0 a1_1 a1_2 a1_3 a1_4 a1_5
theorem spec_l5Bytes.mono_l : ∀ k, (∀ y0 y1 y2 y3 y4 y5 y6 y7 y8, LeO (spec_l5Bytes.l0 k y0 y1 y2 y3 y4 y5 y6 y7 y8) (spec_l5Bytes.l0 (k + 1) y0 y1 y2 y3 y4 y5 y6 y7 y8))
 | 0 => fun _ _ _ _ _ _ _ _ _ r h => by simp [spec_l5Bytes.l0] at h
 | k + 1 => by
  have ih0 := spec_l5Bytes.mono_l k
  ·intro y0 y1 y2 y3 y4 y5 y6 y7 y8
   unfold spec_l5Bytes.l0
   repeat' first
   | (with_reducible exact ih0 _ _ _ _ _ _ _ _ _)
   | (with_reducible exact LeO.refl _)
   | (with_reducible exact LeO.none _)
   | (with_reducible refine LeO.ite ?_ ?_)
   | (with_reducible refine LeO.bind ?_ (fun _ => ?_))
   | exact ih0 _ _ _ _ _ _ _ _ _
   | exact LeO.none _
   | refine LeO.ite ?_ ?_
   | refine LeO.bind ?_ (fun _ => ?_)
theorem spec_l5Bytes.mono : ∀ a0 a1 a2 a3 a4 a5 a6 k, LeO (spec_l5Bytes.f k a0 a1 a2 a3 a4 a5 a6) (spec_l5Bytes.f (k + 1) a0 a1 a2 a3 a4 a5 a6) := by
 intro a0 a1 a2 a3 a4 a5 a6 k
 have ih0 := spec_l5Bytes.mono_l k
 unfold spec_l5Bytes.f
 repeat' first
   | (with_reducible exact ih0 _ _ _ _ _ _ _ _ _)
   | (with_reducible exact LeO.refl _)
   | (with_reducible exact LeO.none _)
   | (with_reducible refine LeO.ite ?_ ?_)
   | (with_reducible refine LeO.bind ?_ (fun _ => ?_))
   | exact ih0 _ _ _ _ _ _ _ _ _
   | exact LeO.none _
   | refine LeO.ite ?_ ?_
   | refine LeO.bind ?_ (fun _ => ?_)
def spec_l5Bytes.T5 : Bool × List (List Nat × List Nat) := (true, [([], []), ([], []), ([], []), ([2], [2]), ([], []), ([], []), ([4, 5], [4, 5]), ([1, 3, 6, 6], [1, 3, 6]), ([7], [7]), ([0, 8, 7], [0, 8]), ([9, 9, 0, 1, 2, 3, 4, 5, 6, 7, 8, 9], [0, 9])])
def spec_l5Bytes.B5 : List Nat := [0, 0, 0, 4, 0, 0, 48, 126, 254, 511, 1023]
theorem spec_l5Bytes.tab5 : rtab .any (opsOf Try.f91 5) = spec_l5Bytes.T5 := by kernel_rfl
theorem spec_l5Bytes.bits5 : waitsOk spec_l5Bytes.T5.2 spec_l5Bytes.B5 = true := by kernel_rfl
set_option maxHeartbeats 8000000 in
set_option maxRecDepth 100000 in
theorem spec_l5Bytes.calls (k : Nat) (A0_0 : Option Addr) (c0_0 : Nat) (l0_0 : List (List Int)) (a1_0 : Int) (a1_1 : Int) (a1_2 : Int) (a1_3 : Int) (a1_4 : Int) (a1_5 : Int) (r : List Int) (w : World) (hr0_0 : Kd.C (Kd.slice 5 (Kd.int .u8)) w A0_0 l0_0.length l0_0) (hc0_0 : l0_0.length ≤ c0_0) (h : spec_l5Bytes.f k l0_0 a1_0 a1_1 a1_2 a1_3 a1_4 a1_5 = some r) :
  Calls Try.prog 91 #[.agg #[.slice A0_0 l0_0.length c0_0], .agg #[.int .i64 a1_0, .int .i64 a1_1, .int .i64 a1_2, .int .i64 a1_3, .int .i64 a1_4, .int .i64 a1_5]] w fun e w' => ∃ v0_ : Value, e = .returned (v0_) ∧ Kd.R (Kd.int .u8) 5 w' w.heap.size (fun _ => True) v0_ r ∧ Below w.heap.size w w' := by
 have hu32 := Try.underlying32
 have hu36 := Try.underlying36
 have hu34 := Try.underlying34
 have HR0_0 := Aside0.mk hr0_0
 have HC0_0 := Aside0.mk hc0_0
 clear hr0_0 hc0_0
 have HB := Aside0.mk (Below.refl w.heap.size w)
 have H : (spec_l5Bytes.l0 k (([] : List Int)) 0 l0_0 a1_0 a1_1 a1_2 a1_3 a1_4 a1_5) = some r := h
 clear h
 obtain ⟨y165, hy165⟩ : ∃ y_ : List Int, y_ = (([] : List Int)) := ⟨_, rfl⟩
 replace H : (spec_l5Bytes.l0 k y165 0 l0_0 a1_0 a1_1 a1_2 a1_3 a1_4 a1_5) = some r := by first | (rw [hy165]; with_reducible exact H) | (have H2_ := (Option.bind_some _ _).symm.trans H; rw [hy165]; with_reducible exact H2_) | (have H2_ := (Option.bind_some _ _).symm.trans H; with_reducible exact H2_) | with_reducible exact H | (rw [hy165]; exact H) | exact H
 have Ny165 := Aside0.mk hy165
 clear hy165
 have H' := Aside0.mk H
 clear H
 go_enter Try.func91, Try.ntmps91
 go_wp2_with (first | ((with_reducible refine gate_dst (N := 2) rfl ?_); refine box_event ?hg (N := 2) ?hd (cs := #[.slice A0_0 l0_0.length c0_0]) (t := 32) ?hr ?_; (case hd => rfl); (case hg => rfl); (case hr => first | (go_simp; done) | (go_simp; rfl)); intro gb163 hg w3 hbox hb; have BK163 := Aside0.mk (hbox); have GW163 := zge HB hg; have GE163 := zge HB hg; replace HB := zhs HB hb; clear hb hbox hg) | ((with_reducible refine gate_dst (N := 3) rfl ?_); refine box_event ?hg (N := 3) ?hd (cs := #[.int .i64 a1_0, .int .i64 a1_1, .int .i64 a1_2, .int .i64 a1_3, .int .i64 a1_4, .int .i64 a1_5]) (t := 36) ?hr ?_; (case hd => rfl); (case hg => rfl); (case hr => first | (go_simp; done) | (go_simp; rfl)); intro gb164 hg w4 hbox hb; have BK164 := Aside0.mk (hbox); have GW164 := zge HB hg; have GE164 := zge HB hg; have NB163_164 := znl BK163 hg; have NB164_163 := znr BK163 hg; replace BK163 := zb0 BK163 hb; replace HB := zhs HB hb; clear hb hbox hg) | ((with_reducible refine gate_dst (N := 7) rfl ?_); refine Kd.R_lit (Kd.int .u8) _ 5 ?hg (N := 7) ?hd (xs := ([] : List Int)) (inner := []) (ok := fun _ => True) (okp := fun _ => True) ?hr ?hp (fun _ hk => hk) trivial (Below.refl _ _) (Nat.le_refl _) (by simp) ?_; (case hd => rfl); (case hg => rfl); (case hr => first | (go_simp; done) | (go_simp; rfl)); (case hp => exact (Reps.none _ _)); intro v166 w5 ho6 hb hg_ hnew_; clear hg_ hnew_; (first | rw [← Ny165.out] at ho6 | (simp only [Int.reduceToNat] at ho6; rw [← Ny165.out] at ho6)); have HO167 := Aside0.mk (Kd.R_lower ho6 (below_size (zh0 HB))); replace BK163 := zb0 BK163 hb; replace BK164 := zb0 BK164 hb; replace HB := zhs HB hb; clear hb ho6))
 go_loopg [5, 6] k (fun kq v5 v6 w' => ∃ (x5_1 : List Int) (x6_1 : Int), v6 = .int .i64 x6_1 ∧ Aside0 (spec_l5Bytes.l0 kq x5_1 x6_1 l0_0 a1_0 a1_1 a1_2 a1_3 a1_4 a1_5 = some r) ∧ Aside0 (kq ≤ k) ∧ Aside0 (Kd.R (Kd.int .u8) 5 w' w.heap.size (fun _ => True) v5 x5_1) ∧ Aside0 (w'.heap[gb163]? = some (.cells #[(.slice A0_0 l0_0.length c0_0)] 32 (0, 0))) ∧ Aside0 (w'.heap[gb164]? = some (.cells #[.int .i64 a1_0, .int .i64 a1_1, .int .i64 a1_2, .int .i64 a1_3, .int .i64 a1_4, .int .i64 a1_5] 36 (0, 0))) ∧ Aside0 (Below w.heap.size w w'))
 case atStart => exact ⟨(y165), (0), (by first | rfl | (simp; done) | (simp [*]; done)), H', ⟨Nat.le_refl _⟩, ⟨zr0 HO167⟩, ⟨zk0 BK163⟩, ⟨zk0 BK164⟩, ⟨by repeat (first | exact zh0 HB | refine below_set ?_ GE163.out | refine below_set ?_ GE164.out)⟩⟩
 case round =>
  clear H'
  try clear p2
  obtain ⟨x5_1, x6_1, rfl, HA, HK1, HO_5, BK163, BK164, HB⟩ := hrel
  cases gk with
  | zero => exact absurd HA.out (by simp [spec_l5Bytes.l0])
  | succ k1 =>
   have H := HA.out
   clear HA
   simp only [spec_l5Bytes.l0] at H
   by_cases c7 : x6_1 < a1_5
   ·rw [if_pos c7] at H
    have c7b0 : decide (x6_1 < a1_5) = true := decide_eq_true c7
    clear c7
    replace H := Option.bind_eq_some_iff.mp H
    obtain ⟨t168, A80, H⟩ := H
    replace H : ((spec_l2At.f l0_0 a1_0 a1_1 a1_2 a1_3 t168).bind fun t169 => (if x5_1.length < 140737488355328 then (spec_l5Bytes.l0 k1 (x5_1 ++ [t169]) (wrap64 (x6_1 + 1)) l0_0 a1_0 a1_1 a1_2 a1_3 a1_4 a1_5) else (none))) = some r := H
    have A8 := Aside0.mk A80
    clear A80
    replace H := Option.bind_eq_some_iff.mp H
    obtain ⟨t169, A90, H⟩ := H
    replace H : (if x5_1.length < 140737488355328 then (spec_l5Bytes.l0 k1 (x5_1 ++ [t169]) (wrap64 (x6_1 + 1)) l0_0 a1_0 a1_1 a1_2 a1_3 a1_4 a1_5) else (none)) = some r := H
    have A9 := Aside0.mk A90
    clear A90
    by_cases c10 : x5_1.length < 140737488355328
    ·rw [if_pos c10] at H
     have LMc10 := Aside0.mk c10
     clear c10
     obtain ⟨y170, hy170⟩ : ∃ y_ : List Int, y_ = (x5_1 ++ [t169]) := ⟨_, rfl⟩
     replace H : (spec_l5Bytes.l0 k1 y170 (wrap64 (x6_1 + 1)) l0_0 a1_0 a1_1 a1_2 a1_3 a1_4 a1_5) = some r := by first | (rw [hy170]; with_reducible exact H) | (have H2_ := (Option.bind_some _ _).symm.trans H; rw [hy170]; with_reducible exact H2_) | (have H2_ := (Option.bind_some _ _).symm.trans H; with_reducible exact H2_) | with_reducible exact H | (rw [hy170]; exact H) | exact H
     have Ny170 := Aside0.mk hy170
     clear hy170
     have H' := Aside0.mk H
     clear H
     have hnb11 := NB164_163.out
     have hnc11 := NB163_164.out
     have hcz12_0 := zc0 BK164 0 rfl
     have hcz12_1 := zc0 BK164 1 rfl
     have hcz12_2 := zc0 BK164 2 rfl
     have hcz12_3 := zc0 BK164 3 rfl
     have hcz12_4 := zc0 BK164 4 rfl
     have hcz12_5 := zc0 BK164 5 rfl
     have hfz12_0 := blk_frozen BK164.out 0
     have hfz12_1 := blk_frozen BK164.out 1
     have hfz12_2 := blk_frozen BK164.out 2
     have hfz12_3 := blk_frozen BK164.out 3
     have hfz12_4 := blk_frozen BK164.out 4
     have hfz12_5 := blk_frozen BK164.out 5
     try go_wp2
     replace HO_5 := Aside0.mk (Kd.R_drew HO_5.out)
     replace BK163 := Aside0.mk (blk_drew BK163.out)
     replace BK164 := Aside0.mk (blk_drew BK164.out)
     replace HB := Aside0.mk (below_drew1 HB.out)
     refine start_ (n := 11) (S := fun w' => w'.cell? ⟨gb163, 0, none⟩ = some (.slice A0_0 l0_0.length c0_0) ∧ w'.cell? ⟨gb164, 0, none⟩ = some (.int .i64 a1_0) ∧ w'.cell? ⟨gb164, 1, none⟩ = some (.int .i64 a1_1) ∧ w'.cell? ⟨gb164, 2, none⟩ = some (.int .i64 a1_2) ∧ w'.cell? ⟨gb164, 3, none⟩ = some (.int .i64 a1_3) ∧ w'.cell? ⟨gb164, 4, none⟩ = some (.int .i64 a1_4) ∧ w'.cell? ⟨gb164, 5, none⟩ = some (.int .i64 a1_5)) (ds := []) #[zF, zF, zF, zF, zF, zF, zF, zF, zF, zF, zF] (by kernel_rfl) rfl rfl ⟨zc0 BK163 0 rfl, zc0 BK164 0 rfl, zc0 BK164 1 rfl, zc0 BK164 2 rfl, zc0 BK164 3 rfl, zc0 BK164 4 rfl, zc0 BK164 5 rfl⟩ (fun hHeld => ?_); refine with_tabW spec_l5Bytes.tab5 spec_l5Bytes.bits5 (fun HT_ HW_ => ?_)
     generalize wr.drew = w13 at HO_5 BK163 BK164 HB hHeld ⊢
     refine pure_ (i := 0) (N := some 14) (v := ?_) (a' := ?_) #[zT, zF, zF, zF, zF, zF, zF, zF, zF, zF, zF] rfl rfl (any_of HT_.out (by kernel_rfl)) (fun _ _ _ h => h) (Or.inl ⟨by rfl, ?_⟩) ?_ ?_
     rotate_left
     ·intro w'
      go_simp
      with_reducible rfl
     rotate_left
     ·simp only [Act.put, zp1, zp2, zp3, i64_w, i32_w]
      rfl
     refine pure_ (i := 2) (N := some 16) (v := ?_) (a' := ?_) #[zT, zF, zT, zF, zF, zF, zF, zF, zF, zF, zF] rfl rfl (any_of HT_.out (by kernel_rfl)) (fun _ _ _ h => h) (Or.inl ⟨by rfl, ?_⟩) ?_ ?_
     rotate_left
     ·intro w'
      go_simp
      with_reducible rfl
     rotate_left
     ·simp only [Act.put, zp1, zp2, zp3, i64_w, i32_w]
      rfl
     refine pure_ (i := 5) (N := some 19) (v := ?_) (a' := ?_) #[zT, zF, zT, zF, zF, zT, zF, zF, zF, zF, zF] rfl rfl (any_of HT_.out (by kernel_rfl)) (fun _ _ _ h => h) (Or.inl ⟨by rfl, ?_⟩) ?_ ?_
     rotate_left
     ·intro w'
      go_simp
      with_reducible rfl
     rotate_left
     ·simp only [Act.put, zp1, zp2, zp3, i64_w, i32_w]
      rfl
     refine take_ (i := 1) (N := some 15) (v := ?_) (a' := ?_) #[zT, zT, zT, zF, zF, zT, zF, zF, zF, zF, zF] rfl rfl (take_ofW HT_.out HW_.out (by kernel_rfl)) (fun _ _ _ h => h) (Or.inl ⟨by rfl, ?_⟩) hHeld ?_ ?_
     rotate_left
     ·rintro w' ⟨s0, s1, s2, s3, s4, s5, s6⟩
      go_simp
      with_reducible rfl
     rotate_left
     ·simp only [Act.put, zp1, zp2, zp3, i64_w, i32_w]
      rfl
     refine take_ (i := 3) (N := some 17) (v := ?_) (a' := ?_) #[zT, zT, zT, zT, zF, zT, zF, zF, zF, zF, zF] rfl rfl (take_ofW HT_.out HW_.out (by kernel_rfl)) (fun _ _ _ h => h) (Or.inl ⟨by rfl, ?_⟩) hHeld ?_ ?_
     rotate_left
     ·rintro w' ⟨s0, s1, s2, s3, s4, s5, s6⟩
      go_simp
      with_reducible rfl
     rotate_left
     ·simp only [Act.put, zp1, zp2, zp3, i64_w, i32_w]
      rfl
     refine take_ (i := 4) (N := some 18) (v := ?_) (a' := ?_) #[zT, zT, zT, zT, zT, zT, zF, zF, zF, zF, zF] rfl rfl (take_ofW HT_.out HW_.out (by kernel_rfl)) (fun _ _ _ h => h) (Or.inl ⟨by rfl, ?_⟩) hHeld ?_ ?_
     rotate_left
     ·rintro w' ⟨s0, s1, s2, s3, s4, s5, s6⟩
      go_simp
      with_reducible rfl
     rotate_left
     ·simp only [Act.put, zp1, zp2, zp3, i64_w, i32_w]
      rfl
     refine one_ (i := 6) (N := some 20) #[zT, zT, zT, zT, zT, zT, zT, zF, zF, zF, zF] rfl rfl (one_of HT_.out (by kernel_rfl)) (by decide) (fun K hK => ?_)
     refine goes_ Try.func85 (by kernel_rfl) rfl #[.agg #[.int .i64 a1_0, .int .i64 a1_1, .int .i64 a1_2, .int .i64 a1_3, .int .i64 a1_4, .int .i64 a1_5], .int .i64 x6_1] (by rfl) rfl rfl (by (try simp only [List.map_toArray, List.map_cons, List.map_nil]); first | done | rfl | (simp only [List.length_drop, List.length_take]; rfl)) ?_
     with_reducible refine (spec_l5Slot.calls a1_0 a1_1 a1_2 a1_3 a1_4 a1_5 x6_1 t168 _ A8.out).mono ?_
     rintro e w14 ⟨rfl, hb⟩
     refine ⟨_, rfl, ?_⟩
     replace HO_5 := zrb HO_5 hb
     replace BK163 := zb0 BK163 hb
     replace BK164 := zb0 BK164 hb
     replace HB := zhs HB hb
     (try clear hb)
     (try clear hb2)
     (try clear hk)
     (try clear hi)
     refine hK.out _ _ ⟨zc0 BK163 0 rfl, zc0 BK164 0 rfl, zc0 BK164 1 rfl, zc0 BK164 2 rfl, zc0 BK164 3 rfl, zc0 BK164 4 rfl, zc0 BK164 5 rfl⟩ (fun hHeld => ?_)
     clear hK K
     refine norm_ (a' := ?_) ?_ ?_
     rotate_left
     ·show Act.put _ (some 20) _ = _
      simp only [Act.put, zp1, zp2, zp3, i64_w, i32_w]
      rfl
     refine one_ (i := 7) (N := some 21) #[zT, zT, zT, zT, zT, zT, zT, zT, zF, zF, zF] rfl rfl (one_of HT_.out (by kernel_rfl)) (by decide) (fun K hK => ?_)
     refine goes_ Try.func86 (by kernel_rfl) rfl #[.agg #[.slice A0_0 l0_0.length c0_0], .agg #[.int .i64 a1_0, .int .i64 a1_1, .int .i64 a1_2, .int .i64 a1_3], .int .i64 t168] (by rfl) rfl rfl (by (try simp only [List.map_toArray, List.map_cons, List.map_nil]); first | done | rfl | (simp only [List.length_drop, List.length_take]; rfl)) ?_
     with_reducible refine (spec_l2At.calls _ _ l0_0 a1_0 a1_1 a1_2 a1_3 t168 t169 _ ?side1 ?side2 A9.out).mono ?_
     (case side1 => exact Kd.C_below HR0_0.out (zh0 HB))
     (case side2 => exact HC0_0.out)
     rintro e w15 ⟨rfl, hb⟩
     refine ⟨_, rfl, ?_⟩
     replace HO_5 := zrb HO_5 hb
     replace BK163 := zb0 BK163 hb
     replace BK164 := zb0 BK164 hb
     replace HB := zhs HB hb
     (try clear hb)
     (try clear hb2)
     (try clear hk)
     (try clear hi)
     refine hK.out _ _ ⟨zc0 BK163 0 rfl, zc0 BK164 0 rfl, zc0 BK164 1 rfl, zc0 BK164 2 rfl, zc0 BK164 3 rfl, zc0 BK164 4 rfl, zc0 BK164 5 rfl⟩ (fun hHeld => ?_)
     clear hK K
     refine norm_ (a' := ?_) ?_ ?_
     rotate_left
     ·show Act.put _ (some 21) _ = _
      simp only [Act.put, zp1, zp2, zp3, i64_w, i32_w]
      rfl
     refine one_ (i := 8) (N := some 22) #[zT, zT, zT, zT, zT, zT, zT, zT, zT, zF, zF] rfl rfl (one_of HT_.out (by kernel_rfl)) (by decide) (fun K hK => ?_)
     refine value_ (w1 := ?_) (v := ?_) (by rfl) rfl ?_ ?_
     rotate_left 2
     ·go_simp
      constructor
      ·rfl
      ·rfl
     refine hK.out _ _ ⟨(blk_cell (blk_alloc BK163.out _) 0).trans rfl, (blk_cell (blk_alloc BK164.out _) 0).trans rfl, (blk_cell (blk_alloc BK164.out _) 1).trans rfl, (blk_cell (blk_alloc BK164.out _) 2).trans rfl, (blk_cell (blk_alloc BK164.out _) 3).trans rfl, (blk_cell (blk_alloc BK164.out _) 4).trans rfl, (blk_cell (blk_alloc BK164.out _) 5).trans rfl⟩ (fun hHeld => ?_)
     clear hK K
     refine norm_ (a' := ?_) ?_ ?_
     rotate_left
     ·show Act.put _ (some 22) _ = _
      simp only [Act.put, zp1, zp2, zp3, i64_w, i32_w]
      rfl
     refine one_ (i := 9) (N := some 23) #[zT, zT, zT, zT, zT, zT, zT, zT, zT, zT, zF] rfl rfl (one_of HT_.out (by kernel_rfl)) (by decide) (fun K hK => ?_)
     refine Kd.R_append_step (Kd.int .u8) (w0 := w) w.heap.size (by rfl) (.tmp 14) (.tmp 22) 65 5 (.int .u8 0) 1 rfl Try.underlying65 info5 rfl (by decide) (by omega) u5 x5_1 t169 [.int .u8 t169] (fun _ => True) (fun _ => False) rfl rfl ?aP (fun _ hk => hk.elim) ?aF ?aO ?aB ?aS ?aL ?_
     (case aP => exact rfl)
     (case aB => exact (zh0 HB))
     (case aF => exact (fun _ _ => trivial))
     (case aO => exact (zr0 HO_5))
     (case aS => exact (below_size (zh0 HB)))
     (case aL => have := LMc10.out; omega)
     intro v171 w16 ho hb hg hat
     rw [← Ny170.out] at ho
     have n0_ := Aside0.mk (blk_grown (g := gb163) (o := .cells #[.slice A0_0 l0_0.length c0_0] 32 (0, 0)) (zk0 BK163) hg (Kd.R_ne HO_5.out BK163.out (by decide)))
     have n1_ := Aside0.mk (blk_grown (g := gb164) (o := .cells #[.int .i64 a1_0, .int .i64 a1_1, .int .i64 a1_2, .int .i64 a1_3, .int .i64 a1_4, .int .i64 a1_5] 36 (0, 0)) (zk0 BK164) hg (Kd.R_ne HO_5.out BK164.out (by decide)))
     have n2_ := Aside0.mk (hb)
     have n3_ := Aside0.mk (ho)
     clear BK163
     clear BK164
     clear HB
     clear HO_5
     have BK163 := n0_
     have BK164 := n1_
     have HB := n2_
     have HO172 := n3_
     clear n0_ n1_ n2_ n3_
     clear ho hb hg hat
     refine hK.out _ _ ⟨zc0 BK163 0 rfl, zc0 BK164 0 rfl, zc0 BK164 1 rfl, zc0 BK164 2 rfl, zc0 BK164 3 rfl, zc0 BK164 4 rfl, zc0 BK164 5 rfl⟩ (fun hHeld => ?_)
     clear hK K
     refine norm_ (a' := ?_) ?_ ?_
     rotate_left
     ·show Act.put _ (some 23) _ = _
      simp only [Act.put, zp1, zp2, zp3, i64_w, i32_w]
      rfl
     refine pure_ (i := 10) (N := some 5) (v := ?_) (a' := ?_) #[zT, zT, zT, zT, zT, zT, zT, zT, zT, zT, zT] rfl rfl (any_of HT_.out (by kernel_rfl)) (fun _ _ _ h => h) (Or.inl ⟨by rfl, ?_⟩) ?_ ?_
     rotate_left
     ·intro w'
      go_simp
      with_reducible rfl
     rotate_left
     ·simp only [Act.put, zp1, zp2, zp3, i64_w, i32_w]
      rfl
     refine done_ (done_of HT_.out (by kernel_rfl)) ?_
     try go_wp2
     go_roundg k1
     case measure => have := HK1.out; omega
     case rel => exact ⟨(y170), (wrap64 (x6_1 + 1)), (by first | rfl | (simp; done) | (simp [*]; done)), H', ⟨by have := HK1.out; omega⟩, ⟨zr0 HO172⟩, ⟨zk0 BK163⟩, ⟨zk0 BK164⟩, ⟨by repeat (first | exact zh0 HB | refine below_set ?_ GE163.out | refine below_set ?_ GE164.out)⟩⟩
    ·rw [if_neg c10] at H
     exact absurd H (by simp)
   ·rw [if_neg c7] at H
    have c7b0 : decide (x6_1 < a1_5) = false := decide_eq_false c7
    clear c7
    obtain rfl := Option.some.inj H
    have hnb17 := NB164_163.out
    have hnc17 := NB163_164.out
    have hcz18_0 := zc0 BK164 0 rfl
    have hcz18_1 := zc0 BK164 1 rfl
    have hcz18_2 := zc0 BK164 2 rfl
    have hcz18_3 := zc0 BK164 3 rfl
    have hcz18_4 := zc0 BK164 4 rfl
    have hcz18_5 := zc0 BK164 5 rfl
    have hfz18_0 := blk_frozen BK164.out 0
    have hfz18_1 := blk_frozen BK164.out 1
    have hfz18_2 := blk_frozen BK164.out 2
    have hfz18_3 := blk_frozen BK164.out 3
    have hfz18_4 := blk_frozen BK164.out 4
    have hfz18_5 := blk_frozen BK164.out 5
    go_wp2
    go_ret
    exact ⟨_, by first | rfl | (simp [errW_none, errW_some] <;> rfl) | (simp [*, errW_none, errW_some] <;> rfl), zr0 HO_5, by repeat (first | exact zh0 HB | refine below_set ?_ GE163.out | refine below_set ?_ GE164.out)⟩

open Go.Proofs.Ytdojnaghcfhadaa.Cp
/-! ### spec_FindInRing: function 48 -/
def spec_FindInRing.l0 : Nat → Int → List Int → Int → Option (Int × Bool)
 | 0, _, _, _ => none
 | k + 1, x2, x8, x9 => if x9 < (x8.length : Int) then (if 0 ≤ x9 then (if (rd x8 x9) = x2 then (some (x9, true)) else (spec_FindInRing.l0 k x2 x8 (wrap64 (x9 + 1)))) else (none)) else (some ((-1), true))
def spec_FindInRing.f (k : Nat) (l0_0 : List (List Int)) (a1_0 : Int) (a1_1 : Int) (a1_2 : Int) (a1_3 : Int) (a1_4 : Int) (a1_5 : Int) (a2 : Int) : Option (Int × Bool) := (spec_l5Ring.f k l0_0 a1_0 a1_1 a1_2 a1_3 a1_4 a1_5).bind fun t175 => (if t175 = true then ((spec_l5Bytes.f k l0_0 a1_0 a1_1 a1_2 a1_3 a1_4 a1_5).bind fun t176 => (spec_FindInRing.l0 k a2 t176 0)) else (some (0, false)))
theorem spec_FindInRing.mono_l : ∀ k, (∀ y0 y1 y2, LeO (spec_FindInRing.l0 k y0 y1 y2) (spec_FindInRing.l0 (k + 1) y0 y1 y2))
 | 0 => fun _ _ _ r h => by simp [spec_FindInRing.l0] at h
 | k + 1 => by
  have ih0 := spec_FindInRing.mono_l k
  ·intro y0 y1 y2
   unfold spec_FindInRing.l0
   repeat' first
   | (with_reducible exact ih0 _ _ _)
   | (with_reducible exact spec_l5Bytes.mono _ _ _ _ _ _ _ _)
   | (with_reducible exact spec_l5Ring.mono _ _ _ _ _ _ _ _)
   | (with_reducible exact LeO.refl _)
   | (with_reducible exact LeO.none _)
   | (with_reducible refine LeO.ite ?_ ?_)
   | (with_reducible refine LeO.bind ?_ (fun _ => ?_))
   | exact ih0 _ _ _
   | exact spec_l5Bytes.mono _ _ _ _ _ _ _ _
   | exact spec_l5Ring.mono _ _ _ _ _ _ _ _
   | exact LeO.none _
   | refine LeO.ite ?_ ?_
   | refine LeO.bind ?_ (fun _ => ?_)
theorem spec_FindInRing.mono : ∀ a0 a1 a2 a3 a4 a5 a6 a7 k, LeO (spec_FindInRing.f k a0 a1 a2 a3 a4 a5 a6 a7) (spec_FindInRing.f (k + 1) a0 a1 a2 a3 a4 a5 a6 a7) := by
 intro a0 a1 a2 a3 a4 a5 a6 a7 k
 have ih0 := spec_FindInRing.mono_l k
 unfold spec_FindInRing.f
 repeat' first
   | (with_reducible exact ih0 _ _ _)
   | (with_reducible exact spec_l5Bytes.mono _ _ _ _ _ _ _ _)
   | (with_reducible exact spec_l5Ring.mono _ _ _ _ _ _ _ _)
   | (with_reducible exact LeO.refl _)
   | (with_reducible exact LeO.none _)
   | (with_reducible refine LeO.ite ?_ ?_)
   | (with_reducible refine LeO.bind ?_ (fun _ => ?_))
   | exact ih0 _ _ _
   | exact spec_l5Bytes.mono _ _ _ _ _ _ _ _
   | exact spec_l5Ring.mono _ _ _ _ _ _ _ _
   | exact LeO.none _
   | refine LeO.ite ?_ ?_
   | refine LeO.bind ?_ (fun _ => ?_)
set_option maxHeartbeats 8000000 in
set_option maxRecDepth 100000 in
theorem spec_FindInRing.calls (k : Nat) (A0_0 : Option Addr) (c0_0 : Nat) (l0_0 : List (List Int)) (a1_0 : Int) (a1_1 : Int) (a1_2 : Int) (a1_3 : Int) (a1_4 : Int) (a1_5 : Int) (a2 : Int) (r1 : Int) (r2 : Bool) (w : World) (hr0_0 : Kd.C (Kd.slice 5 (Kd.int .u8)) w A0_0 l0_0.length l0_0) (hc0_0 : l0_0.length ≤ c0_0) (h : spec_FindInRing.f k l0_0 a1_0 a1_1 a1_2 a1_3 a1_4 a1_5 a2 = some (r1, r2)) :
  Calls Try.prog 48 #[.agg #[.slice A0_0 l0_0.length c0_0], .agg #[.int .i64 a1_0, .int .i64 a1_1, .int .i64 a1_2, .int .i64 a1_3, .int .i64 a1_4, .int .i64 a1_5], .int .u8 a2] w fun e w' => e = .returned (.tuple #[.int .i64 r1, .bool r2]) ∧ Below w.heap.size w w' := by
 have hu32 := Try.underlying32
 have hu36 := Try.underlying36
 have HR0_0 := Aside0.mk hr0_0
 have HC0_0 := Aside0.mk hc0_0
 clear hr0_0 hc0_0
 have HB := Aside0.mk (Below.refl w.heap.size w)
 have H : ((spec_l5Ring.f k l0_0 a1_0 a1_1 a1_2 a1_3 a1_4 a1_5).bind fun t175 => (if t175 = true then ((spec_l5Bytes.f k l0_0 a1_0 a1_1 a1_2 a1_3 a1_4 a1_5).bind fun t176 => (spec_FindInRing.l0 k a2 t176 0)) else (some (0, false)))) = some (r1, r2) := h
 clear h
 replace H := Option.bind_eq_some_iff.mp H
 obtain ⟨t175, A40, H⟩ := H
 replace H : (if t175 = true then ((spec_l5Bytes.f k l0_0 a1_0 a1_1 a1_2 a1_3 a1_4 a1_5).bind fun t176 => (spec_FindInRing.l0 k a2 t176 0)) else (some (0, false))) = some (r1, r2) := H
 have A4 := Aside0.mk A40
 clear A40
 by_cases c5 : t175 = true
 ·subst c5
  have H1 : ((spec_l5Bytes.f k l0_0 a1_0 a1_1 a1_2 a1_3 a1_4 a1_5).bind fun t176 => (spec_FindInRing.l0 k a2 t176 0)) = some (r1, r2) := by rw [if_pos rfl] at H; exact H
  clear H
  have H := H1
  clear H1
  replace H := Option.bind_eq_some_iff.mp H
  obtain ⟨t176, A60, H⟩ := H
  replace H : (spec_FindInRing.l0 k a2 t176 0) = some (r1, r2) := H
  have A6 := Aside0.mk A60
  clear A60
  have H' := Aside0.mk H
  clear H
  go_enter Try.func48, Try.ntmps48
  go_wp2_with (first | ((with_reducible refine gate_dst (N := 3) rfl ?_); refine box_event ?hg (N := 3) ?hd (cs := #[.slice A0_0 l0_0.length c0_0]) (t := 32) ?hr ?_; (case hd => rfl); (case hg => rfl); (case hr => first | (go_simp; done) | (go_simp; rfl)); intro gb173 hg w7 hbox hb; have BK173 := Aside0.mk (hbox); have GW173 := zge HB hg; have GE173 := zge HB hg; replace HB := zhs HB hb; clear hb hbox hg) | ((with_reducible refine gate_dst (N := 4) rfl ?_); refine box_event ?hg (N := 4) ?hd (cs := #[.int .i64 a1_0, .int .i64 a1_1, .int .i64 a1_2, .int .i64 a1_3, .int .i64 a1_4, .int .i64 a1_5]) (t := 36) ?hr ?_; (case hd => rfl); (case hg => rfl); (case hr => first | (go_simp; done) | (go_simp; rfl)); intro gb174 hg w8 hbox hb; have BK174 := Aside0.mk (hbox); have GW174 := zge HB hg; have GE174 := zge HB hg; have NB173_174 := znl BK173 hg; have NB174_173 := znr BK173 hg; replace BK173 := zb0 BK173 hb; replace HB := zhs HB hb; clear hb hbox hg; have hnb9 := NB173_174.out; have hnc9 := NB174_173.out; have hcz10_0 := zc0 BK173 0 rfl; have hfz10_0 := blk_frozen BK173.out 0; have hcz11_0 := zc0 BK174 0 rfl; have hcz11_1 := zc0 BK174 1 rfl; have hcz11_2 := zc0 BK174 2 rfl; have hcz11_3 := zc0 BK174 3 rfl; have hcz11_4 := zc0 BK174 4 rfl; have hcz11_5 := zc0 BK174 5 rfl; have hfz11_0 := blk_frozen BK174.out 0; have hfz11_1 := blk_frozen BK174.out 1; have hfz11_2 := blk_frozen BK174.out 2; have hfz11_3 := blk_frozen BK174.out 3; have hfz11_4 := blk_frozen BK174.out 4; have hfz11_5 := blk_frozen BK174.out 5) | ((with_reducible refine gate_callee (f := 74) rfl ?_); refine goesL_ (some 12) rfl rfl Try.func74 (by kernel_rfl) rfl #[.agg #[.slice A0_0 l0_0.length c0_0], .agg #[.int .i64 a1_0, .int .i64 a1_1, .int .i64 a1_2, .int .i64 a1_3, .int .i64 a1_4, .int .i64 a1_5]] rfl (by (try simp only [List.map_toArray, List.map_cons, List.map_nil]); first | done | rfl | (simp only [List.length_drop, List.length_take]; rfl)) ?_; (with_reducible refine (spec_l5Ring.calls k _ _ l0_0 a1_0 a1_1 a1_2 a1_3 a1_4 a1_5 true _ ?side1 ?side2 A4.out).mono ?_); (case side1 => exact Kd.C_below HR0_0.out (zh0 HB)); (case side2 => exact HC0_0.out); rintro e w12 ⟨rfl, hb⟩; refine ⟨_, rfl, ?_⟩; replace BK173 := zb0 BK173 hb; replace BK174 := zb0 BK174 hb; replace HB := zhs HB hb; (try clear hb); (try clear hb2); (try clear hk); (try clear hi); have hcz13_0 := zc0 BK173 0 rfl; have hfz13_0 := blk_frozen BK173.out 0; have hcz14_0 := zc0 BK174 0 rfl; have hcz14_1 := zc0 BK174 1 rfl; have hcz14_2 := zc0 BK174 2 rfl; have hcz14_3 := zc0 BK174 3 rfl; have hcz14_4 := zc0 BK174 4 rfl; have hcz14_5 := zc0 BK174 5 rfl; have hfz14_0 := blk_frozen BK174.out 0; have hfz14_1 := blk_frozen BK174.out 1; have hfz14_2 := blk_frozen BK174.out 2; have hfz14_3 := blk_frozen BK174.out 3; have hfz14_4 := blk_frozen BK174.out 4; have hfz14_5 := blk_frozen BK174.out 5) | ((with_reducible refine gate_callee (f := 91) rfl ?_); refine goesL_ (some 16) rfl rfl Try.func91 (by kernel_rfl) rfl #[.agg #[.slice A0_0 l0_0.length c0_0], .agg #[.int .i64 a1_0, .int .i64 a1_1, .int .i64 a1_2, .int .i64 a1_3, .int .i64 a1_4, .int .i64 a1_5]] rfl (by (try simp only [List.map_toArray, List.map_cons, List.map_nil]); first | done | rfl | (simp only [List.length_drop, List.length_take]; rfl)) ?_; (with_reducible refine (spec_l5Bytes.calls k _ _ l0_0 a1_0 a1_1 a1_2 a1_3 a1_4 a1_5 t176 _ ?side1 ?side2 A6.out).mono ?_); (case side1 => exact Kd.C_below HR0_0.out (zh0 HB)); (case side2 => exact HC0_0.out); rintro e w15 ⟨v177, rfl, ho0, hb⟩; refine ⟨_, rfl, ?_⟩; have HO178 := Aside0.mk (Kd.R_lower ho0 (below_size (zh0 HB))); replace BK173 := zb0 BK173 hb; replace BK174 := zb0 BK174 hb; replace HB := zhs HB hb; (try clear hb); (try clear hb2); (try clear hk); (try clear hi); (try clear ho0)))
  go_loopg [9] k (fun kq v9 w' => ∃ (x9_1 : Int), v9 = .int .i64 x9_1 ∧ Aside0 (spec_FindInRing.l0 kq a2 t176 x9_1 = some (r1, r2)) ∧ Aside0 (kq ≤ k) ∧ Aside0 (Kd.R (Kd.int .u8) 5 w' w.heap.size (fun _ => True) v177 t176) ∧ Aside0 (w'.heap[gb173]? = some (.cells #[(.slice A0_0 l0_0.length c0_0)] 32 (0, 0))) ∧ Aside0 (w'.heap[gb174]? = some (.cells #[.int .i64 a1_0, .int .i64 a1_1, .int .i64 a1_2, .int .i64 a1_3, .int .i64 a1_4, .int .i64 a1_5] 36 (0, 0))) ∧ Aside0 (Below w.heap.size w w'))
  case atStart => exact ⟨(0), (by first | rfl | (simp; done) | (simp [*]; done)), H', ⟨Nat.le_refl _⟩, ⟨zr0 HO178⟩, ⟨zk0 BK173⟩, ⟨zk0 BK174⟩, ⟨by repeat (first | exact zh0 HB | refine below_set ?_ GE173.out | refine below_set ?_ GE174.out)⟩⟩
  case round =>
   clear H'
   try clear p2
   try clear c4
   try clear c5
   try clear c7
   try clear c9
   try clear hcz10_0
   try clear hcz11_0
   try clear hcz11_1
   try clear hcz11_2
   try clear hcz11_3
   try clear hcz11_4
   try clear hcz11_5
   try clear hcz13_0
   try clear hcz14_0
   try clear hcz14_1
   try clear hcz14_2
   try clear hcz14_3
   try clear hcz14_4
   try clear hcz14_5
   try clear hfz10_0
   try clear hfz11_0
   try clear hfz11_1
   try clear hfz11_2
   try clear hfz11_3
   try clear hfz11_4
   try clear hfz11_5
   try clear hfz13_0
   try clear hfz14_0
   try clear hfz14_1
   try clear hfz14_2
   try clear hfz14_3
   try clear hfz14_4
   try clear hfz14_5
   obtain ⟨x9_1, rfl, HA, HK1, HO_8, BK173, BK174, HB⟩ := hrel
   cases gk with
   | zero => exact absurd HA.out (by simp [spec_FindInRing.l0])
   | succ k1 =>
    have H := HA.out
    clear HA
    simp only [spec_FindInRing.l0] at H
    by_cases c16 : x9_1 < (t176.length : Int)
    ·rw [if_pos c16] at H
     have c16b0 : decide (x9_1 < (t176.length : Int)) = true := decide_eq_true c16
     clear c16
     by_cases c17 : 0 ≤ x9_1
     ·rw [if_pos c17] at H
      have c17b0 : decide (0 ≤ x9_1) = true := decide_eq_true c17
      clear c17
      by_cases c18 : (rd t176 x9_1) = a2
      ·rw [if_pos c18] at H
       have c18b0 : ((rd t176 x9_1) == a2) = true := beq_iff_eq.mpr c18
       have c18b1 : ((rd t176 x9_1) != a2) = false := bne_eq_false_iff_eq.mpr c18
       clear c18
       simp only [Option.some.injEq, Prod.mk.injEq] at H
       obtain ⟨rfl, rfl⟩ := H
       obtain ⟨Ao19, co19, eo19⟩ := Kd.R_slice HO_8.out
       subst eo19
       have p179 : 0 ≤ (x9_1 : Int) := of_decide_eq_true (by first | (with_reducible assumption) | assumption)
       have q179 : x9_1 < (t176.length : Int) := of_decide_eq_true (by first | (with_reducible assumption) | assumption)
       obtain ⟨ad179, e179, hx179_0⟩ := Kd.at_int (Kd.R_reads' HO_8.out).2.2 x9_1 p179 q179
       cases e179
       replace p179 := eq_true p179
       replace q179 := eq_true q179
       go_wp2
       go_ret2
       exact ⟨by first | rfl | (simp [errW_none, errW_some] <;> rfl) | (simp [*, errW_none, errW_some] <;> rfl), by repeat (first | exact zh0 HB | refine below_set ?_ GE173.out | refine below_set ?_ GE174.out)⟩
      ·rw [if_neg c18] at H
       have c18b0 : ((rd t176 x9_1) == a2) = false := beq_eq_false_iff_ne.mpr c18
       have c18b1 : ((rd t176 x9_1) != a2) = true := bne_iff_ne.mpr c18
       have H' := Aside0.mk H
       clear H
       obtain ⟨Ao20, co20, eo20⟩ := Kd.R_slice HO_8.out
       subst eo20
       have p179 : 0 ≤ (x9_1 : Int) := of_decide_eq_true (by first | (with_reducible assumption) | assumption)
       have q179 : x9_1 < (t176.length : Int) := of_decide_eq_true (by first | (with_reducible assumption) | assumption)
       obtain ⟨ad179, e179, hx179_0⟩ := Kd.at_int (Kd.R_reads' HO_8.out).2.2 x9_1 p179 q179
       cases e179
       replace p179 := eq_true p179
       replace q179 := eq_true q179
       go_wp2
       go_roundg k1
       case measure => have := HK1.out; omega
       case rel => exact ⟨(wrap64 (x9_1 + 1)), (by first | rfl | (simp; done) | (simp [*]; done)), H', ⟨by have := HK1.out; omega⟩, ⟨zr0 HO_8⟩, ⟨zk0 BK173⟩, ⟨zk0 BK174⟩, ⟨by repeat (first | exact zh0 HB | refine below_set ?_ GE173.out | refine below_set ?_ GE174.out)⟩⟩
     ·rw [if_neg c17] at H
      exact absurd H (by simp)
    ·rw [if_neg c16] at H
     have c16b0 : decide (x9_1 < (t176.length : Int)) = false := decide_eq_false c16
     clear c16
     simp only [Option.some.injEq, Prod.mk.injEq] at H
     obtain ⟨rfl, rfl⟩ := H
     obtain ⟨Ao21, co21, eo21⟩ := Kd.R_slice HO_8.out
     subst eo21
     go_wp2
     go_ret2
     exact ⟨by first | rfl | (simp [errW_none, errW_some] <;> rfl) | (simp [*, errW_none, errW_some] <;> rfl), by repeat (first | exact zh0 HB | refine below_set ?_ GE173.out | refine below_set ?_ GE174.out)⟩
 ·replace c5 := Bool.eq_false_iff.mpr c5
  subst c5
  have H1 : (some (0, false)) = some (r1, r2) := by rw [if_neg (show ¬ (false = true) by decide)] at H; exact H
  clear H
  have H := H1
  clear H1
  simp only [Option.some.injEq, Prod.mk.injEq] at H
  obtain ⟨rfl, rfl⟩ := H
  go_enter Try.func48, Try.ntmps48
  go_wp2_with (first | ((with_reducible refine gate_dst (N := 3) rfl ?_); refine box_event ?hg (N := 3) ?hd (cs := #[.slice A0_0 l0_0.length c0_0]) (t := 32) ?hr ?_; (case hd => rfl); (case hg => rfl); (case hr => first | (go_simp; done) | (go_simp; rfl)); intro gb173 hg w22 hbox hb; have BK173 := Aside0.mk (hbox); have GW173 := zge HB hg; have GE173 := zge HB hg; replace HB := zhs HB hb; clear hb hbox hg) | ((with_reducible refine gate_dst (N := 4) rfl ?_); refine box_event ?hg (N := 4) ?hd (cs := #[.int .i64 a1_0, .int .i64 a1_1, .int .i64 a1_2, .int .i64 a1_3, .int .i64 a1_4, .int .i64 a1_5]) (t := 36) ?hr ?_; (case hd => rfl); (case hg => rfl); (case hr => first | (go_simp; done) | (go_simp; rfl)); intro gb174 hg w23 hbox hb; have BK174 := Aside0.mk (hbox); have GW174 := zge HB hg; have GE174 := zge HB hg; have NB173_174 := znl BK173 hg; have NB174_173 := znr BK173 hg; replace BK173 := zb0 BK173 hb; replace HB := zhs HB hb; clear hb hbox hg; have hnb24 := NB173_174.out; have hnc24 := NB174_173.out; have hcz25_0 := zc0 BK173 0 rfl; have hfz25_0 := blk_frozen BK173.out 0; have hcz26_0 := zc0 BK174 0 rfl; have hcz26_1 := zc0 BK174 1 rfl; have hcz26_2 := zc0 BK174 2 rfl; have hcz26_3 := zc0 BK174 3 rfl; have hcz26_4 := zc0 BK174 4 rfl; have hcz26_5 := zc0 BK174 5 rfl; have hfz26_0 := blk_frozen BK174.out 0; have hfz26_1 := blk_frozen BK174.out 1; have hfz26_2 := blk_frozen BK174.out 2; have hfz26_3 := blk_frozen BK174.out 3; have hfz26_4 := blk_frozen BK174.out 4; have hfz26_5 := blk_frozen BK174.out 5) | ((with_reducible refine gate_callee (f := 74) rfl ?_); refine goesL_ (some 12) rfl rfl Try.func74 (by kernel_rfl) rfl #[.agg #[.slice A0_0 l0_0.length c0_0], .agg #[.int .i64 a1_0, .int .i64 a1_1, .int .i64 a1_2, .int .i64 a1_3, .int .i64 a1_4, .int .i64 a1_5]] rfl (by (try simp only [List.map_toArray, List.map_cons, List.map_nil]); first | done | rfl | (simp only [List.length_drop, List.length_take]; rfl)) ?_; (with_reducible refine (spec_l5Ring.calls k _ _ l0_0 a1_0 a1_1 a1_2 a1_3 a1_4 a1_5 false _ ?side1 ?side2 A4.out).mono ?_); (case side1 => exact Kd.C_below HR0_0.out (zh0 HB)); (case side2 => exact HC0_0.out); rintro e w27 ⟨rfl, hb⟩; refine ⟨_, rfl, ?_⟩; replace BK173 := zb0 BK173 hb; replace BK174 := zb0 BK174 hb; replace HB := zhs HB hb; (try clear hb); (try clear hb2); (try clear hk); (try clear hi)))
  go_ret2
  exact ⟨by first | rfl | (simp [errW_none, errW_some] <;> rfl) | (simp [*, errW_none, errW_some] <;> rfl), by repeat (first | exact zh0 HB | refine below_set ?_ GE173.out | refine below_set ?_ GE174.out)⟩

open Go.Proofs.Ytdojnaghcfhadaa.Cp
/-! ### impl_within: function 108 -/
def impl_within.f (a0 : Int) (a1 : Int) (a2 : Int) : Option (Bool) := if a0 ≥ a1 then (some (decide (a0 ≤ a2))) else (some false)
set_option maxHeartbeats 8000000 in
set_option maxRecDepth 100000 in
theorem impl_within.calls (a0 : Int) (a1 : Int) (a2 : Int) (r : Bool) (w : World) (h : impl_within.f a0 a1 a2 = some r) :
  Calls Try.prog 108 #[.int .i64 a0, .int .i64 a1, .int .i64 a2] w fun e w' => e = .returned (.bool r) ∧ Drawn0 w w' := by
 have H : (if a0 ≥ a1 then (some (decide (a0 ≤ a2))) else (some false)) = some r := h
 clear h
 by_cases c4 : a0 ≥ a1
 ·rw [if_pos c4] at H
  have c4b0 : decide (a1 ≤ a0) = true := decide_eq_true c4
  clear c4
  obtain rfl := Option.some.inj H
  go_enter Try.func108, Try.ntmps108
  go_wp2
  go_ret
  exact ⟨by first | rfl | (simp; done) | (simp [*]; done), by repeat (first | exact Drawn0.refl _ | apply Drawn0.step)⟩
 ·rw [if_neg c4] at H
  have c4b0 : decide (a1 ≤ a0) = false := decide_eq_false c4
  clear c4
  obtain rfl := Option.some.inj H
  go_enter Try.func108, Try.ntmps108
  go_wp2
  go_ret
  exact ⟨by first | rfl | (simp; done) | (simp [*]; done), by repeat (first | exact Drawn0.refl _ | apply Drawn0.step)⟩

open Go.Proofs.Ytdojnaghcfhadaa.Cp
/-! ### impl_IsMemory: function 76 -/
def impl_IsMemory.l0 : Nat → List (List Int) → Int → Int → List (List Int) → Option (Bool)
 | 0, _, _, _, _ => none
 | k + 1, x6, x7, x8, x181000 => if x8 < x7 then (if 0 ≤ x8 then (if x8 < (x6.length : Int) then ((impl_within.f ((rd_L1 x6 x8).length : Int) 1 64).bind fun t182 => (if t182 = true then (impl_IsMemory.l0 k x6 x7 (wrap64 (x8 + 1)) x181000) else (some false))) else (none)) else (none)) else (some (decide ((x181000.length : Int) ≤ 16)))
def impl_IsMemory.f (k : Nat) (l0_0 : List (List Int)) : Option (Bool) := impl_IsMemory.l0 k l0_0 (l0_0.length : Int) 0 l0_0
theorem impl_IsMemory.mono_l : ∀ k, (∀ y0 y1 y2 y3, LeO (impl_IsMemory.l0 k y0 y1 y2 y3) (impl_IsMemory.l0 (k + 1) y0 y1 y2 y3))
 | 0 => fun _ _ _ _ r h => by simp [impl_IsMemory.l0] at h
 | k + 1 => by
  have ih0 := impl_IsMemory.mono_l k
  ·intro y0 y1 y2 y3
   unfold impl_IsMemory.l0
   repeat' first
   | (with_reducible exact ih0 _ _ _ _)
   | (with_reducible exact LeO.refl _)
   | (with_reducible exact LeO.none _)
   | (with_reducible refine LeO.ite ?_ ?_)
   | (with_reducible refine LeO.bind ?_ (fun _ => ?_))
   | exact ih0 _ _ _ _
   | exact LeO.none _
   | refine LeO.ite ?_ ?_
   | refine LeO.bind ?_ (fun _ => ?_)
theorem impl_IsMemory.mono : ∀ a0 k, LeO (impl_IsMemory.f k a0) (impl_IsMemory.f (k + 1) a0) := by
 intro a0 k
 have ih0 := impl_IsMemory.mono_l k
 unfold impl_IsMemory.f
 repeat' first
   | (with_reducible exact ih0 _ _ _ _)
   | (with_reducible exact LeO.refl _)
   | (with_reducible exact LeO.none _)
   | (with_reducible refine LeO.ite ?_ ?_)
   | (with_reducible refine LeO.bind ?_ (fun _ => ?_))
   | exact ih0 _ _ _ _
   | exact LeO.none _
   | refine LeO.ite ?_ ?_
   | refine LeO.bind ?_ (fun _ => ?_)
set_option maxHeartbeats 8000000 in
set_option maxRecDepth 100000 in
theorem impl_IsMemory.calls (k : Nat) (A0_0 : Option Addr) (c0_0 : Nat) (l0_0 : List (List Int)) (r : Bool) (w : World) (hr0_0 : Kd.C (Kd.slice 5 (Kd.int .u8)) w A0_0 l0_0.length l0_0) (hc0_0 : l0_0.length ≤ c0_0) (h : impl_IsMemory.f k l0_0 = some r) :
  Calls Try.prog 76 #[.agg #[.slice A0_0 l0_0.length c0_0]] w fun e w' => e = .returned (.bool r) ∧ Below w.heap.size w w' := by
 have hu32 := Try.underlying32
 have HR0_0 := Aside0.mk hr0_0
 have HC0_0 := Aside0.mk hc0_0
 clear hr0_0 hc0_0
 have HB := Aside0.mk (Below.refl w.heap.size w)
 have H : (impl_IsMemory.l0 k l0_0 (l0_0.length : Int) 0 l0_0) = some r := h
 clear h
 have H' := Aside0.mk H
 clear H
 go_enter Try.func76, Try.ntmps76
 go_wp2_with (first | ((with_reducible refine gate_dst (N := 1) rfl ?_); refine box_event ?hg (N := 1) ?hd (cs := #[.slice A0_0 l0_0.length c0_0]) (t := 32) ?hr ?_; (case hd => rfl); (case hg => rfl); (case hr => first | (go_simp; done) | (go_simp; rfl)); intro gb180 hg w2 hbox hb; have BK180 := Aside0.mk (hbox); have GW180 := zge HB hg; have GE180 := zge HB hg; replace HB := zhs HB hb; clear hb hbox hg; have hcz3_0 := zc0 BK180 0 rfl; have hfz3_0 := blk_frozen BK180.out 0))
 go_loopg [8] k (fun kq v8 w' => ∃ (x8_1 : Int), v8 = .int .i64 x8_1 ∧ Aside0 (impl_IsMemory.l0 kq l0_0 (l0_0.length : Int) x8_1 l0_0 = some r) ∧ Aside0 (kq ≤ k) ∧ Aside0 (w'.heap[gb180]? = some (.cells #[(.slice A0_0 l0_0.length c0_0)] 32 (0, 0))) ∧ Aside0 (Below w.heap.size w w'))
 case atStart => exact ⟨(0), (by first | rfl | (simp; done) | (simp [*]; done)), H', ⟨Nat.le_refl _⟩, ⟨zk0 BK180⟩, ⟨by repeat (first | exact zh0 HB | refine below_set ?_ GE180.out)⟩⟩
 case round =>
  clear H'
  try clear p2
  try clear hcz3_0
  try clear hfz3_0
  obtain ⟨x8_1, rfl, HA, HK1, BK180, HB⟩ := hrel
  cases gk with
  | zero => exact absurd HA.out (by simp [impl_IsMemory.l0])
  | succ k1 =>
   have H := HA.out
   clear HA
   simp only [impl_IsMemory.l0] at H
   by_cases c4 : x8_1 < (l0_0.length : Int)
   ·rw [if_pos c4] at H
    have c4b0 : decide (x8_1 < (l0_0.length : Int)) = true := decide_eq_true c4
    clear c4
    by_cases c5 : 0 ≤ x8_1
    ·rw [if_pos c5] at H
     have c5b0 : decide (0 ≤ x8_1) = true := decide_eq_true c5
     clear c5
     by_cases c6 : x8_1 < (l0_0.length : Int)
     ·rw [if_pos c6] at H
      have c6b0 : decide (x8_1 < (l0_0.length : Int)) = true := decide_eq_true c6
      clear c6
      replace H := Option.bind_eq_some_iff.mp H
      obtain ⟨t182, A70, H⟩ := H
      replace H : (if t182 = true then (impl_IsMemory.l0 k1 l0_0 (l0_0.length : Int) (wrap64 (x8_1 + 1)) l0_0) else (some false)) = some r := H
      have A7 := Aside0.mk A70
      clear A70
      by_cases c8 : t182 = true
      ·subst c8
       have H1 : (impl_IsMemory.l0 k1 l0_0 (l0_0.length : Int) (wrap64 (x8_1 + 1)) l0_0) = some r := by rw [if_pos rfl] at H; exact H
       clear H
       have H := H1
       clear H1
       have H' := Aside0.mk H
       clear H
       have p181 : 0 ≤ (x8_1 : Int) := of_decide_eq_true (by first | (with_reducible assumption) | assumption)
       have q181 : x8_1 < (l0_0.length : Int) := of_decide_eq_true (by first | (with_reducible assumption) | assumption)
       obtain ⟨ad181, A181_0, c181_0, e181, hx181_0, hl181_0, hi181_0⟩ := at_L1 HR0_0.out x8_1 p181 q181
       cases e181
       replace hx181_0 := (HB.out.cell (World.block_lt_of_cell? w _ hx181_0)).trans hx181_0
       have HR181_0 := Aside0.mk hi181_0
       have HC181_0 := Aside0.mk hl181_0
       clear hi181_0 hl181_0
       replace p181 := eq_true p181
       replace q181 := eq_true q181
       go_wp2_with (first | ((with_reducible refine gate_callee (f := 108) rfl ?_); refine goesL_ (some 14) rfl rfl Try.func108 (by kernel_rfl) rfl #[.int .i64 ((rd_L1 l0_0 x8_1).length : Int), .int .i64 1, .int .i64 64] rfl (by (try simp only [List.map_toArray, List.map_cons, List.map_nil]); first | done | rfl | (simp only [List.length_drop, List.length_take]; rfl)) ?_; (with_reducible refine (impl_within.calls ((rd_L1 l0_0 x8_1).length : Int) 1 64 true _ A7.out).mono ?_); rintro e w' ⟨rfl, ⟨nd, rfl⟩⟩; refine ⟨_, rfl, ?_⟩))
       go_roundg k1
       case measure => have := HK1.out; omega
       case rel => exact ⟨(wrap64 (x8_1 + 1)), (by first | rfl | (simp; done) | (simp [*]; done)), H', ⟨by have := HK1.out; omega⟩, ⟨zk0 BK180⟩, ⟨by repeat (first | exact zh0 HB | refine below_set ?_ GE180.out)⟩⟩
      ·replace c8 := Bool.eq_false_iff.mpr c8
       subst c8
       have H1 : (some false) = some r := by rw [if_neg (show ¬ (false = true) by decide)] at H; exact H
       clear H
       have H := H1
       clear H1
       obtain rfl := Option.some.inj H
       have p181 : 0 ≤ (x8_1 : Int) := of_decide_eq_true (by first | (with_reducible assumption) | assumption)
       have q181 : x8_1 < (l0_0.length : Int) := of_decide_eq_true (by first | (with_reducible assumption) | assumption)
       obtain ⟨ad181, A181_0, c181_0, e181, hx181_0, hl181_0, hi181_0⟩ := at_L1 HR0_0.out x8_1 p181 q181
       cases e181
       replace hx181_0 := (HB.out.cell (World.block_lt_of_cell? w _ hx181_0)).trans hx181_0
       have HR181_0 := Aside0.mk hi181_0
       have HC181_0 := Aside0.mk hl181_0
       clear hi181_0 hl181_0
       replace p181 := eq_true p181
       replace q181 := eq_true q181
       go_wp2_with (first | ((with_reducible refine gate_callee (f := 108) rfl ?_); refine goesL_ (some 14) rfl rfl Try.func108 (by kernel_rfl) rfl #[.int .i64 ((rd_L1 l0_0 x8_1).length : Int), .int .i64 1, .int .i64 64] rfl (by (try simp only [List.map_toArray, List.map_cons, List.map_nil]); first | done | rfl | (simp only [List.length_drop, List.length_take]; rfl)) ?_; (with_reducible refine (impl_within.calls ((rd_L1 l0_0 x8_1).length : Int) 1 64 false _ A7.out).mono ?_); rintro e w' ⟨rfl, ⟨nd, rfl⟩⟩; refine ⟨_, rfl, ?_⟩))
       go_ret
       exact ⟨by first | rfl | (simp [errW_none, errW_some] <;> rfl) | (simp [*, errW_none, errW_some] <;> rfl), by repeat (first | exact zh0 HB | refine below_set ?_ GE180.out)⟩
     ·rw [if_neg c6] at H
      exact absurd H (by simp)
    ·rw [if_neg c5] at H
     exact absurd H (by simp)
   ·rw [if_neg c4] at H
    have c4b0 : decide (x8_1 < (l0_0.length : Int)) = false := decide_eq_false c4
    clear c4
    obtain rfl := Option.some.inj H
    have hcz9_0 := zc0 BK180 0 rfl
    have hfz9_0 := blk_frozen BK180.out 0
    go_wp2
    go_ret
    exact ⟨by first | rfl | (simp [errW_none, errW_some] <;> rfl) | (simp [*, errW_none, errW_some] <;> rfl), by repeat (first | exact zh0 HB | refine below_set ?_ GE180.out)⟩

open Go.Proofs.Ytdojnaghcfhadaa.Cp
/-! ### impl_Memory_hasArray: function 125 -/
def impl_Memory_hasArray.f (l0_0 : List (List Int)) (a1 : Int) : Option (Bool) := (impl_within.f a1 0 (wrap64 ((l0_0.length : Int) - 1))).bind fun t184 => (some t184)
set_option maxHeartbeats 8000000 in
set_option maxRecDepth 100000 in
theorem impl_Memory_hasArray.calls (A0_0 : Option Addr) (c0_0 : Nat) (l0_0 : List (List Int)) (a1 : Int) (r : Bool) (w : World) (hr0_0 : Kd.C (Kd.slice 5 (Kd.int .u8)) w A0_0 l0_0.length l0_0) (hc0_0 : l0_0.length ≤ c0_0) (h : impl_Memory_hasArray.f l0_0 a1 = some r) :
  Calls Try.prog 125 #[.agg #[.slice A0_0 l0_0.length c0_0], .int .i64 a1] w fun e w' => e = .returned (.bool r) ∧ Below w.heap.size w w' := by
 have hu32 := Try.underlying32
 have HR0_0 := Aside0.mk hr0_0
 have HC0_0 := Aside0.mk hc0_0
 clear hr0_0 hc0_0
 have HB := Aside0.mk (Below.refl w.heap.size w)
 have H : ((impl_within.f a1 0 (wrap64 ((l0_0.length : Int) - 1))).bind fun t184 => (some t184)) = some r := h
 clear h
 replace H := Option.bind_eq_some_iff.mp H
 obtain ⟨t184, A30, H⟩ := H
 replace H : (some t184) = some r := H
 have A3 := Aside0.mk A30
 clear A30
 obtain rfl := Option.some.inj H
 go_enter Try.func125, Try.ntmps125
 go_wp2_with (first | ((with_reducible refine gate_dst (N := 2) rfl ?_); refine box_event ?hg (N := 2) ?hd (cs := #[.slice A0_0 l0_0.length c0_0]) (t := 32) ?hr ?_; (case hd => rfl); (case hg => rfl); (case hr => first | (go_simp; done) | (go_simp; rfl)); intro gb183 hg w4 hbox hb; have BK183 := Aside0.mk (hbox); have GW183 := zge HB hg; have GE183 := zge HB hg; replace HB := zhs HB hb; clear hb hbox hg; have hcz5_0 := zc0 BK183 0 rfl; have hfz5_0 := blk_frozen BK183.out 0) | ((with_reducible refine gate_callee (f := 108) rfl ?_); refine goesL_ (some 10) rfl rfl Try.func108 (by kernel_rfl) rfl #[.int .i64 a1, .int .i64 0, .int .i64 (wrap64 ((l0_0.length : Int) - 1))] rfl (by (try simp only [List.map_toArray, List.map_cons, List.map_nil]); first | done | rfl | (simp only [List.length_drop, List.length_take]; rfl)) ?_; (with_reducible refine (impl_within.calls a1 0 (wrap64 ((l0_0.length : Int) - 1)) t184 _ A3.out).mono ?_); rintro e w' ⟨rfl, ⟨nd, rfl⟩⟩; refine ⟨_, rfl, ?_⟩))
 go_ret
 exact ⟨by first | rfl | (simp [errW_none, errW_some] <;> rfl) | (simp [*, errW_none, errW_some] <;> rfl), by repeat (first | exact zh0 HB | refine below_set ?_ GE183.out)⟩

end Go.Proofs.Ytdojnaghcfhadaa.PFnExactFindInRing
