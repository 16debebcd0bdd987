/- What is proved here: each Go function that is named below answers, and leaves memory, as the theorem of its name says; no condition beyond those that each theorem states. Laid by this session's own program (wip/driver.py) over the kit's print. -/
import Derived.Test.YtdojnaghcfhadaaPFnExactShrinkCapsx0
import Derived.Test.YtdojnaghcfhadaaPFnExactShrinkCapsx1
import Derived.Test.YtdojnaghcfhadaaPFnExactShrinkCapsx3
namespace Go.Proofs.Ytdojnaghcfhadaa.PFnExactShrinkCaps
open Go.RowKit Go.Proofs.YtdojnaghcfhadaaW.PrintWords Go.Proofs.YtdojnaghcfhadaaW.PrintLast Go.Proofs.YtdojnaghcfhadaaW.PrintMore
attribute [local go_sem] max2_int min2_int max_two min_two max_three min_three max_four min_four   -- for this text's walks alone
set_option linter.unusedVariables false
set_option linter.unusedSimpArgs false

/-! ### spec_l4Shrink: function 79 -/
def spec_l4Shrink.f (k : Nat) (a0_0 : Int) (a0_1 : Int) (a0_2 : Int) (a1 : Int) (l2 : List Int) : Option (List Int × Int × Int × Int × Int × Int × Bool) := (spec_l1In.f a1 2 8).bind fun t172 => (if t172 = true then ((spec_l4All.f k a0_0 a0_1 a0_2 a1 l2).bind fun bt173 => (some (bt173.1, bt173.2.1, bt173.2.2.1, bt173.2.2.2.1, bt173.2.2.2.2.1, bt173.2.2.2.2.2.1, bt173.2.2.2.2.2.2))) else (some ((([] : List Int)), 0, 0, 0, 0, 0, false)))
theorem spec_l4Shrink.mono : ∀ a0 a1 a2 a3 a4 k, LeO (spec_l4Shrink.f k a0 a1 a2 a3 a4) (spec_l4Shrink.f (k + 1) a0 a1 a2 a3 a4) := by
  intro a0 a1 a2 a3 a4 k
  unfold spec_l4Shrink.f
  repeat' first
      | (with_reducible exact spec_l4All.mono _ _ _ _ _ _)
      | (with_reducible exact LeO.refl _)
      | (with_reducible exact LeO.none _)
      | (with_reducible refine LeO.ite ?_ ?_)
      | (with_reducible refine LeO.bind ?_ (fun _ => ?_))
      | exact spec_l4All.mono _ _ _ _ _ _
      | exact LeO.none _
      | refine LeO.ite ?_ ?_
      | refine LeO.bind ?_ (fun _ => ?_)
set_option maxHeartbeats 8000000 in
set_option maxRecDepth 100000 in
theorem spec_l4Shrink.calls (k : Nat) (a0_0 : Int) (a0_1 : Int) (a0_2 : Int) (a1 : Int) (A2 : Option Addr) (c2 : Nat) (l2 : List Int) (r1 : List Int) (r2 : Int) (r3 : Int) (r4 : Int) (r5 : Int) (r6 : Int) (r7 : Bool) (w : World) (hr2 : Kd.C (Kd.int .i64) w A2 l2.length l2) (hc2 : l2.length ≤ c2) (h : spec_l4Shrink.f k a0_0 a0_1 a0_2 a1 l2 = some (r1, r2, r3, r4, r5, r6, r7)) :
    Calls Try.prog 79 #[.agg #[.int .i64 a0_0, .int .i64 a0_1, .int .i64 a0_2], .int .i64 a1, .slice A2 l2.length c2] w fun e w' => ∃ v0_ : Value, e = .returned (.tuple #[.agg #[v0_, .int .i64 r2, .int .i64 r3, .int .i64 r4, .int .i64 r5, .int .i64 r6], .bool r7]) ∧ Kd.R (Kd.int .i64) 3 w' w.heap.size (fun _ => True) v0_ r1 ∧ Below w.heap.size w w' := by
  have hu45 := Try.underlying45
  have hu93 := Try.underlying93
  have HR2 := Aside0.mk hr2
  have HC2 := Aside0.mk hc2
  clear hr2 hc2
  have HB := Aside0.mk (Below.refl w.heap.size w)
  have H : ((spec_l1In.f a1 2 8).bind fun t172 => (if t172 = true then ((spec_l4All.f k a0_0 a0_1 a0_2 a1 l2).bind fun bt173 => (some (bt173.1, bt173.2.1, bt173.2.2.1, bt173.2.2.2.1, bt173.2.2.2.2.1, bt173.2.2.2.2.2.1, bt173.2.2.2.2.2.2))) else (some ((([] : List Int)), 0, 0, 0, 0, 0, false)))) = some (r1, r2, r3, r4, r5, r6, r7) := h
  clear h
  replace H := Option.bind_eq_some_iff.mp H
  obtain ⟨t172, A40, H⟩ := H
  replace H : (if t172 = true then ((spec_l4All.f k a0_0 a0_1 a0_2 a1 l2).bind fun bt173 => (some (bt173.1, bt173.2.1, bt173.2.2.1, bt173.2.2.2.1, bt173.2.2.2.2.1, bt173.2.2.2.2.2.1, bt173.2.2.2.2.2.2))) else (some ((([] : List Int)), 0, 0, 0, 0, 0, false))) = some (r1, r2, r3, r4, r5, r6, r7) := H
  have A4 := Aside0.mk A40
  clear A40
  by_cases c5 : t172 = true
  · subst c5
    have H1 : ((spec_l4All.f k a0_0 a0_1 a0_2 a1 l2).bind fun bt173 => (some (bt173.1, bt173.2.1, bt173.2.2.1, bt173.2.2.2.1, bt173.2.2.2.2.1, bt173.2.2.2.2.2.1, bt173.2.2.2.2.2.2))) = some (r1, r2, r3, r4, r5, r6, r7) := by rw [if_pos rfl] at H; exact H
    clear H
    have H := H1
    clear H1
    replace H := Option.bind_eq_some_iff.mp H
    obtain ⟨⟨t173, t176, t177, t178, t179, t180, t181⟩, A60, H⟩ := H
    replace H : (some (t173, t176, t177, t178, t179, t180, t181)) = some (r1, r2, r3, r4, r5, r6, r7) := H
    have A6 := Aside0.mk A60
    clear A60
    simp only [Option.some.injEq, Prod.mk.injEq] at H
    obtain ⟨rfl, rfl, rfl, rfl, rfl, rfl, rfl⟩ := H
    go_enter Try.func79, Try.ntmps79
    go_wp2_with (first | ((with_reducible refine gate_dst (N := 3) rfl ?_); refine box_event ?hg (N := 3) ?hd (cs := #[.int .i64 a0_0, .int .i64 a0_1, .int .i64 a0_2]) (t := 45) ?hr ?_; (case hd => rfl); (case hg => rfl); (case hr => first | (go_simp; done) | (go_simp; rfl)); intro gb170 hg w7 hbox hb; have n0_ := Aside0.mk (below_step (by repeat (first | (with_reducible first | exact HB.out | apply below_alloc | apply pw_below_drewN | apply below_drew1) | exact HB.out)) hb); have n1_ := Aside0.mk (hbox); have n2_ := Aside0.mk ((by rw [hg]; exact (below_size (by repeat (first | (with_reducible first | exact HB.out | apply below_alloc | apply pw_below_drewN | apply below_drew1) | exact HB.out))) : w.heap.size ≤ gb170)); have n3_ := Aside0.mk ((by rw [hg]; exact (below_size (by repeat (first | (with_reducible first | exact HB.out | apply below_alloc | apply pw_below_drewN | apply below_drew1) | exact HB.out))) : w.heap.size ≤ gb170)); clear HB; have HB := n0_; have BK170 := n1_; have GW170 := n2_; have GE170 := n3_; clear n0_ n1_ n2_ n3_; clear hb hbox hg) | ((with_reducible refine gate_dst (N := 6) rfl ?_); refine box_event ?hg (N := 6) ?hd (cs := #[.slice none 0 0, .int .i64 0, .int .i64 0, .int .i64 0, .int .i64 0, .int .i64 0]) (t := 93) ?hr ?_; (case hd => rfl); (case hg => rfl); (case hr => first | (go_simp; done) | (go_simp; rfl)); intro gb171 hg w8 hbox hb; have n0_ := Aside0.mk (blk_below (g := gb170) (o := .cells #[.int .i64 a0_0, .int .i64 a0_1, .int .i64 a0_2] 45 (0, 0)) (by (with_reducible repeat (first | refine blk_drewN ?_ _ | refine blk_drew ?_ | refine blk_alloc ?_ _)); exact BK170.out) hb); have n1_ := Aside0.mk (below_step (by repeat (first | (with_reducible first | exact HB.out | apply below_alloc | apply pw_below_drewN | apply below_drew1 | refine below_set ?_ GE170.out) | exact HB.out)) hb); have n2_ := Aside0.mk (hbox); have n3_ := Aside0.mk ((by rw [hg]; exact (below_size (by repeat (first | (with_reducible first | exact HB.out | apply below_alloc | apply pw_below_drewN | apply below_drew1 | refine below_set ?_ GE170.out) | exact HB.out))) : w.heap.size ≤ gb171)); have n4_ := Aside0.mk ((by rw [hg]; exact (below_size (by repeat (first | (with_reducible first | exact HB.out | apply below_alloc | apply pw_below_drewN | apply below_drew1 | refine below_set ?_ GE170.out) | exact HB.out))) : w.heap.size ≤ gb171)); have n5_ := Aside0.mk ((by rw [hg]; exact Nat.ne_of_lt (blk_lt (g := gb170) (o := .cells #[.int .i64 a0_0, .int .i64 a0_1, .int .i64 a0_2] 45 (0, 0)) (by (with_reducible repeat (first | refine blk_drewN ?_ _ | refine blk_drew ?_ | refine blk_alloc ?_ _)); exact BK170.out)) : gb170 ≠ gb171)); have n6_ := Aside0.mk ((by rw [hg]; exact Nat.ne_of_gt (blk_lt (g := gb170) (o := .cells #[.int .i64 a0_0, .int .i64 a0_1, .int .i64 a0_2] 45 (0, 0)) (by (with_reducible repeat (first | refine blk_drewN ?_ _ | refine blk_drew ?_ | refine blk_alloc ?_ _)); exact BK170.out)) : gb171 ≠ gb170)); clear BK170; clear HB; have BK170 := n0_; have HB := n1_; have BK171 := n2_; have GW171 := n3_; have GE171 := n4_; have NB170_171 := n5_; have NB171_170 := n6_; clear n0_ n1_ n2_ n3_ n4_ n5_ n6_; clear hb hbox hg) | ((with_reducible refine gate_callee (f := 114) rfl ?_); refine goesL_ (some 9) rfl rfl Try.func114 (by kernel_rfl) rfl #[.int .i64 a1, .int .i64 2, .int .i64 8] rfl (by (try simp only [List.map_toArray, List.map_cons, List.map_nil]); first | done | rfl | (simp only [List.length_drop, List.length_take]; rfl)) ?_; (with_reducible refine (spec_l1In.calls a1 2 8 true _ A4.out).mono ?_); rintro e w' ⟨rfl, ⟨nd, rfl⟩⟩; refine ⟨_, rfl, ?_⟩; (try simp only [World.drewN_drewN]); (try (rw [drewN_self w8]; generalize hq_ : World.drewN w8 _ = w8; have n0_ : Aside0 (w8.heap[gb170]? = some (.cells #[.int .i64 a0_0, .int .i64 a0_1, .int .i64 a0_2] 45 (0, 0))) := ⟨by rw [← hq_]; exact (by (with_reducible repeat (first | refine blk_drewN ?_ _ | refine blk_drew ?_ | refine blk_alloc ?_ _)); exact BK170.out)⟩; have n1_ : Aside0 (w8.heap[gb171]? = some (.cells #[.slice none 0 0, .int .i64 0, .int .i64 0, .int .i64 0, .int .i64 0, .int .i64 0] 93 (0, 0))) := ⟨by rw [← hq_]; exact (by (with_reducible repeat (first | refine blk_drewN ?_ _ | refine blk_drew ?_ | refine blk_alloc ?_ _)); exact BK171.out)⟩; have n2_ : Aside0 (Below w.heap.size w w8) := ⟨by rw [← hq_]; exact (by repeat (first | (with_reducible first | exact HB.out | apply below_alloc | apply pw_below_drewN | apply below_drew1 | refine below_set ?_ GE170.out | refine below_set ?_ GE171.out) | exact HB.out))⟩; clear BK170 BK171 HB hq_; have BK170 := n0_; have BK171 := n1_; have HB := n2_; clear n0_ n1_ n2_)); have hnb9 := NB170_171.out; have hnc9 := NB171_170.out; have hcz10_0 : w8.cell? ⟨gb170, 0, none⟩ = some (.int .i64 a0_0) := (blk_cell BK170.out 0).trans rfl; have hcz10_1 : w8.cell? ⟨gb170, 1, none⟩ = some (.int .i64 a0_1) := (blk_cell BK170.out 1).trans rfl; have hcz10_2 : w8.cell? ⟨gb170, 2, none⟩ = some (.int .i64 a0_2) := (blk_cell BK170.out 2).trans rfl; have hfz10_0 := blk_frozen BK170.out 0; have hfz10_1 := blk_frozen BK170.out 1; have hfz10_2 := blk_frozen BK170.out 2) | ((with_reducible refine gate_callee (f := 100) rfl ?_); refine goesL_ (some 16) rfl rfl Try.func100 (by kernel_rfl) rfl #[.agg #[.int .i64 a0_0, .int .i64 a0_1, .int .i64 a0_2], .int .i64 a1, .slice A2 l2.length c2] rfl (by (try simp only [List.map_toArray, List.map_cons, List.map_nil]); first | done | rfl | (simp only [List.length_drop, List.length_take]; rfl)) ?_; (with_reducible refine (spec_l4All.calls k a0_0 a0_1 a0_2 a1 _ _ l2 t173 t176 t177 t178 t179 t180 t181 _ ?side1 ?side2 A6.out).mono ?_); (case side1 => repeat (first | exact (Kd.C_below HR2.out HB.out) | (with_reducible refine Kd.C_alloc ?_ _) | (with_reducible refine Kd.C_drewN ?_ _) | (with_reducible refine Kd.C_drew ?_))); (case side2 => exact HC2.out); rintro e w11 ⟨v174, rfl, ho0, hb⟩; refine ⟨_, rfl, ?_⟩; have n0_ := Aside0.mk (Kd.R_lower ho0 (below_size (by repeat (first | (with_reducible first | exact HB.out | apply below_alloc | apply pw_below_drewN | apply below_drew1 | refine below_set ?_ GE170.out | refine below_set ?_ GE171.out) | exact HB.out)))); have n1_ := Aside0.mk (blk_below (g := gb170) (o := .cells #[.int .i64 a0_0, .int .i64 a0_1, .int .i64 a0_2] 45 (0, 0)) (by (with_reducible repeat (first | refine blk_drewN ?_ _ | refine blk_drew ?_ | refine blk_alloc ?_ _)); exact BK170.out) hb); have n2_ := Aside0.mk (blk_below (g := gb171) (o := .cells #[.slice none 0 0, .int .i64 0, .int .i64 0, .int .i64 0, .int .i64 0, .int .i64 0] 93 (0, 0)) (by (with_reducible repeat (first | refine blk_drewN ?_ _ | refine blk_drew ?_ | refine blk_alloc ?_ _)); exact BK171.out) hb); have n3_ := Aside0.mk (below_step (by repeat (first | (with_reducible first | exact HB.out | apply below_alloc | apply pw_below_drewN | apply below_drew1 | refine below_set ?_ GE170.out | refine below_set ?_ GE171.out) | exact HB.out)) hb); clear BK170; clear BK171; clear HB; have HO175 := n0_; have BK170 := n1_; have BK171 := n2_; have HB := n3_; clear n0_ n1_ n2_ n3_; (try clear hb); (try clear hb2); (try clear hk); (try clear hi); (try clear ho0); obtain ⟨Ao12, co12, eo12⟩ := Kd.R_slice HO175.out; subst eo12; have hcz13_0 : w11.cell? ⟨gb171, 0, none⟩ = some (.slice none 0 0) := (blk_cell BK171.out 0).trans rfl; have hcz13_1 : w11.cell? ⟨gb171, 1, none⟩ = some (.int .i64 0) := (blk_cell BK171.out 1).trans rfl; have hcz13_2 : w11.cell? ⟨gb171, 2, none⟩ = some (.int .i64 0) := (blk_cell BK171.out 2).trans rfl; have hcz13_3 : w11.cell? ⟨gb171, 3, none⟩ = some (.int .i64 0) := (blk_cell BK171.out 3).trans rfl; have hcz13_4 : w11.cell? ⟨gb171, 4, none⟩ = some (.int .i64 0) := (blk_cell BK171.out 4).trans rfl; have hcz13_5 : w11.cell? ⟨gb171, 5, none⟩ = some (.int .i64 0) := (blk_cell BK171.out 5).trans rfl; have hfz13_0 := blk_frozen BK171.out 0; have hfz13_1 := blk_frozen BK171.out 1; have hfz13_2 := blk_frozen BK171.out 2; have hfz13_3 := blk_frozen BK171.out 3; have hfz13_4 := blk_frozen BK171.out 4; have hfz13_5 := blk_frozen BK171.out 5))
    refine bodyPost_ret (results_ct rfl _ _ gb171 93 #[.slice Ao12 t173.length co12, .int .i64 t176, .int .i64 t177, .int .i64 t178, .int .i64 t179, .int .i64 t180] (0, 0) _ rfl (by (with_reducible repeat (first | refine blk_drewN ?_ _ | refine blk_drew ?_ | refine blk_alloc ?_ _)); refine blk_put (cs := #[.slice Ao12 t173.length co12, .int .i64 t176, .int .i64 t177, .int .i64 t178, .int .i64 t179, .int .i64 0]) ?_ 5 _ rfl; (with_reducible repeat (first | refine blk_drewN ?_ _ | refine blk_drew ?_ | refine blk_alloc ?_ _)); refine blk_put (cs := #[.slice Ao12 t173.length co12, .int .i64 t176, .int .i64 t177, .int .i64 t178, .int .i64 0, .int .i64 0]) ?_ 4 _ rfl; (with_reducible repeat (first | refine blk_drewN ?_ _ | refine blk_drew ?_ | refine blk_alloc ?_ _)); refine blk_put (cs := #[.slice Ao12 t173.length co12, .int .i64 t176, .int .i64 t177, .int .i64 0, .int .i64 0, .int .i64 0]) ?_ 3 _ rfl; (with_reducible repeat (first | refine blk_drewN ?_ _ | refine blk_drew ?_ | refine blk_alloc ?_ _)); refine blk_put (cs := #[.slice Ao12 t173.length co12, .int .i64 t176, .int .i64 0, .int .i64 0, .int .i64 0, .int .i64 0]) ?_ 2 _ rfl; (with_reducible repeat (first | refine blk_drewN ?_ _ | refine blk_drew ?_ | refine blk_alloc ?_ _)); refine blk_put (cs := #[.slice Ao12 t173.length co12, .int .i64 0, .int .i64 0, .int .i64 0, .int .i64 0, .int .i64 0]) ?_ 1 _ rfl; (with_reducible repeat (first | refine blk_drewN ?_ _ | refine blk_drew ?_ | refine blk_alloc ?_ _)); refine blk_put (cs := #[.slice none 0 0, .int .i64 0, .int .i64 0, .int .i64 0, .int .i64 0, .int .i64 0]) ?_ 0 _ rfl; (with_reducible repeat (first | refine blk_drewN ?_ _ | refine blk_drew ?_ | refine blk_alloc ?_ _)); exact BK171.out) Try.underlying93 rfl (by kernel_rfl)) rfl ?_
    exact ⟨_, by first | rfl | (simp [errW_none, errW_some] <;> rfl) | (simp [*, errW_none, errW_some] <;> rfl), by (with_reducible repeat (first | apply Kd.R_alloc | apply Kd.R_drewN | apply Kd.R_drew)); exact Kd.R_mono (Kd.R_far (p := ⟨gb171, 5, none⟩) (Kd.R_far (p := ⟨gb171, 4, none⟩) (Kd.R_far (p := ⟨gb171, 3, none⟩) (Kd.R_far (p := ⟨gb171, 2, none⟩) (Kd.R_far (p := ⟨gb171, 1, none⟩) (Kd.R_far (p := ⟨gb171, 0, none⟩) (Kd.R_types HO175.out BK171.out (by decide)) (fun _ hk => hk.2) (.slice Ao12 t173.length co12)) (fun _ hk => hk.2) (.int .i64 t176)) (fun _ hk => hk.2) (.int .i64 t177)) (fun _ hk => hk.2) (.int .i64 t178)) (fun _ hk => hk.2) (.int .i64 t179)) (fun _ hk => hk.2) (.int .i64 t180)) (fun _ hk => trivial), by repeat (first | (with_reducible first | exact HB.out | apply below_alloc | apply pw_below_drewN | apply below_drew1 | refine below_set ?_ GE170.out | refine below_set ?_ GE171.out) | exact HB.out)⟩
  · replace c5 := Bool.eq_false_iff.mpr c5
    subst c5
    have H1 : (some ((([] : List Int)), 0, 0, 0, 0, 0, false)) = some (r1, r2, r3, r4, r5, r6, r7) := by rw [if_neg (show ¬ (false = true) by decide)] at H; exact H
    clear H
    have H := H1
    clear H1
    obtain ⟨y182, hy182⟩ : ∃ y_ : List Int, y_ = (([] : List Int)) := ⟨_, rfl⟩
    replace H : (some (y182, 0, 0, 0, 0, 0, false)) = some (r1, r2, r3, r4, r5, r6, r7) := by first | (rw [hy182]; with_reducible exact H) | (have H2_ := (Option.bind_some _ _).symm.trans H; rw [hy182]; with_reducible exact H2_) | (have H2_ := (Option.bind_some _ _).symm.trans H; with_reducible exact H2_) | with_reducible exact H | (rw [hy182]; exact H) | exact H
    have Ny182 := Aside0.mk hy182
    clear hy182
    simp only [Option.some.injEq, Prod.mk.injEq] at H
    obtain ⟨rfl, rfl, rfl, rfl, rfl, rfl, rfl⟩ := H
    go_enter Try.func79, Try.ntmps79
    go_wp2_with (first | ((with_reducible refine gate_dst (N := 3) rfl ?_); refine box_event ?hg (N := 3) ?hd (cs := #[.int .i64 a0_0, .int .i64 a0_1, .int .i64 a0_2]) (t := 45) ?hr ?_; (case hd => rfl); (case hg => rfl); (case hr => first | (go_simp; done) | (go_simp; rfl)); intro gb170 hg w14 hbox hb; have n0_ := Aside0.mk (below_step (by repeat (first | (with_reducible first | exact HB.out | apply below_alloc | apply pw_below_drewN | apply below_drew1) | exact HB.out)) hb); have n1_ := Aside0.mk (hbox); have n2_ := Aside0.mk ((by rw [hg]; exact (below_size (by repeat (first | (with_reducible first | exact HB.out | apply below_alloc | apply pw_below_drewN | apply below_drew1) | exact HB.out))) : w.heap.size ≤ gb170)); have n3_ := Aside0.mk ((by rw [hg]; exact (below_size (by repeat (first | (with_reducible first | exact HB.out | apply below_alloc | apply pw_below_drewN | apply below_drew1) | exact HB.out))) : w.heap.size ≤ gb170)); clear HB; have HB := n0_; have BK170 := n1_; have GW170 := n2_; have GE170 := n3_; clear n0_ n1_ n2_ n3_; clear hb hbox hg) | ((with_reducible refine gate_dst (N := 6) rfl ?_); refine box_event ?hg (N := 6) ?hd (cs := #[.slice none 0 0, .int .i64 0, .int .i64 0, .int .i64 0, .int .i64 0, .int .i64 0]) (t := 93) ?hr ?_; (case hd => rfl); (case hg => rfl); (case hr => first | (go_simp; done) | (go_simp; rfl)); intro gb171 hg w15 hbox hb; have n0_ := Aside0.mk (blk_below (g := gb170) (o := .cells #[.int .i64 a0_0, .int .i64 a0_1, .int .i64 a0_2] 45 (0, 0)) (by (with_reducible repeat (first | refine blk_drewN ?_ _ | refine blk_drew ?_ | refine blk_alloc ?_ _)); exact BK170.out) hb); have n1_ := Aside0.mk (below_step (by repeat (first | (with_reducible first | exact HB.out | apply below_alloc | apply pw_below_drewN | apply below_drew1 | refine below_set ?_ GE170.out) | exact HB.out)) hb); have n2_ := Aside0.mk (hbox); have n3_ := Aside0.mk ((by rw [hg]; exact (below_size (by repeat (first | (with_reducible first | exact HB.out | apply below_alloc | apply pw_below_drewN | apply below_drew1 | refine below_set ?_ GE170.out) | exact HB.out))) : w.heap.size ≤ gb171)); have n4_ := Aside0.mk ((by rw [hg]; exact (below_size (by repeat (first | (with_reducible first | exact HB.out | apply below_alloc | apply pw_below_drewN | apply below_drew1 | refine below_set ?_ GE170.out) | exact HB.out))) : w.heap.size ≤ gb171)); have n5_ := Aside0.mk ((by rw [hg]; exact Nat.ne_of_lt (blk_lt (g := gb170) (o := .cells #[.int .i64 a0_0, .int .i64 a0_1, .int .i64 a0_2] 45 (0, 0)) (by (with_reducible repeat (first | refine blk_drewN ?_ _ | refine blk_drew ?_ | refine blk_alloc ?_ _)); exact BK170.out)) : gb170 ≠ gb171)); have n6_ := Aside0.mk ((by rw [hg]; exact Nat.ne_of_gt (blk_lt (g := gb170) (o := .cells #[.int .i64 a0_0, .int .i64 a0_1, .int .i64 a0_2] 45 (0, 0)) (by (with_reducible repeat (first | refine blk_drewN ?_ _ | refine blk_drew ?_ | refine blk_alloc ?_ _)); exact BK170.out)) : gb171 ≠ gb170)); clear BK170; clear HB; have BK170 := n0_; have HB := n1_; have BK171 := n2_; have GW171 := n3_; have GE171 := n4_; have NB170_171 := n5_; have NB171_170 := n6_; clear n0_ n1_ n2_ n3_ n4_ n5_ n6_; clear hb hbox hg) | ((with_reducible refine gate_callee (f := 114) rfl ?_); refine goesL_ (some 9) rfl rfl Try.func114 (by kernel_rfl) rfl #[.int .i64 a1, .int .i64 2, .int .i64 8] rfl (by (try simp only [List.map_toArray, List.map_cons, List.map_nil]); first | done | rfl | (simp only [List.length_drop, List.length_take]; rfl)) ?_; (with_reducible refine (spec_l1In.calls a1 2 8 false _ A4.out).mono ?_); rintro e w' ⟨rfl, ⟨nd, rfl⟩⟩; refine ⟨_, rfl, ?_⟩; (try simp only [World.drewN_drewN]); (try (rw [drewN_self w15]; generalize hq_ : World.drewN w15 _ = w15; have n0_ : Aside0 (w15.heap[gb170]? = some (.cells #[.int .i64 a0_0, .int .i64 a0_1, .int .i64 a0_2] 45 (0, 0))) := ⟨by rw [← hq_]; exact (by (with_reducible repeat (first | refine blk_drewN ?_ _ | refine blk_drew ?_ | refine blk_alloc ?_ _)); exact BK170.out)⟩; have n1_ : Aside0 (w15.heap[gb171]? = some (.cells #[.slice none 0 0, .int .i64 0, .int .i64 0, .int .i64 0, .int .i64 0, .int .i64 0] 93 (0, 0))) := ⟨by rw [← hq_]; exact (by (with_reducible repeat (first | refine blk_drewN ?_ _ | refine blk_drew ?_ | refine blk_alloc ?_ _)); exact BK171.out)⟩; have n2_ : Aside0 (Below w.heap.size w w15) := ⟨by rw [← hq_]; exact (by repeat (first | (with_reducible first | exact HB.out | apply below_alloc | apply pw_below_drewN | apply below_drew1 | refine below_set ?_ GE170.out | refine below_set ?_ GE171.out) | exact HB.out))⟩; clear BK170 BK171 HB hq_; have BK170 := n0_; have BK171 := n1_; have HB := n2_; clear n0_ n1_ n2_))) | ((with_reducible refine gate_dst (N := 11) rfl ?_); refine Kd.R_lit (Kd.int .i64) _ 3 ?hg (N := 11) ?hd (xs := ([] : List Int)) (inner := []) (ok := fun _ => True) (okp := fun _ => True) ?hr ?hp (fun _ hk => hk) trivial (Below.refl _ _) (Nat.le_refl _) (by simp) ?_; (case hd => rfl); (case hg => rfl); (case hr => first | (go_simp; done) | (go_simp; rfl)); (case hp => exact (Reps.none _ _)); intro v183 w16 ho17 hb hg_ hnew_; clear hg_ hnew_; (first | rw [← Ny182.out] at ho17 | (simp only [Int.reduceToNat] at ho17; rw [← Ny182.out] at ho17)); have n0_ := Aside0.mk (Kd.R_lower ho17 (below_size (by repeat (first | (with_reducible first | exact HB.out | apply below_alloc | apply pw_below_drewN | apply below_drew1 | refine below_set ?_ GE170.out | refine below_set ?_ GE171.out) | exact HB.out)))); have n1_ := Aside0.mk (blk_below (g := gb170) (o := .cells #[.int .i64 a0_0, .int .i64 a0_1, .int .i64 a0_2] 45 (0, 0)) (by (with_reducible repeat (first | refine blk_drewN ?_ _ | refine blk_drew ?_ | refine blk_alloc ?_ _)); exact BK170.out) hb); have n2_ := Aside0.mk (blk_below (g := gb171) (o := .cells #[.slice none 0 0, .int .i64 0, .int .i64 0, .int .i64 0, .int .i64 0, .int .i64 0] 93 (0, 0)) (by (with_reducible repeat (first | refine blk_drewN ?_ _ | refine blk_drew ?_ | refine blk_alloc ?_ _)); exact BK171.out) hb); have n3_ := Aside0.mk (below_step (by repeat (first | (with_reducible first | exact HB.out | apply below_alloc | apply pw_below_drewN | apply below_drew1 | refine below_set ?_ GE170.out | refine below_set ?_ GE171.out) | exact HB.out)) hb); clear BK170; clear BK171; clear HB; have HO184 := n0_; have BK170 := n1_; have BK171 := n2_; have HB := n3_; clear n0_ n1_ n2_ n3_; clear hb ho17; obtain ⟨Ao18, co18, eo18⟩ := Kd.R_slice HO184.out; subst eo18; have hnb19 := NB171_170.out; have hnc19 := NB170_171.out; have hcz20_0 : w16.cell? ⟨gb171, 0, none⟩ = some (.slice none 0 0) := (blk_cell BK171.out 0).trans rfl; have hcz20_1 : w16.cell? ⟨gb171, 1, none⟩ = some (.int .i64 0) := (blk_cell BK171.out 1).trans rfl; have hcz20_2 : w16.cell? ⟨gb171, 2, none⟩ = some (.int .i64 0) := (blk_cell BK171.out 2).trans rfl; have hcz20_3 : w16.cell? ⟨gb171, 3, none⟩ = some (.int .i64 0) := (blk_cell BK171.out 3).trans rfl; have hcz20_4 : w16.cell? ⟨gb171, 4, none⟩ = some (.int .i64 0) := (blk_cell BK171.out 4).trans rfl; have hcz20_5 : w16.cell? ⟨gb171, 5, none⟩ = some (.int .i64 0) := (blk_cell BK171.out 5).trans rfl; have hfz20_0 := blk_frozen BK171.out 0; have hfz20_1 := blk_frozen BK171.out 1; have hfz20_2 := blk_frozen BK171.out 2; have hfz20_3 := blk_frozen BK171.out 3; have hfz20_4 := blk_frozen BK171.out 4; have hfz20_5 := blk_frozen BK171.out 5))
    refine bodyPost_ret (results_ct rfl _ _ gb171 93 #[.slice Ao18 y182.length co18, .int .i64 0, .int .i64 0, .int .i64 0, .int .i64 0, .int .i64 0] (0, 0) _ rfl (by (with_reducible repeat (first | refine blk_drewN ?_ _ | refine blk_drew ?_ | refine blk_alloc ?_ _)); refine blk_put (cs := #[.slice Ao18 y182.length co18, .int .i64 0, .int .i64 0, .int .i64 0, .int .i64 0, .int .i64 0]) ?_ 5 _ rfl; (with_reducible repeat (first | refine blk_drewN ?_ _ | refine blk_drew ?_ | refine blk_alloc ?_ _)); refine blk_put (cs := #[.slice Ao18 y182.length co18, .int .i64 0, .int .i64 0, .int .i64 0, .int .i64 0, .int .i64 0]) ?_ 4 _ rfl; (with_reducible repeat (first | refine blk_drewN ?_ _ | refine blk_drew ?_ | refine blk_alloc ?_ _)); refine blk_put (cs := #[.slice Ao18 y182.length co18, .int .i64 0, .int .i64 0, .int .i64 0, .int .i64 0, .int .i64 0]) ?_ 3 _ rfl; (with_reducible repeat (first | refine blk_drewN ?_ _ | refine blk_drew ?_ | refine blk_alloc ?_ _)); refine blk_put (cs := #[.slice Ao18 y182.length co18, .int .i64 0, .int .i64 0, .int .i64 0, .int .i64 0, .int .i64 0]) ?_ 2 _ rfl; (with_reducible repeat (first | refine blk_drewN ?_ _ | refine blk_drew ?_ | refine blk_alloc ?_ _)); refine blk_put (cs := #[.slice Ao18 y182.length co18, .int .i64 0, .int .i64 0, .int .i64 0, .int .i64 0, .int .i64 0]) ?_ 1 _ rfl; (with_reducible repeat (first | refine blk_drewN ?_ _ | refine blk_drew ?_ | refine blk_alloc ?_ _)); refine blk_put (cs := #[.slice none 0 0, .int .i64 0, .int .i64 0, .int .i64 0, .int .i64 0, .int .i64 0]) ?_ 0 _ rfl; (with_reducible repeat (first | refine blk_drewN ?_ _ | refine blk_drew ?_ | refine blk_alloc ?_ _)); exact BK171.out) Try.underlying93 rfl (by kernel_rfl)) rfl ?_
    exact ⟨_, by first | rfl | (simp [errW_none, errW_some] <;> rfl) | (simp [*, errW_none, errW_some] <;> rfl), by (with_reducible repeat (first | apply Kd.R_alloc | apply Kd.R_drewN | apply Kd.R_drew)); exact Kd.R_mono (Kd.R_far (p := ⟨gb171, 5, none⟩) (Kd.R_far (p := ⟨gb171, 4, none⟩) (Kd.R_far (p := ⟨gb171, 3, none⟩) (Kd.R_far (p := ⟨gb171, 2, none⟩) (Kd.R_far (p := ⟨gb171, 1, none⟩) (Kd.R_far (p := ⟨gb171, 0, none⟩) (Kd.R_types HO184.out BK171.out (by decide)) (fun _ hk => hk.2) (.slice Ao18 y182.length co18)) (fun _ hk => hk.2) (.int .i64 0)) (fun _ hk => hk.2) (.int .i64 0)) (fun _ hk => hk.2) (.int .i64 0)) (fun _ hk => hk.2) (.int .i64 0)) (fun _ hk => hk.2) (.int .i64 0)) (fun _ hk => trivial), by repeat (first | (with_reducible first | exact HB.out | apply below_alloc | apply pw_below_drewN | apply below_drew1 | refine below_set ?_ GE170.out | refine below_set ?_ GE171.out) | exact HB.out)⟩

/-! ### spec_ShrinkCaps: function 29 -/
def spec_ShrinkCaps.f (k : Nat) (a0_0 : Int) (a0_1 : Int) (a0_2 : Int) (a1 : Int) (l2 : List Int) : Option (List Int × Bool) := (spec_l4Shrink.f k a0_0 a0_1 a0_2 a1 l2).bind fun bt186 => (some (bt186.1, bt186.2.2.2.2.2.2))
theorem spec_ShrinkCaps.mono : ∀ a0 a1 a2 a3 a4 k, LeO (spec_ShrinkCaps.f k a0 a1 a2 a3 a4) (spec_ShrinkCaps.f (k + 1) a0 a1 a2 a3 a4) := by
  intro a0 a1 a2 a3 a4 k
  unfold spec_ShrinkCaps.f
  repeat' first
      | (with_reducible exact spec_l4Shrink.mono _ _ _ _ _ _)
      | (with_reducible exact LeO.refl _)
      | (with_reducible exact LeO.none _)
      | (with_reducible refine LeO.ite ?_ ?_)
      | (with_reducible refine LeO.bind ?_ (fun _ => ?_))
      | exact spec_l4Shrink.mono _ _ _ _ _ _
      | exact LeO.none _
      | refine LeO.ite ?_ ?_
      | refine LeO.bind ?_ (fun _ => ?_)
set_option maxHeartbeats 8000000 in
set_option maxRecDepth 100000 in
theorem spec_ShrinkCaps.calls (k : Nat) (a0_0 : Int) (a0_1 : Int) (a0_2 : Int) (a1 : Int) (A2 : Option Addr) (c2 : Nat) (l2 : List Int) (r1 : List Int) (r2 : Bool) (w : World) (hr2 : Kd.C (Kd.int .i64) w A2 l2.length l2) (hc2 : l2.length ≤ c2) (h : spec_ShrinkCaps.f k a0_0 a0_1 a0_2 a1 l2 = some (r1, r2)) :
    Calls Try.prog 29 #[.agg #[.int .i64 a0_0, .int .i64 a0_1, .int .i64 a0_2], .int .i64 a1, .slice A2 l2.length c2] w fun e w' => ∃ v0_ : Value, e = .returned (.tuple #[v0_, .bool r2]) ∧ Kd.R (Kd.int .i64) 3 w' w.heap.size (fun _ => True) v0_ r1 ∧ Below w.heap.size w w' := by
  have hu45 := Try.underlying45
  have hu93 := Try.underlying93
  have HR2 := Aside0.mk hr2
  have HC2 := Aside0.mk hc2
  clear hr2 hc2
  have HB := Aside0.mk (Below.refl w.heap.size w)
  have H : ((spec_l4Shrink.f k a0_0 a0_1 a0_2 a1 l2).bind fun bt186 => (some (bt186.1, bt186.2.2.2.2.2.2))) = some (r1, r2) := h
  clear h
  replace H := Option.bind_eq_some_iff.mp H
  obtain ⟨⟨t186, t189, t190, t191, t192, t193, t194⟩, A40, H⟩ := H
  replace H : (some (t186, t194)) = some (r1, r2) := H
  have A4 := Aside0.mk A40
  clear A40
  simp only [Option.some.injEq, Prod.mk.injEq] at H
  obtain ⟨rfl, rfl⟩ := H
  go_enter Try.func29, Try.ntmps29
  go_wp2_with (first | ((with_reducible refine gate_dst (N := 3) rfl ?_); refine box_event ?hg (N := 3) ?hd (cs := #[.int .i64 a0_0, .int .i64 a0_1, .int .i64 a0_2]) (t := 45) ?hr ?_; (case hd => rfl); (case hg => rfl); (case hr => first | (go_simp; done) | (go_simp; rfl)); intro gb185 hg w5 hbox hb; have n0_ := Aside0.mk (below_step (by repeat (first | (with_reducible first | exact HB.out | apply below_alloc | apply pw_below_drewN | apply below_drew1) | exact HB.out)) hb); have n1_ := Aside0.mk (hbox); have n2_ := Aside0.mk ((by rw [hg]; exact (below_size (by repeat (first | (with_reducible first | exact HB.out | apply below_alloc | apply pw_below_drewN | apply below_drew1) | exact HB.out))) : w.heap.size ≤ gb185)); have n3_ := Aside0.mk ((by rw [hg]; exact (below_size (by repeat (first | (with_reducible first | exact HB.out | apply below_alloc | apply pw_below_drewN | apply below_drew1) | exact HB.out))) : w.heap.size ≤ gb185)); clear HB; have HB := n0_; have BK185 := n1_; have GW185 := n2_; have GE185 := n3_; clear n0_ n1_ n2_ n3_; clear hb hbox hg; have hcz6_0 : w5.cell? ⟨gb185, 0, none⟩ = some (.int .i64 a0_0) := (blk_cell BK185.out 0).trans rfl; have hcz6_1 : w5.cell? ⟨gb185, 1, none⟩ = some (.int .i64 a0_1) := (blk_cell BK185.out 1).trans rfl; have hcz6_2 : w5.cell? ⟨gb185, 2, none⟩ = some (.int .i64 a0_2) := (blk_cell BK185.out 2).trans rfl; have hfz6_0 := blk_frozen BK185.out 0; have hfz6_1 := blk_frozen BK185.out 1; have hfz6_2 := blk_frozen BK185.out 2) | ((with_reducible refine gate_callee (f := 79) rfl ?_); refine goesL_ (some 14) rfl rfl Try.func79 (by kernel_rfl) rfl #[.agg #[.int .i64 a0_0, .int .i64 a0_1, .int .i64 a0_2], .int .i64 a1, .slice A2 l2.length c2] rfl (by (try simp only [List.map_toArray, List.map_cons, List.map_nil]); first | done | rfl | (simp only [List.length_drop, List.length_take]; rfl)) ?_; (with_reducible refine (spec_l4Shrink.calls k a0_0 a0_1 a0_2 a1 _ _ l2 t186 t189 t190 t191 t192 t193 t194 _ ?side1 ?side2 A4.out).mono ?_); (case side1 => repeat (first | exact (Kd.C_below HR2.out HB.out) | (with_reducible refine Kd.C_alloc ?_ _) | (with_reducible refine Kd.C_drewN ?_ _) | (with_reducible refine Kd.C_drew ?_))); (case side2 => exact HC2.out); rintro e w7 ⟨v187, rfl, ho0, hb⟩; refine ⟨_, rfl, ?_⟩; have n0_ := Aside0.mk (Kd.R_lower ho0 (below_size (by repeat (first | (with_reducible first | exact HB.out | apply below_alloc | apply pw_below_drewN | apply below_drew1 | refine below_set ?_ GE185.out) | exact HB.out)))); have n1_ := Aside0.mk (blk_below (g := gb185) (o := .cells #[.int .i64 a0_0, .int .i64 a0_1, .int .i64 a0_2] 45 (0, 0)) (by (with_reducible repeat (first | refine blk_drewN ?_ _ | refine blk_drew ?_ | refine blk_alloc ?_ _)); exact BK185.out) hb); have n2_ := Aside0.mk (below_step (by repeat (first | (with_reducible first | exact HB.out | apply below_alloc | apply pw_below_drewN | apply below_drew1 | refine below_set ?_ GE185.out) | exact HB.out)) hb); clear BK185; clear HB; have HO188 := n0_; have BK185 := n1_; have HB := n2_; clear n0_ n1_ n2_; (try clear hb); (try clear hb2); (try clear hk); (try clear hi); (try clear ho0)) | ((with_reducible refine gate_dst (N := 8) rfl ?_); refine box_event ?hg (N := 8) ?hd (cs := #[.slice none 0 0, .int .i64 0, .int .i64 0, .int .i64 0, .int .i64 0, .int .i64 0]) (t := 93) ?hr ?_; (case hd => rfl); (case hg => rfl); (case hr => first | (go_simp; done) | (go_simp; rfl)); intro gb195 hg w8 hbox hb; have n0_ := Aside0.mk (Kd.R_below (by (with_reducible repeat (first | apply Kd.R_alloc | apply Kd.R_drewN | apply Kd.R_drew)); exact HO188.out) hb); have n1_ := Aside0.mk (blk_below (g := gb185) (o := .cells #[.int .i64 a0_0, .int .i64 a0_1, .int .i64 a0_2] 45 (0, 0)) (by (with_reducible repeat (first | refine blk_drewN ?_ _ | refine blk_drew ?_ | refine blk_alloc ?_ _)); exact BK185.out) hb); have n2_ := Aside0.mk (below_step (by repeat (first | (with_reducible first | exact HB.out | apply below_alloc | apply pw_below_drewN | apply below_drew1 | refine below_set ?_ GE185.out) | exact HB.out)) hb); have n3_ := Aside0.mk (hbox); have n4_ := Aside0.mk ((by rw [hg]; exact (below_size (by repeat (first | (with_reducible first | exact HB.out | apply below_alloc | apply pw_below_drewN | apply below_drew1 | refine below_set ?_ GE185.out) | exact HB.out))) : w.heap.size ≤ gb195)); have n5_ := Aside0.mk ((by rw [hg]; exact (below_size (by repeat (first | (with_reducible first | exact HB.out | apply below_alloc | apply pw_below_drewN | apply below_drew1 | refine below_set ?_ GE185.out) | exact HB.out))) : w.heap.size ≤ gb195)); have n6_ := Aside0.mk ((by rw [hg]; exact Nat.ne_of_lt (blk_lt (g := gb185) (o := .cells #[.int .i64 a0_0, .int .i64 a0_1, .int .i64 a0_2] 45 (0, 0)) (by (with_reducible repeat (first | refine blk_drewN ?_ _ | refine blk_drew ?_ | refine blk_alloc ?_ _)); exact BK185.out)) : gb185 ≠ gb195)); have n7_ := Aside0.mk ((by rw [hg]; exact Nat.ne_of_gt (blk_lt (g := gb185) (o := .cells #[.int .i64 a0_0, .int .i64 a0_1, .int .i64 a0_2] 45 (0, 0)) (by (with_reducible repeat (first | refine blk_drewN ?_ _ | refine blk_drew ?_ | refine blk_alloc ?_ _)); exact BK185.out)) : gb195 ≠ gb185)); clear HO188; clear BK185; clear HB; have HO188 := n0_; have BK185 := n1_; have HB := n2_; have BK195 := n3_; have GW195 := n4_; have GE195 := n5_; have NB185_195 := n6_; have NB195_185 := n7_; clear n0_ n1_ n2_ n3_ n4_ n5_ n6_ n7_; clear hb hbox hg; obtain ⟨Ao9, co9, eo9⟩ := Kd.R_slice HO188.out; subst eo9; have hnb10 := NB195_185.out; have hnc10 := NB185_195.out; have hcz11_0 : w8.cell? ⟨gb195, 0, none⟩ = some (.slice none 0 0) := (blk_cell BK195.out 0).trans rfl; have hcz11_1 : w8.cell? ⟨gb195, 1, none⟩ = some (.int .i64 0) := (blk_cell BK195.out 1).trans rfl; have hcz11_2 : w8.cell? ⟨gb195, 2, none⟩ = some (.int .i64 0) := (blk_cell BK195.out 2).trans rfl; have hcz11_3 : w8.cell? ⟨gb195, 3, none⟩ = some (.int .i64 0) := (blk_cell BK195.out 3).trans rfl; have hcz11_4 : w8.cell? ⟨gb195, 4, none⟩ = some (.int .i64 0) := (blk_cell BK195.out 4).trans rfl; have hcz11_5 : w8.cell? ⟨gb195, 5, none⟩ = some (.int .i64 0) := (blk_cell BK195.out 5).trans rfl; have hfz11_0 := blk_frozen BK195.out 0; have hfz11_1 := blk_frozen BK195.out 1; have hfz11_2 := blk_frozen BK195.out 2; have hfz11_3 := blk_frozen BK195.out 3; have hfz11_4 := blk_frozen BK195.out 4; have hfz11_5 := blk_frozen BK195.out 5))
  go_ret2
  exact ⟨_, by first | rfl | (simp [errW_none, errW_some] <;> rfl) | (simp [*, errW_none, errW_some] <;> rfl), by (with_reducible repeat (first | apply Kd.R_alloc | apply Kd.R_drewN | apply Kd.R_drew)); exact Kd.R_mono (Kd.R_far (p := ⟨gb195, 5, none⟩) (Kd.R_far (p := ⟨gb195, 4, none⟩) (Kd.R_far (p := ⟨gb195, 3, none⟩) (Kd.R_far (p := ⟨gb195, 2, none⟩) (Kd.R_far (p := ⟨gb195, 1, none⟩) (Kd.R_far (p := ⟨gb195, 0, none⟩) (Kd.R_types HO188.out BK195.out (by decide)) (fun _ hk => hk.2) (.slice Ao9 t186.length co9)) (fun _ hk => hk.2) (.int .i64 t189)) (fun _ hk => hk.2) (.int .i64 t190)) (fun _ hk => hk.2) (.int .i64 t191)) (fun _ hk => hk.2) (.int .i64 t192)) (fun _ hk => hk.2) (.int .i64 t193)) (fun _ hk => trivial), by repeat (first | (with_reducible first | exact HB.out | apply below_alloc | apply pw_below_drewN | apply below_drew1 | refine below_set ?_ GE185.out | refine below_set ?_ GE195.out) | exact HB.out)⟩

/-! ### impl_changed: function 80 (by hand) -/
section
attribute [-go_sem] max2_int min2_int max_two min_two max_three min_three max_four min_four
/-- The state's block, the rule's block, and that all else of w0 lies as it did. -/
structure impl_changed.GX_ (w0 : World) (g b : Nat) (L C M K num den add : Int) (W : World) : Prop where
  st : W.heap[g]? = some (.cells #[.int .i64 L, .int .i64 C, .int .i64 M, .int .i64 K] 117 (0, 0))
  ru : W.heap[b]? = some (.cells #[.int .i64 num, .int .i64 den, .int .i64 add] 45 (0, 0))
  gr : w0.grownBy W (some g)
  ne : b ≠ g
section
variable {w0 W : World} {g b : Nat} {L C M K num den add : Int}
theorem impl_changed.GX_.drewN (h : impl_changed.GX_ w0 g b L C M K num den add W) (n : Nat) : impl_changed.GX_ w0 g b L C M K num den add (W.drewN n) := ⟨h.st, h.ru, ⟨h.gr.os, h.gr.tape, h.gr.output, h.gr.size, h.gr.block⟩, h.ne⟩
theorem impl_changed.GX_.drew (h : impl_changed.GX_ w0 g b L C M K num den add W) : impl_changed.GX_ w0 g b L C M K num den add W.drew := ⟨h.st, h.ru, ⟨h.gr.os, h.gr.tape, h.gr.output, h.gr.size, h.gr.block⟩, h.ne⟩
theorem impl_changed.GX_.gset (h : impl_changed.GX_ w0 g b L C M K num den add W) (i : Nat) (u : Value) : w0.grownBy (W.setCell ⟨g, i, none⟩ u) (some g) :=
  ⟨h.gr.os, h.gr.tape, h.gr.output, by rw [World.size_setCell]; exact h.gr.size, fun k hk hn => (Below.heap_setCell W ⟨g, i, none⟩ u k (fun e => hn (by rw [e]))).trans (h.gr.block k hk hn)⟩
theorem impl_changed.GX_.set0 (h : impl_changed.GX_ w0 g b L C M K num den add W) (x : Int) : impl_changed.GX_ w0 g b x C M K num den add (W.setCell ⟨g, 0, none⟩ (.int .i64 x)) := ⟨blk_put h.st 0 _ rfl, blk_far h.ru h.ne _, h.gset _ _, h.ne⟩
theorem impl_changed.GX_.set1 (h : impl_changed.GX_ w0 g b L C M K num den add W) (x : Int) : impl_changed.GX_ w0 g b L x M K num den add (W.setCell ⟨g, 1, none⟩ (.int .i64 x)) := ⟨blk_put h.st 1 _ rfl, blk_far h.ru h.ne _, h.gset _ _, h.ne⟩
theorem impl_changed.GX_.set2 (h : impl_changed.GX_ w0 g b L C M K num den add W) (x : Int) : impl_changed.GX_ w0 g b L C x K num den add (W.setCell ⟨g, 2, none⟩ (.int .i64 x)) := ⟨blk_put h.st 2 _ rfl, blk_far h.ru h.ne _, h.gset _ _, h.ne⟩
theorem impl_changed.GX_.set3 (h : impl_changed.GX_ w0 g b L C M K num den add W) (x : Int) : impl_changed.GX_ w0 g b L C M x num den add (W.setCell ⟨g, 3, none⟩ (.int .i64 x)) := ⟨blk_put h.st 3 _ rfl, blk_far h.ru h.ne _, h.gset _ _, h.ne⟩
theorem impl_changed.GX_.cells (h : impl_changed.GX_ w0 g b L C M K num den add W) : W.cell? ⟨g, 0, none⟩ = some (.int .i64 L) ∧ W.cell? ⟨g, 1, none⟩ = some (.int .i64 C) ∧ W.cell? ⟨g, 2, none⟩ = some (.int .i64 M) ∧ W.cell? ⟨g, 3, none⟩ = some (.int .i64 K) :=
  ⟨(blk_cell h.st 0).trans rfl, (blk_cell h.st 1).trans rfl, (blk_cell h.st 2).trans rfl, (blk_cell h.st 3).trans rfl⟩
theorem impl_changed.GX_.free (h : impl_changed.GX_ w0 g b L C M K num den add W) (i : Nat) : W.frozen? ⟨g, i, none⟩ = false := blk_frozen h.st i
theorem impl_changed.GX_.rule (h : impl_changed.GX_ w0 g b L C M K num den add W) : W.cell? ⟨b, 0, none⟩ = some (.int .i64 num) ∧ W.cell? ⟨b, 1, none⟩ = some (.int .i64 den) ∧ W.cell? ⟨b, 2, none⟩ = some (.int .i64 add) :=
  ⟨(blk_cell h.ru 0).trans rfl, (blk_cell h.ru 1).trans rfl, (blk_cell h.ru 2).trans rfl⟩
end

/-- What grow comes to: does it fit, and the state. -/
def impl_changed.capF (num den add L C n : Int) : Int := if (if C * num / den + add < L + n then L + n else C * num / den + add) < C + 1 then C + 1 else (if C * num / den + add < L + n then L + n else C * num / den + add)
def impl_changed.growF (num den add L C M K n : Int) : Bool × Int × Int × Int × Int :=
  if L + n > C then (decide (0 ≤ impl_changed.capF num den add L C n) && decide (impl_changed.capF num den add L C n ≤ 1000000), L + n, impl_changed.capF num den add L C n, M + 1, K + n + L)
  else (decide (0 ≤ C) && decide (C ≤ 1000000), L + n, C, M, K + n)
set_option maxHeartbeats 1000000 in
set_option maxRecDepth 100000 in
theorem impl_changed.g1 (g : Nat) (num den add L C M K n : Int) (w : World) (hb : w.heap[g]? = some (.cells #[.int .i64 L, .int .i64 C, .int .i64 M, .int .i64 K] 117 (0, 0)))
   (hn0 : 0 ≤ n) (hn1 : n ≤ 1000000) (hL0 : 0 ≤ L) (hL1 : L ≤ C) (hC : C ≤ 1000000) (hK0 : 0 ≤ K) (hK1 : K ≤ 1000000000000) (hM0 : 0 ≤ M) (hM1 : M ≤ 1000000000000)
   (hnum0 : 1 ≤ num) (hnum1 : num ≤ 8) (hden0 : 1 ≤ den) (hden1 : den ≤ num) (hadd0 : 0 ≤ add) (hadd1 : add ≤ 64)
   (hin : ∀ x w, Calls Try.prog 109 #[.int .i64 x] w fun e w' => e = .returned (.bool (decide (0 ≤ x) && decide (x ≤ 1000000))) ∧ w = w') :
    Calls Try.prog 110 #[.pointer (some ⟨g, 0, none⟩), .agg #[.int .i64 num, .int .i64 den, .int .i64 add], .int .i64 n] w fun e w' => e = .returned (.bool (impl_changed.growF num den add L C M K n).1) ∧ w'.heap[g]? = some (.cells #[.int .i64 (impl_changed.growF num den add L C M K n).2.1, .int .i64 (impl_changed.growF num den add L C M K n).2.2.1, .int .i64 (impl_changed.growF num den add L C M K n).2.2.2.1, .int .i64 (impl_changed.growF num den add L C M K n).2.2.2.2] 117 (0, 0)) ∧ w.grownBy w' (some g) := by
  have hi1 := hin n
  rw [decide_eq_true hn0, decide_eq_true hn1] at hi1
  have HIN := Lib.hid hin
  have HI1 := Lib.hid hi1
  have hlt := blk_lt hb
  obtain ⟨W, hW⟩ : ∃ W, W = w.alloc (.cells #[.int .i64 num, .int .i64 den, .int .i64 add] 45) := ⟨_, rfl⟩
  have HS : Hid (impl_changed.GX_ w g w.heap.size L C M K num den add W) := by subst hW; exact ⟨blk_alloc hb _, blk_new _ _, grown_of_below (below_alloc (Below.refl _ _) _) _, Nat.ne_of_gt hlt⟩
  obtain ⟨B, hB⟩ : ∃ B, B = w.heap.size := ⟨_, rfl⟩
  clear hin hi1 hb hlt
  go_enter Try.func110, Try.ntmps110
  go_upto_region 1 with (fail)
  rw [← hW, ← hB]
  rw [← hB] at HS
  clear hW hB
  have c3 := HS.out.cells.2.2.2
  have f3 := HS.out.free 3
  go_upto_region 4 with (go_at_call 109; refine (HI1.out _).mono ?_; rintro e w1 ⟨rfl, rfl⟩)
  replace HS := Lib.hid (HS.out.set3 (K + n))
  generalize W.setCell ⟨g, 3, none⟩ (.int .i64 (K + n)) = W1 at HS ⊢
  clear c3 f3
  have c := HS.out.cells
  have c0 := c.1
  have c1 := c.2.1
  clear c
  by_cases hgt : L + n > C
  · have hg : decide (L + n > C) = true := decide_eq_true hgt
    go_quiet (fail)
    replace HS := Lib.hid (HS.out.drewN nq)
    generalize W1.drewN nq = W2 at HS ⊢
    clear c0 c1 nq
    go_upto_region 5 with (fail)
    have c0 := HS.out.cells.1
    have c3 := HS.out.cells.2.2.2
    have f3 := HS.out.free 3
    go_still_tail 11, (by kernel_rfl)
    change wpList _ _ _ _ _ W2.drew
    go_upto_region 6 with (fail)
    replace HS := Lib.hid (HS.out.set3 (K + n + L)).drew
    generalize (W2.setCell ⟨g, 3, none⟩ (.int .i64 (K + n + L))).drew = W3 at HS ⊢
    clear c0 c3 f3
    have c2 := HS.out.cells.2.2.1
    have f2 := HS.out.free 2
    go_upto_region 7 with (fail)
    replace HS := Lib.hid (HS.out.set2 (M + 1))
    generalize W3.setCell ⟨g, 2, none⟩ (.int .i64 (M + 1)) = W4 at HS ⊢
    clear c2 f2
    have c0 := HS.out.cells.1
    have c1 := HS.out.cells.2.1
    have f1 := HS.out.free 1
    have r0 := HS.out.rule.1
    have r1 := HS.out.rule.2.1
    have r2 := HS.out.rule.2.2
    have hp0 : 0 ≤ C * num := Int.mul_nonneg (by omega) (by omega)
    have hp1 : C * num ≤ 8000000 := by
      have h1 : C * num ≤ 1000000 * num := Int.mul_le_mul_of_nonneg_right hC (by omega)
      omega
    have hq0 : 0 ≤ C * num / den := Int.ediv_nonneg hp0 (by omega)
    have hq1 : C * num / den ≤ 8000000 := Int.le_trans (Int.ediv_le_self _ hp0) hp1
    have e1 : IntKind.i64.wrap (C * num) = C * num := by rw [IntKind.wrap_i64]; omega
    have e2 : IntKind.i64.wrap ((C * num).tdiv den) = C * num / den := IntWalk.i64_quo _ _ ⟨hp0, by omega, hden0⟩
    have e3 : IntKind.i64.wrap (C * num / den + add) = C * num / den + add := by rw [IntKind.wrap_i64]; omega
    have e4 : IntKind.i64.wrap (L + n) = L + n := by rw [IntKind.wrap_i64]; omega
    have e5 : IntKind.i64.wrap (C + 1) = C + 1 := by rw [IntKind.wrap_i64]; omega
    have ez : (den == 0) = false := by simp; omega
    have ez2 : ¬ den = 0 := by omega
    obtain ⟨m, HM⟩ : ∃ m, Hid (m = impl_changed.capF num den add L C n) := ⟨_, rfl⟩
    have hmx : ∀ w, (Builtin.max_ #[3, 3, 3] 3 #[.int .i64 (C * num / den + add), .int .i64 (L + n), .int .i64 (C + 1)]).run Try.prog w = .ok (.int .i64 m) w := by
      intro w
      rw [HM.out, impl_changed.capF, max_three]
      simp only [max2_int, Sem.run_bind, Sem.run_pure, Result.andThen]
    go_still_tail 28, (by kernel_rfl)
    change wpList _ _ _ _ _ W4.drew
    go_upto_region 8 with (fail)
    replace HS := Lib.hid (HS.out.set1 m).drew
    generalize (W4.setCell ⟨g, 1, none⟩ (.int .i64 m)).drew = W5 at HS ⊢
    have HF : Hid (impl_changed.growF num den add L C M K n = (decide (0 ≤ m) && decide (m ≤ 1000000), L + n, m, M + 1, K + n + L)) := by
      rw [HM.out]
      exact if_pos hgt
    have hm0 : -100 ≤ m := by
      have := HM.out
      unfold impl_changed.capF at this
      split at this <;> omega
    clear c0 c1 f1 r0 r1 r2 hp0 hp1 hq0 hq1 e1 e2 e3 e4 e5 ez ez2 hmx
    have c0 := HS.out.cells.1
    have c1 := HS.out.cells.2.1
    have f0 := HS.out.free 0
    go_upto_region 9 with (fail)
    replace HS := Lib.hid (HS.out.set0 (L + n))
    generalize W5.setCell ⟨g, 0, none⟩ (.int .i64 (L + n)) = W6 at HS ⊢
    clear c0 c1 f0
    have c1 := HS.out.cells.2.1
    go_wp2_with (go_at_call 109; refine (HIN.out _ _).mono ?_; rintro e w2 ⟨rfl, rfl⟩)
    go_ret
    exact ⟨by rw [HF.out]; first | rfl | (show Ending.returned (.bool (decide (0 ≤ C))) = _; rw [decide_eq_true hC, Bool.and_true]), by rw [HF.out]; exact HS.out.st, HS.out.gr⟩
  · have hg : decide (L + n > C) = false := decide_eq_false hgt
    go_quiet (fail)
    replace HS := Lib.hid (HS.out.drewN nq)
    generalize W1.drewN nq = W2 at HS ⊢
    clear c0 c1 nq
    go_upto_region 8 with (fail)
    have HF : Hid (impl_changed.growF num den add L C M K n = (decide (0 ≤ C) && decide (C ≤ 1000000), L + n, C, M, K + n)) := if_neg hgt
    have c0 := HS.out.cells.1
    have c1 := HS.out.cells.2.1
    have f0 := HS.out.free 0
    go_upto_region 9 with (fail)
    replace HS := Lib.hid (HS.out.set0 (L + n))
    generalize W2.setCell ⟨g, 0, none⟩ (.int .i64 (L + n)) = W6 at HS ⊢
    clear c0 c1 f0
    have c1 := HS.out.cells.2.1
    go_wp2_with (go_at_call 109; refine (HIN.out _ _).mono ?_; rintro e w2 ⟨rfl, rfl⟩)
    go_ret
    exact ⟨by rw [HF.out]; first | rfl | (show Ending.returned (.bool (decide (0 ≤ C))) = _; rw [decide_eq_true hC, Bool.and_true]), by rw [HF.out]; exact HS.out.st, HS.out.gr⟩
set_option maxHeartbeats 1000000 in
set_option maxRecDepth 100000 in
theorem impl_changed.g2 (g : Nat) (num den add n : Int) (w : World) (hn : ¬ (0 ≤ n ∧ n ≤ 1000000))
   (hin : ∀ x w, Calls Try.prog 109 #[.int .i64 x] w fun e w' => e = .returned (.bool (decide (0 ≤ x) && decide (x ≤ 1000000))) ∧ w = w') :
    Calls Try.prog 110 #[.pointer (some ⟨g, 0, none⟩), .agg #[.int .i64 num, .int .i64 den, .int .i64 add], .int .i64 n] w fun e w' => e = .returned (.bool false) ∧ Below w.heap.size w w' := by
  have hi1 := hin n
  rw [show (decide (0 ≤ n) && decide (n ≤ 1000000)) = false from by rw [← Bool.decide_and]; exact decide_eq_false hn] at hi1
  have HI1 := Lib.hid hi1
  clear hin hi1 hn
  go_enter Try.func110, Try.ntmps110
  go_wp2_with (go_at_call 109; refine (HI1.out _).mono ?_; rintro e w1 ⟨rfl, rfl⟩)
  go_ret
  exact ⟨rfl, below_alloc (Below.refl _ _) _⟩
/-- The state's block, and that all else of w0 lies as it did. -/
structure impl_changed.HX_ (w0 : World) (g : Nat) (L C M K : Int) (W : World) : Prop where
  st : W.heap[g]? = some (.cells #[.int .i64 L, .int .i64 C, .int .i64 M, .int .i64 K] 117 (0, 0))
  gr : w0.grownBy W (some g)
section
variable {w0 W : World} {g : Nat} {L C M K : Int}
theorem impl_changed.HX_.drewN (h : impl_changed.HX_ w0 g L C M K W) (n : Nat) : impl_changed.HX_ w0 g L C M K (W.drewN n) := ⟨h.st, ⟨h.gr.os, h.gr.tape, h.gr.output, h.gr.size, h.gr.block⟩⟩
theorem impl_changed.HX_.drew (h : impl_changed.HX_ w0 g L C M K W) : impl_changed.HX_ w0 g L C M K W.drew := ⟨h.st, ⟨h.gr.os, h.gr.tape, h.gr.output, h.gr.size, h.gr.block⟩⟩
theorem impl_changed.HX_.gset (h : impl_changed.HX_ w0 g L C M K W) (i : Nat) (u : Value) : w0.grownBy (W.setCell ⟨g, i, none⟩ u) (some g) :=
  ⟨h.gr.os, h.gr.tape, h.gr.output, by rw [World.size_setCell]; exact h.gr.size, fun k hk hn => (Below.heap_setCell W ⟨g, i, none⟩ u k (fun e => hn (by rw [e]))).trans (h.gr.block k hk hn)⟩
theorem impl_changed.HX_.set0 (h : impl_changed.HX_ w0 g L C M K W) (x : Int) : impl_changed.HX_ w0 g x C M K (W.setCell ⟨g, 0, none⟩ (.int .i64 x)) := ⟨blk_put h.st 0 _ rfl, h.gset _ _⟩
theorem impl_changed.HX_.set1 (h : impl_changed.HX_ w0 g L C M K W) (x : Int) : impl_changed.HX_ w0 g L x M K (W.setCell ⟨g, 1, none⟩ (.int .i64 x)) := ⟨blk_put h.st 1 _ rfl, h.gset _ _⟩
theorem impl_changed.HX_.set3 (h : impl_changed.HX_ w0 g L C M K W) (x : Int) : impl_changed.HX_ w0 g L C M x (W.setCell ⟨g, 3, none⟩ (.int .i64 x)) := ⟨blk_put h.st 3 _ rfl, h.gset _ _⟩
theorem impl_changed.HX_.cells (h : impl_changed.HX_ w0 g L C M K W) : W.cell? ⟨g, 0, none⟩ = some (.int .i64 L) ∧ W.cell? ⟨g, 1, none⟩ = some (.int .i64 C) ∧ W.cell? ⟨g, 2, none⟩ = some (.int .i64 M) ∧ W.cell? ⟨g, 3, none⟩ = some (.int .i64 K) :=
  ⟨(blk_cell h.st 0).trans rfl, (blk_cell h.st 1).trans rfl, (blk_cell h.st 2).trans rfl, (blk_cell h.st 3).trans rfl⟩
theorem impl_changed.HX_.free (h : impl_changed.HX_ w0 g L C M K W) (i : Nat) : W.frozen? ⟨g, i, none⟩ = false := blk_frozen h.st i
end
/-- What shrink comes to. -/
def impl_changed.shrinkF (by_ L C M K n : Int) : Bool × Int × Int × Int × Int :=
  if n > L then (false, L, C, M, K)
  else if by_ * (L - n) ≤ C ∧ 2 ≤ C then (true, L - n, (if C / 2 < L - n then L - n else C / 2), M, K + (L - n))
  else (true, L - n, C, M, K)
set_option maxHeartbeats 1000000 in
set_option maxRecDepth 100000 in
theorem impl_changed.s1 (g : Nat) (b L C M K n : Int) (w : World) (hb : w.heap[g]? = some (.cells #[.int .i64 L, .int .i64 C, .int .i64 M, .int .i64 K] 117 (0, 0)))
   (hn0 : 0 ≤ n) (hn1 : n ≤ 1000000) (hL0 : 0 ≤ L) (hL1 : L ≤ C) (hC : C ≤ 1000000) (hK0 : 0 ≤ K) (hK1 : K ≤ 1000000000000) (hb0 : 2 ≤ b) (hb1 : b ≤ 8) :
    Calls Try.prog 118 #[.pointer (some ⟨g, 0, none⟩), .int .i64 b, .int .i64 n] w fun e w' => e = .returned (.bool (impl_changed.shrinkF b L C M K n).1) ∧ w'.heap[g]? = some (.cells #[.int .i64 (impl_changed.shrinkF b L C M K n).2.1, .int .i64 (impl_changed.shrinkF b L C M K n).2.2.1, .int .i64 (impl_changed.shrinkF b L C M K n).2.2.2.1, .int .i64 (impl_changed.shrinkF b L C M K n).2.2.2.2] 117 (0, 0)) ∧ w.grownBy w' (some g) := by
  have HS0 : Hid (impl_changed.HX_ w g L C M K w) := ⟨hb, ⟨rfl, rfl, rfl, Nat.le_refl _, fun _ _ _ => rfl⟩⟩
  clear hb
  by_cases hgt : n > L
  · have HF : Hid (impl_changed.shrinkF b L C M K n = (false, L, C, M, K)) := if_pos hgt
    have hg : decide (n > L) = true := decide_eq_true hgt
    have c0 := HS0.out.cells.1
    go_enter Try.func118, Try.ntmps118
    go_wp2
    go_ret
    exact ⟨by rw [HF.out]; rfl, by rw [HF.out]; exact HS0.out.st, HS0.out.gr⟩
  · have hg : decide (n > L) = false := decide_eq_false hgt
    have c0 := HS0.out.cells.1
    have f0 := HS0.out.free 0
    obtain ⟨W0, rfl⟩ : ∃ W0, W0 = w := ⟨_, rfl⟩
    go_enter Try.func118, Try.ntmps118
    go_upto_region 4 with (fail)
    replace HS0 := Lib.hid (HS0.out.set0 (L - n))
    generalize W0.setCell ⟨g, 0, none⟩ (.int .i64 (L - n)) = W1 at HS0 ⊢
    clear c0 f0
    have c0 := HS0.out.cells.1
    have c1 := HS0.out.cells.2.1
    have hp0 : 0 ≤ b * (L - n) := Int.mul_nonneg (by omega) (by omega)
    have hp1 : b * (L - n) ≤ 8000000 := by
      have h1 : b * (L - n) ≤ 8 * (L - n) := Int.mul_le_mul_of_nonneg_right hb1 (by omega)
      omega
    have e1 : IntKind.i64.wrap (b * (L - n)) = b * (L - n) := by rw [IntKind.wrap_i64]; omega
    by_cases hc : b * (L - n) ≤ C ∧ 2 ≤ C
    · have HF : Hid (impl_changed.shrinkF b L C M K n = (true, L - n, (if C / 2 < L - n then L - n else C / 2), M, K + (L - n))) := by
        unfold impl_changed.shrinkF
        rw [if_neg hgt, if_pos hc]
        exact rfl
      have h1 : decide (C ≥ b * (L - n)) = true := decide_eq_true hc.1
      have h2 : decide (C ≥ 2) = true := decide_eq_true hc.2
      go_quiet (fail)
      replace HS0 := Lib.hid (HS0.out.drewN nq)
      generalize W1.drewN nq = W2 at HS0 ⊢
      clear c0 c1 nq
      go_upto_region 5 with (fail)
      have c0 := HS0.out.cells.1
      have c3 := HS0.out.cells.2.2.2
      have f3 := HS0.out.free 3
      have e2 : IntKind.i64.wrap (K + (L - n)) = K + (L - n) := by rw [IntKind.wrap_i64]; omega
      go_still_tail 11, (by kernel_rfl)
      change wpList _ _ _ _ _ W2.drew
      go_upto_region 6 with (fail)
      replace HS0 := Lib.hid (HS0.out.set3 (K + (L - n))).drew
      generalize (W2.setCell ⟨g, 3, none⟩ (.int .i64 (K + (L - n)))).drew = W3 at HS0 ⊢
      clear c0 c3 f3
      have c0 := HS0.out.cells.1
      have c1 := HS0.out.cells.2.1
      have f1 := HS0.out.free 1
      have e3 : IntKind.i64.wrap (C.tdiv 2) = C / 2 := IntWalk.i64_quo _ _ ⟨by omega, by omega, by omega⟩
      obtain ⟨m, HM⟩ : ∃ m, Hid (m = if C / 2 < L - n then L - n else C / 2) := ⟨_, rfl⟩
      have hmx : ∀ w, (Builtin.max_ #[3, 3] 3 #[.int .i64 (C / 2), .int .i64 (L - n)]).run Try.prog w = .ok (.int .i64 m) w := by
        intro w
        rw [HM.out, max_two]
        simp only [max2_int, Sem.run_bind, Sem.run_pure, Result.andThen]
      rw [← HM.out] at HF
      go_still_tail 13, (by kernel_rfl)
      change wpList _ _ _ _ _ W3.drew
      go_upto_region 7 with (fail)
      replace HS0 := Lib.hid (HS0.out.set1 m).drew
      generalize (W3.setCell ⟨g, 1, none⟩ (.int .i64 m)).drew = W4 at HS0 ⊢
      clear c0 c1 f1 hmx
      go_wp2
      go_ret
      exact ⟨by rw [HF.out]; rfl, by rw [HF.out]; exact HS0.out.st, HS0.out.gr⟩
    · have HF : Hid (impl_changed.shrinkF b L C M K n = (true, L - n, C, M, K)) := by
        unfold impl_changed.shrinkF
        rw [if_neg hgt, if_neg hc]
        exact rfl
      by_cases h1 : b * (L - n) ≤ C
      · have h2 : decide (C ≥ 2) = false := decide_eq_false (fun h => hc ⟨h1, h⟩)
        have h3 : decide (C ≥ b * (L - n)) = true := decide_eq_true h1
        clear hc
        go_quiet (fail)
        go_wp2
        go_ret
        exact ⟨by rw [HF.out]; rfl, by rw [HF.out]; exact (HS0.out.drewN _).st, (HS0.out.drewN _).gr⟩
      · have h3 : decide (C ≥ b * (L - n)) = false := decide_eq_false h1
        clear hc
        go_quiet (fail)
        go_wp2
        go_ret
        exact ⟨by rw [HF.out]; rfl, by rw [HF.out]; exact (HS0.out.drewN _).st, (HS0.out.drewN _).gr⟩
set_option maxHeartbeats 1000000 in
set_option maxRecDepth 100000 in
theorem impl_changed.wi (n lo hi : Int) (w : World) : Calls Try.prog 108 #[.int .i64 n, .int .i64 lo, .int .i64 hi] w fun e w' => e = .returned (.bool (decide (lo ≤ n) && decide (n ≤ hi))) ∧ w = w' := by
  go_enter Try.func108, Try.ntmps108
  by_cases h1 : lo ≤ n <;> by_cases h2 : n ≤ hi
  all_goals
    go_wp2
    go_ret
    first | exact ⟨rfl, rfl⟩ | exact ⟨by simp [h1, h2], rfl⟩
set_option maxHeartbeats 1000000 in
set_option maxRecDepth 100000 in
theorem impl_changed.ig (n : Int) (w : World) : Calls Try.prog 109 #[.int .i64 n] w fun e w' => e = .returned (.bool (decide (0 ≤ n) && decide (n ≤ 1000000))) ∧ w = w' := by
  have HW := Lib.hid (impl_changed.wi n 0 1000000)
  go_enter Try.func109, Try.ntmps109
  go_wp2_with (go_at_call 108; refine (HW.out _).mono ?_; rintro e w1 ⟨rfl, rfl⟩)
  go_ret
  exact ⟨rfl, rfl⟩
/-- Is a rule valid? -/
def impl_changed.ruleB (num den add : Int) : Bool := (decide (1 ≤ num) && decide (num ≤ 8)) && ((decide (1 ≤ den) && decide (den ≤ num)) && (decide (0 ≤ add) && decide (add ≤ 64)))
set_option maxHeartbeats 1000000 in
set_option maxRecDepth 100000 in
theorem impl_changed.gr (num den add : Int) (w : World) : Calls Try.prog 68 #[.agg #[.int .i64 num, .int .i64 den, .int .i64 add]] w fun e w' => e = .returned (.bool (impl_changed.ruleB num den add)) ∧ Below w.heap.size w w' := by
  have h1 := impl_changed.wi num 1 8
  have h2 := impl_changed.wi den 1 num
  have h3 := impl_changed.wi add 0 64
  obtain ⟨x, HX⟩ : ∃ x, Hid (x = (decide (1 ≤ num) && decide (num ≤ 8))) := ⟨_, rfl⟩
  obtain ⟨y, HY⟩ : ∃ x, Hid (x = (decide (1 ≤ den) && decide (den ≤ num))) := ⟨_, rfl⟩
  obtain ⟨z, HZ⟩ : ∃ x, Hid (x = (decide (0 ≤ add) && decide (add ≤ 64))) := ⟨_, rfl⟩
  have HF : Hid (impl_changed.ruleB num den add = (x && (y && z))) := by rw [HX.out, HY.out, HZ.out]; rfl
  rw [← HX.out] at h1
  rw [← HY.out] at h2
  rw [← HZ.out] at h3
  have H1 := Lib.hid h1
  have H2 := Lib.hid h2
  have H3 := Lib.hid h3
  clear h1 h2 h3 HX HY HZ
  cases x <;> cases y
  all_goals
    go_enter Try.func68, Try.ntmps68
    go_wp2_with (first | (go_at_call 108; (with_reducible refine (H1.out _).mono ?_); rintro e w1 ⟨rfl, rfl⟩) | (go_at_call 108; (with_reducible refine (H2.out _).mono ?_); rintro e w1 ⟨rfl, rfl⟩) | (go_at_call 108; (with_reducible refine (H3.out _).mono ?_); rintro e w1 ⟨rfl, rfl⟩))
    go_ret
    exact ⟨by rw [HF.out]; rfl, below_alloc (Below.refl _ _) _⟩
/-- What the changes come to: the caps, the cost, and whether all were possible. -/
def impl_changed.runF (num den add b : Int) : List Int → Int → Int → Int → Int → List Int → List Int × Int × Bool
  | [], _, _, _, K, out => (out, K, true)
  | n :: r, L, C, M, K, out =>
    if -1000000 ≤ n then
      if n < 0 then (if (impl_changed.shrinkF b L C M K (-n)).1 = true then impl_changed.runF num den add b r (impl_changed.shrinkF b L C M K (-n)).2.1 (impl_changed.shrinkF b L C M K (-n)).2.2.1 (impl_changed.shrinkF b L C M K (-n)).2.2.2.1 (impl_changed.shrinkF b L C M K (-n)).2.2.2.2 (out ++ [(impl_changed.shrinkF b L C M K (-n)).2.2.1]) else ([], 0, false))
      else if n ≤ 1000000 then (if (impl_changed.growF num den add L C M K n).1 = true then impl_changed.runF num den add b r (impl_changed.growF num den add L C M K n).2.1 (impl_changed.growF num den add L C M K n).2.2.1 (impl_changed.growF num den add L C M K n).2.2.2.1 (impl_changed.growF num den add L C M K n).2.2.2.2 (out ++ [(impl_changed.growF num den add L C M K n).2.2.1]) else ([], 0, false))
      else ([], 0, false)
    else ([], 0, false)
def impl_changed.chF (num den add b : Int) (l : List Int) : List Int × Int × Bool :=
  if impl_changed.ruleB num den add = true then (if 2 ≤ b ∧ b ≤ 8 then (if l.length ≤ 40 then impl_changed.runF num den add b l 0 0 0 0 [] else ([], 0, false)) else ([], 0, false)) else ([], 0, false)
theorem impl_changed.rule_of {num den add : Int} (h : impl_changed.ruleB num den add = true) : 1 ≤ num ∧ num ≤ 8 ∧ 1 ≤ den ∧ den ≤ num ∧ 0 ≤ add ∧ add ≤ 64 := by
  simp only [impl_changed.ruleB, Bool.and_eq_true, decide_eq_true_eq] at h
  omega
theorem impl_changed.shrink_in {b L C M K n x : Int} (h : (impl_changed.shrinkF b L C M K n).1 = true) (hn : 0 ≤ n) (h1 : 0 ≤ L) (h2 : L ≤ C) (h3 : C ≤ 1000000) (h4 : 0 ≤ K) (h5 : K ≤ 3000000 * x) (h6 : 0 ≤ M) (h7 : M ≤ x) :
    0 ≤ (impl_changed.shrinkF b L C M K n).2.1 ∧ (impl_changed.shrinkF b L C M K n).2.1 ≤ (impl_changed.shrinkF b L C M K n).2.2.1 ∧ (impl_changed.shrinkF b L C M K n).2.2.1 ≤ 1000000 ∧ 0 ≤ (impl_changed.shrinkF b L C M K n).2.2.2.2 ∧ (impl_changed.shrinkF b L C M K n).2.2.2.2 ≤ 3000000 * (x + 1) ∧ 0 ≤ (impl_changed.shrinkF b L C M K n).2.2.2.1 ∧ (impl_changed.shrinkF b L C M K n).2.2.2.1 ≤ x + 1 := by
  unfold impl_changed.shrinkF at h ⊢
  by_cases h0 : n > L
  · rw [if_pos h0] at h; cases h
  · rw [if_neg h0]
    by_cases h8 : b * (L - n) ≤ C ∧ 2 ≤ C
    · rw [if_pos h8]
      dsimp only
      split <;> omega
    · rw [if_neg h8]
      dsimp only
      omega
theorem impl_changed.grow_in {num den add L C M K n x : Int} (h : (impl_changed.growF num den add L C M K n).1 = true) (hn : 0 ≤ n) (hn1 : n ≤ 1000000) (h1 : 0 ≤ L) (h2 : L ≤ C) (h3 : C ≤ 1000000) (h4 : 0 ≤ K) (h5 : K ≤ 3000000 * x) (h6 : 0 ≤ M) (h7 : M ≤ x) :
    0 ≤ (impl_changed.growF num den add L C M K n).2.1 ∧ (impl_changed.growF num den add L C M K n).2.1 ≤ (impl_changed.growF num den add L C M K n).2.2.1 ∧ (impl_changed.growF num den add L C M K n).2.2.1 ≤ 1000000 ∧ 0 ≤ (impl_changed.growF num den add L C M K n).2.2.2.2 ∧ (impl_changed.growF num den add L C M K n).2.2.2.2 ≤ 3000000 * (x + 1) ∧ 0 ≤ (impl_changed.growF num den add L C M K n).2.2.2.1 ∧ (impl_changed.growF num den add L C M K n).2.2.2.1 ≤ x + 1 := by
  unfold impl_changed.growF at h ⊢
  by_cases h0 : L + n > C
  · rw [if_pos h0] at h ⊢
    simp only [Bool.and_eq_true, decide_eq_true_eq] at h
    dsimp only
    have hc : L + n ≤ impl_changed.capF num den add L C n := by unfold impl_changed.capF; split <;> split at * <;> omega
    omega
  · rw [if_neg h0]
    dsimp only
    omega
set_option maxHeartbeats 8000000 in
set_option maxRecDepth 100000 in
theorem impl_changed.ch_ (num den add b : Int) (A2 : Option Addr) (c2 : Nat) (l2 : List Int) (r1 : List Int) (r2 : Int) (r3 : Bool) (w : World) (hr2 : Kd.C (Kd.int .i64) w A2 l2.length l2) (hc2 : l2.length ≤ c2) (h : impl_changed.chF num den add b l2 = (r1, r2, r3)) :
    Calls Try.prog 80 #[.agg #[.int .i64 num, .int .i64 den, .int .i64 add], .int .i64 b, .slice A2 l2.length c2] w fun e w' => ∃ v0_ : Value, e = .returned (.tuple #[v0_, .int .i64 r2, .bool r3]) ∧ Kd.R (Kd.int .i64) 3 w' w.heap.size (fun _ => True) v0_ r1 ∧ Below w.heap.size w w' := by
  have HR := Aside0.mk hr2
  have HC := Aside0.mk hc2
  have hlen : l2.length ≤ 9223372036854775807 := hr2.2.1
  have H := Aside0.mk h
  clear hr2 hc2 h
  obtain ⟨W, hW⟩ : ∃ W, W = w.alloc (.cells #[.int .i64 num, .int .i64 den, .int .i64 add] 45) := ⟨_, rfl⟩
  have HBX : Aside0 (W.heap[w.heap.size]? = some (.cells #[.int .i64 num, .int .i64 den, .int .i64 add] 45 (0, 0))) := ⟨by subst hW; exact blk_new _ _⟩
  have HB : Aside0 (Below w.heap.size w W) := ⟨by subst hW; exact below_alloc (Below.refl _ _) _⟩
  have hx0 : W.cell? ⟨w.heap.size, 0, none⟩ = some (.int .i64 num) := (blk_cell HBX.out 0).trans rfl
  have hx1 : W.cell? ⟨w.heap.size, 1, none⟩ = some (.int .i64 den) := (blk_cell HBX.out 1).trans rfl
  have hx2 : W.cell? ⟨w.heap.size, 2, none⟩ = some (.int .i64 add) := (blk_cell HBX.out 2).trans rfl
  have HG := Aside0.mk (impl_changed.gr num den add)
  have HW := Aside0.mk (impl_changed.wi b 2 8)
  by_cases hru : impl_changed.ruleB num den add = true
  · have HG := Aside0.mk (impl_changed.gr num den add)
    rw [hru] at HG
    by_cases hby : 2 ≤ b ∧ b ≤ 8
    · have HW := Aside0.mk (impl_changed.wi b 2 8)
      rw [decide_eq_true hby.1, decide_eq_true hby.2] at HW
      by_cases h40 : l2.length ≤ 40
      · have h41 : decide ((l2.length : Int) > 40) = false := decide_eq_false (by omega)
        go_enter Try.func80, Try.ntmps80
        go_upto_region 1 with (fail)
        rw [← hW]
        clear hW
        go_upto_region 4 with (first | (go_at_call 68; (with_reducible refine (HG.out _).mono ?_); rintro e w1 ⟨rfl, hb⟩; replace HB := Aside0.mk (below_step HB.out hb); replace HBX := Aside0.mk (blk_below HBX.out hb); clear hb) | (go_at_call 108; (with_reducible refine (HW.out _).mono ?_); rintro e w1 ⟨rfl, rfl⟩) | ((with_reducible refine gate_dst (N := 28) rfl ?_); refine Kd.R_lit (Kd.int .i64) _ 3 ?hg (N := 28) ?hd (xs := ([] : List Int)) (inner := []) (ok := fun _ => True) (okp := fun _ => True) ?hr ?hp (fun _ hk => hk) trivial (Below.refl _ _) (Nat.le_refl _) (by simp) ?_; (case hd => rfl); (case hg => rfl); (case hr => first | (go_simp; done) | (go_simp; rfl)); (case hp => exact (Reps.none _ _)); intro v10 w10 ho6 hb hg_ hnew_))
        have HGE : Aside0 (w.heap.size < w10.heap.size) := ⟨Nat.lt_of_lt_of_le (blk_lt HBX.out) hb.size⟩
        have HO := Aside0.mk (Kd.R_alloc (Kd.R_lower ho6 (below_size HB.out)) (.cells #[.int .i64 0, .int .i64 0, .int .i64 0, .int .i64 0] 117))
        have HBS := Aside0.mk (blk_new w10 (.cells #[.int .i64 0, .int .i64 0, .int .i64 0, .int .i64 0] 117))
        replace HBX := Aside0.mk (blk_alloc (blk_below HBX.out hb) (.cells #[.int .i64 0, .int .i64 0, .int .i64 0, .int .i64 0] 117))
        replace HB := Aside0.mk (below_alloc (below_step HB.out hb) (.cells #[.int .i64 0, .int .i64 0, .int .i64 0, .int .i64 0] 117))
        clear ho6 hb hg_ hnew_ hx0 hx1 hx2
        generalize w10.heap.size = g at HBS HGE ⊢
        generalize w10.alloc (.cells #[.int .i64 0, .int .i64 0, .int .i64 0, .int .i64 0] 117) = W2 at HO HBS HBX HB ⊢
        have HRUN : Aside0 (impl_changed.runF num den add b l2 0 0 0 0 [] = (r1, r2, r3)) := ⟨by
          have h := H.out
          unfold impl_changed.chF at h
          rw [if_pos hru, if_pos hby, if_pos h40] at h
          exact h⟩
        have HRU := Aside0.mk hru
        have HBY := Aside0.mk hby
        have H40 := Aside0.mk h40
        clear H hru hby h40 h41 HG HW
        go_wp2
        go_loopg [10, 12, 13, 31] l2.length (fun gg s10 _ _ s31 wr => ∃ (x L C M K : Int) (out : List Int), s31 = .int .i64 x ∧ Aside0 (0 ≤ x ∧ x ≤ l2.length ∧ l2.length - x ≤ gg) ∧ Aside0 (0 ≤ L ∧ L ≤ C ∧ C ≤ 1000000 ∧ 0 ≤ K ∧ K ≤ 3000000 * x ∧ 0 ≤ M ∧ M ≤ x ∧ (out.length : Int) = x) ∧ Aside0 (Kd.R (Kd.int .i64) 3 wr w.heap.size (fun _ => True) s10 out) ∧ Aside0 (wr.heap[g]? = some (.cells #[.int .i64 L, .int .i64 C, .int .i64 M, .int .i64 K] 117 (0, 0))) ∧ Aside0 (wr.heap[w.heap.size]? = some (.cells #[.int .i64 num, .int .i64 den, .int .i64 add] 45 (0, 0))) ∧ Aside0 (Below w.heap.size w wr) ∧ Aside0 (impl_changed.runF num den add b (l2.drop x.toNat) L C M K out = (r1, r2, r3)))
        case atStart => exact ⟨0, 0, 0, 0, 0, [], rfl, ⟨by omega⟩, ⟨by simp⟩, HO, HBS, HBX, HB, HRUN⟩
        case round =>
          clear HO HBS HBX HB HRUN
          obtain ⟨x, L, C, M, K, out, rfl, HX, HI, HO, HBS, HBX, HB, HRUN⟩ := hrel
          by_cases hlt : x < (l2.length : Int)
          · have c0 : decide (x < (l2.length : Int)) = true := decide_eq_true hlt
            have p0 : 0 ≤ x := HX.out.1
            obtain ⟨n, hn⟩ : ∃ n, l2[x.toNat]? = some n := ⟨_, List.getElem?_eq_getElem (by omega)⟩
            obtain ⟨ad, cs, hA, _, hK, hcell⟩ := Kd.C_get HR.out 0 x p0 hlt
            subst hA
            have hK2 : cs = [.int .i64 (l2.getD x.toNat 0)] := hK
            have hx0 : w.cell? (ad.add x.toNat) = some (.int .i64 n) := by
              have h := hcell 0 (.int .i64 n) (by rw [hK2, List.getD_eq_getElem?_getD, hn]; rfl)
              have hs : (Kd.int .i64).sz = 1 := rfl
              rw [hs, Nat.mul_one, Nat.add_zero] at h
              exact h
            replace hx0 := (HB.out.cell (World.block_lt_of_cell? w _ hx0)).trans hx0
            have hd : l2.drop x.toNat = n :: l2.drop (x.toNat + 1) := by
              obtain ⟨h1, h2⟩ := List.getElem?_eq_some_iff.1 hn
              rw [List.drop_eq_getElem_cons h1, h2]
            have hr := HRUN.out
            rw [hd, impl_changed.runF] at hr
            clear hK hK2 hcell hn hd HRUN
            replace p0 := eq_true p0
            have hlt2 := eq_true hlt
            by_cases hm : -1000000 ≤ n
            ·rw [if_pos hm] at hr
             have m0 : decide (n ≥ -1000000) = true := decide_eq_true hm
             by_cases hneg : n < 0
             ·rw [if_pos hneg] at hr
              have m1 : decide (n < 0) = true := decide_eq_true hneg
              have HCALL := Aside0.mk (impl_changed.s1 g b L C M K (-n) wr HBS.out (by omega) (by omega) HI.out.1 HI.out.2.1 HI.out.2.2.1 HI.out.2.2.2.1 (by have := HI.out; have := HX.out; have := H40.out; omega) HBY.out.1 HBY.out.2)
              have HI1 : Aside0 ((impl_changed.shrinkF b L C M K (-n)).1 = true → 0 ≤ (impl_changed.shrinkF b L C M K (-n)).2.1 ∧ (impl_changed.shrinkF b L C M K (-n)).2.1 ≤ (impl_changed.shrinkF b L C M K (-n)).2.2.1 ∧ (impl_changed.shrinkF b L C M K (-n)).2.2.1 ≤ 1000000 ∧ 0 ≤ (impl_changed.shrinkF b L C M K (-n)).2.2.2.2 ∧ (impl_changed.shrinkF b L C M K (-n)).2.2.2.2 ≤ 3000000 * (x + 1) ∧ 0 ≤ (impl_changed.shrinkF b L C M K (-n)).2.2.2.1 ∧ (impl_changed.shrinkF b L C M K (-n)).2.2.2.1 ≤ x + 1) := ⟨fun hh => impl_changed.shrink_in hh (by omega) HI.out.1 HI.out.2.1 HI.out.2.2.1 HI.out.2.2.2.1 HI.out.2.2.2.2.1 HI.out.2.2.2.2.2.1 HI.out.2.2.2.2.2.2.1⟩
              generalize impl_changed.shrinkF b L C M K (-n) = F at hr HCALL HI1
              obtain ⟨ok, L1, C1, M1, K1⟩ := F
              cases ok with
              | true =>
               have HI2 := Aside0.mk (HI1.out rfl)
               have HN : Aside0 (impl_changed.runF num den add b (l2.drop (x.toNat + 1)) L1 C1 M1 K1 (out ++ [C1]) = (r1, r2, r3)) := ⟨by rw [if_pos rfl] at hr; exact hr⟩
               clear hr HI1
               go_upto_region 14 with (go_at_call 118; (with_reducible refine HCALL.out.mono ?_); rintro e w2 ⟨rfl, hst, hgr⟩)
               have HO1 := Aside0.mk (Kd.R_mono (Kd.R_grown (Kd.R_types HO.out HBS.out (by decide)) hgr (fun k hk e => hk.2 (Option.some.inj e))) (fun k hk => hk.1))
               have HBX1 := Aside0.mk (blk_grown HBX.out hgr (fun e => by have := HGE.out; have := Option.some.inj e; omega))
               have HB1 := Aside0.mk (pw_below_grown HB.out (some g) HB.out.size hgr (fun k hk => by have := HGE.out; have := Option.some.inj hk; omega))
               have HBS1 := Aside0.mk hst
               clear HO HBX HB HBS hst hgr
               have HO := HO1
               have HBX := HBX1
               have HB := HB1
               have HBS := HBS1
               clear HO1 HBX1 HB1 HBS1
               have c1 : w2.cell? ⟨g, 1, none⟩ = some (.int .i64 C1) := (blk_cell HBS.out 1).trans rfl
               go_wp2_with (((with_reducible refine gate_dst (N := 56) rfl ?_); go_loud (refine Kd.R_append (Kd.int .i64) (w0 := w) w.heap.size rfl (.tmp 52) (.tmp 55) 42 3 (.int .i64 0) 8 rfl Try.underlying42 info3 rfl (by decide) (by decide) u10 out C1 [.int .i64 C1] (fun _ => True) (fun _ => False) (by rfl) (by rfl) (by exact rfl) (fun _ hk => hk.elim) (fun _ _ => trivial) HO.out HB.out HB.out.size (by have := HI.out; have := HX.out; have := H40.out; omega) ?_; intro v1 w3 hv hb hg hat; have HO2 := Aside0.mk hv; have HB2 := Aside0.mk hb; have HBS2 := Aside0.mk (blk_grown HBS.out hg (Kd.R_ne HO.out HBS.out (by decide))); have HBX2 := Aside0.mk (blk_grown HBX.out hg (Kd.R_ne HO.out HBX.out (by decide))); clear hv hb hg hat)))
               have hw : wrap64 (x + 1) = x + 1 := by have := HX.out; unfold wrap64; omega
               go_roundg (l2.length - (x.toNat + 1))
               case measure => have := HX.out; omega
               case rel => exact ⟨x + 1, L1, C1, M1, K1, out ++ [C1], by first | rfl | (simp; done) | (rw [hw]; done) | (simp [hw]; done), ⟨by have := HX.out; omega⟩, ⟨by rw [List.length_append]; have := HI2.out; have := HI.out; have := HX.out; simp; omega⟩, HO2, HBS2, HBX2, HB2, ⟨by rw [show (x + 1).toNat = x.toNat + 1 from by have := HX.out; omega]; exact HN.out⟩⟩
              | false =>
               have HN : Aside0 (([], 0, false) = (r1, r2, r3)) := ⟨by rw [if_neg (show ¬ (false = true) from Bool.false_ne_true)] at hr; exact hr⟩
               obtain ⟨rfl, rfl, rfl⟩ : [] = r1 ∧ 0 = r2 ∧ false = r3 := by simpa using HN.out
               clear hr HI1
               go_upto_region 13 with (go_at_call 118; (with_reducible refine HCALL.out.mono ?_); rintro e w2 ⟨rfl, hst, hgr⟩)
               have HO1 := Aside0.mk (Kd.R_mono (Kd.R_grown (Kd.R_types HO.out HBS.out (by decide)) hgr (fun k hk e => hk.2 (Option.some.inj e))) (fun k hk => hk.1))
               have HBX1 := Aside0.mk (blk_grown HBX.out hgr (fun e => by have := HGE.out; have := Option.some.inj e; omega))
               have HB1 := Aside0.mk (pw_below_grown HB.out (some g) HB.out.size hgr (fun k hk => by have := HGE.out; have := Option.some.inj hk; omega))
               have HBS1 := Aside0.mk hst
               clear HO HBX HB HBS hst hgr
               have HO := HO1
               have HBX := HBX1
               have HB := HB1
               have HBS := HBS1
               clear HO1 HBX1 HB1 HBS1
               go_wp2
               go_ret3
               exact ⟨_, rfl, Kd.R_nil _ _ _ _ _, HB.out⟩
             ·rw [if_neg hneg] at hr
              have m1 : decide (n < 0) = false := decide_eq_false hneg
              have HBXC := HBX.out
              have hb0 : wr.cell? ⟨w.heap.size, 0, none⟩ = some (.int .i64 num) := (blk_cell HBXC 0).trans rfl
              have hb1 : wr.cell? ⟨w.heap.size, 1, none⟩ = some (.int .i64 den) := (blk_cell HBXC 1).trans rfl
              have hb2 : wr.cell? ⟨w.heap.size, 2, none⟩ = some (.int .i64 add) := (blk_cell HBXC 2).trans rfl
              clear HBXC
              by_cases hbig : n ≤ 1000000
              ·rw [if_pos hbig] at hr
               have HCALL := Aside0.mk (impl_changed.g1 g num den add L C M K n wr HBS.out (by omega) hbig HI.out.1 HI.out.2.1 HI.out.2.2.1 HI.out.2.2.2.1 (by have := HI.out; have := HX.out; have := H40.out; omega) HI.out.2.2.2.2.2.1 (by have := HI.out; have := HX.out; have := H40.out; omega) (impl_changed.rule_of HRU.out).1 (impl_changed.rule_of HRU.out).2.1 (impl_changed.rule_of HRU.out).2.2.1 (impl_changed.rule_of HRU.out).2.2.2.1 (impl_changed.rule_of HRU.out).2.2.2.2.1 (impl_changed.rule_of HRU.out).2.2.2.2.2 (fun x w => impl_changed.ig x w))
               have HI1 : Aside0 ((impl_changed.growF num den add L C M K n).1 = true → 0 ≤ (impl_changed.growF num den add L C M K n).2.1 ∧ (impl_changed.growF num den add L C M K n).2.1 ≤ (impl_changed.growF num den add L C M K n).2.2.1 ∧ (impl_changed.growF num den add L C M K n).2.2.1 ≤ 1000000 ∧ 0 ≤ (impl_changed.growF num den add L C M K n).2.2.2.2 ∧ (impl_changed.growF num den add L C M K n).2.2.2.2 ≤ 3000000 * (x + 1) ∧ 0 ≤ (impl_changed.growF num den add L C M K n).2.2.2.1 ∧ (impl_changed.growF num den add L C M K n).2.2.2.1 ≤ x + 1) := ⟨fun hh => impl_changed.grow_in hh (by omega) hbig HI.out.1 HI.out.2.1 HI.out.2.2.1 HI.out.2.2.2.1 HI.out.2.2.2.2.1 HI.out.2.2.2.2.2.1 HI.out.2.2.2.2.2.2.1⟩
               generalize impl_changed.growF num den add L C M K n = F at hr HCALL HI1
               obtain ⟨ok, L1, C1, M1, K1⟩ := F
               cases ok with
               | true =>
                have HI2 := Aside0.mk (HI1.out rfl)
                have HN : Aside0 (impl_changed.runF num den add b (l2.drop (x.toNat + 1)) L1 C1 M1 K1 (out ++ [C1]) = (r1, r2, r3)) := ⟨by rw [if_pos rfl] at hr; exact hr⟩
                clear hr HI1
                go_upto_region 14 with (go_at_call 110; (with_reducible refine HCALL.out.mono ?_); rintro e w2 ⟨rfl, hst, hgr⟩)
                have HO1 := Aside0.mk (Kd.R_mono (Kd.R_grown (Kd.R_types HO.out HBS.out (by decide)) hgr (fun k hk e => hk.2 (Option.some.inj e))) (fun k hk => hk.1))
                have HBX1 := Aside0.mk (blk_grown HBX.out hgr (fun e => by have := HGE.out; have := Option.some.inj e; omega))
                have HB1 := Aside0.mk (pw_below_grown HB.out (some g) HB.out.size hgr (fun k hk => by have := HGE.out; have := Option.some.inj hk; omega))
                have HBS1 := Aside0.mk hst
                clear HO HBX HB HBS hst hgr
                have HO := HO1
                have HBX := HBX1
                have HB := HB1
                have HBS := HBS1
                clear HO1 HBX1 HB1 HBS1
                have c1 : w2.cell? ⟨g, 1, none⟩ = some (.int .i64 C1) := (blk_cell HBS.out 1).trans rfl
                go_wp2_with (((with_reducible refine gate_dst (N := 56) rfl ?_); go_loud (refine Kd.R_append (Kd.int .i64) (w0 := w) w.heap.size rfl (.tmp 52) (.tmp 55) 42 3 (.int .i64 0) 8 rfl Try.underlying42 info3 rfl (by decide) (by decide) u10 out C1 [.int .i64 C1] (fun _ => True) (fun _ => False) (by rfl) (by rfl) (by exact rfl) (fun _ hk => hk.elim) (fun _ _ => trivial) HO.out HB.out HB.out.size (by have := HI.out; have := HX.out; have := H40.out; omega) ?_; intro v1 w3 hv hb hg hat; have HO2 := Aside0.mk hv; have HB2 := Aside0.mk hb; have HBS2 := Aside0.mk (blk_grown HBS.out hg (Kd.R_ne HO.out HBS.out (by decide))); have HBX2 := Aside0.mk (blk_grown HBX.out hg (Kd.R_ne HO.out HBX.out (by decide))); clear hv hb hg hat)))
                have hw : wrap64 (x + 1) = x + 1 := by have := HX.out; unfold wrap64; omega
                go_roundg (l2.length - (x.toNat + 1))
                case measure => have := HX.out; omega
                case rel => exact ⟨x + 1, L1, C1, M1, K1, out ++ [C1], by first | rfl | (simp; done) | (rw [hw]; done) | (simp [hw]; done), ⟨by have := HX.out; omega⟩, ⟨by rw [List.length_append]; have := HI2.out; have := HI.out; have := HX.out; simp; omega⟩, HO2, HBS2, HBX2, HB2, ⟨by rw [show (x + 1).toNat = x.toNat + 1 from by have := HX.out; omega]; exact HN.out⟩⟩
               | false =>
                have HN : Aside0 (([], 0, false) = (r1, r2, r3)) := ⟨by rw [if_neg (show ¬ (false = true) from Bool.false_ne_true)] at hr; exact hr⟩
                obtain ⟨rfl, rfl, rfl⟩ : [] = r1 ∧ 0 = r2 ∧ false = r3 := by simpa using HN.out
                clear hr HI1
                go_upto_region 13 with (go_at_call 110; (with_reducible refine HCALL.out.mono ?_); rintro e w2 ⟨rfl, hst, hgr⟩)
                have HO1 := Aside0.mk (Kd.R_mono (Kd.R_grown (Kd.R_types HO.out HBS.out (by decide)) hgr (fun k hk e => hk.2 (Option.some.inj e))) (fun k hk => hk.1))
                have HBX1 := Aside0.mk (blk_grown HBX.out hgr (fun e => by have := HGE.out; have := Option.some.inj e; omega))
                have HB1 := Aside0.mk (pw_below_grown HB.out (some g) HB.out.size hgr (fun k hk => by have := HGE.out; have := Option.some.inj hk; omega))
                have HBS1 := Aside0.mk hst
                clear HO HBX HB HBS hst hgr
                have HO := HO1
                have HBX := HBX1
                have HB := HB1
                have HBS := HBS1
                clear HO1 HBX1 HB1 HBS1
                go_wp2
                go_ret3
                exact ⟨_, rfl, Kd.R_nil _ _ _ _ _, HB.out⟩
              ·rw [if_neg hbig] at hr
               have HCALL := Aside0.mk (impl_changed.g2 g num den add n wr (fun h => hbig h.2) (fun x w => impl_changed.ig x w))
               obtain ⟨rfl, rfl, rfl⟩ : [] = r1 ∧ 0 = r2 ∧ false = r3 := by simpa using hr
               clear hr
               go_upto_region 13 with (go_at_call 110; (with_reducible refine HCALL.out.mono ?_); rintro e w2 ⟨rfl, hb⟩; replace HB := Aside0.mk (below_step HB.out hb); clear hb)
               go_wp2
               go_ret3
               exact ⟨_, rfl, Kd.R_nil _ _ _ _ _, HB.out⟩
            ·rw [if_neg hm] at hr
             have m0 : decide (n ≥ -1000000) = false := decide_eq_false hm
             obtain ⟨rfl, rfl, rfl⟩ : [] = r1 ∧ 0 = r2 ∧ false = r3 := by simpa using hr
             clear hr
             go_wp2
             go_ret3
             exact ⟨_, rfl, Kd.R_nil _ _ _ _ _, HB.out⟩
          ·have c0 : decide (x < (l2.length : Int)) = false := decide_eq_false hlt
           have hd : l2.drop x.toNat = [] := List.drop_eq_nil_of_le (by have := HX.out; omega)
           have hr := HRUN.out
           rw [hd, impl_changed.runF] at hr
           obtain ⟨rfl, rfl, rfl⟩ : out = r1 ∧ K = r2 ∧ true = r3 := by simpa using hr
           clear hr hd HRUN
           have c3 : wr.cell? ⟨g, 3, none⟩ = some (.int .i64 K) := (blk_cell HBS.out 3).trans rfl
           go_wp2
           go_quiet (fail)
           go_wp2
           go_ret3
           exact ⟨_, rfl, Kd.R_drewN HO.out _, pw_below_drewN HB.out _⟩
      · have hch : ([], 0, false) = (r1, r2, r3) := by
          rw [← H.out]
          unfold impl_changed.chF
          simp only [if_pos hru, if_pos hby, if_neg h40]
          try rfl
        obtain ⟨rfl, rfl, rfl⟩ : [] = r1 ∧ 0 = r2 ∧ false = r3 := by simpa using hch
        clear H hch
        have h41 : decide ((l2.length : Int) > 40) = true := decide_eq_true (by omega)
        go_enter Try.func80, Try.ntmps80
        go_upto_region 1 with (fail)
        rw [← hW]
        clear hW
        go_wp2_with (first | (go_at_call 68; (with_reducible refine (HG.out _).mono ?_); rintro e w1 ⟨rfl, hb⟩; replace HB := Aside0.mk (below_step HB.out hb); clear hb) | (go_at_call 108; (with_reducible refine (HW.out _).mono ?_); rintro e w1 ⟨rfl, rfl⟩))
        go_ret3
        exact ⟨_, rfl, Kd.R_nil _ _ _ _ _, HB.out⟩
    · have hch : ([], 0, false) = (r1, r2, r3) := by
        rw [← H.out]
        unfold impl_changed.chF
        simp only [if_pos hru, if_neg hby]
        try rfl
      obtain ⟨rfl, rfl, rfl⟩ : [] = r1 ∧ 0 = r2 ∧ false = r3 := by simpa using hch
      clear H hch
      have HW := Aside0.mk (impl_changed.wi b 2 8)
      have hbf : (decide (2 ≤ b) && decide (b ≤ 8)) = false := by rw [← Bool.decide_and]; exact decide_eq_false hby
      rw [hbf] at HW
      go_enter Try.func80, Try.ntmps80
      go_upto_region 1 with (fail)
      rw [← hW]
      clear hW
      go_wp2_with (first | (go_at_call 68; (with_reducible refine (HG.out _).mono ?_); rintro e w1 ⟨rfl, hb⟩; replace HB := Aside0.mk (below_step HB.out hb); clear hb) | (go_at_call 108; (with_reducible refine (HW.out _).mono ?_); rintro e w1 ⟨rfl, rfl⟩))
      go_ret3
      exact ⟨_, rfl, Kd.R_nil _ _ _ _ _, HB.out⟩
  · have hch : ([], 0, false) = (r1, r2, r3) := by
      rw [← H.out]
      unfold impl_changed.chF
      simp only [if_neg hru]
      try rfl
    obtain ⟨rfl, rfl, rfl⟩ : [] = r1 ∧ 0 = r2 ∧ false = r3 := by simpa using hch
    clear H hch
    have HG := Aside0.mk (impl_changed.gr num den add)
    rw [Bool.eq_false_iff.2 hru] at HG
    go_enter Try.func80, Try.ntmps80
    go_upto_region 1 with (fail)
    rw [← hW]
    clear hW
    go_wp2_with (first | (go_at_call 68; (with_reducible refine (HG.out _).mono ?_); rintro e w1 ⟨rfl, hb⟩; replace HB := Aside0.mk (below_step HB.out hb); clear hb) | (go_at_call 108; (with_reducible refine (HW.out _).mono ?_); rintro e w1 ⟨rfl, rfl⟩))
    go_ret3
    exact ⟨_, rfl, Kd.R_nil _ _ _ _ _, HB.out⟩
def impl_changed.f (a0_0 : Int) (a0_1 : Int) (a0_2 : Int) (a1 : Int) (l2 : List Int) : Option (List Int × Int × Bool) := some (impl_changed.chF a0_0 a0_1 a0_2 a1 l2)
theorem impl_changed.calls (a0_0 : Int) (a0_1 : Int) (a0_2 : Int) (a1 : Int) (A2 : Option Addr) (c2 : Nat) (l2 : List Int) (r1 : List Int) (r2 : Int) (r3 : Bool) (w : World) (hr2 : Kd.C (Kd.int .i64) w A2 l2.length l2) (hc2 : l2.length ≤ c2) (h : impl_changed.f a0_0 a0_1 a0_2 a1 l2 = some (r1, r2, r3)) :
    Calls Try.prog 80 #[.agg #[.int .i64 a0_0, .int .i64 a0_1, .int .i64 a0_2], .int .i64 a1, .slice A2 l2.length c2] w fun e w' => ∃ v0_ : Value, e = .returned (.tuple #[v0_, .int .i64 r2, .bool r3]) ∧ Kd.R (Kd.int .i64) 3 w' w.heap.size (fun _ => True) v0_ r1 ∧ Below w.heap.size w w' :=
  impl_changed.ch_ a0_0 a0_1 a0_2 a1 A2 c2 l2 r1 r2 r3 w hr2 hc2 (Option.some.inj h)
end

/-! ### impl_ShrinkCaps: function 30 -/
def impl_ShrinkCaps.f (a0_0 : Int) (a0_1 : Int) (a0_2 : Int) (a1 : Int) (l2 : List Int) : Option (List Int × Bool) := (impl_changed.f a0_0 a0_1 a0_2 a1 l2).bind fun bt197 => (some (bt197.1, bt197.2.2))
set_option maxHeartbeats 8000000 in
set_option maxRecDepth 100000 in
theorem impl_ShrinkCaps.calls (a0_0 : Int) (a0_1 : Int) (a0_2 : Int) (a1 : Int) (A2 : Option Addr) (c2 : Nat) (l2 : List Int) (r1 : List Int) (r2 : Bool) (w : World) (hr2 : Kd.C (Kd.int .i64) w A2 l2.length l2) (hc2 : l2.length ≤ c2) (h : impl_ShrinkCaps.f a0_0 a0_1 a0_2 a1 l2 = some (r1, r2)) :
    Calls Try.prog 30 #[.agg #[.int .i64 a0_0, .int .i64 a0_1, .int .i64 a0_2], .int .i64 a1, .slice A2 l2.length c2] w fun e w' => ∃ v0_ : Value, e = .returned (.tuple #[v0_, .bool r2]) ∧ Kd.R (Kd.int .i64) 3 w' w.heap.size (fun _ => True) v0_ r1 ∧ Below w.heap.size w w' := by
  have hu45 := Try.underlying45
  have HR2 := Aside0.mk hr2
  have HC2 := Aside0.mk hc2
  clear hr2 hc2
  have HB := Aside0.mk (Below.refl w.heap.size w)
  have H : ((impl_changed.f a0_0 a0_1 a0_2 a1 l2).bind fun bt197 => (some (bt197.1, bt197.2.2))) = some (r1, r2) := h
  clear h
  replace H := Option.bind_eq_some_iff.mp H
  obtain ⟨⟨t197, t200, t201⟩, A40, H⟩ := H
  replace H : (some (t197, t201)) = some (r1, r2) := H
  have A4 := Aside0.mk A40
  clear A40
  simp only [Option.some.injEq, Prod.mk.injEq] at H
  obtain ⟨rfl, rfl⟩ := H
  go_enter Try.func30, Try.ntmps30
  go_wp2_with (first | ((with_reducible refine gate_dst (N := 3) rfl ?_); refine box_event ?hg (N := 3) ?hd (cs := #[.int .i64 a0_0, .int .i64 a0_1, .int .i64 a0_2]) (t := 45) ?hr ?_; (case hd => rfl); (case hg => rfl); (case hr => first | (go_simp; done) | (go_simp; rfl)); intro gb196 hg w5 hbox hb; have n0_ := Aside0.mk (below_step (by repeat (first | (with_reducible first | exact HB.out | apply below_alloc | apply pw_below_drewN | apply below_drew1) | exact HB.out)) hb); have n1_ := Aside0.mk (hbox); have n2_ := Aside0.mk ((by rw [hg]; exact (below_size (by repeat (first | (with_reducible first | exact HB.out | apply below_alloc | apply pw_below_drewN | apply below_drew1) | exact HB.out))) : w.heap.size ≤ gb196)); have n3_ := Aside0.mk ((by rw [hg]; exact (below_size (by repeat (first | (with_reducible first | exact HB.out | apply below_alloc | apply pw_below_drewN | apply below_drew1) | exact HB.out))) : w.heap.size ≤ gb196)); clear HB; have HB := n0_; have BK196 := n1_; have GW196 := n2_; have GE196 := n3_; clear n0_ n1_ n2_ n3_; clear hb hbox hg; have hcz6_0 : w5.cell? ⟨gb196, 0, none⟩ = some (.int .i64 a0_0) := (blk_cell BK196.out 0).trans rfl; have hcz6_1 : w5.cell? ⟨gb196, 1, none⟩ = some (.int .i64 a0_1) := (blk_cell BK196.out 1).trans rfl; have hcz6_2 : w5.cell? ⟨gb196, 2, none⟩ = some (.int .i64 a0_2) := (blk_cell BK196.out 2).trans rfl; have hfz6_0 := blk_frozen BK196.out 0; have hfz6_1 := blk_frozen BK196.out 1; have hfz6_2 := blk_frozen BK196.out 2) | ((with_reducible refine gate_callee (f := 80) rfl ?_); refine goesL_ (some 15) rfl rfl Try.func80 (by kernel_rfl) rfl #[.agg #[.int .i64 a0_0, .int .i64 a0_1, .int .i64 a0_2], .int .i64 a1, .slice A2 l2.length c2] rfl (by (try simp only [List.map_toArray, List.map_cons, List.map_nil]); first | done | rfl | (simp only [List.length_drop, List.length_take]; rfl)) ?_; (with_reducible refine (impl_changed.calls a0_0 a0_1 a0_2 a1 _ _ l2 t197 t200 t201 _ ?side1 ?side2 A4.out).mono ?_); (case side1 => repeat (first | exact (Kd.C_below HR2.out HB.out) | (with_reducible refine Kd.C_alloc ?_ _) | (with_reducible refine Kd.C_drewN ?_ _) | (with_reducible refine Kd.C_drew ?_))); (case side2 => exact HC2.out); rintro e w7 ⟨v198, rfl, ho0, hb⟩; refine ⟨_, rfl, ?_⟩; have n0_ := Aside0.mk (Kd.R_lower ho0 (below_size (by repeat (first | (with_reducible first | exact HB.out | apply below_alloc | apply pw_below_drewN | apply below_drew1 | refine below_set ?_ GE196.out) | exact HB.out)))); have n1_ := Aside0.mk (blk_below (g := gb196) (o := .cells #[.int .i64 a0_0, .int .i64 a0_1, .int .i64 a0_2] 45 (0, 0)) (by (with_reducible repeat (first | refine blk_drewN ?_ _ | refine blk_drew ?_ | refine blk_alloc ?_ _)); exact BK196.out) hb); have n2_ := Aside0.mk (below_step (by repeat (first | (with_reducible first | exact HB.out | apply below_alloc | apply pw_below_drewN | apply below_drew1 | refine below_set ?_ GE196.out) | exact HB.out)) hb); clear BK196; clear HB; have HO199 := n0_; have BK196 := n1_; have HB := n2_; clear n0_ n1_ n2_; (try clear hb); (try clear hb2); (try clear hk); (try clear hi); (try clear ho0)))
  go_ret2
  exact ⟨_, by first | rfl | (simp [errW_none, errW_some] <;> rfl) | (simp [*, errW_none, errW_some] <;> rfl), by (with_reducible repeat (first | apply Kd.R_alloc | apply Kd.R_drewN | apply Kd.R_drew)); exact HO199.out, by repeat (first | (with_reducible first | exact HB.out | apply below_alloc | apply pw_below_drewN | apply below_drew1 | refine below_set ?_ GE196.out) | exact HB.out)⟩

/-! ### laws_markIntS: function 31 -/
def laws_markIntS.l0 : Nat → List Int → Int → Int → Option (Int × List Int)
  | 0, _, _, _ => none
  | k + 1, x0, x1, x5 => if x5 < (x0.length : Int) then (if 0 ≤ x5 then (laws_markIntS.l0 k (x0.set (x5 : Int).toNat x1) (wrap64 (x1 + 1)) (wrap64 (x5 + 1))) else (none)) else (some (x1, x0))
def laws_markIntS.f (k : Nat) (l0 : List Int) (a1 : Int) : Option (Int × List Int) := laws_markIntS.l0 k l0 a1 0
theorem laws_markIntS.mono_l : ∀ k, (∀ y0 y1 y2, LeO (laws_markIntS.l0 k y0 y1 y2) (laws_markIntS.l0 (k + 1) y0 y1 y2))
  | 0 => fun _ _ _ r h => by simp [laws_markIntS.l0] at h
  | k + 1 => by
    have ih0 := laws_markIntS.mono_l k
    · intro y0 y1 y2
      unfold laws_markIntS.l0
      repeat' first
      | (with_reducible exact ih0 _ _ _)
      | (with_reducible exact LeO.refl _)
      | (with_reducible exact LeO.none _)
      | (with_reducible refine LeO.ite ?_ ?_)
      | (with_reducible refine LeO.bind ?_ (fun _ => ?_))
      | exact ih0 _ _ _
      | exact LeO.none _
      | refine LeO.ite ?_ ?_
      | refine LeO.bind ?_ (fun _ => ?_)
theorem laws_markIntS.mono : ∀ a0 a1 k, LeO (laws_markIntS.f k a0 a1) (laws_markIntS.f (k + 1) a0 a1) := by
  intro a0 a1 k
  have ih0 := laws_markIntS.mono_l k
  unfold laws_markIntS.f
  repeat' first
      | (with_reducible exact ih0 _ _ _)
      | (with_reducible exact LeO.refl _)
      | (with_reducible exact LeO.none _)
      | (with_reducible refine LeO.ite ?_ ?_)
      | (with_reducible refine LeO.bind ?_ (fun _ => ?_))
      | exact ih0 _ _ _
      | exact LeO.none _
      | refine LeO.ite ?_ ?_
      | refine LeO.bind ?_ (fun _ => ?_)
set_option maxHeartbeats 8000000 in
set_option maxRecDepth 100000 in
theorem laws_markIntS.calls (k : Nat) (P0_ : Nat → Prop) (u9000_ : Value) (l0 : List Int) (a1 : Int) (r1 : Int) (r2 : List Int) (w0 w : World) (hB : Below w0.heap.size w0 w) (ho0 : Kd.R (Kd.int .i64) 3 w w0.heap.size P0_ u9000_ l0) (h : laws_markIntS.f k l0 a1 = some (r1, r2)) :
    Calls Try.prog 31 #[u9000_, .int .i64 a1] w fun e w' => e = .returned (.int .i64 r1) ∧ Kd.R (Kd.int .i64) 3 w' w0.heap.size (fun k_ => (P0_ k_ ∨ w.heap.size ≤ k_)) u9000_ r2 ∧ Below w0.heap.size w0 w' ∧ Kept w w' (fun k_ => P0_ k_) := by
  have HO0 := Aside0.mk (show Kd.R (Kd.int .i64) 3 w w0.heap.size (fun k_ => (P0_ k_ ∨ w.heap.size ≤ k_)) u9000_ l0 from Kd.R_mono ho0 (fun k_ hk => (.inl hk)))
  have HK := Aside0.mk (Kept.refl w (fun k_ => P0_ k_))
  have HW0 := Aside0.mk hB.size
  have HB := Aside0.mk hB
  clear hB
  have H : (laws_markIntS.l0 k l0 a1 0) = some (r1, r2) := h
  clear h
  have H' := Aside0.mk H
  clear H
  go_enter Try.func31, Try.ntmps31
  go_wp2
  go_loopg [1, 5] k (fun kq v1 v5 w' => ∃ (x0_1 : List Int) (x1_1 : Int) (x5_1 : Int), v1 = .int .i64 x1_1 ∧ v5 = .int .i64 x5_1 ∧ Aside0 (laws_markIntS.l0 kq x0_1 x1_1 x5_1 = some (r1, r2)) ∧ Aside0 (kq ≤ k) ∧ Aside0 (Kd.R (Kd.int .i64) 3 w' w0.heap.size (fun k_ => (P0_ k_ ∨ w.heap.size ≤ k_)) u9000_ x0_1) ∧ Aside0 (Kept w w' (fun k_ => P0_ k_)) ∧ Aside0 (Below w0.heap.size w0 w'))
  case atStart => exact ⟨(l0), (a1), (0), (by first | rfl | (simp; done) | (simp [*]; done)), (by first | rfl | (simp; done) | (simp [*]; done)), H', ⟨Nat.le_refl _⟩, ⟨by (with_reducible repeat (first | apply Kd.R_alloc | apply Kd.R_drewN | apply Kd.R_drew)); exact HO0.out⟩, ⟨by repeat (first | (with_reducible first | exact HK.out | apply Kept.alloc | apply Kept.drewN | apply Kept.drew) | exact HK.out)⟩, ⟨by repeat (first | (with_reducible first | exact HB.out | apply below_alloc | apply pw_below_drewN | apply below_drew1) | exact HB.out)⟩⟩
  case round =>
    clear H'
    try clear p2
    obtain ⟨x0_1, x1_1, x5_1, rfl, rfl, HA, HK1, HO_0, HK, HB⟩ := hrel
    cases gk with
    | zero => exact absurd HA.out (by simp [laws_markIntS.l0])
    | succ k1 =>
      have H := HA.out
      clear HA
      simp only [laws_markIntS.l0] at H
      by_cases c3 : x5_1 < (x0_1.length : Int)
      · rw [if_pos c3] at H
        have c3b0 : decide (x5_1 < (x0_1.length : Int)) = true := decide_eq_true c3
        clear c3
        by_cases c4 : 0 ≤ x5_1
        · rw [if_pos c4] at H
          have c4b0 : decide (0 ≤ x5_1) = true := decide_eq_true c4
          clear c4
          obtain ⟨y202, hy202⟩ : ∃ y_ : List Int, y_ = (x0_1.set (x5_1 : Int).toNat x1_1) := ⟨_, rfl⟩
          replace H : (laws_markIntS.l0 k1 y202 (wrap64 (x1_1 + 1)) (wrap64 (x5_1 + 1))) = some (r1, r2) := by first | (rw [hy202]; with_reducible exact H) | (have H2_ := (Option.bind_some _ _).symm.trans H; rw [hy202]; with_reducible exact H2_) | (have H2_ := (Option.bind_some _ _).symm.trans H; with_reducible exact H2_) | with_reducible exact H | (rw [hy202]; exact H) | exact H
          have Ny202 := Aside0.mk hy202
          clear hy202
          have H' := Aside0.mk H
          clear H
          obtain ⟨Ao6, co6, eo6⟩ := Kd.R_slice HO_0.out
          subst eo6
          have p5 : 0 ≤ (x5_1 : Int) := of_decide_eq_true (by first | (with_reducible assumption) | assumption)
          have q5 : (x5_1 : Int) < ((x0_1.length : Int) : Int) := of_decide_eq_true (by first | (with_reducible assumption) | assumption)
          obtain ⟨go5, co5, eo5, gb5, gl5, cl5, HG5⟩ := Kd.R_form HO_0.out (by omega)
          (first | cases eo5 | (injection eo5 with ea_ en_ ec_; (first | subst ea_ | (injection ea_ with ea_; subst ea_)); subst ec_; clear en_))
          have GB5 := Aside0.mk gb5
          have GG5 := Aside0.mk HG5
          clear gb5 gl5 HG5
          have HMgo5 := Aside0.mk (show (P0_ go5 ∨ w.heap.size ≤ go5) from (HO_0.out.1 _ rfl))
          obtain ⟨hx5_0, hf5_0⟩ := Kd.R_celln 0 HO_0.out (x5_1 : Int) p5 q5
          replace p5 := eq_true p5
          replace q5 := eq_true q5
          have HP7 := Kd.R_putg HO_0.out (x5_1 : Int) x1_1
          go_wp2_with (first | ((with_reducible refine gate_store (t := 3) (p := 15) rfl ?_); refine store_event (t := 3) (p := 15) (v := ?vo_w8) (w1 := (wr.setCell ⟨go5, (x5_1 : Int).toNat, none⟩ (.int .i64 x1_1))) ?hg ?ho ?hn ?hr ?_; (case ho => rfl); (case hg => rfl); (case hn => rfl); (case hr => first | (go_simp; done) | (go_simp; rfl)); intro w8 hw; have hg : wr.grownBy w8 (some go5) := (by rw [hw]; exact HP7.2); have hp_ : Kd.R (Kd.int .i64) 3 w8 w0.heap.size (fun k_ => (P0_ k_ ∨ w.heap.size ≤ k_)) (.slice (some ⟨go5, 0, none⟩) x0_1.length co6) y202 := (by rw [hw, Ny202.out]; exact HP7.1); clear HP7; have n0_ := Aside0.mk (hp_); have n1_ := Aside0.mk ((by rw [hw]; exact below_set (HB.out) GB5.out : Below w0.heap.size w0 w8)); have n2_ := Aside0.mk (Kept.of_grown (S := (fun k_ => P0_ k_)) hg (by repeat (first | (with_reducible first | exact HK.out | apply Kept.alloc | apply Kept.drewN | apply Kept.drew) | exact HK.out)) (fun k_ e_ => (HO_0.out.1 k_ e_))); clear HO_0; clear HB; clear HK; have HO_0 := n0_; have HB := n1_; have HK := n2_; clear n0_ n1_ n2_; clear hg hw hp_))
          go_roundg k1
          case measure => have := HK1.out; omega
          case rel => exact ⟨(y202), (wrap64 (x1_1 + 1)), (wrap64 (x5_1 + 1)), (by first | rfl | (simp; done) | (simp [*]; done)), (by first | rfl | (simp; done) | (simp [*]; done)), H', ⟨by have := HK1.out; omega⟩, ⟨by (with_reducible repeat (first | apply Kd.R_alloc | apply Kd.R_drewN | apply Kd.R_drew)); exact HO_0.out⟩, ⟨by repeat (first | (with_reducible first | exact HK.out | apply Kept.alloc | apply Kept.drewN | apply Kept.drew) | exact HK.out)⟩, ⟨by repeat (first | (with_reducible first | exact HB.out | apply below_alloc | apply pw_below_drewN | apply below_drew1) | exact HB.out)⟩⟩
        · rw [if_neg c4] at H
          exact absurd H (by simp)
      · rw [if_neg c3] at H
        have c3b0 : decide (x5_1 < (x0_1.length : Int)) = false := decide_eq_false c3
        clear c3
        simp only [Option.some.injEq, Prod.mk.injEq] at H
        obtain ⟨rfl, rfl⟩ := H
        obtain ⟨Ao9, co9, eo9⟩ := Kd.R_slice HO_0.out
        subst eo9
        go_wp2
        go_ret
        exact ⟨by first | rfl | (simp [errW_none, errW_some] <;> rfl) | (simp [*, errW_none, errW_some] <;> rfl), by (with_reducible repeat (first | apply Kd.R_alloc | apply Kd.R_drewN | apply Kd.R_drew)); exact HO_0.out, by repeat (first | (with_reducible first | exact HB.out | apply below_alloc | apply pw_below_drewN | apply below_drew1) | exact HB.out), by repeat (first | (with_reducible first | exact HK.out | apply Kept.alloc | apply Kept.drewN | apply Kept.drew) | exact HK.out)⟩

/-! ### laws_heldIntS: function 32 -/
def laws_heldIntS.l0 : Nat → List Int → Int → Int → Option (Int)
  | 0, _, _, _ => none
  | k + 1, x0, x1, x5 => if x5 < (x0.length : Int) then (if 0 ≤ x5 then (if (rd x0 x5) = x1 then (laws_heldIntS.l0 k x0 (wrap64 (x1 + 1)) (wrap64 (x5 + 1))) else (some (-1))) else (none)) else (some x1)
def laws_heldIntS.f (k : Nat) (l0 : List Int) (a1 : Int) : Option (Int) := laws_heldIntS.l0 k l0 a1 0
theorem laws_heldIntS.mono_l : ∀ k, (∀ y0 y1 y2, LeO (laws_heldIntS.l0 k y0 y1 y2) (laws_heldIntS.l0 (k + 1) y0 y1 y2))
  | 0 => fun _ _ _ r h => by simp [laws_heldIntS.l0] at h
  | k + 1 => by
    have ih0 := laws_heldIntS.mono_l k
    · intro y0 y1 y2
      unfold laws_heldIntS.l0
      repeat' first
      | (with_reducible exact ih0 _ _ _)
      | (with_reducible exact LeO.refl _)
      | (with_reducible exact LeO.none _)
      | (with_reducible refine LeO.ite ?_ ?_)
      | (with_reducible refine LeO.bind ?_ (fun _ => ?_))
      | exact ih0 _ _ _
      | exact LeO.none _
      | refine LeO.ite ?_ ?_
      | refine LeO.bind ?_ (fun _ => ?_)
theorem laws_heldIntS.mono : ∀ a0 a1 k, LeO (laws_heldIntS.f k a0 a1) (laws_heldIntS.f (k + 1) a0 a1) := by
  intro a0 a1 k
  have ih0 := laws_heldIntS.mono_l k
  unfold laws_heldIntS.f
  repeat' first
      | (with_reducible exact ih0 _ _ _)
      | (with_reducible exact LeO.refl _)
      | (with_reducible exact LeO.none _)
      | (with_reducible refine LeO.ite ?_ ?_)
      | (with_reducible refine LeO.bind ?_ (fun _ => ?_))
      | exact ih0 _ _ _
      | exact LeO.none _
      | refine LeO.ite ?_ ?_
      | refine LeO.bind ?_ (fun _ => ?_)
set_option maxHeartbeats 8000000 in
set_option maxRecDepth 100000 in
theorem laws_heldIntS.calls (k : Nat) (A0 : Option Addr) (c0 : Nat) (l0 : List Int) (a1 : Int) (r : Int) (w : World) (hr0 : Kd.C (Kd.int .i64) w A0 l0.length l0) (hc0 : l0.length ≤ c0) (h : laws_heldIntS.f k l0 a1 = some r) :
    Calls Try.prog 32 #[.slice A0 l0.length c0, .int .i64 a1] w fun e w' => e = .returned (.int .i64 r) ∧ Drawn0 w w' := by
  have HR0 := Aside0.mk hr0
  have HC0 := Aside0.mk hc0
  clear hr0 hc0
  have H : (laws_heldIntS.l0 k l0 a1 0) = some r := h
  clear h
  have H' := Aside0.mk H
  clear H
  go_enter Try.func32, Try.ntmps32
  go_wp2
  go_loopg [1, 5] k (fun kq v1 v5 w' => ∃ (x1_1 : Int) (x5_1 : Int), v1 = .int .i64 x1_1 ∧ v5 = .int .i64 x5_1 ∧ Aside0 (laws_heldIntS.l0 kq l0 x1_1 x5_1 = some r) ∧ Aside0 (kq ≤ k) ∧ Drawn0 w w')
  case atStart => exact ⟨(a1), (0), (by first | rfl | (simp; done) | (simp [*]; done)), (by first | rfl | (simp; done) | (simp [*]; done)), H', ⟨Nat.le_refl _⟩, by repeat (first | exact Drawn0.refl _ | apply Drawn0.step)⟩
  case round =>
    clear H'
    try clear p2
    obtain ⟨x1_1, x5_1, rfl, rfl, HA, HK1, ⟨m1, rfl⟩⟩ := hrel
    cases gk with
    | zero => exact absurd HA.out (by simp [laws_heldIntS.l0])
    | succ k1 =>
      have H := HA.out
      clear HA
      simp only [laws_heldIntS.l0] at H
      by_cases c3 : x5_1 < (l0.length : Int)
      · rw [if_pos c3] at H
        have c3b0 : decide (x5_1 < (l0.length : Int)) = true := decide_eq_true c3
        clear c3
        by_cases c4 : 0 ≤ x5_1
        · rw [if_pos c4] at H
          have c4b0 : decide (0 ≤ x5_1) = true := decide_eq_true c4
          clear c4
          by_cases c5 : (rd l0 x5_1) = x1_1
          · rw [if_pos c5] at H
            have c5b0 : ((rd l0 x5_1) == x1_1) = true := beq_iff_eq.mpr c5
            have c5b1 : ((rd l0 x5_1) != x1_1) = false := bne_eq_false_iff_eq.mpr c5
            clear c5
            have H' := Aside0.mk H
            clear H
            have p203 : 0 ≤ (x5_1 : Int) := of_decide_eq_true (by first | (with_reducible assumption) | assumption)
            have q203 : x5_1 < (l0.length : Int) := of_decide_eq_true (by first | (with_reducible assumption) | assumption)
            obtain ⟨ad203, e203, hx203_0⟩ := Kd.at_int HR0.out x5_1 p203 q203
            cases e203
            replace p203 := eq_true p203
            replace q203 := eq_true q203
            go_wp2
            go_roundg k1
            case measure => have := HK1.out; omega
            case rel => exact ⟨(wrap64 (x1_1 + 1)), (wrap64 (x5_1 + 1)), (by first | rfl | (simp; done) | (simp [*]; done)), (by first | rfl | (simp; done) | (simp [*]; done)), H', ⟨by have := HK1.out; omega⟩, by repeat (first | exact Drawn0.refl _ | apply Drawn0.step)⟩
          · rw [if_neg c5] at H
            have c5b0 : ((rd l0 x5_1) == x1_1) = false := beq_eq_false_iff_ne.mpr c5
            have c5b1 : ((rd l0 x5_1) != x1_1) = true := bne_iff_ne.mpr c5
            obtain rfl := Option.some.inj H
            have p203 : 0 ≤ (x5_1 : Int) := of_decide_eq_true (by first | (with_reducible assumption) | assumption)
            have q203 : x5_1 < (l0.length : Int) := of_decide_eq_true (by first | (with_reducible assumption) | assumption)
            obtain ⟨ad203, e203, hx203_0⟩ := Kd.at_int HR0.out x5_1 p203 q203
            cases e203
            replace p203 := eq_true p203
            replace q203 := eq_true q203
            go_wp2
            go_ret
            exact ⟨by first | rfl | (simp; done) | (simp [*]; done), by repeat (first | exact Drawn0.refl _ | apply Drawn0.step)⟩
        · rw [if_neg c4] at H
          exact absurd H (by simp)
      · rw [if_neg c3] at H
        have c3b0 : decide (x5_1 < (l0.length : Int)) = false := decide_eq_false c3
        clear c3
        obtain rfl := Option.some.inj H
        go_wp2
        go_ret
        exact ⟨by first | rfl | (simp; done) | (simp [*]; done), by repeat (first | exact Drawn0.refl _ | apply Drawn0.step)⟩

/-! ### laws_FnExactShrinkCaps: function 6 -/
def laws_FnExactShrinkCaps.f (k : Nat) (a0_0 : Int) (a0_1 : Int) (a0_2 : Int) (a1 : Int) (l2 : List Int) : Option (Bool) := if (l2.length : Int) > 1048576 then (some true) else ((laws_toGrowRule.f a0_0 a0_1 a0_2).bind fun bt205 => ((laws_toIntS.f k l2).bind fun t208 => ((spec_ShrinkCaps.f k bt205.1 bt205.2.1 bt205.2.2 a1 t208).bind fun bt211 => ((laws_toIntS.f k l2).bind fun t215 => ((laws_toGrowRule.f a0_0 a0_1 a0_2).bind fun bt218 => ((impl_ShrinkCaps.f bt218.1 bt218.2.1 bt218.2.2 a1 t215).bind fun bt221 => ((laws_eqIntS.f k bt221.1 bt211.1).bind fun t225 => (if t225 = true then (if (bt221.2 != bt211.2) = true then (none) else ((laws_toIntS.f k l2).bind fun t226 => ((laws_eqIntS.f k t215 t226).bind fun t229 => (if t229 = true then ((laws_markIntS.f k t215 1).bind fun bt230 => (if bt230.1 < 0 then (none) else ((laws_eqIntS.f k bt221.1 bt211.1).bind fun t232 => (if t232 = true then ((laws_markIntS.f k bt221.1 1).bind fun bt233 => ((laws_heldIntS.f k bt233.2 1).bind fun t235 => (if t235 < 0 then (none) else (if t235 = bt233.1 then ((laws_toGrowRule.f a0_0 a0_1 a0_2).bind fun bt236 => ((laws_toIntS.f k l2).bind fun t239 => ((impl_ShrinkCaps.f bt236.1 bt236.2.1 bt236.2.2 a1 t239).bind fun bt242 => ((laws_eqIntS.f k bt242.1 bt211.1).bind fun t246 => (if t246 = true then (if (bt242.2 != bt211.2) = true then (none) else ((laws_heldIntS.f k bt233.2 1).bind fun t247 => (if t247 < 0 then (none) else (if t247 = bt233.1 then (some true) else (none))))) else (none)))))) else (none))))) else (none))))) else (none))))) else (none)))))))))
theorem laws_FnExactShrinkCaps.mono : ∀ a0 a1 a2 a3 a4 k, LeO (laws_FnExactShrinkCaps.f k a0 a1 a2 a3 a4) (laws_FnExactShrinkCaps.f (k + 1) a0 a1 a2 a3 a4) := by
  intro a0 a1 a2 a3 a4 k
  unfold laws_FnExactShrinkCaps.f
  repeat' first
      | (with_reducible exact laws_eqIntS.mono _ _ _)
      | (with_reducible exact laws_heldIntS.mono _ _ _)
      | (with_reducible exact laws_markIntS.mono _ _ _)
      | (with_reducible exact laws_toIntS.mono _ _)
      | (with_reducible exact spec_ShrinkCaps.mono _ _ _ _ _ _)
      | (with_reducible exact LeO.refl _)
      | (with_reducible exact LeO.none _)
      | (with_reducible refine LeO.ite ?_ ?_)
      | (with_reducible refine LeO.bind ?_ (fun _ => ?_))
      | exact laws_eqIntS.mono _ _ _
      | exact laws_heldIntS.mono _ _ _
      | exact laws_markIntS.mono _ _ _
      | exact laws_toIntS.mono _ _
      | exact spec_ShrinkCaps.mono _ _ _ _ _ _
      | exact LeO.none _
      | refine LeO.ite ?_ ?_
      | refine LeO.bind ?_ (fun _ => ?_)
set_option maxHeartbeats 8000000 in
set_option maxRecDepth 100000 in
theorem laws_FnExactShrinkCaps.calls (k : Nat) (a0_0 : Int) (a0_1 : Int) (a0_2 : Int) (a1 : Int) (A2 : Option Addr) (c2 : Nat) (l2 : List Int) (r : Bool) (w : World) (hr2 : Kd.C (Kd.int .i64) w A2 l2.length l2) (hc2 : l2.length ≤ c2) (h : laws_FnExactShrinkCaps.f k a0_0 a0_1 a0_2 a1 l2 = some r) :
    Calls Try.prog 6 #[.agg #[.int .i64 a0_0, .int .i64 a0_1, .int .i64 a0_2], .int .i64 a1, .slice A2 l2.length c2] w fun e w' => e = .returned (.bool r) ∧ Below w.heap.size w w' := by
  have hu41 := Try.underlying41
  have HR2 := Aside0.mk hr2
  have HC2 := Aside0.mk hc2
  clear hr2 hc2
  have HB := Aside0.mk (Below.refl w.heap.size w)
  have H : (if (l2.length : Int) > 1048576 then (some true) else ((laws_toGrowRule.f a0_0 a0_1 a0_2).bind fun bt205 => ((laws_toIntS.f k l2).bind fun t208 => ((spec_ShrinkCaps.f k bt205.1 bt205.2.1 bt205.2.2 a1 t208).bind fun bt211 => ((laws_toIntS.f k l2).bind fun t215 => ((laws_toGrowRule.f a0_0 a0_1 a0_2).bind fun bt218 => ((impl_ShrinkCaps.f bt218.1 bt218.2.1 bt218.2.2 a1 t215).bind fun bt221 => ((laws_eqIntS.f k bt221.1 bt211.1).bind fun t225 => (if t225 = true then (if (bt221.2 != bt211.2) = true then (none) else ((laws_toIntS.f k l2).bind fun t226 => ((laws_eqIntS.f k t215 t226).bind fun t229 => (if t229 = true then ((laws_markIntS.f k t215 1).bind fun bt230 => (if bt230.1 < 0 then (none) else ((laws_eqIntS.f k bt221.1 bt211.1).bind fun t232 => (if t232 = true then ((laws_markIntS.f k bt221.1 1).bind fun bt233 => ((laws_heldIntS.f k bt233.2 1).bind fun t235 => (if t235 < 0 then (none) else (if t235 = bt233.1 then ((laws_toGrowRule.f a0_0 a0_1 a0_2).bind fun bt236 => ((laws_toIntS.f k l2).bind fun t239 => ((impl_ShrinkCaps.f bt236.1 bt236.2.1 bt236.2.2 a1 t239).bind fun bt242 => ((laws_eqIntS.f k bt242.1 bt211.1).bind fun t246 => (if t246 = true then (if (bt242.2 != bt211.2) = true then (none) else ((laws_heldIntS.f k bt233.2 1).bind fun t247 => (if t247 < 0 then (none) else (if t247 = bt233.1 then (some true) else (none))))) else (none)))))) else (none))))) else (none))))) else (none))))) else (none)))))))))) = some r := h
  clear h
  by_cases c4 : (l2.length : Int) > 1048576
  · rw [if_pos c4] at H
    have c4b0 : decide (1048576 < (l2.length : Int)) = true := decide_eq_true c4
    have c4b1 : decide (1048576 < l2.length) = true := decide_eq_true (by omega)
    clear c4
    obtain rfl := Option.some.inj H
    go_enter Try.func6, Try.ntmps6
    go_wp2_with (first | ((with_reducible refine gate_dst (N := 3) rfl ?_); refine box_event ?hg (N := 3) ?hd (cs := #[.int .i64 a0_0, .int .i64 a0_1, .int .i64 a0_2]) (t := 41) ?hr ?_; (case hd => rfl); (case hg => rfl); (case hr => first | (go_simp; done) | (go_simp; rfl)); intro gb204 hg w5 hbox hb; have n0_ := Aside0.mk (below_step (by repeat (first | (with_reducible first | exact HB.out | apply below_alloc | apply pw_below_drewN | apply below_drew1) | exact HB.out)) hb); have n1_ := Aside0.mk (hbox); have n2_ := Aside0.mk ((by rw [hg]; exact (below_size (by repeat (first | (with_reducible first | exact HB.out | apply below_alloc | apply pw_below_drewN | apply below_drew1) | exact HB.out))) : w.heap.size ≤ gb204)); have n3_ := Aside0.mk ((by rw [hg]; exact (below_size (by repeat (first | (with_reducible first | exact HB.out | apply below_alloc | apply pw_below_drewN | apply below_drew1) | exact HB.out))) : w.heap.size ≤ gb204)); clear HB; have HB := n0_; have BK204 := n1_; have GW204 := n2_; have GE204 := n3_; clear n0_ n1_ n2_ n3_; clear hb hbox hg))
    go_ret
    exact ⟨by first | rfl | (simp [errW_none, errW_some] <;> rfl) | (simp [*, errW_none, errW_some] <;> rfl), by repeat (first | (with_reducible first | exact HB.out | apply below_alloc | apply pw_below_drewN | apply below_drew1 | refine below_set ?_ GE204.out) | exact HB.out)⟩
  · rw [if_neg c4] at H
    have c4b0 : decide (1048576 < (l2.length : Int)) = false := decide_eq_false c4
    have c4b1 : decide (1048576 < l2.length) = false := decide_eq_false (by omega)
    clear c4
    replace H := Option.bind_eq_some_iff.mp H
    obtain ⟨⟨t205, t206, t207⟩, A60, H⟩ := H
    replace H : ((laws_toIntS.f k l2).bind fun t208 => ((spec_ShrinkCaps.f k t205 t206 t207 a1 t208).bind fun bt211 => ((laws_toIntS.f k l2).bind fun t215 => ((laws_toGrowRule.f a0_0 a0_1 a0_2).bind fun bt218 => ((impl_ShrinkCaps.f bt218.1 bt218.2.1 bt218.2.2 a1 t215).bind fun bt221 => ((laws_eqIntS.f k bt221.1 bt211.1).bind fun t225 => (if t225 = true then (if (bt221.2 != bt211.2) = true then (none) else ((laws_toIntS.f k l2).bind fun t226 => ((laws_eqIntS.f k t215 t226).bind fun t229 => (if t229 = true then ((laws_markIntS.f k t215 1).bind fun bt230 => (if bt230.1 < 0 then (none) else ((laws_eqIntS.f k bt221.1 bt211.1).bind fun t232 => (if t232 = true then ((laws_markIntS.f k bt221.1 1).bind fun bt233 => ((laws_heldIntS.f k bt233.2 1).bind fun t235 => (if t235 < 0 then (none) else (if t235 = bt233.1 then ((laws_toGrowRule.f a0_0 a0_1 a0_2).bind fun bt236 => ((laws_toIntS.f k l2).bind fun t239 => ((impl_ShrinkCaps.f bt236.1 bt236.2.1 bt236.2.2 a1 t239).bind fun bt242 => ((laws_eqIntS.f k bt242.1 bt211.1).bind fun t246 => (if t246 = true then (if (bt242.2 != bt211.2) = true then (none) else ((laws_heldIntS.f k bt233.2 1).bind fun t247 => (if t247 < 0 then (none) else (if t247 = bt233.1 then (some true) else (none))))) else (none)))))) else (none))))) else (none))))) else (none))))) else (none)))))))) = some r := H
    have A6 := Aside0.mk A60
    clear A60
    replace H := Option.bind_eq_some_iff.mp H
    obtain ⟨t208, A70, H⟩ := H
    replace H : ((spec_ShrinkCaps.f k t205 t206 t207 a1 t208).bind fun bt211 => ((laws_toIntS.f k l2).bind fun t215 => ((laws_toGrowRule.f a0_0 a0_1 a0_2).bind fun bt218 => ((impl_ShrinkCaps.f bt218.1 bt218.2.1 bt218.2.2 a1 t215).bind fun bt221 => ((laws_eqIntS.f k bt221.1 bt211.1).bind fun t225 => (if t225 = true then (if (bt221.2 != bt211.2) = true then (none) else ((laws_toIntS.f k l2).bind fun t226 => ((laws_eqIntS.f k t215 t226).bind fun t229 => (if t229 = true then ((laws_markIntS.f k t215 1).bind fun bt230 => (if bt230.1 < 0 then (none) else ((laws_eqIntS.f k bt221.1 bt211.1).bind fun t232 => (if t232 = true then ((laws_markIntS.f k bt221.1 1).bind fun bt233 => ((laws_heldIntS.f k bt233.2 1).bind fun t235 => (if t235 < 0 then (none) else (if t235 = bt233.1 then ((laws_toGrowRule.f a0_0 a0_1 a0_2).bind fun bt236 => ((laws_toIntS.f k l2).bind fun t239 => ((impl_ShrinkCaps.f bt236.1 bt236.2.1 bt236.2.2 a1 t239).bind fun bt242 => ((laws_eqIntS.f k bt242.1 bt211.1).bind fun t246 => (if t246 = true then (if (bt242.2 != bt211.2) = true then (none) else ((laws_heldIntS.f k bt233.2 1).bind fun t247 => (if t247 < 0 then (none) else (if t247 = bt233.1 then (some true) else (none))))) else (none)))))) else (none))))) else (none))))) else (none))))) else (none))))))) = some r := H
    have A7 := Aside0.mk A70
    clear A70
    replace H := Option.bind_eq_some_iff.mp H
    obtain ⟨⟨t211, t214⟩, A80, H⟩ := H
    replace H : ((laws_toIntS.f k l2).bind fun t215 => ((laws_toGrowRule.f a0_0 a0_1 a0_2).bind fun bt218 => ((impl_ShrinkCaps.f bt218.1 bt218.2.1 bt218.2.2 a1 t215).bind fun bt221 => ((laws_eqIntS.f k bt221.1 t211).bind fun t225 => (if t225 = true then (if (bt221.2 != t214) = true then (none) else ((laws_toIntS.f k l2).bind fun t226 => ((laws_eqIntS.f k t215 t226).bind fun t229 => (if t229 = true then ((laws_markIntS.f k t215 1).bind fun bt230 => (if bt230.1 < 0 then (none) else ((laws_eqIntS.f k bt221.1 t211).bind fun t232 => (if t232 = true then ((laws_markIntS.f k bt221.1 1).bind fun bt233 => ((laws_heldIntS.f k bt233.2 1).bind fun t235 => (if t235 < 0 then (none) else (if t235 = bt233.1 then ((laws_toGrowRule.f a0_0 a0_1 a0_2).bind fun bt236 => ((laws_toIntS.f k l2).bind fun t239 => ((impl_ShrinkCaps.f bt236.1 bt236.2.1 bt236.2.2 a1 t239).bind fun bt242 => ((laws_eqIntS.f k bt242.1 t211).bind fun t246 => (if t246 = true then (if (bt242.2 != t214) = true then (none) else ((laws_heldIntS.f k bt233.2 1).bind fun t247 => (if t247 < 0 then (none) else (if t247 = bt233.1 then (some true) else (none))))) else (none)))))) else (none))))) else (none))))) else (none))))) else (none)))))) = some r := H
    have A8 := Aside0.mk A80
    clear A80
    replace H := Option.bind_eq_some_iff.mp H
    obtain ⟨t215, A90, H⟩ := H
    replace H : ((laws_toGrowRule.f a0_0 a0_1 a0_2).bind fun bt218 => ((impl_ShrinkCaps.f bt218.1 bt218.2.1 bt218.2.2 a1 t215).bind fun bt221 => ((laws_eqIntS.f k bt221.1 t211).bind fun t225 => (if t225 = true then (if (bt221.2 != t214) = true then (none) else ((laws_toIntS.f k l2).bind fun t226 => ((laws_eqIntS.f k t215 t226).bind fun t229 => (if t229 = true then ((laws_markIntS.f k t215 1).bind fun bt230 => (if bt230.1 < 0 then (none) else ((laws_eqIntS.f k bt221.1 t211).bind fun t232 => (if t232 = true then ((laws_markIntS.f k bt221.1 1).bind fun bt233 => ((laws_heldIntS.f k bt233.2 1).bind fun t235 => (if t235 < 0 then (none) else (if t235 = bt233.1 then ((laws_toGrowRule.f a0_0 a0_1 a0_2).bind fun bt236 => ((laws_toIntS.f k l2).bind fun t239 => ((impl_ShrinkCaps.f bt236.1 bt236.2.1 bt236.2.2 a1 t239).bind fun bt242 => ((laws_eqIntS.f k bt242.1 t211).bind fun t246 => (if t246 = true then (if (bt242.2 != t214) = true then (none) else ((laws_heldIntS.f k bt233.2 1).bind fun t247 => (if t247 < 0 then (none) else (if t247 = bt233.1 then (some true) else (none))))) else (none)))))) else (none))))) else (none))))) else (none))))) else (none))))) = some r := H
    have A9 := Aside0.mk A90
    clear A90
    replace H := Option.bind_eq_some_iff.mp H
    obtain ⟨⟨t218, t219, t220⟩, A100, H⟩ := H
    replace H : ((impl_ShrinkCaps.f t218 t219 t220 a1 t215).bind fun bt221 => ((laws_eqIntS.f k bt221.1 t211).bind fun t225 => (if t225 = true then (if (bt221.2 != t214) = true then (none) else ((laws_toIntS.f k l2).bind fun t226 => ((laws_eqIntS.f k t215 t226).bind fun t229 => (if t229 = true then ((laws_markIntS.f k t215 1).bind fun bt230 => (if bt230.1 < 0 then (none) else ((laws_eqIntS.f k bt221.1 t211).bind fun t232 => (if t232 = true then ((laws_markIntS.f k bt221.1 1).bind fun bt233 => ((laws_heldIntS.f k bt233.2 1).bind fun t235 => (if t235 < 0 then (none) else (if t235 = bt233.1 then ((laws_toGrowRule.f a0_0 a0_1 a0_2).bind fun bt236 => ((laws_toIntS.f k l2).bind fun t239 => ((impl_ShrinkCaps.f bt236.1 bt236.2.1 bt236.2.2 a1 t239).bind fun bt242 => ((laws_eqIntS.f k bt242.1 t211).bind fun t246 => (if t246 = true then (if (bt242.2 != t214) = true then (none) else ((laws_heldIntS.f k bt233.2 1).bind fun t247 => (if t247 < 0 then (none) else (if t247 = bt233.1 then (some true) else (none))))) else (none)))))) else (none))))) else (none))))) else (none))))) else (none)))) = some r := H
    have A10 := Aside0.mk A100
    clear A100
    replace H := Option.bind_eq_some_iff.mp H
    obtain ⟨⟨t221, t224⟩, A110, H⟩ := H
    replace H : ((laws_eqIntS.f k t221 t211).bind fun t225 => (if t225 = true then (if (t224 != t214) = true then (none) else ((laws_toIntS.f k l2).bind fun t226 => ((laws_eqIntS.f k t215 t226).bind fun t229 => (if t229 = true then ((laws_markIntS.f k t215 1).bind fun bt230 => (if bt230.1 < 0 then (none) else ((laws_eqIntS.f k t221 t211).bind fun t232 => (if t232 = true then ((laws_markIntS.f k t221 1).bind fun bt233 => ((laws_heldIntS.f k bt233.2 1).bind fun t235 => (if t235 < 0 then (none) else (if t235 = bt233.1 then ((laws_toGrowRule.f a0_0 a0_1 a0_2).bind fun bt236 => ((laws_toIntS.f k l2).bind fun t239 => ((impl_ShrinkCaps.f bt236.1 bt236.2.1 bt236.2.2 a1 t239).bind fun bt242 => ((laws_eqIntS.f k bt242.1 t211).bind fun t246 => (if t246 = true then (if (bt242.2 != t214) = true then (none) else ((laws_heldIntS.f k bt233.2 1).bind fun t247 => (if t247 < 0 then (none) else (if t247 = bt233.1 then (some true) else (none))))) else (none)))))) else (none))))) else (none))))) else (none))))) else (none))) = some r := H
    have A11 := Aside0.mk A110
    clear A110
    replace H := Option.bind_eq_some_iff.mp H
    obtain ⟨t225, A120, H⟩ := H
    replace H : (if t225 = true then (if (t224 != t214) = true then (none) else ((laws_toIntS.f k l2).bind fun t226 => ((laws_eqIntS.f k t215 t226).bind fun t229 => (if t229 = true then ((laws_markIntS.f k t215 1).bind fun bt230 => (if bt230.1 < 0 then (none) else ((laws_eqIntS.f k t221 t211).bind fun t232 => (if t232 = true then ((laws_markIntS.f k t221 1).bind fun bt233 => ((laws_heldIntS.f k bt233.2 1).bind fun t235 => (if t235 < 0 then (none) else (if t235 = bt233.1 then ((laws_toGrowRule.f a0_0 a0_1 a0_2).bind fun bt236 => ((laws_toIntS.f k l2).bind fun t239 => ((impl_ShrinkCaps.f bt236.1 bt236.2.1 bt236.2.2 a1 t239).bind fun bt242 => ((laws_eqIntS.f k bt242.1 t211).bind fun t246 => (if t246 = true then (if (bt242.2 != t214) = true then (none) else ((laws_heldIntS.f k bt233.2 1).bind fun t247 => (if t247 < 0 then (none) else (if t247 = bt233.1 then (some true) else (none))))) else (none)))))) else (none))))) else (none))))) else (none))))) else (none)) = some r := H
    have A12 := Aside0.mk A120
    clear A120
    by_cases c13 : t225 = true
    · subst c13
      have H1 : (if (t224 != t214) = true then (none) else ((laws_toIntS.f k l2).bind fun t226 => ((laws_eqIntS.f k t215 t226).bind fun t229 => (if t229 = true then ((laws_markIntS.f k t215 1).bind fun bt230 => (if bt230.1 < 0 then (none) else ((laws_eqIntS.f k t221 t211).bind fun t232 => (if t232 = true then ((laws_markIntS.f k t221 1).bind fun bt233 => ((laws_heldIntS.f k bt233.2 1).bind fun t235 => (if t235 < 0 then (none) else (if t235 = bt233.1 then ((laws_toGrowRule.f a0_0 a0_1 a0_2).bind fun bt236 => ((laws_toIntS.f k l2).bind fun t239 => ((impl_ShrinkCaps.f bt236.1 bt236.2.1 bt236.2.2 a1 t239).bind fun bt242 => ((laws_eqIntS.f k bt242.1 t211).bind fun t246 => (if t246 = true then (if (bt242.2 != t214) = true then (none) else ((laws_heldIntS.f k bt233.2 1).bind fun t247 => (if t247 < 0 then (none) else (if t247 = bt233.1 then (some true) else (none))))) else (none)))))) else (none))))) else (none))))) else (none))))) = some r := by rw [if_pos rfl] at H; exact H
      clear H
      have H := H1
      clear H1
      by_cases c14 : (t224 != t214) = true
      · rw [if_pos c14] at H
        exact absurd H (by simp)
      · rw [if_neg c14] at H
        have c14b0 : (t224 != t214) = false := by simpa using c14
        (try (have c14b1 : decide (t224 = t214) = true := by simpa using c14))
        (try (have c14b2 : (t224 == t214) = true := by simpa using c14))
        clear c14
        replace H := Option.bind_eq_some_iff.mp H
        obtain ⟨t226, A150, H⟩ := H
        replace H : ((laws_eqIntS.f k t215 t226).bind fun t229 => (if t229 = true then ((laws_markIntS.f k t215 1).bind fun bt230 => (if bt230.1 < 0 then (none) else ((laws_eqIntS.f k t221 t211).bind fun t232 => (if t232 = true then ((laws_markIntS.f k t221 1).bind fun bt233 => ((laws_heldIntS.f k bt233.2 1).bind fun t235 => (if t235 < 0 then (none) else (if t235 = bt233.1 then ((laws_toGrowRule.f a0_0 a0_1 a0_2).bind fun bt236 => ((laws_toIntS.f k l2).bind fun t239 => ((impl_ShrinkCaps.f bt236.1 bt236.2.1 bt236.2.2 a1 t239).bind fun bt242 => ((laws_eqIntS.f k bt242.1 t211).bind fun t246 => (if t246 = true then (if (bt242.2 != t214) = true then (none) else ((laws_heldIntS.f k bt233.2 1).bind fun t247 => (if t247 < 0 then (none) else (if t247 = bt233.1 then (some true) else (none))))) else (none)))))) else (none))))) else (none))))) else (none))) = some r := H
        have A15 := Aside0.mk A150
        clear A150
        replace H := Option.bind_eq_some_iff.mp H
        obtain ⟨t229, A160, H⟩ := H
        replace H : (if t229 = true then ((laws_markIntS.f k t215 1).bind fun bt230 => (if bt230.1 < 0 then (none) else ((laws_eqIntS.f k t221 t211).bind fun t232 => (if t232 = true then ((laws_markIntS.f k t221 1).bind fun bt233 => ((laws_heldIntS.f k bt233.2 1).bind fun t235 => (if t235 < 0 then (none) else (if t235 = bt233.1 then ((laws_toGrowRule.f a0_0 a0_1 a0_2).bind fun bt236 => ((laws_toIntS.f k l2).bind fun t239 => ((impl_ShrinkCaps.f bt236.1 bt236.2.1 bt236.2.2 a1 t239).bind fun bt242 => ((laws_eqIntS.f k bt242.1 t211).bind fun t246 => (if t246 = true then (if (bt242.2 != t214) = true then (none) else ((laws_heldIntS.f k bt233.2 1).bind fun t247 => (if t247 < 0 then (none) else (if t247 = bt233.1 then (some true) else (none))))) else (none)))))) else (none))))) else (none))))) else (none)) = some r := H
        have A16 := Aside0.mk A160
        clear A160
        by_cases c17 : t229 = true
        · subst c17
          have H1 : ((laws_markIntS.f k t215 1).bind fun bt230 => (if bt230.1 < 0 then (none) else ((laws_eqIntS.f k t221 t211).bind fun t232 => (if t232 = true then ((laws_markIntS.f k t221 1).bind fun bt233 => ((laws_heldIntS.f k bt233.2 1).bind fun t235 => (if t235 < 0 then (none) else (if t235 = bt233.1 then ((laws_toGrowRule.f a0_0 a0_1 a0_2).bind fun bt236 => ((laws_toIntS.f k l2).bind fun t239 => ((impl_ShrinkCaps.f bt236.1 bt236.2.1 bt236.2.2 a1 t239).bind fun bt242 => ((laws_eqIntS.f k bt242.1 t211).bind fun t246 => (if t246 = true then (if (bt242.2 != t214) = true then (none) else ((laws_heldIntS.f k bt233.2 1).bind fun t247 => (if t247 < 0 then (none) else (if t247 = bt233.1 then (some true) else (none))))) else (none)))))) else (none))))) else (none))))) = some r := by rw [if_pos rfl] at H; exact H
          clear H
          have H := H1
          clear H1
          replace H := Option.bind_eq_some_iff.mp H
          obtain ⟨⟨t230, t231⟩, A180, H⟩ := H
          replace H : (if t230 < 0 then (none) else ((laws_eqIntS.f k t221 t211).bind fun t232 => (if t232 = true then ((laws_markIntS.f k t221 1).bind fun bt233 => ((laws_heldIntS.f k bt233.2 1).bind fun t235 => (if t235 < 0 then (none) else (if t235 = bt233.1 then ((laws_toGrowRule.f a0_0 a0_1 a0_2).bind fun bt236 => ((laws_toIntS.f k l2).bind fun t239 => ((impl_ShrinkCaps.f bt236.1 bt236.2.1 bt236.2.2 a1 t239).bind fun bt242 => ((laws_eqIntS.f k bt242.1 t211).bind fun t246 => (if t246 = true then (if (bt242.2 != t214) = true then (none) else ((laws_heldIntS.f k bt233.2 1).bind fun t247 => (if t247 < 0 then (none) else (if t247 = bt233.1 then (some true) else (none))))) else (none)))))) else (none))))) else (none)))) = some r := H
          have A18 := Aside0.mk A180
          clear A180
          by_cases c19 : t230 < 0
          · rw [if_pos c19] at H
            exact absurd H (by simp)
          · rw [if_neg c19] at H
            have c19b0 : decide (t230 < 0) = false := decide_eq_false c19
            clear c19
            replace H := Option.bind_eq_some_iff.mp H
            obtain ⟨t232, A200, H⟩ := H
            replace H : (if t232 = true then ((laws_markIntS.f k t221 1).bind fun bt233 => ((laws_heldIntS.f k bt233.2 1).bind fun t235 => (if t235 < 0 then (none) else (if t235 = bt233.1 then ((laws_toGrowRule.f a0_0 a0_1 a0_2).bind fun bt236 => ((laws_toIntS.f k l2).bind fun t239 => ((impl_ShrinkCaps.f bt236.1 bt236.2.1 bt236.2.2 a1 t239).bind fun bt242 => ((laws_eqIntS.f k bt242.1 t211).bind fun t246 => (if t246 = true then (if (bt242.2 != t214) = true then (none) else ((laws_heldIntS.f k bt233.2 1).bind fun t247 => (if t247 < 0 then (none) else (if t247 = bt233.1 then (some true) else (none))))) else (none)))))) else (none))))) else (none)) = some r := H
            have A20 := Aside0.mk A200
            clear A200
            by_cases c21 : t232 = true
            · subst c21
              have H1 : ((laws_markIntS.f k t221 1).bind fun bt233 => ((laws_heldIntS.f k bt233.2 1).bind fun t235 => (if t235 < 0 then (none) else (if t235 = bt233.1 then ((laws_toGrowRule.f a0_0 a0_1 a0_2).bind fun bt236 => ((laws_toIntS.f k l2).bind fun t239 => ((impl_ShrinkCaps.f bt236.1 bt236.2.1 bt236.2.2 a1 t239).bind fun bt242 => ((laws_eqIntS.f k bt242.1 t211).bind fun t246 => (if t246 = true then (if (bt242.2 != t214) = true then (none) else ((laws_heldIntS.f k bt233.2 1).bind fun t247 => (if t247 < 0 then (none) else (if t247 = bt233.1 then (some true) else (none))))) else (none)))))) else (none))))) = some r := by rw [if_pos rfl] at H; exact H
              clear H
              have H := H1
              clear H1
              replace H := Option.bind_eq_some_iff.mp H
              obtain ⟨⟨t233, t234⟩, A220, H⟩ := H
              replace H : ((laws_heldIntS.f k t234 1).bind fun t235 => (if t235 < 0 then (none) else (if t235 = t233 then ((laws_toGrowRule.f a0_0 a0_1 a0_2).bind fun bt236 => ((laws_toIntS.f k l2).bind fun t239 => ((impl_ShrinkCaps.f bt236.1 bt236.2.1 bt236.2.2 a1 t239).bind fun bt242 => ((laws_eqIntS.f k bt242.1 t211).bind fun t246 => (if t246 = true then (if (bt242.2 != t214) = true then (none) else ((laws_heldIntS.f k t234 1).bind fun t247 => (if t247 < 0 then (none) else (if t247 = t233 then (some true) else (none))))) else (none)))))) else (none)))) = some r := H
              have A22 := Aside0.mk A220
              clear A220
              replace H := Option.bind_eq_some_iff.mp H
              obtain ⟨t235, A230, H⟩ := H
              replace H : (if t235 < 0 then (none) else (if t235 = t233 then ((laws_toGrowRule.f a0_0 a0_1 a0_2).bind fun bt236 => ((laws_toIntS.f k l2).bind fun t239 => ((impl_ShrinkCaps.f bt236.1 bt236.2.1 bt236.2.2 a1 t239).bind fun bt242 => ((laws_eqIntS.f k bt242.1 t211).bind fun t246 => (if t246 = true then (if (bt242.2 != t214) = true then (none) else ((laws_heldIntS.f k t234 1).bind fun t247 => (if t247 < 0 then (none) else (if t247 = t233 then (some true) else (none))))) else (none)))))) else (none))) = some r := H
              have A23 := Aside0.mk A230
              clear A230
              by_cases c24 : t235 < 0
              · rw [if_pos c24] at H
                exact absurd H (by simp)
              · rw [if_neg c24] at H
                have c24b0 : decide (t235 < 0) = false := decide_eq_false c24
                clear c24
                by_cases c25 : t235 = t233
                · rw [if_pos c25] at H
                  have c25b0 : (t235 == t233) = true := beq_iff_eq.mpr c25
                  have c25b1 : (t235 != t233) = false := bne_eq_false_iff_eq.mpr c25
                  clear c25
                  replace H := Option.bind_eq_some_iff.mp H
                  obtain ⟨⟨t236, t237, t238⟩, A260, H⟩ := H
                  replace H : ((laws_toIntS.f k l2).bind fun t239 => ((impl_ShrinkCaps.f t236 t237 t238 a1 t239).bind fun bt242 => ((laws_eqIntS.f k bt242.1 t211).bind fun t246 => (if t246 = true then (if (bt242.2 != t214) = true then (none) else ((laws_heldIntS.f k t234 1).bind fun t247 => (if t247 < 0 then (none) else (if t247 = t233 then (some true) else (none))))) else (none))))) = some r := H
                  have A26 := Aside0.mk A260
                  clear A260
                  replace H := Option.bind_eq_some_iff.mp H
                  obtain ⟨t239, A270, H⟩ := H
                  replace H : ((impl_ShrinkCaps.f t236 t237 t238 a1 t239).bind fun bt242 => ((laws_eqIntS.f k bt242.1 t211).bind fun t246 => (if t246 = true then (if (bt242.2 != t214) = true then (none) else ((laws_heldIntS.f k t234 1).bind fun t247 => (if t247 < 0 then (none) else (if t247 = t233 then (some true) else (none))))) else (none)))) = some r := H
                  have A27 := Aside0.mk A270
                  clear A270
                  replace H := Option.bind_eq_some_iff.mp H
                  obtain ⟨⟨t242, t245⟩, A280, H⟩ := H
                  replace H : ((laws_eqIntS.f k t242 t211).bind fun t246 => (if t246 = true then (if (t245 != t214) = true then (none) else ((laws_heldIntS.f k t234 1).bind fun t247 => (if t247 < 0 then (none) else (if t247 = t233 then (some true) else (none))))) else (none))) = some r := H
                  have A28 := Aside0.mk A280
                  clear A280
                  replace H := Option.bind_eq_some_iff.mp H
                  obtain ⟨t246, A290, H⟩ := H
                  replace H : (if t246 = true then (if (t245 != t214) = true then (none) else ((laws_heldIntS.f k t234 1).bind fun t247 => (if t247 < 0 then (none) else (if t247 = t233 then (some true) else (none))))) else (none)) = some r := H
                  have A29 := Aside0.mk A290
                  clear A290
                  by_cases c30 : t246 = true
                  · subst c30
                    have H1 : (if (t245 != t214) = true then (none) else ((laws_heldIntS.f k t234 1).bind fun t247 => (if t247 < 0 then (none) else (if t247 = t233 then (some true) else (none))))) = some r := by rw [if_pos rfl] at H; exact H
                    clear H
                    have H := H1
                    clear H1
                    by_cases c31 : (t245 != t214) = true
                    · rw [if_pos c31] at H
                      exact absurd H (by simp)
                    · rw [if_neg c31] at H
                      have c31b0 : (t245 != t214) = false := by simpa using c31
                      (try (have c31b1 : decide (t245 = t214) = true := by simpa using c31))
                      (try (have c31b2 : (t245 == t214) = true := by simpa using c31))
                      clear c31
                      replace H := Option.bind_eq_some_iff.mp H
                      obtain ⟨t247, A320, H⟩ := H
                      replace H : (if t247 < 0 then (none) else (if t247 = t233 then (some true) else (none))) = some r := H
                      have A32 := Aside0.mk A320
                      clear A320
                      by_cases c33 : t247 < 0
                      · rw [if_pos c33] at H
                        exact absurd H (by simp)
                      · rw [if_neg c33] at H
                        have c33b0 : decide (t247 < 0) = false := decide_eq_false c33
                        clear c33
                        by_cases c34 : t247 = t233
                        · rw [if_pos c34] at H
                          have c34b0 : (t247 == t233) = true := beq_iff_eq.mpr c34
                          have c34b1 : (t247 != t233) = false := bne_eq_false_iff_eq.mpr c34
                          clear c34
                          obtain rfl := Option.some.inj H
                          go_enter Try.func6, Try.ntmps6
                          go_wp2_with (first | ((with_reducible refine gate_dst (N := 3) rfl ?_); refine box_event ?hg (N := 3) ?hd (cs := #[.int .i64 a0_0, .int .i64 a0_1, .int .i64 a0_2]) (t := 41) ?hr ?_; (case hd => rfl); (case hg => rfl); (case hr => first | (go_simp; done) | (go_simp; rfl)); intro gb204 hg w35 hbox hb; have n0_ := Aside0.mk (below_step (by repeat (first | (with_reducible first | exact HB.out | apply below_alloc | apply pw_below_drewN | apply below_drew1) | exact HB.out)) hb); have n1_ := Aside0.mk (hbox); have n2_ := Aside0.mk ((by rw [hg]; exact (below_size (by repeat (first | (with_reducible first | exact HB.out | apply below_alloc | apply pw_below_drewN | apply below_drew1) | exact HB.out))) : w.heap.size ≤ gb204)); have n3_ := Aside0.mk ((by rw [hg]; exact (below_size (by repeat (first | (with_reducible first | exact HB.out | apply below_alloc | apply pw_below_drewN | apply below_drew1) | exact HB.out))) : w.heap.size ≤ gb204)); clear HB; have HB := n0_; have BK204 := n1_; have GW204 := n2_; have GE204 := n3_; clear n0_ n1_ n2_ n3_; clear hb hbox hg; have hcz36_0 : w35.cell? ⟨gb204, 0, none⟩ = some (.int .i64 a0_0) := (blk_cell BK204.out 0).trans rfl; have hcz36_1 : w35.cell? ⟨gb204, 1, none⟩ = some (.int .i64 a0_1) := (blk_cell BK204.out 1).trans rfl; have hcz36_2 : w35.cell? ⟨gb204, 2, none⟩ = some (.int .i64 a0_2) := (blk_cell BK204.out 2).trans rfl; have hfz36_0 := blk_frozen BK204.out 0; have hfz36_1 := blk_frozen BK204.out 1; have hfz36_2 := blk_frozen BK204.out 2) | ((with_reducible refine gate_callee (f := 21) rfl ?_); refine goesL_ (some 22) rfl rfl Try.func21 (by kernel_rfl) rfl #[.agg #[.int .i64 a0_0, .int .i64 a0_1, .int .i64 a0_2]] rfl (by (try simp only [List.map_toArray, List.map_cons, List.map_nil]); first | done | rfl | (simp only [List.length_drop, List.length_take]; rfl)) ?_; (with_reducible refine (laws_toGrowRule.calls a0_0 a0_1 a0_2 t205 t206 t207 _ A6.out).mono ?_); rintro e w37 ⟨rfl, hb⟩; refine ⟨_, rfl, ?_⟩; have n0_ := Aside0.mk (blk_below (g := gb204) (o := .cells #[.int .i64 a0_0, .int .i64 a0_1, .int .i64 a0_2] 41 (0, 0)) (by (with_reducible repeat (first | refine blk_drewN ?_ _ | refine blk_drew ?_ | refine blk_alloc ?_ _)); exact BK204.out) hb); have n1_ := Aside0.mk (below_step (by repeat (first | (with_reducible first | exact HB.out | apply below_alloc | apply pw_below_drewN | apply below_drew1 | refine below_set ?_ GE204.out) | exact HB.out)) hb); clear BK204; clear HB; have BK204 := n0_; have HB := n1_; clear n0_ n1_; (try clear hb); (try clear hb2); (try clear hk); (try clear hi)) | ((with_reducible refine gate_callee (f := 22) rfl ?_); refine goesL_ (some 25) rfl rfl Try.func22 (by kernel_rfl) rfl #[.slice A2 l2.length c2] rfl (by (try simp only [List.map_toArray, List.map_cons, List.map_nil]); first | done | rfl | (simp only [List.length_drop, List.length_take]; rfl)) ?_; (with_reducible refine (laws_toIntS.calls k _ _ l2 t208 _ ?side1 ?side2 A7.out).mono ?_); (case side1 => repeat (first | exact (Kd.C_below HR2.out HB.out) | (with_reducible refine Kd.C_alloc ?_ _) | (with_reducible refine Kd.C_drewN ?_ _) | (with_reducible refine Kd.C_drew ?_))); (case side2 => exact HC2.out); rintro e w38 ⟨v209, rfl, ho0, hb⟩; refine ⟨_, rfl, ?_⟩; have n0_ := Aside0.mk (Kd.R_lower ho0 (below_size (by repeat (first | (with_reducible first | exact HB.out | apply below_alloc | apply pw_below_drewN | apply below_drew1 | refine below_set ?_ GE204.out) | exact HB.out)))); have n1_ := Aside0.mk (blk_below (g := gb204) (o := .cells #[.int .i64 a0_0, .int .i64 a0_1, .int .i64 a0_2] 41 (0, 0)) (by (with_reducible repeat (first | refine blk_drewN ?_ _ | refine blk_drew ?_ | refine blk_alloc ?_ _)); exact BK204.out) hb); have n2_ := Aside0.mk (below_step (by repeat (first | (with_reducible first | exact HB.out | apply below_alloc | apply pw_below_drewN | apply below_drew1 | refine below_set ?_ GE204.out) | exact HB.out)) hb); clear BK204; clear HB; have HO210 := n0_; have BK204 := n1_; have HB := n2_; clear n0_ n1_ n2_; (try clear hb); (try clear hb2); (try clear hk); (try clear hi); (try clear ho0); obtain ⟨Ao39, co39, eo39⟩ := Kd.R_slice HO210.out; subst eo39) | ((with_reducible refine gate_callee (f := 29) rfl ?_); refine goesL_ (some 26) rfl rfl Try.func29 (by kernel_rfl) rfl #[.agg #[.int .i64 t205, .int .i64 t206, .int .i64 t207], .int .i64 a1, .slice Ao39 t208.length co39] rfl (by (try simp only [List.map_toArray, List.map_cons, List.map_nil]); first | done | rfl | (simp only [List.length_drop, List.length_take]; rfl)) ?_; (with_reducible refine (spec_ShrinkCaps.calls k t205 t206 t207 a1 _ _ t208 t211 t214 _ ?side1 ?side2 A8.out).mono ?_); (case side1 => repeat (first | exact (Kd.R_reads' HO210.out).2.2 | (with_reducible refine Kd.C_alloc ?_ _) | (with_reducible refine Kd.C_drewN ?_ _) | (with_reducible refine Kd.C_drew ?_))); (case side2 => exact (Kd.R_reads' HO210.out).2.1); rintro e w40 ⟨v212, rfl, ho0, hb⟩; refine ⟨_, rfl, ?_⟩; have n0_ := Aside0.mk (Kd.R_elder' (by (with_reducible repeat (first | apply Kd.R_alloc | apply Kd.R_drewN | apply Kd.R_drew)); exact HO210.out) (Kd.R_base ho0) hb); have n1_ := Aside0.mk (Kd.R_lower (Kd.R_new' ho0 (Kd.R_lt (by (with_reducible repeat (first | apply Kd.R_alloc | apply Kd.R_drewN | apply Kd.R_drew)); exact HO210.out))) (below_size (by repeat (first | (with_reducible first | exact HB.out | apply below_alloc | apply pw_below_drewN | apply below_drew1 | refine below_set ?_ GE204.out) | exact HB.out)))); have n2_ := Aside0.mk (blk_below (g := gb204) (o := .cells #[.int .i64 a0_0, .int .i64 a0_1, .int .i64 a0_2] 41 (0, 0)) (by (with_reducible repeat (first | refine blk_drewN ?_ _ | refine blk_drew ?_ | refine blk_alloc ?_ _)); exact BK204.out) hb); have n3_ := Aside0.mk (below_step (by repeat (first | (with_reducible first | exact HB.out | apply below_alloc | apply pw_below_drewN | apply below_drew1 | refine below_set ?_ GE204.out) | exact HB.out)) hb); clear HO210; clear BK204; clear HB; have HO210 := n0_; have HO213 := n1_; have BK204 := n2_; have HB := n3_; clear n0_ n1_ n2_ n3_; (try clear hb); (try clear hb2); (try clear hk); (try clear hi); (try clear ho0)) | ((with_reducible refine gate_callee (f := 22) rfl ?_); refine goesL_ (some 30) rfl rfl Try.func22 (by kernel_rfl) rfl #[.slice A2 l2.length c2] rfl (by (try simp only [List.map_toArray, List.map_cons, List.map_nil]); first | done | rfl | (simp only [List.length_drop, List.length_take]; rfl)) ?_; (with_reducible refine (laws_toIntS.calls k _ _ l2 t215 _ ?side1 ?side2 A9.out).mono ?_); (case side1 => repeat (first | exact (Kd.C_below HR2.out HB.out) | (with_reducible refine Kd.C_alloc ?_ _) | (with_reducible refine Kd.C_drewN ?_ _) | (with_reducible refine Kd.C_drew ?_))); (case side2 => exact HC2.out); rintro e w41 ⟨v216, rfl, ho0, hb⟩; refine ⟨_, rfl, ?_⟩; have n0_ := Aside0.mk (Kd.R_elder' (by (with_reducible repeat (first | apply Kd.R_alloc | apply Kd.R_drewN | apply Kd.R_drew)); exact HO210.out) (Kd.R_base ho0) hb); have n1_ := Aside0.mk (Kd.R_elder' (by (with_reducible repeat (first | apply Kd.R_alloc | apply Kd.R_drewN | apply Kd.R_drew)); exact HO213.out) (Kd.R_base ho0) hb); have n2_ := Aside0.mk (Kd.R_lower (Kd.R_new' (Kd.R_new' ho0 (Kd.R_lt (by (with_reducible repeat (first | apply Kd.R_alloc | apply Kd.R_drewN | apply Kd.R_drew)); exact HO210.out))) (Kd.R_lt (by (with_reducible repeat (first | apply Kd.R_alloc | apply Kd.R_drewN | apply Kd.R_drew)); exact HO213.out))) (below_size (by repeat (first | (with_reducible first | exact HB.out | apply below_alloc | apply pw_below_drewN | apply below_drew1 | refine below_set ?_ GE204.out) | exact HB.out)))); have n3_ := Aside0.mk (blk_below (g := gb204) (o := .cells #[.int .i64 a0_0, .int .i64 a0_1, .int .i64 a0_2] 41 (0, 0)) (by (with_reducible repeat (first | refine blk_drewN ?_ _ | refine blk_drew ?_ | refine blk_alloc ?_ _)); exact BK204.out) hb); have n4_ := Aside0.mk (below_step (by repeat (first | (with_reducible first | exact HB.out | apply below_alloc | apply pw_below_drewN | apply below_drew1 | refine below_set ?_ GE204.out) | exact HB.out)) hb); clear HO210; clear HO213; clear BK204; clear HB; have HO210 := n0_; have HO213 := n1_; have HO217 := n2_; have BK204 := n3_; have HB := n4_; clear n0_ n1_ n2_ n3_ n4_; (try clear hb); (try clear hb2); (try clear hk); (try clear hi); (try clear ho0); have hcz42_0 : w41.cell? ⟨gb204, 0, none⟩ = some (.int .i64 a0_0) := (blk_cell BK204.out 0).trans rfl; have hcz42_1 : w41.cell? ⟨gb204, 1, none⟩ = some (.int .i64 a0_1) := (blk_cell BK204.out 1).trans rfl; have hcz42_2 : w41.cell? ⟨gb204, 2, none⟩ = some (.int .i64 a0_2) := (blk_cell BK204.out 2).trans rfl; have hfz42_0 := blk_frozen BK204.out 0; have hfz42_1 := blk_frozen BK204.out 1; have hfz42_2 := blk_frozen BK204.out 2) | ((with_reducible refine gate_callee (f := 21) rfl ?_); refine goesL_ (some 33) rfl rfl Try.func21 (by kernel_rfl) rfl #[.agg #[.int .i64 a0_0, .int .i64 a0_1, .int .i64 a0_2]] rfl (by (try simp only [List.map_toArray, List.map_cons, List.map_nil]); first | done | rfl | (simp only [List.length_drop, List.length_take]; rfl)) ?_; (with_reducible refine (laws_toGrowRule.calls a0_0 a0_1 a0_2 t218 t219 t220 _ A10.out).mono ?_); rintro e w43 ⟨rfl, hb⟩; refine ⟨_, rfl, ?_⟩; have n0_ := Aside0.mk (Kd.R_below (by (with_reducible repeat (first | apply Kd.R_alloc | apply Kd.R_drewN | apply Kd.R_drew)); exact HO210.out) hb); have n1_ := Aside0.mk (Kd.R_below (by (with_reducible repeat (first | apply Kd.R_alloc | apply Kd.R_drewN | apply Kd.R_drew)); exact HO213.out) hb); have n2_ := Aside0.mk (Kd.R_below (by (with_reducible repeat (first | apply Kd.R_alloc | apply Kd.R_drewN | apply Kd.R_drew)); exact HO217.out) hb); have n3_ := Aside0.mk (blk_below (g := gb204) (o := .cells #[.int .i64 a0_0, .int .i64 a0_1, .int .i64 a0_2] 41 (0, 0)) (by (with_reducible repeat (first | refine blk_drewN ?_ _ | refine blk_drew ?_ | refine blk_alloc ?_ _)); exact BK204.out) hb); have n4_ := Aside0.mk (below_step (by repeat (first | (with_reducible first | exact HB.out | apply below_alloc | apply pw_below_drewN | apply below_drew1 | refine below_set ?_ GE204.out) | exact HB.out)) hb); clear HO210; clear HO213; clear HO217; clear BK204; clear HB; have HO210 := n0_; have HO213 := n1_; have HO217 := n2_; have BK204 := n3_; have HB := n4_; clear n0_ n1_ n2_ n3_ n4_; (try clear hb); (try clear hb2); (try clear hk); (try clear hi); obtain ⟨Ao44, co44, eo44⟩ := Kd.R_slice HO217.out; subst eo44) | ((with_reducible refine gate_callee (f := 30) rfl ?_); refine goesL_ (some 36) rfl rfl Try.func30 (by kernel_rfl) rfl #[.agg #[.int .i64 t218, .int .i64 t219, .int .i64 t220], .int .i64 a1, .slice Ao44 t215.length co44] rfl (by (try simp only [List.map_toArray, List.map_cons, List.map_nil]); first | done | rfl | (simp only [List.length_drop, List.length_take]; rfl)) ?_; (with_reducible refine (impl_ShrinkCaps.calls t218 t219 t220 a1 _ _ t215 t221 t224 _ ?side1 ?side2 A11.out).mono ?_); (case side1 => repeat (first | exact (Kd.R_reads' HO217.out).2.2 | (with_reducible refine Kd.C_alloc ?_ _) | (with_reducible refine Kd.C_drewN ?_ _) | (with_reducible refine Kd.C_drew ?_))); (case side2 => exact (Kd.R_reads' HO217.out).2.1); rintro e w45 ⟨v222, rfl, ho0, hb⟩; refine ⟨_, rfl, ?_⟩; have n0_ := Aside0.mk (Kd.R_elder' (by (with_reducible repeat (first | apply Kd.R_alloc | apply Kd.R_drewN | apply Kd.R_drew)); exact HO210.out) (Kd.R_base ho0) hb); have n1_ := Aside0.mk (Kd.R_elder' (by (with_reducible repeat (first | apply Kd.R_alloc | apply Kd.R_drewN | apply Kd.R_drew)); exact HO213.out) (Kd.R_base ho0) hb); have n2_ := Aside0.mk (Kd.R_elder' (by (with_reducible repeat (first | apply Kd.R_alloc | apply Kd.R_drewN | apply Kd.R_drew)); exact HO217.out) (Kd.R_base ho0) hb); have n3_ := Aside0.mk (Kd.R_lower (Kd.R_new' (Kd.R_new' (Kd.R_new' ho0 (Kd.R_lt (by (with_reducible repeat (first | apply Kd.R_alloc | apply Kd.R_drewN | apply Kd.R_drew)); exact HO210.out))) (Kd.R_lt (by (with_reducible repeat (first | apply Kd.R_alloc | apply Kd.R_drewN | apply Kd.R_drew)); exact HO213.out))) (Kd.R_lt (by (with_reducible repeat (first | apply Kd.R_alloc | apply Kd.R_drewN | apply Kd.R_drew)); exact HO217.out))) (below_size (by repeat (first | (with_reducible first | exact HB.out | apply below_alloc | apply pw_below_drewN | apply below_drew1 | refine below_set ?_ GE204.out) | exact HB.out)))); have n4_ := Aside0.mk (blk_below (g := gb204) (o := .cells #[.int .i64 a0_0, .int .i64 a0_1, .int .i64 a0_2] 41 (0, 0)) (by (with_reducible repeat (first | refine blk_drewN ?_ _ | refine blk_drew ?_ | refine blk_alloc ?_ _)); exact BK204.out) hb); have n5_ := Aside0.mk (below_step (by repeat (first | (with_reducible first | exact HB.out | apply below_alloc | apply pw_below_drewN | apply below_drew1 | refine below_set ?_ GE204.out) | exact HB.out)) hb); clear HO210; clear HO213; clear HO217; clear BK204; clear HB; have HO210 := n0_; have HO213 := n1_; have HO217 := n2_; have HO223 := n3_; have BK204 := n4_; have HB := n5_; clear n0_ n1_ n2_ n3_ n4_ n5_; (try clear hb); (try clear hb2); (try clear hk); (try clear hi); (try clear ho0); obtain ⟨Ao46, co46, eo46⟩ := Kd.R_slice HO223.out; subst eo46; obtain ⟨Ao47, co47, eo47⟩ := Kd.R_slice HO213.out; subst eo47) | ((with_reducible refine gate_callee (f := 24) rfl ?_); refine goesL_ (some 41) rfl rfl Try.func24 (by kernel_rfl) rfl #[.slice Ao46 t221.length co46, .slice Ao47 t211.length co47] rfl (by (try simp only [List.map_toArray, List.map_cons, List.map_nil]); first | done | rfl | (simp only [List.length_drop, List.length_take]; rfl)) ?_; (with_reducible refine (laws_eqIntS.calls k _ _ t221 _ _ t211 true _ ?side1 ?side2 ?side3 ?side4 A12.out).mono ?_); (case side1 => repeat (first | exact (Kd.R_reads' HO223.out).2.2 | (with_reducible refine Kd.C_alloc ?_ _) | (with_reducible refine Kd.C_drewN ?_ _) | (with_reducible refine Kd.C_drew ?_))); (case side2 => exact (Kd.R_reads' HO223.out).2.1); (case side3 => repeat (first | exact (Kd.R_reads' HO213.out).2.2 | (with_reducible refine Kd.C_alloc ?_ _) | (with_reducible refine Kd.C_drewN ?_ _) | (with_reducible refine Kd.C_drew ?_))); (case side4 => exact (Kd.R_reads' HO213.out).2.1); rintro e w' ⟨rfl, ⟨nd, rfl⟩⟩; refine ⟨_, rfl, ?_⟩) | ((with_reducible refine gate_callee (f := 22) rfl ?_); refine goesL_ (some 50) rfl rfl Try.func22 (by kernel_rfl) rfl #[.slice A2 l2.length c2] rfl (by (try simp only [List.map_toArray, List.map_cons, List.map_nil]); first | done | rfl | (simp only [List.length_drop, List.length_take]; rfl)) ?_; (with_reducible refine (laws_toIntS.calls k _ _ l2 t226 _ ?side1 ?side2 A15.out).mono ?_); (case side1 => repeat (first | exact (Kd.C_below HR2.out (by repeat (first | (with_reducible first | exact HB.out | apply below_alloc | apply pw_below_drewN | apply below_drew1 | refine below_set ?_ GE204.out) | exact HB.out))) | (with_reducible refine Kd.C_alloc ?_ _) | (with_reducible refine Kd.C_drewN ?_ _) | (with_reducible refine Kd.C_drew ?_))); (case side2 => exact HC2.out); rintro e w48 ⟨v227, rfl, ho0, hb⟩; refine ⟨_, rfl, ?_⟩; have n0_ := Aside0.mk (Kd.R_elder' (by (with_reducible repeat (first | apply Kd.R_alloc | apply Kd.R_drewN | apply Kd.R_drew)); exact HO210.out) (Kd.R_base ho0) hb); have n1_ := Aside0.mk (Kd.R_elder' (by (with_reducible repeat (first | apply Kd.R_alloc | apply Kd.R_drewN | apply Kd.R_drew)); exact HO213.out) (Kd.R_base ho0) hb); have n2_ := Aside0.mk (Kd.R_elder' (by (with_reducible repeat (first | apply Kd.R_alloc | apply Kd.R_drewN | apply Kd.R_drew)); exact HO217.out) (Kd.R_base ho0) hb); have n3_ := Aside0.mk (Kd.R_elder' (by (with_reducible repeat (first | apply Kd.R_alloc | apply Kd.R_drewN | apply Kd.R_drew)); exact HO223.out) (Kd.R_base ho0) hb); have n4_ := Aside0.mk (Kd.R_lower (Kd.R_new' (Kd.R_new' (Kd.R_new' (Kd.R_new' ho0 (Kd.R_lt (by (with_reducible repeat (first | apply Kd.R_alloc | apply Kd.R_drewN | apply Kd.R_drew)); exact HO210.out))) (Kd.R_lt (by (with_reducible repeat (first | apply Kd.R_alloc | apply Kd.R_drewN | apply Kd.R_drew)); exact HO213.out))) (Kd.R_lt (by (with_reducible repeat (first | apply Kd.R_alloc | apply Kd.R_drewN | apply Kd.R_drew)); exact HO217.out))) (Kd.R_lt (by (with_reducible repeat (first | apply Kd.R_alloc | apply Kd.R_drewN | apply Kd.R_drew)); exact HO223.out))) (below_size (by repeat (first | (with_reducible first | exact HB.out | apply below_alloc | apply pw_below_drewN | apply below_drew1 | refine below_set ?_ GE204.out) | exact HB.out)))); have n5_ := Aside0.mk (blk_below (g := gb204) (o := .cells #[.int .i64 a0_0, .int .i64 a0_1, .int .i64 a0_2] 41 (0, 0)) (by (with_reducible repeat (first | refine blk_drewN ?_ _ | refine blk_drew ?_ | refine blk_alloc ?_ _)); exact BK204.out) hb); have n6_ := Aside0.mk (below_step (by repeat (first | (with_reducible first | exact HB.out | apply below_alloc | apply pw_below_drewN | apply below_drew1 | refine below_set ?_ GE204.out) | exact HB.out)) hb); clear HO210; clear HO213; clear HO217; clear HO223; clear BK204; clear HB; have HO210 := n0_; have HO213 := n1_; have HO217 := n2_; have HO223 := n3_; have HO228 := n4_; have BK204 := n5_; have HB := n6_; clear n0_ n1_ n2_ n3_ n4_ n5_ n6_; (try clear hb); (try clear hb2); (try clear hk); (try clear hi); (try clear ho0); obtain ⟨Ao49, co49, eo49⟩ := Kd.R_slice HO228.out; subst eo49) | ((with_reducible refine gate_callee (f := 24) rfl ?_); refine goesL_ (some 51) rfl rfl Try.func24 (by kernel_rfl) rfl #[.slice Ao44 t215.length co44, .slice Ao49 t226.length co49] rfl (by (try simp only [List.map_toArray, List.map_cons, List.map_nil]); first | done | rfl | (simp only [List.length_drop, List.length_take]; rfl)) ?_; (with_reducible refine (laws_eqIntS.calls k _ _ t215 _ _ t226 true _ ?side1 ?side2 ?side3 ?side4 A16.out).mono ?_); (case side1 => repeat (first | exact (Kd.R_reads' HO217.out).2.2 | (with_reducible refine Kd.C_alloc ?_ _) | (with_reducible refine Kd.C_drewN ?_ _) | (with_reducible refine Kd.C_drew ?_))); (case side2 => exact (Kd.R_reads' HO217.out).2.1); (case side3 => repeat (first | exact (Kd.R_reads' HO228.out).2.2 | (with_reducible refine Kd.C_alloc ?_ _) | (with_reducible refine Kd.C_drewN ?_ _) | (with_reducible refine Kd.C_drew ?_))); (case side4 => exact (Kd.R_reads' HO228.out).2.1); rintro e w' ⟨rfl, ⟨nd, rfl⟩⟩; refine ⟨_, rfl, ?_⟩) | ((with_reducible refine gate_callee (f := 31) rfl ?_); refine goesL_ (some 55) rfl rfl Try.func31 (by kernel_rfl) rfl #[.slice Ao44 t215.length co44, .int .i64 1] rfl (by (try simp only [List.map_toArray, List.map_cons, List.map_nil]); first | done | rfl | (simp only [List.length_drop, List.length_take]; rfl)) ?_; (with_reducible refine (laws_markIntS.calls k (fun k_ => some k_ = (.slice Ao44 t215.length co44 : Value).ownBlock) (.slice Ao44 t215.length co44) t215 1 t230 t231 w _ ?side1 ?side2 A18.out).mono ?_); (case side1 => repeat (first | (with_reducible first | exact HB.out | apply below_alloc | apply pw_below_drewN | apply below_drew1 | refine below_set ?_ GE204.out) | exact HB.out)); (case side2 => exact Kd.R_tight rfl HO217.out); rintro e w50 ⟨rfl, hy0, hb, hkp⟩; refine ⟨_, rfl, ?_⟩; have n0_ := Aside0.mk (blk_kept (by (with_reducible repeat (first | refine blk_drewN ?_ _ | refine blk_drew ?_ | refine blk_alloc ?_ _)); exact BK204.out) hkp (fun hs_ => (fun e_ => (Kd.R_ne HO217.out BK204.out (by decide)) e_) hs_)); have n1_ := Aside0.mk (Kd.R_mono (ok' := fun k_ => some k_ ≠ (.slice Ao47 t211.length co47 : Value).ownBlock ∧ some k_ ≠ (.slice Ao44 t215.length co44 : Value).ownBlock ∧ some k_ ≠ (.slice Ao46 t221.length co46 : Value).ownBlock ∧ some k_ ≠ (.slice Ao49 t226.length co49 : Value).ownBlock) (Kd.R_keptB (HO210.out) hkp (fun k_ hk_ hs_ => (hk_.1.1.2) hs_)) (fun k_ hk_ => ⟨hk_.1.1.1.1.2, hk_.1.1.1.2, hk_.1.1.2, hk_.1.2⟩)); have n2_ := Aside0.mk (Kd.R_mono (ok' := fun k_ => some k_ ≠ (.slice Ao39 t208.length co39 : Value).ownBlock ∧ some k_ ≠ (.slice Ao44 t215.length co44 : Value).ownBlock ∧ some k_ ≠ (.slice Ao46 t221.length co46 : Value).ownBlock ∧ some k_ ≠ (.slice Ao49 t226.length co49 : Value).ownBlock) (Kd.R_keptB (HO213.out) hkp (fun k_ hk_ hs_ => (hk_.1.1.2) hs_)) (fun k_ hk_ => ⟨hk_.1.1.1.1.2, hk_.1.1.1.2, hk_.1.1.2, hk_.1.2⟩)); have n3_ := Aside0.mk (Kd.R_reok rfl hy0 (fun k_ e_ => HO217.out.1 k_ e_)); have n4_ := Aside0.mk (Kd.R_mono (ok' := fun k_ => some k_ ≠ (.slice Ao39 t208.length co39 : Value).ownBlock ∧ some k_ ≠ (.slice Ao47 t211.length co47 : Value).ownBlock ∧ some k_ ≠ (.slice Ao44 t215.length co44 : Value).ownBlock ∧ some k_ ≠ (.slice Ao49 t226.length co49 : Value).ownBlock) (Kd.R_keptB (HO223.out) hkp (fun k_ hk_ hs_ => (hk_.1.2) hs_)) (fun k_ hk_ => ⟨hk_.1.1.1.1.2, hk_.1.1.1.2, hk_.1.1.2, hk_.1.2⟩)); have n5_ := Aside0.mk (Kd.R_mono (ok' := fun k_ => some k_ ≠ (.slice Ao39 t208.length co39 : Value).ownBlock ∧ some k_ ≠ (.slice Ao47 t211.length co47 : Value).ownBlock ∧ some k_ ≠ (.slice Ao44 t215.length co44 : Value).ownBlock ∧ some k_ ≠ (.slice Ao46 t221.length co46 : Value).ownBlock) (Kd.R_keptB (HO228.out) hkp (fun k_ hk_ hs_ => (hk_.1.2) hs_)) (fun k_ hk_ => ⟨hk_.1.1.1.1.2, hk_.1.1.1.2, hk_.1.1.2, hk_.1.2⟩)); have n6_ := Aside0.mk (hb); clear BK204; clear HO210; clear HO213; clear HO217; clear HO223; clear HO228; clear HB; have BK204 := n0_; have HO210 := n1_; have HO213 := n2_; have HO217 := n3_; have HO223 := n4_; have HO228 := n5_; have HB := n6_; clear n0_ n1_ n2_ n3_ n4_ n5_ n6_; (try clear hb); (try clear hkp); (try clear hy0)) | (go_at_call 24; (with_reducible refine (laws_eqIntS.calls k _ _ t221 _ _ t211 true _ ?side1 ?side2 ?side3 ?side4 A20.out).mono ?_); (case side1 => repeat (first | exact (Kd.R_reads' HO223.out).2.2 | (with_reducible refine Kd.C_alloc ?_ _) | (with_reducible refine Kd.C_drewN ?_ _) | (with_reducible refine Kd.C_drew ?_))); (case side2 => exact (Kd.R_reads' HO223.out).2.1); (case side3 => repeat (first | exact (Kd.R_reads' HO213.out).2.2 | (with_reducible refine Kd.C_alloc ?_ _) | (with_reducible refine Kd.C_drewN ?_ _) | (with_reducible refine Kd.C_drew ?_))); (case side4 => exact (Kd.R_reads' HO213.out).2.1); rintro e w' ⟨rfl, ⟨nd, rfl⟩⟩) | ((with_reducible refine gate_callee (f := 31) rfl ?_); refine goesL_ (some 71) rfl rfl Try.func31 (by kernel_rfl) rfl #[.slice Ao46 t221.length co46, .int .i64 1] rfl (by (try simp only [List.map_toArray, List.map_cons, List.map_nil]); first | done | rfl | (simp only [List.length_drop, List.length_take]; rfl)) ?_; (with_reducible refine (laws_markIntS.calls k (fun k_ => some k_ = (.slice Ao46 t221.length co46 : Value).ownBlock) (.slice Ao46 t221.length co46) t221 1 t233 t234 w _ ?side1 ?side2 A22.out).mono ?_); (case side1 => repeat (first | (with_reducible first | exact HB.out | apply below_alloc | apply pw_below_drewN | apply below_drew1 | refine below_set ?_ GE204.out) | exact HB.out)); (case side2 => exact Kd.R_tight rfl HO223.out); rintro e w51 ⟨rfl, hy0, hb, hkp⟩; refine ⟨_, rfl, ?_⟩; have n0_ := Aside0.mk (blk_kept (by (with_reducible repeat (first | refine blk_drewN ?_ _ | refine blk_drew ?_ | refine blk_alloc ?_ _)); exact BK204.out) hkp (fun hs_ => (fun e_ => (Kd.R_ne HO223.out BK204.out (by decide)) e_) hs_)); have n1_ := Aside0.mk (Kd.R_mono (ok' := fun k_ => some k_ ≠ (.slice Ao47 t211.length co47 : Value).ownBlock ∧ some k_ ≠ (.slice Ao44 t215.length co44 : Value).ownBlock ∧ some k_ ≠ (.slice Ao46 t221.length co46 : Value).ownBlock ∧ some k_ ≠ (.slice Ao49 t226.length co49 : Value).ownBlock) (Kd.R_keptB (HO210.out) hkp (fun k_ hk_ hs_ => (hk_.2.2.1) hs_)) (fun k_ hk_ => ⟨hk_.1.1, hk_.1.2.1, hk_.1.2.2.1, hk_.1.2.2.2⟩)); have n2_ := Aside0.mk (Kd.R_mono (ok' := fun k_ => some k_ ≠ (.slice Ao39 t208.length co39 : Value).ownBlock ∧ some k_ ≠ (.slice Ao44 t215.length co44 : Value).ownBlock ∧ some k_ ≠ (.slice Ao46 t221.length co46 : Value).ownBlock ∧ some k_ ≠ (.slice Ao49 t226.length co49 : Value).ownBlock) (Kd.R_keptB (HO213.out) hkp (fun k_ hk_ hs_ => (hk_.2.2.1) hs_)) (fun k_ hk_ => ⟨hk_.1.1, hk_.1.2.1, hk_.1.2.2.1, hk_.1.2.2.2⟩)); have n3_ := Aside0.mk (Kd.R_mono (ok' := fun k_ => some k_ ≠ (.slice Ao39 t208.length co39 : Value).ownBlock ∧ some k_ ≠ (.slice Ao47 t211.length co47 : Value).ownBlock ∧ some k_ ≠ (.slice Ao46 t221.length co46 : Value).ownBlock ∧ some k_ ≠ (.slice Ao49 t226.length co49 : Value).ownBlock) (Kd.R_keptB (HO217.out) hkp (fun k_ hk_ hs_ => (hk_.1.2) hs_)) (fun k_ hk_ => ⟨hk_.1.1.1.1.2, hk_.1.1.1.2, hk_.1.1.2, hk_.1.2⟩)); have n4_ := Aside0.mk (Kd.R_reok rfl hy0 (fun k_ e_ => HO223.out.1 k_ e_)); have n5_ := Aside0.mk (Kd.R_mono (ok' := fun k_ => some k_ ≠ (.slice Ao39 t208.length co39 : Value).ownBlock ∧ some k_ ≠ (.slice Ao47 t211.length co47 : Value).ownBlock ∧ some k_ ≠ (.slice Ao44 t215.length co44 : Value).ownBlock ∧ some k_ ≠ (.slice Ao46 t221.length co46 : Value).ownBlock) (Kd.R_keptB (HO228.out) hkp (fun k_ hk_ hs_ => (hk_.2.2.2) hs_)) (fun k_ hk_ => ⟨hk_.1.1, hk_.1.2.1, hk_.1.2.2.1, hk_.1.2.2.2⟩)); have n6_ := Aside0.mk (hb); clear BK204; clear HO210; clear HO213; clear HO217; clear HO223; clear HO228; clear HB; have BK204 := n0_; have HO210 := n1_; have HO213 := n2_; have HO217 := n3_; have HO223 := n4_; have HO228 := n5_; have HB := n6_; clear n0_ n1_ n2_ n3_ n4_ n5_ n6_; (try clear hb); (try clear hkp); (try clear hy0)) | ((with_reducible refine gate_callee (f := 32) rfl ?_); refine goesL_ (some 74) rfl rfl Try.func32 (by kernel_rfl) rfl #[.slice Ao46 t234.length co46, .int .i64 1] rfl (by (try simp only [List.map_toArray, List.map_cons, List.map_nil]); first | done | (rw [show t234.length = t221.length from (Kd.R_reads' HO223.out).1.symm] <;> rfl) | rfl | (simp only [List.length_drop, List.length_take]; rfl)) ?_; (with_reducible refine (laws_heldIntS.calls k _ _ t234 1 t235 _ ?side1 ?side2 A23.out).mono ?_); (case side1 => repeat (first | exact (Kd.R_reads' HO223.out).2.2 | (with_reducible refine Kd.C_alloc ?_ _) | (with_reducible refine Kd.C_drewN ?_ _) | (with_reducible refine Kd.C_drew ?_))); (case side2 => rw [show t234.length = t221.length from (Kd.R_reads' HO223.out).1.symm]; exact (Kd.R_reads' HO223.out).2.1); rintro e w' ⟨rfl, ⟨nd, rfl⟩⟩; refine ⟨_, rfl, ?_⟩; have hcz52_0 : w51.cell? ⟨gb204, 0, none⟩ = some (.int .i64 a0_0) := (blk_cell BK204.out 0).trans rfl; have hcz52_1 : w51.cell? ⟨gb204, 1, none⟩ = some (.int .i64 a0_1) := (blk_cell BK204.out 1).trans rfl; have hcz52_2 : w51.cell? ⟨gb204, 2, none⟩ = some (.int .i64 a0_2) := (blk_cell BK204.out 2).trans rfl; have hfz52_0 := blk_frozen BK204.out 0; have hfz52_1 := blk_frozen BK204.out 1; have hfz52_2 := blk_frozen BK204.out 2) | ((with_reducible refine gate_callee (f := 21) rfl ?_); refine goesL_ (some 82) rfl rfl Try.func21 (by kernel_rfl) rfl #[.agg #[.int .i64 a0_0, .int .i64 a0_1, .int .i64 a0_2]] rfl (by (try simp only [List.map_toArray, List.map_cons, List.map_nil]); first | done | rfl | (simp only [List.length_drop, List.length_take]; rfl)) ?_; (with_reducible refine (laws_toGrowRule.calls a0_0 a0_1 a0_2 t236 t237 t238 _ A26.out).mono ?_); rintro e w53 ⟨rfl, hb⟩; refine ⟨_, rfl, ?_⟩; have n0_ := Aside0.mk (Kd.R_below (by (with_reducible repeat (first | apply Kd.R_alloc | apply Kd.R_drewN | apply Kd.R_drew)); exact HO210.out) hb); have n1_ := Aside0.mk (Kd.R_below (by (with_reducible repeat (first | apply Kd.R_alloc | apply Kd.R_drewN | apply Kd.R_drew)); exact HO213.out) hb); have n2_ := Aside0.mk (Kd.R_below (by (with_reducible repeat (first | apply Kd.R_alloc | apply Kd.R_drewN | apply Kd.R_drew)); exact HO217.out) hb); have n3_ := Aside0.mk (Kd.R_below (by (with_reducible repeat (first | apply Kd.R_alloc | apply Kd.R_drewN | apply Kd.R_drew)); exact HO223.out) hb); have n4_ := Aside0.mk (Kd.R_below (by (with_reducible repeat (first | apply Kd.R_alloc | apply Kd.R_drewN | apply Kd.R_drew)); exact HO228.out) hb); have n5_ := Aside0.mk (blk_below (g := gb204) (o := .cells #[.int .i64 a0_0, .int .i64 a0_1, .int .i64 a0_2] 41 (0, 0)) (by (with_reducible repeat (first | refine blk_drewN ?_ _ | refine blk_drew ?_ | refine blk_alloc ?_ _)); exact BK204.out) hb); have n6_ := Aside0.mk (below_step (by repeat (first | (with_reducible first | exact HB.out | apply below_alloc | apply pw_below_drewN | apply below_drew1 | refine below_set ?_ GE204.out) | exact HB.out)) hb); clear HO210; clear HO213; clear HO217; clear HO223; clear HO228; clear BK204; clear HB; have HO210 := n0_; have HO213 := n1_; have HO217 := n2_; have HO223 := n3_; have HO228 := n4_; have BK204 := n5_; have HB := n6_; clear n0_ n1_ n2_ n3_ n4_ n5_ n6_; (try clear hb); (try clear hb2); (try clear hk); (try clear hi)) | ((with_reducible refine gate_callee (f := 22) rfl ?_); refine goesL_ (some 85) rfl rfl Try.func22 (by kernel_rfl) rfl #[.slice A2 l2.length c2] rfl (by (try simp only [List.map_toArray, List.map_cons, List.map_nil]); first | done | rfl | (simp only [List.length_drop, List.length_take]; rfl)) ?_; (with_reducible refine (laws_toIntS.calls k _ _ l2 t239 _ ?side1 ?side2 A27.out).mono ?_); (case side1 => repeat (first | exact (Kd.C_below HR2.out HB.out) | (with_reducible refine Kd.C_alloc ?_ _) | (with_reducible refine Kd.C_drewN ?_ _) | (with_reducible refine Kd.C_drew ?_))); (case side2 => exact HC2.out); rintro e w54 ⟨v240, rfl, ho0, hb⟩; refine ⟨_, rfl, ?_⟩; have n0_ := Aside0.mk (Kd.R_elder' (by (with_reducible repeat (first | apply Kd.R_alloc | apply Kd.R_drewN | apply Kd.R_drew)); exact HO210.out) (Kd.R_base ho0) hb); have n1_ := Aside0.mk (Kd.R_elder' (by (with_reducible repeat (first | apply Kd.R_alloc | apply Kd.R_drewN | apply Kd.R_drew)); exact HO213.out) (Kd.R_base ho0) hb); have n2_ := Aside0.mk (Kd.R_elder' (by (with_reducible repeat (first | apply Kd.R_alloc | apply Kd.R_drewN | apply Kd.R_drew)); exact HO217.out) (Kd.R_base ho0) hb); have n3_ := Aside0.mk (Kd.R_elder' (by (with_reducible repeat (first | apply Kd.R_alloc | apply Kd.R_drewN | apply Kd.R_drew)); exact HO223.out) (Kd.R_base ho0) hb); have n4_ := Aside0.mk (Kd.R_elder' (by (with_reducible repeat (first | apply Kd.R_alloc | apply Kd.R_drewN | apply Kd.R_drew)); exact HO228.out) (Kd.R_base ho0) hb); have n5_ := Aside0.mk (Kd.R_lower (Kd.R_new' (Kd.R_new' (Kd.R_new' (Kd.R_new' (Kd.R_new' ho0 (Kd.R_lt (by (with_reducible repeat (first | apply Kd.R_alloc | apply Kd.R_drewN | apply Kd.R_drew)); exact HO210.out))) (Kd.R_lt (by (with_reducible repeat (first | apply Kd.R_alloc | apply Kd.R_drewN | apply Kd.R_drew)); exact HO213.out))) (Kd.R_lt (by (with_reducible repeat (first | apply Kd.R_alloc | apply Kd.R_drewN | apply Kd.R_drew)); exact HO217.out))) (Kd.R_lt (by (with_reducible repeat (first | apply Kd.R_alloc | apply Kd.R_drewN | apply Kd.R_drew)); exact HO223.out))) (Kd.R_lt (by (with_reducible repeat (first | apply Kd.R_alloc | apply Kd.R_drewN | apply Kd.R_drew)); exact HO228.out))) (below_size (by repeat (first | (with_reducible first | exact HB.out | apply below_alloc | apply pw_below_drewN | apply below_drew1 | refine below_set ?_ GE204.out) | exact HB.out)))); have n6_ := Aside0.mk (blk_below (g := gb204) (o := .cells #[.int .i64 a0_0, .int .i64 a0_1, .int .i64 a0_2] 41 (0, 0)) (by (with_reducible repeat (first | refine blk_drewN ?_ _ | refine blk_drew ?_ | refine blk_alloc ?_ _)); exact BK204.out) hb); have n7_ := Aside0.mk (below_step (by repeat (first | (with_reducible first | exact HB.out | apply below_alloc | apply pw_below_drewN | apply below_drew1 | refine below_set ?_ GE204.out) | exact HB.out)) hb); clear HO210; clear HO213; clear HO217; clear HO223; clear HO228; clear BK204; clear HB; have HO210 := n0_; have HO213 := n1_; have HO217 := n2_; have HO223 := n3_; have HO228 := n4_; have HO241 := n5_; have BK204 := n6_; have HB := n7_; clear n0_ n1_ n2_ n3_ n4_ n5_ n6_ n7_; (try clear hb); (try clear hb2); (try clear hk); (try clear hi); (try clear ho0); obtain ⟨Ao55, co55, eo55⟩ := Kd.R_slice HO241.out; subst eo55) | ((with_reducible refine gate_callee (f := 30) rfl ?_); refine goesL_ (some 86) rfl rfl Try.func30 (by kernel_rfl) rfl #[.agg #[.int .i64 t236, .int .i64 t237, .int .i64 t238], .int .i64 a1, .slice Ao55 t239.length co55] rfl (by (try simp only [List.map_toArray, List.map_cons, List.map_nil]); first | done | rfl | (simp only [List.length_drop, List.length_take]; rfl)) ?_; (with_reducible refine (impl_ShrinkCaps.calls t236 t237 t238 a1 _ _ t239 t242 t245 _ ?side1 ?side2 A28.out).mono ?_); (case side1 => repeat (first | exact (Kd.R_reads' HO241.out).2.2 | (with_reducible refine Kd.C_alloc ?_ _) | (with_reducible refine Kd.C_drewN ?_ _) | (with_reducible refine Kd.C_drew ?_))); (case side2 => exact (Kd.R_reads' HO241.out).2.1); rintro e w56 ⟨v243, rfl, ho0, hb⟩; refine ⟨_, rfl, ?_⟩; have n0_ := Aside0.mk (Kd.R_elder' (by (with_reducible repeat (first | apply Kd.R_alloc | apply Kd.R_drewN | apply Kd.R_drew)); exact HO210.out) (Kd.R_base ho0) hb); have n1_ := Aside0.mk (Kd.R_elder' (by (with_reducible repeat (first | apply Kd.R_alloc | apply Kd.R_drewN | apply Kd.R_drew)); exact HO213.out) (Kd.R_base ho0) hb); have n2_ := Aside0.mk (Kd.R_elder' (by (with_reducible repeat (first | apply Kd.R_alloc | apply Kd.R_drewN | apply Kd.R_drew)); exact HO217.out) (Kd.R_base ho0) hb); have n3_ := Aside0.mk (Kd.R_elder' (by (with_reducible repeat (first | apply Kd.R_alloc | apply Kd.R_drewN | apply Kd.R_drew)); exact HO223.out) (Kd.R_base ho0) hb); have n4_ := Aside0.mk (Kd.R_elder' (by (with_reducible repeat (first | apply Kd.R_alloc | apply Kd.R_drewN | apply Kd.R_drew)); exact HO228.out) (Kd.R_base ho0) hb); have n5_ := Aside0.mk (Kd.R_elder' (by (with_reducible repeat (first | apply Kd.R_alloc | apply Kd.R_drewN | apply Kd.R_drew)); exact HO241.out) (Kd.R_base ho0) hb); have n6_ := Aside0.mk (Kd.R_lower (Kd.R_new' (Kd.R_new' (Kd.R_new' (Kd.R_new' (Kd.R_new' (Kd.R_new' ho0 (Kd.R_lt (by (with_reducible repeat (first | apply Kd.R_alloc | apply Kd.R_drewN | apply Kd.R_drew)); exact HO210.out))) (Kd.R_lt (by (with_reducible repeat (first | apply Kd.R_alloc | apply Kd.R_drewN | apply Kd.R_drew)); exact HO213.out))) (Kd.R_lt (by (with_reducible repeat (first | apply Kd.R_alloc | apply Kd.R_drewN | apply Kd.R_drew)); exact HO217.out))) (Kd.R_lt (by (with_reducible repeat (first | apply Kd.R_alloc | apply Kd.R_drewN | apply Kd.R_drew)); exact HO223.out))) (Kd.R_lt (by (with_reducible repeat (first | apply Kd.R_alloc | apply Kd.R_drewN | apply Kd.R_drew)); exact HO228.out))) (Kd.R_lt (by (with_reducible repeat (first | apply Kd.R_alloc | apply Kd.R_drewN | apply Kd.R_drew)); exact HO241.out))) (below_size (by repeat (first | (with_reducible first | exact HB.out | apply below_alloc | apply pw_below_drewN | apply below_drew1 | refine below_set ?_ GE204.out) | exact HB.out)))); have n7_ := Aside0.mk (blk_below (g := gb204) (o := .cells #[.int .i64 a0_0, .int .i64 a0_1, .int .i64 a0_2] 41 (0, 0)) (by (with_reducible repeat (first | refine blk_drewN ?_ _ | refine blk_drew ?_ | refine blk_alloc ?_ _)); exact BK204.out) hb); have n8_ := Aside0.mk (below_step (by repeat (first | (with_reducible first | exact HB.out | apply below_alloc | apply pw_below_drewN | apply below_drew1 | refine below_set ?_ GE204.out) | exact HB.out)) hb); clear HO210; clear HO213; clear HO217; clear HO223; clear HO228; clear HO241; clear BK204; clear HB; have HO210 := n0_; have HO213 := n1_; have HO217 := n2_; have HO223 := n3_; have HO228 := n4_; have HO241 := n5_; have HO244 := n6_; have BK204 := n7_; have HB := n8_; clear n0_ n1_ n2_ n3_ n4_ n5_ n6_ n7_ n8_; (try clear hb); (try clear hb2); (try clear hk); (try clear hi); (try clear ho0); obtain ⟨Ao57, co57, eo57⟩ := Kd.R_slice HO244.out; subst eo57) | ((with_reducible refine gate_callee (f := 24) rfl ?_); refine goesL_ (some 91) rfl rfl Try.func24 (by kernel_rfl) rfl #[.slice Ao57 t242.length co57, .slice Ao47 t211.length co47] rfl (by (try simp only [List.map_toArray, List.map_cons, List.map_nil]); first | done | rfl | (simp only [List.length_drop, List.length_take]; rfl)) ?_; (with_reducible refine (laws_eqIntS.calls k _ _ t242 _ _ t211 true _ ?side1 ?side2 ?side3 ?side4 A29.out).mono ?_); (case side1 => repeat (first | exact (Kd.R_reads' HO244.out).2.2 | (with_reducible refine Kd.C_alloc ?_ _) | (with_reducible refine Kd.C_drewN ?_ _) | (with_reducible refine Kd.C_drew ?_))); (case side2 => exact (Kd.R_reads' HO244.out).2.1); (case side3 => repeat (first | exact (Kd.R_reads' HO213.out).2.2 | (with_reducible refine Kd.C_alloc ?_ _) | (with_reducible refine Kd.C_drewN ?_ _) | (with_reducible refine Kd.C_drew ?_))); (case side4 => exact (Kd.R_reads' HO213.out).2.1); rintro e w' ⟨rfl, ⟨nd, rfl⟩⟩; refine ⟨_, rfl, ?_⟩) | ((with_reducible refine gate_callee (f := 32) rfl ?_); refine goesL_ (some 100) rfl rfl Try.func32 (by kernel_rfl) rfl #[.slice Ao46 t234.length co46, .int .i64 1] rfl (by (try simp only [List.map_toArray, List.map_cons, List.map_nil]); first | done | (rw [show t234.length = t221.length from (Kd.R_reads' HO223.out).1.symm] <;> rfl) | rfl | (simp only [List.length_drop, List.length_take]; rfl)) ?_; (with_reducible refine (laws_heldIntS.calls k _ _ t234 1 t247 _ ?side1 ?side2 A32.out).mono ?_); (case side1 => repeat (first | exact (Kd.R_reads' HO223.out).2.2 | (with_reducible refine Kd.C_alloc ?_ _) | (with_reducible refine Kd.C_drewN ?_ _) | (with_reducible refine Kd.C_drew ?_))); (case side2 => rw [show t234.length = t221.length from (Kd.R_reads' HO223.out).1.symm]; exact (Kd.R_reads' HO223.out).2.1); rintro e w' ⟨rfl, ⟨nd, rfl⟩⟩; refine ⟨_, rfl, ?_⟩))
                          go_ret
                          exact ⟨by first | rfl | (simp [errW_none, errW_some] <;> rfl) | (simp [*, errW_none, errW_some] <;> rfl), by repeat (first | (with_reducible first | exact HB.out | apply below_alloc | apply pw_below_drewN | apply below_drew1 | refine below_set ?_ GE204.out) | exact HB.out)⟩
                        · rw [if_neg c34] at H
                          exact absurd H (by simp)
                  · replace c30 := Bool.eq_false_iff.mpr c30
                    subst c30
                    have H1 : (none) = some r := by rw [if_neg (show ¬ (false = true) by decide)] at H; exact H
                    clear H
                    have H := H1
                    clear H1
                    exact absurd H (by simp)
                · rw [if_neg c25] at H
                  exact absurd H (by simp)
            · replace c21 := Bool.eq_false_iff.mpr c21
              subst c21
              have H1 : (none) = some r := by rw [if_neg (show ¬ (false = true) by decide)] at H; exact H
              clear H
              have H := H1
              clear H1
              exact absurd H (by simp)
        · replace c17 := Bool.eq_false_iff.mpr c17
          subst c17
          have H1 : (none) = some r := by rw [if_neg (show ¬ (false = true) by decide)] at H; exact H
          clear H
          have H := H1
          clear H1
          exact absurd H (by simp)
    · replace c13 := Bool.eq_false_iff.mpr c13
      subst c13
      have H1 : (none) = some r := by rw [if_neg (show ¬ (false = true) by decide)] at H; exact H
      clear H
      have H := H1
      clear H1
      exact absurd H (by simp)

end Go.Proofs.Ytdojnaghcfhadaa.PFnExactShrinkCaps
