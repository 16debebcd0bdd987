/- What is proved here: each Go function that is named below answers, and leaves memory, as the theorem of its name says; no condition beyond those that each theorem states. Laid by this session's own program (wip/driver.py) over the kit's print. -/
import Derived.Test.YtkifenbcepicjabPFnGrowthx0
import Derived.Test.YtkifenbcepicjabPFnGrowthx2
namespace Go.Proofs.Ytkifenbcepicjab.PFnGrowth
open Go.RowKit Go.Proofs.YtkifenbcepicjabW.PrintWords Go.Proofs.YtkifenbcepicjabW.PrintLast Go.Proofs.YtkifenbcepicjabW.PrintMore
attribute [local go_sem] max2_int min2_int max_two min_two max_three min_three max_four min_four   -- for this text's walks alone
set_option linter.unusedVariables false
set_option linter.unusedSimpArgs false

/-! ### spec_l4Do: function 119 -/
mutual
def spec_l4Do.j0 : Nat → Int → Bool → Int → Int → Int → List Int → Int → Int → Int → Int → Int → Option (List Int × Int × Int × Int × Int × Int × Bool)
  | 0, _, _, _, _, _, _, _, _, _, _, _ => none
  | k + 1, x3, x23, x197000, x197001, x197002, x198000, x198001, x198002, x198003, x198004, x198005 => if x23 = true then (some (x198000, x198001, x198002, x198003, x198004, x198005, false)) else ((spec_l4Next.f x197000 x197001 x197002 x198004 x198005 x3).bind fun t201 => (if t201 > x198005 then ((spec_l1Most.f x198003 (wrap64 (t201 - (wrap64 (x198004 + x3))))).bind fun t202 => ((spec_l4Size.f t201).bind fun t203 => (some (x198000, wrap64 (x198001 + 1), wrap64 ((wrap64 (x198002 + x198004)) + x3), t202, wrap64 (x198004 + x3), t201, t203)))) else ((spec_l1Most.f x198003 (wrap64 (x198005 - (wrap64 (x198004 + x3))))).bind fun t204 => ((spec_l4Size.f x198005).bind fun t205 => (some (x198000, x198001, wrap64 (x198002 + x3), t204, wrap64 (x198004 + x3), x198005, t205))))))
def spec_l4Do.j1 : Nat → Int → Int → Bool → List Int → Int → Int → Int → Int → Int → Option (List Int × Int × Int × Int × Int × Int × Bool)
  | 0, _, _, _, _, _, _, _, _, _ => none
  | k + 1, x1, x3, x66, x198000, x198001, x198002, x198003, x198004, x198005 => if x66 = true then (some (x198000, x198001, x198002, x198003, x198004, x198005, false)) else (if x198005 ≥ (wrap64 (x1 * (wrap64 (x198004 + x3)))) then (spec_l4Do.j2 k (decide (x198005 > 1)) x198000 x198001 x198002 x198003 (wrap64 (x198004 + x3)) x198005) else (spec_l4Do.j2 k false x198000 x198001 x198002 x198003 (wrap64 (x198004 + x3)) x198005))
def spec_l4Do.j2 : Nat → Bool → List Int → Int → Int → Int → Int → Int → Option (List Int × Int × Int × Int × Int × Int × Bool)
  | 0, _, _, _, _, _, _, _ => none
  | k + 1, x84, x198000, x198001, x198002, x198003, x198004, x198005 => if x84 = true then ((spec_l1Most.f (wrap64 (Int.tdiv x198005 2)) x198004).bind fun t206 => ((spec_l1Most.f x198003 (wrap64 (t206 - x198004))).bind fun t207 => ((spec_l4Size.f t206).bind fun t208 => (some (x198000, wrap64 (x198001 + 1), wrap64 (x198002 + x198004), t207, x198004, t206, t208))))) else ((spec_l1Most.f x198003 (wrap64 (x198005 - x198004))).bind fun t209 => ((spec_l4Size.f x198005).bind fun t210 => (some (x198000, x198001, x198002, t209, x198004, x198005, t210))))
end
def spec_l4Do.f (k : Nat) (a0_0 : Int) (a0_1 : Int) (a0_2 : Int) (a1 : Int) (l2_0 : List Int) (a2_1 : Int) (a2_2 : Int) (a2_3 : Int) (a2_4 : Int) (a2_5 : Int) (a3 : Int) : Option (List Int × Int × Int × Int × Int × Int × Bool) := if a3 ≥ 0 then ((spec_l4Size.f a3).bind fun t199 => (if t199 = true then ((spec_l4Size.f (wrap64 (a2_4 + a3))).bind fun t200 => (spec_l4Do.j0 k a3 (!t200) a0_0 a0_1 a0_2 l2_0 a2_1 a2_2 a2_3 a2_4 a2_5)) else (spec_l4Do.j0 k a3 true a0_0 a0_1 a0_2 l2_0 a2_1 a2_2 a2_3 a2_4 a2_5))) else (if a1 = 0 then (spec_l4Do.j1 k a1 a3 true l2_0 a2_1 a2_2 a2_3 a2_4 a2_5) else (spec_l4Do.j1 k a1 a3 (decide ((wrap64 (a2_4 + a3)) < 0)) l2_0 a2_1 a2_2 a2_3 a2_4 a2_5))
theorem spec_l4Do.mono_l : ∀ k, (∀ y0 y1 y2 y3 y4 y5 y6 y7 y8 y9 y10, LeO (spec_l4Do.j0 k y0 y1 y2 y3 y4 y5 y6 y7 y8 y9 y10) (spec_l4Do.j0 (k + 1) y0 y1 y2 y3 y4 y5 y6 y7 y8 y9 y10)) ∧ (∀ y0 y1 y2 y3 y4 y5 y6 y7 y8, LeO (spec_l4Do.j1 k y0 y1 y2 y3 y4 y5 y6 y7 y8) (spec_l4Do.j1 (k + 1) y0 y1 y2 y3 y4 y5 y6 y7 y8)) ∧ (∀ y0 y1 y2 y3 y4 y5 y6, LeO (spec_l4Do.j2 k y0 y1 y2 y3 y4 y5 y6) (spec_l4Do.j2 (k + 1) y0 y1 y2 y3 y4 y5 y6))
  | 0 => ⟨fun _ _ _ _ _ _ _ _ _ _ _ r h => by simp [spec_l4Do.j0] at h, fun _ _ _ _ _ _ _ _ _ r h => by simp [spec_l4Do.j1] at h, fun _ _ _ _ _ _ _ r h => by simp [spec_l4Do.j2] at h⟩
  | k + 1 => by
    obtain ⟨ih0, ih1, ih2⟩ := spec_l4Do.mono_l k
    refine ⟨?_, ?_, ?_⟩
    · intro y0 y1 y2 y3 y4 y5 y6 y7 y8 y9 y10
      unfold spec_l4Do.j0
      repeat' first
      | (with_reducible exact ih0 _ _ _ _ _ _ _ _ _ _ _)
      | (with_reducible exact ih1 _ _ _ _ _ _ _ _ _)
      | (with_reducible exact ih2 _ _ _ _ _ _ _)
      | (with_reducible exact LeO.refl _)
      | (with_reducible exact LeO.none _)
      | (with_reducible refine LeO.ite ?_ ?_)
      | (with_reducible refine LeO.bind ?_ (fun _ => ?_))
      | exact ih0 _ _ _ _ _ _ _ _ _ _ _
      | exact ih1 _ _ _ _ _ _ _ _ _
      | exact ih2 _ _ _ _ _ _ _
      | exact LeO.none _
      | refine LeO.ite ?_ ?_
      | refine LeO.bind ?_ (fun _ => ?_)
    · intro y0 y1 y2 y3 y4 y5 y6 y7 y8
      unfold spec_l4Do.j1
      repeat' first
      | (with_reducible exact ih0 _ _ _ _ _ _ _ _ _ _ _)
      | (with_reducible exact ih1 _ _ _ _ _ _ _ _ _)
      | (with_reducible exact ih2 _ _ _ _ _ _ _)
      | (with_reducible exact LeO.refl _)
      | (with_reducible exact LeO.none _)
      | (with_reducible refine LeO.ite ?_ ?_)
      | (with_reducible refine LeO.bind ?_ (fun _ => ?_))
      | exact ih0 _ _ _ _ _ _ _ _ _ _ _
      | exact ih1 _ _ _ _ _ _ _ _ _
      | exact ih2 _ _ _ _ _ _ _
      | exact LeO.none _
      | refine LeO.ite ?_ ?_
      | refine LeO.bind ?_ (fun _ => ?_)
    · intro y0 y1 y2 y3 y4 y5 y6
      unfold spec_l4Do.j2
      repeat' first
      | (with_reducible exact ih0 _ _ _ _ _ _ _ _ _ _ _)
      | (with_reducible exact ih1 _ _ _ _ _ _ _ _ _)
      | (with_reducible exact ih2 _ _ _ _ _ _ _)
      | (with_reducible exact LeO.refl _)
      | (with_reducible exact LeO.none _)
      | (with_reducible refine LeO.ite ?_ ?_)
      | (with_reducible refine LeO.bind ?_ (fun _ => ?_))
      | exact ih0 _ _ _ _ _ _ _ _ _ _ _
      | exact ih1 _ _ _ _ _ _ _ _ _
      | exact ih2 _ _ _ _ _ _ _
      | exact LeO.none _
      | refine LeO.ite ?_ ?_
      | refine LeO.bind ?_ (fun _ => ?_)
theorem spec_l4Do.mono : ∀ a0 a1 a2 a3 a4 a5 a6 a7 a8 a9 a10 k, LeO (spec_l4Do.f k a0 a1 a2 a3 a4 a5 a6 a7 a8 a9 a10) (spec_l4Do.f (k + 1) a0 a1 a2 a3 a4 a5 a6 a7 a8 a9 a10) := by
  intro a0 a1 a2 a3 a4 a5 a6 a7 a8 a9 a10 k
  obtain ⟨ih0, ih1, ih2⟩ := spec_l4Do.mono_l k
  unfold spec_l4Do.f
  repeat' first
      | (with_reducible exact ih0 _ _ _ _ _ _ _ _ _ _ _)
      | (with_reducible exact ih1 _ _ _ _ _ _ _ _ _)
      | (with_reducible exact ih2 _ _ _ _ _ _ _)
      | (with_reducible exact LeO.refl _)
      | (with_reducible exact LeO.none _)
      | (with_reducible refine LeO.ite ?_ ?_)
      | (with_reducible refine LeO.bind ?_ (fun _ => ?_))
      | exact ih0 _ _ _ _ _ _ _ _ _ _ _
      | exact ih1 _ _ _ _ _ _ _ _ _
      | exact ih2 _ _ _ _ _ _ _
      | exact LeO.none _
      | refine LeO.ite ?_ ?_
      | refine LeO.bind ?_ (fun _ => ?_)
set_option maxHeartbeats 8000000 in
set_option maxRecDepth 100000 in
theorem spec_l4Do.calls (k : Nat) (a0_0 : Int) (a0_1 : Int) (a0_2 : Int) (a1 : Int) (P2_0_ : Nat → Prop) (u9000_ : Value) (l2_0 : List Int) (a2_1 : Int) (a2_2 : Int) (a2_3 : Int) (a2_4 : Int) (a2_5 : Int) (a3 : Int) (r1 : List Int) (r2 : Int) (r3 : Int) (r4 : Int) (r5 : Int) (r6 : Int) (r7 : Bool) (w0 w : World) (hB : Below w0.heap.size w0 w) (ho2_0 : Kd.R (Kd.int .i64) 3 w w0.heap.size P2_0_ u9000_ l2_0) (h : spec_l4Do.f k a0_0 a0_1 a0_2 a1 l2_0 a2_1 a2_2 a2_3 a2_4 a2_5 a3 = some (r1, r2, r3, r4, r5, r6, r7)) :
    Calls Try.prog 119 #[.agg #[.int .i64 a0_0, .int .i64 a0_1, .int .i64 a0_2], .int .i64 a1, .agg #[u9000_, .int .i64 a2_1, .int .i64 a2_2, .int .i64 a2_3, .int .i64 a2_4, .int .i64 a2_5], .int .i64 a3] w fun e w' => ∃ v0_ : Value, e = .returned (.tuple #[.agg #[v0_, .int .i64 r2, .int .i64 r3, .int .i64 r4, .int .i64 r5, .int .i64 r6], .bool r7]) ∧ Kd.R (Kd.int .i64) 3 w' w0.heap.size (fun k_ => (P2_0_ k_ ∨ w.heap.size ≤ k_)) v0_ r1 ∧ Below w0.heap.size w0 w' ∧ Kept w w' (fun k_ => P2_0_ k_) := by
  have hu60 := Try.underlying60
  have hu115 := Try.underlying115
  have HO2_0 := Aside0.mk (show Kd.R (Kd.int .i64) 3 w w0.heap.size (fun k_ => (P2_0_ k_ ∨ w.heap.size ≤ k_)) u9000_ l2_0 from Kd.R_mono ho2_0 (fun k_ hk => (.inl hk)))
  have HK := Aside0.mk (Kept.refl w (fun k_ => P2_0_ k_))
  have HW0 := Aside0.mk hB.size
  have HB := Aside0.mk hB
  clear hB
  have H : (if a3 ≥ 0 then ((spec_l4Size.f a3).bind fun t199 => (if t199 = true then ((spec_l4Size.f (wrap64 (a2_4 + a3))).bind fun t200 => (spec_l4Do.j0 k a3 (!t200) a0_0 a0_1 a0_2 l2_0 a2_1 a2_2 a2_3 a2_4 a2_5)) else (spec_l4Do.j0 k a3 true a0_0 a0_1 a0_2 l2_0 a2_1 a2_2 a2_3 a2_4 a2_5))) else (if a1 = 0 then (spec_l4Do.j1 k a1 a3 true l2_0 a2_1 a2_2 a2_3 a2_4 a2_5) else (spec_l4Do.j1 k a1 a3 (decide ((wrap64 (a2_4 + a3)) < 0)) l2_0 a2_1 a2_2 a2_3 a2_4 a2_5))) = some (r1, r2, r3, r4, r5, r6, r7) := h
  clear h
  by_cases c5 : a3 ≥ 0
  · rw [if_pos c5] at H
    have c5b0 : decide (0 ≤ a3) = true := decide_eq_true c5
    clear c5
    have HC6 := Aside0.mk H
    clear H
    go_enter Try.func119, Try.ntmps119
    go_upto_region 2 with (first | ((with_reducible refine gate_dst (N := 4) rfl ?_); refine box_event ?hg (N := 4) ?hd (cs := #[.int .i64 a0_0, .int .i64 a0_1, .int .i64 a0_2]) (t := 60) ?hr ?_; (case hd => rfl); (case hg => rfl); (case hr => first | (go_simp; done) | (go_simp; rfl)); intro gb196 hg w7 hbox hb; have n0_ := Aside0.mk (Kd.R_below (by (with_reducible repeat (first | apply Kd.R_alloc | apply Kd.R_drewN | apply Kd.R_drew)); exact HO2_0.out) hb); have n1_ := Aside0.mk (Kept.below (S := (fun k_ => P2_0_ k_)) (by repeat (first | (with_reducible first | exact HK.out | apply Kept.alloc | apply Kept.drewN | apply Kept.drew) | exact HK.out)) hb); have n2_ := Aside0.mk (below_step (by repeat (first | (with_reducible first | exact HB.out | apply below_alloc | apply pw_below_drewN | apply below_drew1) | exact HB.out)) hb); have n3_ := Aside0.mk (hbox); have n4_ := Aside0.mk ((by rw [hg]; exact (by first | exact HK.out.1 | exact (show Kept w _ (fun k_ => P2_0_ k_) from by repeat (first | (with_reducible first | exact HK.out | apply Kept.alloc | apply Kept.drewN | apply Kept.drew) | exact HK.out)).1) : w.heap.size ≤ gb196)); have n5_ := Aside0.mk ((by rw [hg]; exact (below_size (by repeat (first | (with_reducible first | exact HB.out | apply below_alloc | apply pw_below_drewN | apply below_drew1) | exact HB.out))) : w0.heap.size ≤ gb196)); clear HO2_0; clear HK; clear HB; have HO2_0 := n0_; have HK := n1_; have HB := n2_; have BK196 := n3_; have GW196 := n4_; have GE196 := n5_; clear n0_ n1_ n2_ n3_ n4_ n5_; clear hb hbox hg; obtain ⟨Ao8, co8, eo8⟩ := Kd.R_slice HO2_0.out; subst eo8) | ((with_reducible refine gate_dst (N := 6) rfl ?_); refine box_event ?hg (N := 6) ?hd (cs := #[.slice Ao8 l2_0.length co8, .int .i64 a2_1, .int .i64 a2_2, .int .i64 a2_3, .int .i64 a2_4, .int .i64 a2_5]) (t := 115) ?hr ?_; (case hd => rfl); (case hg => rfl); (case hr => first | (go_simp; done) | (go_simp; rfl)); intro gb197 hg w9 hbox hb; have n0_ := Aside0.mk (Kd.R_below (by (with_reducible repeat (first | apply Kd.R_alloc | apply Kd.R_drewN | apply Kd.R_drew)); exact HO2_0.out) hb); have n1_ := Aside0.mk (blk_below (g := gb196) (o := .cells #[.int .i64 a0_0, .int .i64 a0_1, .int .i64 a0_2] 60 (0, 0)) (by (with_reducible repeat (first | refine blk_drewN ?_ _ | refine blk_drew ?_ | refine blk_alloc ?_ _)); exact BK196.out) hb); have n2_ := Aside0.mk (Kept.below (S := (fun k_ => P2_0_ k_)) (by repeat (first | (with_reducible first | exact HK.out | apply Kept.alloc | apply Kept.drewN | apply Kept.drew | refine Kept.setCell ?_ (.inr GW196.out) _) | exact HK.out)) hb); have n3_ := Aside0.mk (below_step (by repeat (first | (with_reducible first | exact HB.out | apply below_alloc | apply pw_below_drewN | apply below_drew1 | refine below_set ?_ GE196.out) | exact HB.out)) hb); have n4_ := Aside0.mk (hbox); have n5_ := Aside0.mk ((by rw [hg]; exact (by first | exact HK.out.1 | exact (show Kept w _ (fun k_ => P2_0_ k_) from by repeat (first | (with_reducible first | exact HK.out | apply Kept.alloc | apply Kept.drewN | apply Kept.drew | refine Kept.setCell ?_ (.inr GW196.out) _) | exact HK.out)).1) : w.heap.size ≤ gb197)); have n6_ := Aside0.mk ((by rw [hg]; exact (below_size (by repeat (first | (with_reducible first | exact HB.out | apply below_alloc | apply pw_below_drewN | apply below_drew1 | refine below_set ?_ GE196.out) | exact HB.out))) : w0.heap.size ≤ gb197)); have n7_ := Aside0.mk ((by rw [hg]; exact Nat.ne_of_lt (blk_lt (g := gb196) (o := .cells #[.int .i64 a0_0, .int .i64 a0_1, .int .i64 a0_2] 60 (0, 0)) (by (with_reducible repeat (first | refine blk_drewN ?_ _ | refine blk_drew ?_ | refine blk_alloc ?_ _)); exact BK196.out)) : gb196 ≠ gb197)); have n8_ := Aside0.mk ((by rw [hg]; exact Nat.ne_of_gt (blk_lt (g := gb196) (o := .cells #[.int .i64 a0_0, .int .i64 a0_1, .int .i64 a0_2] 60 (0, 0)) (by (with_reducible repeat (first | refine blk_drewN ?_ _ | refine blk_drew ?_ | refine blk_alloc ?_ _)); exact BK196.out)) : gb197 ≠ gb196)); clear HO2_0; clear BK196; clear HK; clear HB; have HO2_0 := n0_; have BK196 := n1_; have HK := n2_; have HB := n3_; have BK197 := n4_; have GW197 := n5_; have GE197 := n6_; have NB196_197 := n7_; have NB197_196 := n8_; clear n0_ n1_ n2_ n3_ n4_ n5_ n6_ n7_ n8_; clear hb hbox hg) | ((with_reducible refine gate_dst (N := 8) rfl ?_); refine box_event ?hg (N := 8) ?hd (cs := #[.slice none 0 0, .int .i64 0, .int .i64 0, .int .i64 0, .int .i64 0, .int .i64 0]) (t := 115) ?hr ?_; (case hd => rfl); (case hg => rfl); (case hr => first | (go_simp; done) | (go_simp; rfl)); intro gb198 hg w10 hbox hb; have n0_ := Aside0.mk (Kd.R_below (by (with_reducible repeat (first | apply Kd.R_alloc | apply Kd.R_drewN | apply Kd.R_drew)); exact HO2_0.out) hb); have n1_ := Aside0.mk (blk_below (g := gb196) (o := .cells #[.int .i64 a0_0, .int .i64 a0_1, .int .i64 a0_2] 60 (0, 0)) (by (with_reducible repeat (first | refine blk_drewN ?_ _ | refine blk_drew ?_ | refine blk_alloc ?_ _)); exact BK196.out) hb); have n2_ := Aside0.mk (blk_below (g := gb197) (o := .cells #[.slice Ao8 l2_0.length co8, .int .i64 a2_1, .int .i64 a2_2, .int .i64 a2_3, .int .i64 a2_4, .int .i64 a2_5] 115 (0, 0)) (by (with_reducible repeat (first | refine blk_drewN ?_ _ | refine blk_drew ?_ | refine blk_alloc ?_ _)); exact BK197.out) hb); have n3_ := Aside0.mk (Kept.below (S := (fun k_ => P2_0_ k_)) (by repeat (first | (with_reducible first | exact HK.out | apply Kept.alloc | apply Kept.drewN | apply Kept.drew | refine Kept.setCell ?_ (.inr GW196.out) _ | refine Kept.setCell ?_ (.inr GW197.out) _) | exact HK.out)) hb); have n4_ := Aside0.mk (below_step (by repeat (first | (with_reducible first | exact HB.out | apply below_alloc | apply pw_below_drewN | apply below_drew1 | refine below_set ?_ GE196.out | refine below_set ?_ GE197.out) | exact HB.out)) hb); have n5_ := Aside0.mk (hbox); have n6_ := Aside0.mk ((by rw [hg]; exact (by first | exact HK.out.1 | exact (show Kept w _ (fun k_ => P2_0_ k_) from by repeat (first | (with_reducible first | exact HK.out | apply Kept.alloc | apply Kept.drewN | apply Kept.drew | refine Kept.setCell ?_ (.inr GW196.out) _ | refine Kept.setCell ?_ (.inr GW197.out) _) | exact HK.out)).1) : w.heap.size ≤ gb198)); have n7_ := Aside0.mk ((by rw [hg]; exact (below_size (by repeat (first | (with_reducible first | exact HB.out | apply below_alloc | apply pw_below_drewN | apply below_drew1 | refine below_set ?_ GE196.out | refine below_set ?_ GE197.out) | exact HB.out))) : w0.heap.size ≤ gb198)); have n8_ := Aside0.mk ((by rw [hg]; exact Nat.ne_of_lt (blk_lt (g := gb196) (o := .cells #[.int .i64 a0_0, .int .i64 a0_1, .int .i64 a0_2] 60 (0, 0)) (by (with_reducible repeat (first | refine blk_drewN ?_ _ | refine blk_drew ?_ | refine blk_alloc ?_ _)); exact BK196.out)) : gb196 ≠ gb198)); have n9_ := Aside0.mk ((by rw [hg]; exact Nat.ne_of_gt (blk_lt (g := gb196) (o := .cells #[.int .i64 a0_0, .int .i64 a0_1, .int .i64 a0_2] 60 (0, 0)) (by (with_reducible repeat (first | refine blk_drewN ?_ _ | refine blk_drew ?_ | refine blk_alloc ?_ _)); exact BK196.out)) : gb198 ≠ gb196)); have n10_ := Aside0.mk ((by rw [hg]; exact Nat.ne_of_lt (blk_lt (g := gb197) (o := .cells #[.slice Ao8 l2_0.length co8, .int .i64 a2_1, .int .i64 a2_2, .int .i64 a2_3, .int .i64 a2_4, .int .i64 a2_5] 115 (0, 0)) (by (with_reducible repeat (first | refine blk_drewN ?_ _ | refine blk_drew ?_ | refine blk_alloc ?_ _)); exact BK197.out)) : gb197 ≠ gb198)); have n11_ := Aside0.mk ((by rw [hg]; exact Nat.ne_of_gt (blk_lt (g := gb197) (o := .cells #[.slice Ao8 l2_0.length co8, .int .i64 a2_1, .int .i64 a2_2, .int .i64 a2_3, .int .i64 a2_4, .int .i64 a2_5] 115 (0, 0)) (by (with_reducible repeat (first | refine blk_drewN ?_ _ | refine blk_drew ?_ | refine blk_alloc ?_ _)); exact BK197.out)) : gb198 ≠ gb197)); clear HO2_0; clear BK196; clear BK197; clear HK; clear HB; have HO2_0 := n0_; have BK196 := n1_; have BK197 := n2_; have HK := n3_; have HB := n4_; have BK198 := n5_; have GW198 := n6_; have GE198 := n7_; have NB196_198 := n8_; have NB198_196 := n9_; have NB197_198 := n10_; have NB198_197 := n11_; clear n0_ n1_ n2_ n3_ n4_ n5_ n6_ n7_ n8_ n9_ n10_ n11_; clear hb hbox hg))
    (try simp only [Act.put, List.setIfInBounds_toArray, List.set_cons_zero, List.set_cons_succ])
    go_cut [23] (fun v23 wc => ∃ (kq : Nat) (x23_5 : Bool), v23 = .bool x23_5 ∧ Aside0 (spec_l4Do.j0 kq a3 x23_5 a0_0 a0_1 a0_2 l2_0 a2_1 a2_2 a2_3 a2_4 a2_5 = some (r1, r2, r3, r4, r5, r6, r7)) ∧ Aside0 (kq ≤ k) ∧ Aside0 (Kd.R (Kd.int .i64) 3 wc w0.heap.size (fun k_ => (P2_0_ k_ ∨ w.heap.size ≤ k_)) (.slice Ao8 l2_0.length co8) l2_0) ∧ Aside0 (wc.heap[gb196]? = some (.cells #[.int .i64 a0_0, .int .i64 a0_1, .int .i64 a0_2] 60 (0, 0))) ∧ Aside0 (wc.heap[gb197]? = some (.cells #[(.slice Ao8 l2_0.length co8), .int .i64 a2_1, .int .i64 a2_2, .int .i64 a2_3, .int .i64 a2_4, .int .i64 a2_5] 115 (0, 0))) ∧ Aside0 (wc.heap[gb198]? = some (.cells #[(.slice none 0 0), .int .i64 0, .int .i64 0, .int .i64 0, .int .i64 0, .int .i64 0] 115 (0, 0))) ∧ Aside0 (Kept w wc (fun k_ => P2_0_ k_)) ∧ Aside0 (Below w0.heap.size w0 wc))
    case first =>
      have H := HC6.out
      clear HC6
      replace H := Option.bind_eq_some_iff.mp H
      obtain ⟨t199, A110, H⟩ := H
      replace H : (if t199 = true then ((spec_l4Size.f (wrap64 (a2_4 + a3))).bind fun t200 => (spec_l4Do.j0 k a3 (!t200) a0_0 a0_1 a0_2 l2_0 a2_1 a2_2 a2_3 a2_4 a2_5)) else (spec_l4Do.j0 k a3 true a0_0 a0_1 a0_2 l2_0 a2_1 a2_2 a2_3 a2_4 a2_5)) = some (r1, r2, r3, r4, r5, r6, r7) := H
      have A11 := Aside0.mk A110
      clear A110
      by_cases c12 : t199 = true
      · subst c12
        have H1 : ((spec_l4Size.f (wrap64 (a2_4 + a3))).bind fun t200 => (spec_l4Do.j0 k a3 (!t200) a0_0 a0_1 a0_2 l2_0 a2_1 a2_2 a2_3 a2_4 a2_5)) = some (r1, r2, r3, r4, r5, r6, r7) := by rw [if_pos rfl] at H; exact H
        clear H
        have H := H1
        clear H1
        replace H := Option.bind_eq_some_iff.mp H
        obtain ⟨t200, A130, H⟩ := H
        replace H : (spec_l4Do.j0 k a3 (!t200) a0_0 a0_1 a0_2 l2_0 a2_1 a2_2 a2_3 a2_4 a2_5) = some (r1, r2, r3, r4, r5, r6, r7) := H
        have A13 := Aside0.mk A130
        clear A130
        have H' := Aside0.mk H
        clear H
        go_wp2_with (first | ((with_reducible refine gate_callee (f := 89) rfl ?_); refine goesL_ (some 14) rfl rfl Try.func89 (by kernel_rfl) rfl #[.int .i64 a3] rfl (by (try simp only [List.map_toArray, List.map_cons, List.map_nil]); first | done | rfl | (simp only [List.length_drop, List.length_take]; rfl)) ?_; (with_reducible refine (spec_l4Size.calls a3 true _ A11.out).mono ?_); rintro e w' ⟨rfl, ⟨nd, rfl⟩⟩; refine ⟨_, rfl, ?_⟩; have hnb14 := NB197_196.out; have hnc14 := NB196_197.out; have hnb15 := NB197_198.out; have hnc15 := NB198_197.out; have hcz16_0 : w10.cell? ⟨gb197, 0, none⟩ = some (.slice Ao8 l2_0.length co8) := (blk_cell BK197.out 0).trans rfl; have hcz16_1 : w10.cell? ⟨gb197, 1, none⟩ = some (.int .i64 a2_1) := (blk_cell BK197.out 1).trans rfl; have hcz16_2 : w10.cell? ⟨gb197, 2, none⟩ = some (.int .i64 a2_2) := (blk_cell BK197.out 2).trans rfl; have hcz16_3 : w10.cell? ⟨gb197, 3, none⟩ = some (.int .i64 a2_3) := (blk_cell BK197.out 3).trans rfl; have hcz16_4 : w10.cell? ⟨gb197, 4, none⟩ = some (.int .i64 a2_4) := (blk_cell BK197.out 4).trans rfl; have hcz16_5 : w10.cell? ⟨gb197, 5, none⟩ = some (.int .i64 a2_5) := (blk_cell BK197.out 5).trans rfl; have hfz16_0 := blk_frozen BK197.out 0; have hfz16_1 := blk_frozen BK197.out 1; have hfz16_2 := blk_frozen BK197.out 2; have hfz16_3 := blk_frozen BK197.out 3; have hfz16_4 := blk_frozen BK197.out 4; have hfz16_5 := blk_frozen BK197.out 5) | (go_at_call 89; (with_reducible refine (spec_l4Size.calls (wrap64 (a2_4 + a3)) t200 _ A13.out).mono ?_); rintro e w' ⟨rfl, ⟨nd, rfl⟩⟩))
        go_meet
        case rel => exact ⟨_, (!t200), (by first | rfl | (simp; done) | (simp [*]; done)), H', ⟨by first | omega | exact Nat.le_refl _⟩, ⟨by (with_reducible repeat (first | apply Kd.R_alloc | apply Kd.R_drewN | apply Kd.R_drew)); exact HO2_0.out⟩, ⟨by (with_reducible repeat (first | refine blk_drewN ?_ _ | refine blk_drew ?_ | refine blk_alloc ?_ _)); exact BK196.out⟩, ⟨by (with_reducible repeat (first | refine blk_drewN ?_ _ | refine blk_drew ?_ | refine blk_alloc ?_ _)); exact BK197.out⟩, ⟨by (with_reducible repeat (first | refine blk_drewN ?_ _ | refine blk_drew ?_ | refine blk_alloc ?_ _)); exact BK198.out⟩, ⟨by repeat (first | (with_reducible first | exact HK.out | apply Kept.alloc | apply Kept.drewN | apply Kept.drew | refine Kept.setCell ?_ (.inr GW196.out) _ | refine Kept.setCell ?_ (.inr GW197.out) _ | refine Kept.setCell ?_ (.inr GW198.out) _) | exact HK.out)⟩, ⟨by repeat (first | (with_reducible first | exact HB.out | apply below_alloc | apply pw_below_drewN | apply below_drew1 | refine below_set ?_ GE196.out | refine below_set ?_ GE197.out | refine below_set ?_ GE198.out) | exact HB.out)⟩⟩
      · replace c12 := Bool.eq_false_iff.mpr c12
        subst c12
        have H1 : (spec_l4Do.j0 k a3 true a0_0 a0_1 a0_2 l2_0 a2_1 a2_2 a2_3 a2_4 a2_5) = some (r1, r2, r3, r4, r5, r6, r7) := by rw [if_neg (show ¬ (false = true) by decide)] at H; exact H
        clear H
        have H := H1
        clear H1
        have H' := Aside0.mk H
        clear H
        go_wp2_with (first | ((with_reducible refine gate_callee (f := 89) rfl ?_); refine goesL_ (some 14) rfl rfl Try.func89 (by kernel_rfl) rfl #[.int .i64 a3] rfl (by (try simp only [List.map_toArray, List.map_cons, List.map_nil]); first | done | rfl | (simp only [List.length_drop, List.length_take]; rfl)) ?_; (with_reducible refine (spec_l4Size.calls a3 false _ A11.out).mono ?_); rintro e w' ⟨rfl, ⟨nd, rfl⟩⟩; refine ⟨_, rfl, ?_⟩))
        go_meet
        case rel => exact ⟨_, (true), (by first | rfl | (simp; done) | (simp [*]; done)), H', ⟨by first | omega | exact Nat.le_refl _⟩, ⟨by (with_reducible repeat (first | apply Kd.R_alloc | apply Kd.R_drewN | apply Kd.R_drew)); exact HO2_0.out⟩, ⟨by (with_reducible repeat (first | refine blk_drewN ?_ _ | refine blk_drew ?_ | refine blk_alloc ?_ _)); exact BK196.out⟩, ⟨by (with_reducible repeat (first | refine blk_drewN ?_ _ | refine blk_drew ?_ | refine blk_alloc ?_ _)); exact BK197.out⟩, ⟨by (with_reducible repeat (first | refine blk_drewN ?_ _ | refine blk_drew ?_ | refine blk_alloc ?_ _)); exact BK198.out⟩, ⟨by repeat (first | (with_reducible first | exact HK.out | apply Kept.alloc | apply Kept.drewN | apply Kept.drew | refine Kept.setCell ?_ (.inr GW196.out) _ | refine Kept.setCell ?_ (.inr GW197.out) _ | refine Kept.setCell ?_ (.inr GW198.out) _) | exact HK.out)⟩, ⟨by repeat (first | (with_reducible first | exact HB.out | apply below_alloc | apply pw_below_drewN | apply below_drew1 | refine below_set ?_ GE196.out | refine below_set ?_ GE197.out | refine below_set ?_ GE198.out) | exact HB.out)⟩⟩
    case rest =>
      clear HC6
      try clear c1
      try clear p2
      try clear c5
      try clear c5b0
      try clear p6
      try clear c8
      try clear c11
      try clear c12
      try clear c14
      try clear c15
      try clear hcz16_0
      try clear hcz16_1
      try clear hcz16_2
      try clear hcz16_3
      try clear hcz16_4
      try clear hcz16_5
      try clear hfz16_0
      try clear hfz16_1
      try clear hfz16_2
      try clear hfz16_3
      try clear hfz16_4
      try clear hfz16_5
      obtain ⟨kq, x23_5, rfl, HA, HJ5, HO_198000, BK196, BK197, BK198, HK, HB⟩ := hcut
      cases kq with
      | zero => exact absurd HA.out (by simp [spec_l4Do.j0])
      | succ kj5 =>
        have H := HA.out
        clear HA
        simp only [spec_l4Do.j0] at H
        by_cases c17 : x23_5 = true
        · subst c17
          have H1 : (some (l2_0, a2_1, a2_2, a2_3, a2_4, a2_5, false)) = some (r1, r2, r3, r4, r5, r6, r7) := by rw [if_pos rfl] at H; exact H
          clear H
          have H := H1
          clear H1
          simp only [Option.some.injEq, Prod.mk.injEq] at H
          obtain ⟨rfl, rfl, rfl, rfl, rfl, rfl, rfl⟩ := H
          have hnb18 := NB197_196.out
          have hnc18 := NB196_197.out
          have hnb19 := NB197_198.out
          have hnc19 := NB198_197.out
          have hcz20_0 : wc.cell? ⟨gb197, 0, none⟩ = some (.slice Ao8 l2_0.length co8) := (blk_cell BK197.out 0).trans rfl
          have hcz20_1 : wc.cell? ⟨gb197, 1, none⟩ = some (.int .i64 a2_1) := (blk_cell BK197.out 1).trans rfl
          have hcz20_2 : wc.cell? ⟨gb197, 2, none⟩ = some (.int .i64 a2_2) := (blk_cell BK197.out 2).trans rfl
          have hcz20_3 : wc.cell? ⟨gb197, 3, none⟩ = some (.int .i64 a2_3) := (blk_cell BK197.out 3).trans rfl
          have hcz20_4 : wc.cell? ⟨gb197, 4, none⟩ = some (.int .i64 a2_4) := (blk_cell BK197.out 4).trans rfl
          have hcz20_5 : wc.cell? ⟨gb197, 5, none⟩ = some (.int .i64 a2_5) := (blk_cell BK197.out 5).trans rfl
          have hfz20_0 := blk_frozen BK197.out 0
          have hfz20_1 := blk_frozen BK197.out 1
          have hfz20_2 := blk_frozen BK197.out 2
          have hfz20_3 := blk_frozen BK197.out 3
          have hfz20_4 := blk_frozen BK197.out 4
          have hfz20_5 := blk_frozen BK197.out 5
          have hnb21 := NB198_196.out
          have hnc21 := NB196_198.out
          have hcz22_0 : wc.cell? ⟨gb198, 0, none⟩ = some (.slice none 0 0) := (blk_cell BK198.out 0).trans rfl
          have hcz22_1 : wc.cell? ⟨gb198, 1, none⟩ = some (.int .i64 0) := (blk_cell BK198.out 1).trans rfl
          have hcz22_2 : wc.cell? ⟨gb198, 2, none⟩ = some (.int .i64 0) := (blk_cell BK198.out 2).trans rfl
          have hcz22_3 : wc.cell? ⟨gb198, 3, none⟩ = some (.int .i64 0) := (blk_cell BK198.out 3).trans rfl
          have hcz22_4 : wc.cell? ⟨gb198, 4, none⟩ = some (.int .i64 0) := (blk_cell BK198.out 4).trans rfl
          have hcz22_5 : wc.cell? ⟨gb198, 5, none⟩ = some (.int .i64 0) := (blk_cell BK198.out 5).trans rfl
          have hfz22_0 := blk_frozen BK198.out 0
          have hfz22_1 := blk_frozen BK198.out 1
          have hfz22_2 := blk_frozen BK198.out 2
          have hfz22_3 := blk_frozen BK198.out 3
          have hfz22_4 := blk_frozen BK198.out 4
          have hfz22_5 := blk_frozen BK198.out 5
          go_wp2
          refine bodyPost_ret (results_ct rfl _ _ gb198 115 #[.slice Ao8 l2_0.length co8, .int .i64 a2_1, .int .i64 a2_2, .int .i64 a2_3, .int .i64 a2_4, .int .i64 a2_5] (0, 0) _ rfl (by (with_reducible repeat (first | refine blk_drewN ?_ _ | refine blk_drew ?_ | refine blk_alloc ?_ _)); refine blk_put (cs := #[.slice Ao8 l2_0.length co8, .int .i64 a2_1, .int .i64 a2_2, .int .i64 a2_3, .int .i64 a2_4, .int .i64 0]) ?_ 5 _ rfl; (with_reducible repeat (first | refine blk_drewN ?_ _ | refine blk_drew ?_ | refine blk_alloc ?_ _)); refine blk_put (cs := #[.slice Ao8 l2_0.length co8, .int .i64 a2_1, .int .i64 a2_2, .int .i64 a2_3, .int .i64 0, .int .i64 0]) ?_ 4 _ rfl; (with_reducible repeat (first | refine blk_drewN ?_ _ | refine blk_drew ?_ | refine blk_alloc ?_ _)); refine blk_put (cs := #[.slice Ao8 l2_0.length co8, .int .i64 a2_1, .int .i64 a2_2, .int .i64 0, .int .i64 0, .int .i64 0]) ?_ 3 _ rfl; (with_reducible repeat (first | refine blk_drewN ?_ _ | refine blk_drew ?_ | refine blk_alloc ?_ _)); refine blk_put (cs := #[.slice Ao8 l2_0.length co8, .int .i64 a2_1, .int .i64 0, .int .i64 0, .int .i64 0, .int .i64 0]) ?_ 2 _ rfl; (with_reducible repeat (first | refine blk_drewN ?_ _ | refine blk_drew ?_ | refine blk_alloc ?_ _)); refine blk_put (cs := #[.slice Ao8 l2_0.length co8, .int .i64 0, .int .i64 0, .int .i64 0, .int .i64 0, .int .i64 0]) ?_ 1 _ rfl; (with_reducible repeat (first | refine blk_drewN ?_ _ | refine blk_drew ?_ | refine blk_alloc ?_ _)); refine blk_put (cs := #[.slice none 0 0, .int .i64 0, .int .i64 0, .int .i64 0, .int .i64 0, .int .i64 0]) ?_ 0 _ rfl; (with_reducible repeat (first | refine blk_drewN ?_ _ | refine blk_drew ?_ | refine blk_alloc ?_ _)); exact BK198.out) Try.underlying115 rfl (by kernel_rfl)) rfl ?_
          exact ⟨_, by first | rfl | (simp [errW_none, errW_some] <;> rfl) | (simp [*, errW_none, errW_some] <;> rfl), by (with_reducible repeat (first | apply Kd.R_alloc | apply Kd.R_drewN | apply Kd.R_drew)); exact Kd.R_mono (Kd.R_far (p := ⟨gb198, 5, none⟩) (Kd.R_far (p := ⟨gb198, 4, none⟩) (Kd.R_far (p := ⟨gb198, 3, none⟩) (Kd.R_far (p := ⟨gb198, 2, none⟩) (Kd.R_far (p := ⟨gb198, 1, none⟩) (Kd.R_far (p := ⟨gb198, 0, none⟩) (Kd.R_types HO_198000.out BK198.out (by decide)) (fun _ hk => hk.2) (.slice Ao8 l2_0.length co8)) (fun _ hk => hk.2) (.int .i64 a2_1)) (fun _ hk => hk.2) (.int .i64 a2_2)) (fun _ hk => hk.2) (.int .i64 a2_3)) (fun _ hk => hk.2) (.int .i64 a2_4)) (fun _ hk => hk.2) (.int .i64 a2_5)) (fun _ hk => hk.1), by repeat (first | (with_reducible first | exact HB.out | apply below_alloc | apply pw_below_drewN | apply below_drew1 | refine below_set ?_ GE196.out | refine below_set ?_ GE197.out | refine below_set ?_ GE198.out) | exact HB.out), by repeat (first | (with_reducible first | exact HK.out | apply Kept.alloc | apply Kept.drewN | apply Kept.drew | refine Kept.setCell ?_ (.inr GW196.out) _ | refine Kept.setCell ?_ (.inr GW197.out) _ | refine Kept.setCell ?_ (.inr GW198.out) _) | exact HK.out)⟩
        · replace c17 := Bool.eq_false_iff.mpr c17
          subst c17
          have H1 : ((spec_l4Next.f a0_0 a0_1 a0_2 a2_4 a2_5 a3).bind fun t201 => (if t201 > a2_5 then ((spec_l1Most.f a2_3 (wrap64 (t201 - (wrap64 (a2_4 + a3))))).bind fun t202 => ((spec_l4Size.f t201).bind fun t203 => (some (l2_0, wrap64 (a2_1 + 1), wrap64 ((wrap64 (a2_2 + a2_4)) + a3), t202, wrap64 (a2_4 + a3), t201, t203)))) else ((spec_l1Most.f a2_3 (wrap64 (a2_5 - (wrap64 (a2_4 + a3))))).bind fun t204 => ((spec_l4Size.f a2_5).bind fun t205 => (some (l2_0, a2_1, wrap64 (a2_2 + a3), t204, wrap64 (a2_4 + a3), a2_5, t205)))))) = some (r1, r2, r3, r4, r5, r6, r7) := by rw [if_neg (show ¬ (false = true) by decide)] at H; exact H
          clear H
          have H := H1
          clear H1
          replace H := Option.bind_eq_some_iff.mp H
          obtain ⟨t201, A230, H⟩ := H
          replace H : (if t201 > a2_5 then ((spec_l1Most.f a2_3 (wrap64 (t201 - (wrap64 (a2_4 + a3))))).bind fun t202 => ((spec_l4Size.f t201).bind fun t203 => (some (l2_0, wrap64 (a2_1 + 1), wrap64 ((wrap64 (a2_2 + a2_4)) + a3), t202, wrap64 (a2_4 + a3), t201, t203)))) else ((spec_l1Most.f a2_3 (wrap64 (a2_5 - (wrap64 (a2_4 + a3))))).bind fun t204 => ((spec_l4Size.f a2_5).bind fun t205 => (some (l2_0, a2_1, wrap64 (a2_2 + a3), t204, wrap64 (a2_4 + a3), a2_5, t205))))) = some (r1, r2, r3, r4, r5, r6, r7) := H
          have A23 := Aside0.mk A230
          clear A230
          by_cases c24 : t201 > a2_5
          · rw [if_pos c24] at H
            have c24b0 : decide (a2_5 < t201) = true := decide_eq_true c24
            clear c24
            replace H := Option.bind_eq_some_iff.mp H
            obtain ⟨t202, A250, H⟩ := H
            replace H : ((spec_l4Size.f t201).bind fun t203 => (some (l2_0, wrap64 (a2_1 + 1), wrap64 ((wrap64 (a2_2 + a2_4)) + a3), t202, wrap64 (a2_4 + a3), t201, t203))) = some (r1, r2, r3, r4, r5, r6, r7) := H
            have A25 := Aside0.mk A250
            clear A250
            replace H := Option.bind_eq_some_iff.mp H
            obtain ⟨t203, A260, H⟩ := H
            replace H : (some (l2_0, wrap64 (a2_1 + 1), wrap64 ((wrap64 (a2_2 + a2_4)) + a3), t202, wrap64 (a2_4 + a3), t201, t203)) = some (r1, r2, r3, r4, r5, r6, r7) := H
            have A26 := Aside0.mk A260
            clear A260
            simp only [Option.some.injEq, Prod.mk.injEq] at H
            obtain ⟨rfl, rfl, rfl, rfl, rfl, rfl, rfl⟩ := H
            have hnb27 := NB196_197.out
            have hnc27 := NB197_196.out
            have hnb28 := NB196_198.out
            have hnc28 := NB198_196.out
            have hcz29_0 : wc.cell? ⟨gb196, 0, none⟩ = some (.int .i64 a0_0) := (blk_cell BK196.out 0).trans rfl
            have hcz29_1 : wc.cell? ⟨gb196, 1, none⟩ = some (.int .i64 a0_1) := (blk_cell BK196.out 1).trans rfl
            have hcz29_2 : wc.cell? ⟨gb196, 2, none⟩ = some (.int .i64 a0_2) := (blk_cell BK196.out 2).trans rfl
            have hfz29_0 := blk_frozen BK196.out 0
            have hfz29_1 := blk_frozen BK196.out 1
            have hfz29_2 := blk_frozen BK196.out 2
            have hnb30 := NB197_198.out
            have hnc30 := NB198_197.out
            have hcz31_0 : wc.cell? ⟨gb197, 0, none⟩ = some (.slice Ao8 l2_0.length co8) := (blk_cell BK197.out 0).trans rfl
            have hcz31_1 : wc.cell? ⟨gb197, 1, none⟩ = some (.int .i64 a2_1) := (blk_cell BK197.out 1).trans rfl
            have hcz31_2 : wc.cell? ⟨gb197, 2, none⟩ = some (.int .i64 a2_2) := (blk_cell BK197.out 2).trans rfl
            have hcz31_3 : wc.cell? ⟨gb197, 3, none⟩ = some (.int .i64 a2_3) := (blk_cell BK197.out 3).trans rfl
            have hcz31_4 : wc.cell? ⟨gb197, 4, none⟩ = some (.int .i64 a2_4) := (blk_cell BK197.out 4).trans rfl
            have hcz31_5 : wc.cell? ⟨gb197, 5, none⟩ = some (.int .i64 a2_5) := (blk_cell BK197.out 5).trans rfl
            have hfz31_0 := blk_frozen BK197.out 0
            have hfz31_1 := blk_frozen BK197.out 1
            have hfz31_2 := blk_frozen BK197.out 2
            have hfz31_3 := blk_frozen BK197.out 3
            have hfz31_4 := blk_frozen BK197.out 4
            have hfz31_5 := blk_frozen BK197.out 5
            try go_wp2_with (first | ((with_reducible refine gate_callee (f := 90) rfl ?_); refine goesL_ (some 31) rfl rfl Try.func90 (by kernel_rfl) rfl #[.agg #[.int .i64 a0_0, .int .i64 a0_1, .int .i64 a0_2], .int .i64 a2_4, .int .i64 a2_5, .int .i64 a3] rfl (by (try simp only [List.map_toArray, List.map_cons, List.map_nil]); first | done | rfl | (simp only [List.length_drop, List.length_take]; rfl)) ?_; (with_reducible refine (spec_l4Next.calls a0_0 a0_1 a0_2 a2_4 a2_5 a3 t201 _ A23.out).mono ?_); rintro e w32 ⟨rfl, hb⟩; refine ⟨_, rfl, ?_⟩; have n0_ := Aside0.mk (Kd.R_below (by (with_reducible repeat (first | apply Kd.R_alloc | apply Kd.R_drewN | apply Kd.R_drew)); exact HO_198000.out) hb); have n1_ := Aside0.mk (blk_below (g := gb196) (o := .cells #[.int .i64 a0_0, .int .i64 a0_1, .int .i64 a0_2] 60 (0, 0)) (by (with_reducible repeat (first | refine blk_drewN ?_ _ | refine blk_drew ?_ | refine blk_alloc ?_ _)); exact BK196.out) hb); have n2_ := Aside0.mk (blk_below (g := gb197) (o := .cells #[.slice Ao8 l2_0.length co8, .int .i64 a2_1, .int .i64 a2_2, .int .i64 a2_3, .int .i64 a2_4, .int .i64 a2_5] 115 (0, 0)) (by (with_reducible repeat (first | refine blk_drewN ?_ _ | refine blk_drew ?_ | refine blk_alloc ?_ _)); exact BK197.out) hb); have n3_ := Aside0.mk (blk_below (g := gb198) (o := .cells #[.slice none 0 0, .int .i64 0, .int .i64 0, .int .i64 0, .int .i64 0, .int .i64 0] 115 (0, 0)) (by (with_reducible repeat (first | refine blk_drewN ?_ _ | refine blk_drew ?_ | refine blk_alloc ?_ _)); exact BK198.out) hb); have n4_ := Aside0.mk (Kept.below (S := (fun k_ => P2_0_ k_)) (by repeat (first | (with_reducible first | exact HK.out | apply Kept.alloc | apply Kept.drewN | apply Kept.drew | refine Kept.setCell ?_ (.inr GW196.out) _ | refine Kept.setCell ?_ (.inr GW197.out) _ | refine Kept.setCell ?_ (.inr GW198.out) _) | exact HK.out)) hb); have n5_ := Aside0.mk (below_step (by repeat (first | (with_reducible first | exact HB.out | apply below_alloc | apply pw_below_drewN | apply below_drew1 | refine below_set ?_ GE196.out | refine below_set ?_ GE197.out | refine below_set ?_ GE198.out) | exact HB.out)) hb); clear HO_198000; clear BK196; clear BK197; clear BK198; clear HK; clear HB; have HO_198000 := n0_; have BK196 := n1_; have BK197 := n2_; have BK198 := n3_; have HK := n4_; have HB := n5_; clear n0_ n1_ n2_ n3_ n4_ n5_; (try clear hb); (try clear hb2); (try clear hk); (try clear hi); have hcz33_0 : w32.cell? ⟨gb197, 0, none⟩ = some (.slice Ao8 l2_0.length co8) := (blk_cell BK197.out 0).trans rfl; have hcz33_1 : w32.cell? ⟨gb197, 1, none⟩ = some (.int .i64 a2_1) := (blk_cell BK197.out 1).trans rfl; have hcz33_2 : w32.cell? ⟨gb197, 2, none⟩ = some (.int .i64 a2_2) := (blk_cell BK197.out 2).trans rfl; have hcz33_3 : w32.cell? ⟨gb197, 3, none⟩ = some (.int .i64 a2_3) := (blk_cell BK197.out 3).trans rfl; have hcz33_4 : w32.cell? ⟨gb197, 4, none⟩ = some (.int .i64 a2_4) := (blk_cell BK197.out 4).trans rfl; have hcz33_5 : w32.cell? ⟨gb197, 5, none⟩ = some (.int .i64 a2_5) := (blk_cell BK197.out 5).trans rfl; have hfz33_0 := blk_frozen BK197.out 0; have hfz33_1 := blk_frozen BK197.out 1; have hfz33_2 := blk_frozen BK197.out 2; have hfz33_3 := blk_frozen BK197.out 3; have hfz33_4 := blk_frozen BK197.out 4; have hfz33_5 := blk_frozen BK197.out 5) | ((with_reducible refine gate_callee (f := 94) rfl ?_); refine goesL_ (some 109) rfl rfl Try.func94 (by kernel_rfl) rfl #[.int .i64 a2_3, .int .i64 (wrap64 (t201 - (wrap64 (a2_4 + a3))))] rfl (by (try simp only [List.map_toArray, List.map_cons, List.map_nil]); first | done | rfl | (simp only [List.length_drop, List.length_take]; rfl)) ?_; (with_reducible refine (spec_l1Most.calls a2_3 (wrap64 (t201 - (wrap64 (a2_4 + a3)))) t202 _ A25.out).mono ?_); rintro e w' ⟨rfl, ⟨nd, rfl⟩⟩; refine ⟨_, rfl, ?_⟩))
            have n0_ : Aside0 (Kd.R (Kd.int .i64) 3 ((((((w32.setCell ⟨gb197, 1, none⟩ (.int .i64 (wrap64 (a2_1 + 1)))).setCell ⟨gb197, 2, none⟩ (.int .i64 (wrap64 (a2_2 + a2_4)))).setCell ⟨gb197, 5, none⟩ (.int .i64 t201)).setCell ⟨gb197, 2, none⟩ (.int .i64 (wrap64 ((wrap64 (a2_2 + a2_4)) + a3)))).setCell ⟨gb197, 4, none⟩ (.int .i64 (wrap64 (a2_4 + a3)))).setCell ⟨gb197, 3, none⟩ (.int .i64 t202)) w0.heap.size (fun k_ => (P2_0_ k_ ∨ w.heap.size ≤ k_)) (.slice Ao8 l2_0.length co8) l2_0) := ⟨by (with_reducible repeat (first | apply Kd.R_alloc | apply Kd.R_drewN | apply Kd.R_drew)); exact Kd.R_mono (Kd.R_far (p := ⟨gb197, 3, none⟩) (Kd.R_far (p := ⟨gb197, 4, none⟩) (Kd.R_far (p := ⟨gb197, 2, none⟩) (Kd.R_far (p := ⟨gb197, 5, none⟩) (Kd.R_far (p := ⟨gb197, 2, none⟩) (Kd.R_far (p := ⟨gb197, 1, none⟩) (Kd.R_types HO_198000.out BK197.out (by decide)) (fun _ hk => hk.2) (.int .i64 (wrap64 (a2_1 + 1)))) (fun _ hk => hk.2) (.int .i64 (wrap64 (a2_2 + a2_4)))) (fun _ hk => hk.2) (.int .i64 t201)) (fun _ hk => hk.2) (.int .i64 (wrap64 ((wrap64 (a2_2 + a2_4)) + a3)))) (fun _ hk => hk.2) (.int .i64 (wrap64 (a2_4 + a3)))) (fun _ hk => hk.2) (.int .i64 t202)) (fun _ hk => hk.1)⟩
            have n1_ : Aside0 (((((((w32.setCell ⟨gb197, 1, none⟩ (.int .i64 (wrap64 (a2_1 + 1)))).setCell ⟨gb197, 2, none⟩ (.int .i64 (wrap64 (a2_2 + a2_4)))).setCell ⟨gb197, 5, none⟩ (.int .i64 t201)).setCell ⟨gb197, 2, none⟩ (.int .i64 (wrap64 ((wrap64 (a2_2 + a2_4)) + a3)))).setCell ⟨gb197, 4, none⟩ (.int .i64 (wrap64 (a2_4 + a3)))).setCell ⟨gb197, 3, none⟩ (.int .i64 t202)).heap[gb196]? = some (.cells #[.int .i64 a0_0, .int .i64 a0_1, .int .i64 a0_2] 60 (0, 0))) := ⟨by (with_reducible repeat (first | refine blk_drewN ?_ _ | refine blk_drew ?_ | refine blk_alloc ?_ _)); refine blk_far ?_ NB196_197.out _; (with_reducible repeat (first | refine blk_drewN ?_ _ | refine blk_drew ?_ | refine blk_alloc ?_ _)); refine blk_far ?_ NB196_197.out _; (with_reducible repeat (first | refine blk_drewN ?_ _ | refine blk_drew ?_ | refine blk_alloc ?_ _)); refine blk_far ?_ NB196_197.out _; (with_reducible repeat (first | refine blk_drewN ?_ _ | refine blk_drew ?_ | refine blk_alloc ?_ _)); refine blk_far ?_ NB196_197.out _; (with_reducible repeat (first | refine blk_drewN ?_ _ | refine blk_drew ?_ | refine blk_alloc ?_ _)); refine blk_far ?_ NB196_197.out _; (with_reducible repeat (first | refine blk_drewN ?_ _ | refine blk_drew ?_ | refine blk_alloc ?_ _)); refine blk_far ?_ NB196_197.out _; (with_reducible repeat (first | refine blk_drewN ?_ _ | refine blk_drew ?_ | refine blk_alloc ?_ _)); exact BK196.out⟩
            have n2_ : Aside0 (((((((w32.setCell ⟨gb197, 1, none⟩ (.int .i64 (wrap64 (a2_1 + 1)))).setCell ⟨gb197, 2, none⟩ (.int .i64 (wrap64 (a2_2 + a2_4)))).setCell ⟨gb197, 5, none⟩ (.int .i64 t201)).setCell ⟨gb197, 2, none⟩ (.int .i64 (wrap64 ((wrap64 (a2_2 + a2_4)) + a3)))).setCell ⟨gb197, 4, none⟩ (.int .i64 (wrap64 (a2_4 + a3)))).setCell ⟨gb197, 3, none⟩ (.int .i64 t202)).heap[gb197]? = some (.cells #[.slice Ao8 l2_0.length co8, .int .i64 (wrap64 (a2_1 + 1)), .int .i64 (wrap64 ((wrap64 (a2_2 + a2_4)) + a3)), .int .i64 t202, .int .i64 (wrap64 (a2_4 + a3)), .int .i64 t201] 115 (0, 0))) := ⟨by (with_reducible repeat (first | refine blk_drewN ?_ _ | refine blk_drew ?_ | refine blk_alloc ?_ _)); refine blk_put (cs := #[.slice Ao8 l2_0.length co8, .int .i64 (wrap64 (a2_1 + 1)), .int .i64 (wrap64 ((wrap64 (a2_2 + a2_4)) + a3)), .int .i64 a2_3, .int .i64 (wrap64 (a2_4 + a3)), .int .i64 t201]) ?_ 3 _ rfl; (with_reducible repeat (first | refine blk_drewN ?_ _ | refine blk_drew ?_ | refine blk_alloc ?_ _)); refine blk_put (cs := #[.slice Ao8 l2_0.length co8, .int .i64 (wrap64 (a2_1 + 1)), .int .i64 (wrap64 ((wrap64 (a2_2 + a2_4)) + a3)), .int .i64 a2_3, .int .i64 a2_4, .int .i64 t201]) ?_ 4 _ rfl; (with_reducible repeat (first | refine blk_drewN ?_ _ | refine blk_drew ?_ | refine blk_alloc ?_ _)); refine blk_put (cs := #[.slice Ao8 l2_0.length co8, .int .i64 (wrap64 (a2_1 + 1)), .int .i64 (wrap64 (a2_2 + a2_4)), .int .i64 a2_3, .int .i64 a2_4, .int .i64 t201]) ?_ 2 _ rfl; (with_reducible repeat (first | refine blk_drewN ?_ _ | refine blk_drew ?_ | refine blk_alloc ?_ _)); refine blk_put (cs := #[.slice Ao8 l2_0.length co8, .int .i64 (wrap64 (a2_1 + 1)), .int .i64 (wrap64 (a2_2 + a2_4)), .int .i64 a2_3, .int .i64 a2_4, .int .i64 a2_5]) ?_ 5 _ rfl; (with_reducible repeat (first | refine blk_drewN ?_ _ | refine blk_drew ?_ | refine blk_alloc ?_ _)); refine blk_put (cs := #[.slice Ao8 l2_0.length co8, .int .i64 (wrap64 (a2_1 + 1)), .int .i64 a2_2, .int .i64 a2_3, .int .i64 a2_4, .int .i64 a2_5]) ?_ 2 _ rfl; (with_reducible repeat (first | refine blk_drewN ?_ _ | refine blk_drew ?_ | refine blk_alloc ?_ _)); refine blk_put (cs := #[.slice Ao8 l2_0.length co8, .int .i64 a2_1, .int .i64 a2_2, .int .i64 a2_3, .int .i64 a2_4, .int .i64 a2_5]) ?_ 1 _ rfl; (with_reducible repeat (first | refine blk_drewN ?_ _ | refine blk_drew ?_ | refine blk_alloc ?_ _)); exact BK197.out⟩
            have n3_ : Aside0 (((((((w32.setCell ⟨gb197, 1, none⟩ (.int .i64 (wrap64 (a2_1 + 1)))).setCell ⟨gb197, 2, none⟩ (.int .i64 (wrap64 (a2_2 + a2_4)))).setCell ⟨gb197, 5, none⟩ (.int .i64 t201)).setCell ⟨gb197, 2, none⟩ (.int .i64 (wrap64 ((wrap64 (a2_2 + a2_4)) + a3)))).setCell ⟨gb197, 4, none⟩ (.int .i64 (wrap64 (a2_4 + a3)))).setCell ⟨gb197, 3, none⟩ (.int .i64 t202)).heap[gb198]? = some (.cells #[.slice none 0 0, .int .i64 0, .int .i64 0, .int .i64 0, .int .i64 0, .int .i64 0] 115 (0, 0))) := ⟨by (with_reducible repeat (first | refine blk_drewN ?_ _ | refine blk_drew ?_ | refine blk_alloc ?_ _)); refine blk_far ?_ NB198_197.out _; (with_reducible repeat (first | refine blk_drewN ?_ _ | refine blk_drew ?_ | refine blk_alloc ?_ _)); refine blk_far ?_ NB198_197.out _; (with_reducible repeat (first | refine blk_drewN ?_ _ | refine blk_drew ?_ | refine blk_alloc ?_ _)); refine blk_far ?_ NB198_197.out _; (with_reducible repeat (first | refine blk_drewN ?_ _ | refine blk_drew ?_ | refine blk_alloc ?_ _)); refine blk_far ?_ NB198_197.out _; (with_reducible repeat (first | refine blk_drewN ?_ _ | refine blk_drew ?_ | refine blk_alloc ?_ _)); refine blk_far ?_ NB198_197.out _; (with_reducible repeat (first | refine blk_drewN ?_ _ | refine blk_drew ?_ | refine blk_alloc ?_ _)); refine blk_far ?_ NB198_197.out _; (with_reducible repeat (first | refine blk_drewN ?_ _ | refine blk_drew ?_ | refine blk_alloc ?_ _)); exact BK198.out⟩
            have n4_ : Aside0 (Kept w ((((((w32.setCell ⟨gb197, 1, none⟩ (.int .i64 (wrap64 (a2_1 + 1)))).setCell ⟨gb197, 2, none⟩ (.int .i64 (wrap64 (a2_2 + a2_4)))).setCell ⟨gb197, 5, none⟩ (.int .i64 t201)).setCell ⟨gb197, 2, none⟩ (.int .i64 (wrap64 ((wrap64 (a2_2 + a2_4)) + a3)))).setCell ⟨gb197, 4, none⟩ (.int .i64 (wrap64 (a2_4 + a3)))).setCell ⟨gb197, 3, none⟩ (.int .i64 t202)) (fun k_ => P2_0_ k_)) := ⟨by repeat (first | (with_reducible first | exact HK.out | apply Kept.alloc | apply Kept.drewN | apply Kept.drew | refine Kept.setCell ?_ (.inr GW196.out) _ | refine Kept.setCell ?_ (.inr GW197.out) _ | refine Kept.setCell ?_ (.inr GW198.out) _) | exact HK.out)⟩
            have n5_ : Aside0 (Below w0.heap.size w0 ((((((w32.setCell ⟨gb197, 1, none⟩ (.int .i64 (wrap64 (a2_1 + 1)))).setCell ⟨gb197, 2, none⟩ (.int .i64 (wrap64 (a2_2 + a2_4)))).setCell ⟨gb197, 5, none⟩ (.int .i64 t201)).setCell ⟨gb197, 2, none⟩ (.int .i64 (wrap64 ((wrap64 (a2_2 + a2_4)) + a3)))).setCell ⟨gb197, 4, none⟩ (.int .i64 (wrap64 (a2_4 + a3)))).setCell ⟨gb197, 3, none⟩ (.int .i64 t202))) := ⟨by repeat (first | (with_reducible first | exact HB.out | apply below_alloc | apply pw_below_drewN | apply below_drew1 | refine below_set ?_ GE196.out | refine below_set ?_ GE197.out | refine below_set ?_ GE198.out) | exact HB.out)⟩
            (try clear HO_198000)
            (try clear BK196)
            (try clear BK197)
            (try clear BK198)
            (try clear HK)
            (try clear HB)
            (try simp only [drewN_set])
            generalize ((((((w32.setCell ⟨gb197, 1, none⟩ (.int .i64 (wrap64 (a2_1 + 1)))).setCell ⟨gb197, 2, none⟩ (.int .i64 (wrap64 (a2_2 + a2_4)))).setCell ⟨gb197, 5, none⟩ (.int .i64 t201)).setCell ⟨gb197, 2, none⟩ (.int .i64 (wrap64 ((wrap64 (a2_2 + a2_4)) + a3)))).setCell ⟨gb197, 4, none⟩ (.int .i64 (wrap64 (a2_4 + a3)))).setCell ⟨gb197, 3, none⟩ (.int .i64 t202)) = w34 at n0_ n1_ n2_ n3_ n4_ n5_ ⊢
            have HO_198000 := n0_
            have BK196 := n1_
            have BK197 := n2_
            have BK198 := n3_
            have HK := n4_
            have HB := n5_
            clear n0_ n1_ n2_ n3_ n4_ n5_
            (try simp only [World.drewN_drewN]); (try (rw [drewN_self w34]; generalize hq_ : World.drewN w34 _ = w34; have n0_ : Aside0 (Kd.R (Kd.int .i64) 3 w34 w0.heap.size (fun k_ => (P2_0_ k_ ∨ w.heap.size ≤ k_)) (.slice Ao8 l2_0.length co8) l2_0) := ⟨by rw [← hq_]; exact (by (with_reducible repeat (first | apply Kd.R_alloc | apply Kd.R_drewN | apply Kd.R_drew)); exact HO_198000.out)⟩; have n1_ : Aside0 (w34.heap[gb196]? = some (.cells #[.int .i64 a0_0, .int .i64 a0_1, .int .i64 a0_2] 60 (0, 0))) := ⟨by rw [← hq_]; exact (by (with_reducible repeat (first | refine blk_drewN ?_ _ | refine blk_drew ?_ | refine blk_alloc ?_ _)); exact BK196.out)⟩; have n2_ : Aside0 (w34.heap[gb197]? = some (.cells #[.slice Ao8 l2_0.length co8, .int .i64 (wrap64 (a2_1 + 1)), .int .i64 (wrap64 ((wrap64 (a2_2 + a2_4)) + a3)), .int .i64 t202, .int .i64 (wrap64 (a2_4 + a3)), .int .i64 t201] 115 (0, 0))) := ⟨by rw [← hq_]; exact (by (with_reducible repeat (first | refine blk_drewN ?_ _ | refine blk_drew ?_ | refine blk_alloc ?_ _)); exact BK197.out)⟩; have n3_ : Aside0 (w34.heap[gb198]? = some (.cells #[.slice none 0 0, .int .i64 0, .int .i64 0, .int .i64 0, .int .i64 0, .int .i64 0] 115 (0, 0))) := ⟨by rw [← hq_]; exact (by (with_reducible repeat (first | refine blk_drewN ?_ _ | refine blk_drew ?_ | refine blk_alloc ?_ _)); exact BK198.out)⟩; have n4_ : Aside0 (Kept w w34 (fun k_ => P2_0_ k_)) := ⟨by rw [← hq_]; exact (by repeat (first | (with_reducible first | exact HK.out | apply Kept.alloc | apply Kept.drewN | apply Kept.drew | refine Kept.setCell ?_ (.inr GW196.out) _ | refine Kept.setCell ?_ (.inr GW197.out) _ | refine Kept.setCell ?_ (.inr GW198.out) _) | exact HK.out))⟩; have n5_ : Aside0 (Below w0.heap.size w0 w34) := ⟨by rw [← hq_]; exact (by repeat (first | (with_reducible first | exact HB.out | apply below_alloc | apply pw_below_drewN | apply below_drew1 | refine below_set ?_ GE196.out | refine below_set ?_ GE197.out | refine below_set ?_ GE198.out) | exact HB.out))⟩; clear HO_198000 BK196 BK197 BK198 HK HB hq_; have HO_198000 := n0_; have BK196 := n1_; have BK197 := n2_; have BK198 := n3_; have HK := n4_; have HB := n5_; clear n0_ n1_ n2_ n3_ n4_ n5_))
            have n0_ := Aside0.mk (Kd.R_drew HO_198000.out)
            have n1_ := Aside0.mk (blk_drew BK196.out)
            have n2_ := Aside0.mk (blk_drew BK197.out)
            have n3_ := Aside0.mk (blk_drew BK198.out)
            have n4_ := Aside0.mk (Kept.drew HK.out)
            have n5_ := Aside0.mk (below_drew1 HB.out)
            clear HO_198000
            clear BK196
            clear BK197
            clear BK198
            clear HK
            clear HB
            have HO_198000 := n0_
            have BK196 := n1_
            have BK197 := n2_
            have BK198 := n3_
            have HK := n4_
            have HB := n5_
            clear n0_ n1_ n2_ n3_ n4_ n5_
            refine start_ (n := 6) (S := fun w' => w'.cell? ⟨gb197, 0, none⟩ = some (.slice Ao8 l2_0.length co8) ∧ w'.cell? ⟨gb197, 1, none⟩ = some (.int .i64 (wrap64 (a2_1 + 1))) ∧ w'.cell? ⟨gb197, 2, none⟩ = some (.int .i64 (wrap64 ((wrap64 (a2_2 + a2_4)) + a3))) ∧ w'.cell? ⟨gb197, 3, none⟩ = some (.int .i64 t202) ∧ w'.cell? ⟨gb197, 4, none⟩ = some (.int .i64 (wrap64 (a2_4 + a3))) ∧ w'.cell? ⟨gb197, 5, none⟩ = some (.int .i64 t201)) (ds := []) #[false, false, false, false, false, false] (by kernel_rfl) rfl rfl ⟨(blk_cell BK197.out 0).trans rfl, (blk_cell BK197.out 1).trans rfl, (blk_cell BK197.out 2).trans rfl, (blk_cell BK197.out 3).trans rfl, (blk_cell BK197.out 4).trans rfl, (blk_cell BK197.out 5).trans rfl⟩ (fun hHeld => ?_)
            generalize w34.drew = w35 at HO_198000 BK196 BK197 BK198 HK HB hHeld ⊢
            refine pure_ (i := 1) (N := some 112) (v := ?_) (a' := ?_) #[false, true, false, false, false, false] rfl rfl (by kernel_rfl) (fun _ _ _ h => h) (Or.inl ⟨by rfl, ?_⟩) ?_ ?_
            rotate_left
            · intro w'
              go_simp
              with_reducible rfl
            rotate_left
            · simp only [Act.put, List.setIfInBounds_toArray, List.set_cons_zero, List.set_cons_succ, i64_w, i32_w]
              rfl
            refine take_ (i := 0) (N := some 111) (v := ?_) (a' := ?_) #[true, true, false, false, false, false] rfl rfl (by kernel_rfl) (fun _ _ _ h => h) (Or.inl ⟨by rfl, ?_⟩) hHeld ?_ ?_
            rotate_left
            · rintro w' ⟨s0, s1, s2, s3, s4, s5⟩
              go_simp
              with_reducible rfl
            rotate_left
            · simp only [Act.put, List.setIfInBounds_toArray, List.set_cons_zero, List.set_cons_succ, i64_w, i32_w]
              rfl
            refine take_ (i := 2) (N := some 113) (v := ?_) (a' := ?_) #[true, true, true, false, false, false] rfl rfl (by kernel_rfl) (fun _ _ _ h => h) (Or.inl ⟨by rfl, ?_⟩) hHeld ?_ ?_
            rotate_left
            · rintro w' ⟨s0, s1, s2, s3, s4, s5⟩
              go_simp
              with_reducible rfl
            rotate_left
            · simp only [Act.put, List.setIfInBounds_toArray, List.set_cons_zero, List.set_cons_succ, i64_w, i32_w]
              rfl
            refine one_ (i := 3) (N := some 114) #[true, true, true, true, false, false] rfl rfl (by kernel_rfl) (by decide) (fun K hK => ?_)
            refine goes_ Try.func89 (by kernel_rfl) rfl #[.int .i64 t201] (by rfl) rfl rfl (by (try simp only [List.map_toArray, List.map_cons, List.map_nil]); first | done | rfl | (simp only [List.length_drop, List.length_take]; rfl)) ?_
            with_reducible refine (spec_l4Size.calls t201 t203 _ A26.out).mono ?_
            rintro e w' ⟨rfl, ⟨nd, rfl⟩⟩
            refine ⟨_, rfl, ?_⟩
            refine hK.out _ _ ⟨(blk_cell BK197.out 0).trans rfl, (blk_cell BK197.out 1).trans rfl, (blk_cell BK197.out 2).trans rfl, (blk_cell BK197.out 3).trans rfl, (blk_cell BK197.out 4).trans rfl, (blk_cell BK197.out 5).trans rfl⟩ (fun hHeld => ?_)
            clear hK K
            refine norm_ (a' := ?_) ?_ ?_
            rotate_left
            · show Act.put _ (some 114) _ = _
              simp only [Act.put, List.setIfInBounds_toArray, List.set_cons_zero, List.set_cons_succ, i64_w, i32_w]
              rfl
            refine one_ (i := 4) (N := none) #[true, true, true, true, true, false] rfl rfl (by kernel_rfl) (by decide) (fun K hK => ?_)
            have hs36 : w35.cell? ⟨gb198, 0, none⟩ = some (.slice none 0 0) := (blk_cell BK198.out 0).trans rfl
            have hfs36 := blk_frozen BK198.out 0
            have hns36_0 := NB196_198.out
            have hns36_1 := NB197_198.out
            have hms36_0 := NB198_196.out
            have hms36_1 := NB198_197.out
            have hs37 : w35.cell? ⟨gb198, 1, none⟩ = some (.int .i64 0) := (blk_cell BK198.out 1).trans rfl
            have hfs37 := blk_frozen BK198.out 1
            have hns37_0 := NB196_198.out
            have hns37_1 := NB197_198.out
            have hms37_0 := NB198_196.out
            have hms37_1 := NB198_197.out
            have hs38 : w35.cell? ⟨gb198, 2, none⟩ = some (.int .i64 0) := (blk_cell BK198.out 2).trans rfl
            have hfs38 := blk_frozen BK198.out 2
            have hns38_0 := NB196_198.out
            have hns38_1 := NB197_198.out
            have hms38_0 := NB198_196.out
            have hms38_1 := NB198_197.out
            have hs39 : w35.cell? ⟨gb198, 3, none⟩ = some (.int .i64 0) := (blk_cell BK198.out 3).trans rfl
            have hfs39 := blk_frozen BK198.out 3
            have hns39_0 := NB196_198.out
            have hns39_1 := NB197_198.out
            have hms39_0 := NB198_196.out
            have hms39_1 := NB198_197.out
            have hs40 : w35.cell? ⟨gb198, 4, none⟩ = some (.int .i64 0) := (blk_cell BK198.out 4).trans rfl
            have hfs40 := blk_frozen BK198.out 4
            have hns40_0 := NB196_198.out
            have hns40_1 := NB197_198.out
            have hms40_0 := NB198_196.out
            have hms40_1 := NB198_197.out
            have hs41 : w35.cell? ⟨gb198, 5, none⟩ = some (.int .i64 0) := (blk_cell BK198.out 5).trans rfl
            have hfs41 := blk_frozen BK198.out 5
            have hns41_0 := NB196_198.out
            have hns41_1 := NB197_198.out
            have hms41_0 := NB198_196.out
            have hms41_1 := NB198_197.out
            refine skip_ (w1 := ?_) (by rfl) rfl ?_ ?_
            rotate_left
            · go_simp
              rfl
            refine hK.out _ _ ⟨((cell_far (p := ⟨gb198, _, none⟩) NB197_198.out _).trans (((cell_far (p := ⟨gb198, _, none⟩) NB197_198.out _).trans (((cell_far (p := ⟨gb198, _, none⟩) NB197_198.out _).trans (((cell_far (p := ⟨gb198, _, none⟩) NB197_198.out _).trans (((cell_far (p := ⟨gb198, _, none⟩) NB197_198.out _).trans (((cell_far (p := ⟨gb198, _, none⟩) NB197_198.out _).trans (hHeld.1)))))))))))), ((cell_far (p := ⟨gb198, _, none⟩) NB197_198.out _).trans (((cell_far (p := ⟨gb198, _, none⟩) NB197_198.out _).trans (((cell_far (p := ⟨gb198, _, none⟩) NB197_198.out _).trans (((cell_far (p := ⟨gb198, _, none⟩) NB197_198.out _).trans (((cell_far (p := ⟨gb198, _, none⟩) NB197_198.out _).trans (((cell_far (p := ⟨gb198, _, none⟩) NB197_198.out _).trans (hHeld.2.1)))))))))))), ((cell_far (p := ⟨gb198, _, none⟩) NB197_198.out _).trans (((cell_far (p := ⟨gb198, _, none⟩) NB197_198.out _).trans (((cell_far (p := ⟨gb198, _, none⟩) NB197_198.out _).trans (((cell_far (p := ⟨gb198, _, none⟩) NB197_198.out _).trans (((cell_far (p := ⟨gb198, _, none⟩) NB197_198.out _).trans (((cell_far (p := ⟨gb198, _, none⟩) NB197_198.out _).trans (hHeld.2.2.1)))))))))))), ((cell_far (p := ⟨gb198, _, none⟩) NB197_198.out _).trans (((cell_far (p := ⟨gb198, _, none⟩) NB197_198.out _).trans (((cell_far (p := ⟨gb198, _, none⟩) NB197_198.out _).trans (((cell_far (p := ⟨gb198, _, none⟩) NB197_198.out _).trans (((cell_far (p := ⟨gb198, _, none⟩) NB197_198.out _).trans (((cell_far (p := ⟨gb198, _, none⟩) NB197_198.out _).trans (hHeld.2.2.2.1)))))))))))), ((cell_far (p := ⟨gb198, _, none⟩) NB197_198.out _).trans (((cell_far (p := ⟨gb198, _, none⟩) NB197_198.out _).trans (((cell_far (p := ⟨gb198, _, none⟩) NB197_198.out _).trans (((cell_far (p := ⟨gb198, _, none⟩) NB197_198.out _).trans (((cell_far (p := ⟨gb198, _, none⟩) NB197_198.out _).trans (((cell_far (p := ⟨gb198, _, none⟩) NB197_198.out _).trans (hHeld.2.2.2.2.1)))))))))))), ((cell_far (p := ⟨gb198, _, none⟩) NB197_198.out _).trans (((cell_far (p := ⟨gb198, _, none⟩) NB197_198.out _).trans (((cell_far (p := ⟨gb198, _, none⟩) NB197_198.out _).trans (((cell_far (p := ⟨gb198, _, none⟩) NB197_198.out _).trans (((cell_far (p := ⟨gb198, _, none⟩) NB197_198.out _).trans (((cell_far (p := ⟨gb198, _, none⟩) NB197_198.out _).trans (hHeld.2.2.2.2.2))))))))))))⟩ (fun hHeld => ?_)
            clear hK K
            refine pure_ (i := 5) (N := some 9) (v := ?_) (a' := ?_) #[true, true, true, true, true, true] rfl rfl (by kernel_rfl) (fun _ _ _ h => h) (Or.inl ⟨by rfl, ?_⟩) ?_ ?_
            rotate_left
            · intro w'
              go_simp
              with_reducible rfl
            rotate_left
            · simp only [Act.put, List.setIfInBounds_toArray, List.set_cons_zero, List.set_cons_succ, i64_w, i32_w]
              rfl
            refine done_ (by kernel_rfl) ?_
            try go_wp2
            refine bodyPost_ret (results_ct rfl _ _ gb198 115 #[.slice Ao8 l2_0.length co8, .int .i64 (wrap64 (a2_1 + 1)), .int .i64 (wrap64 ((wrap64 (a2_2 + a2_4)) + a3)), .int .i64 t202, .int .i64 (wrap64 (a2_4 + a3)), .int .i64 t201] (0, 0) _ rfl (by (with_reducible repeat (first | refine blk_drewN ?_ _ | refine blk_drew ?_ | refine blk_alloc ?_ _)); refine blk_put (cs := #[.slice Ao8 l2_0.length co8, .int .i64 (wrap64 (a2_1 + 1)), .int .i64 (wrap64 ((wrap64 (a2_2 + a2_4)) + a3)), .int .i64 t202, .int .i64 (wrap64 (a2_4 + a3)), .int .i64 0]) ?_ 5 _ rfl; (with_reducible repeat (first | refine blk_drewN ?_ _ | refine blk_drew ?_ | refine blk_alloc ?_ _)); refine blk_put (cs := #[.slice Ao8 l2_0.length co8, .int .i64 (wrap64 (a2_1 + 1)), .int .i64 (wrap64 ((wrap64 (a2_2 + a2_4)) + a3)), .int .i64 t202, .int .i64 0, .int .i64 0]) ?_ 4 _ rfl; (with_reducible repeat (first | refine blk_drewN ?_ _ | refine blk_drew ?_ | refine blk_alloc ?_ _)); refine blk_put (cs := #[.slice Ao8 l2_0.length co8, .int .i64 (wrap64 (a2_1 + 1)), .int .i64 (wrap64 ((wrap64 (a2_2 + a2_4)) + a3)), .int .i64 0, .int .i64 0, .int .i64 0]) ?_ 3 _ rfl; (with_reducible repeat (first | refine blk_drewN ?_ _ | refine blk_drew ?_ | refine blk_alloc ?_ _)); refine blk_put (cs := #[.slice Ao8 l2_0.length co8, .int .i64 (wrap64 (a2_1 + 1)), .int .i64 0, .int .i64 0, .int .i64 0, .int .i64 0]) ?_ 2 _ rfl; (with_reducible repeat (first | refine blk_drewN ?_ _ | refine blk_drew ?_ | refine blk_alloc ?_ _)); refine blk_put (cs := #[.slice Ao8 l2_0.length co8, .int .i64 0, .int .i64 0, .int .i64 0, .int .i64 0, .int .i64 0]) ?_ 1 _ rfl; (with_reducible repeat (first | refine blk_drewN ?_ _ | refine blk_drew ?_ | refine blk_alloc ?_ _)); refine blk_put (cs := #[.slice none 0 0, .int .i64 0, .int .i64 0, .int .i64 0, .int .i64 0, .int .i64 0]) ?_ 0 _ rfl; (with_reducible repeat (first | refine blk_drewN ?_ _ | refine blk_drew ?_ | refine blk_alloc ?_ _)); exact BK198.out) Try.underlying115 rfl (by kernel_rfl)) rfl ?_
            exact ⟨_, by first | rfl | (simp [errW_none, errW_some] <;> rfl) | (simp [*, errW_none, errW_some] <;> rfl), by (with_reducible repeat (first | apply Kd.R_alloc | apply Kd.R_drewN | apply Kd.R_drew)); exact Kd.R_mono (Kd.R_far (p := ⟨gb198, 5, none⟩) (Kd.R_far (p := ⟨gb198, 4, none⟩) (Kd.R_far (p := ⟨gb198, 3, none⟩) (Kd.R_far (p := ⟨gb198, 2, none⟩) (Kd.R_far (p := ⟨gb198, 1, none⟩) (Kd.R_far (p := ⟨gb198, 0, none⟩) (Kd.R_types HO_198000.out BK198.out (by decide)) (fun _ hk => hk.2) (.slice Ao8 l2_0.length co8)) (fun _ hk => hk.2) (.int .i64 (wrap64 (a2_1 + 1)))) (fun _ hk => hk.2) (.int .i64 (wrap64 ((wrap64 (a2_2 + a2_4)) + a3)))) (fun _ hk => hk.2) (.int .i64 t202)) (fun _ hk => hk.2) (.int .i64 (wrap64 (a2_4 + a3)))) (fun _ hk => hk.2) (.int .i64 t201)) (fun _ hk => hk.1), by repeat (first | (with_reducible first | exact HB.out | apply below_alloc | apply pw_below_drewN | apply below_drew1 | refine below_set ?_ GE196.out | refine below_set ?_ GE197.out | refine below_set ?_ GE198.out) | exact HB.out), by repeat (first | (with_reducible first | exact HK.out | apply Kept.alloc | apply Kept.drewN | apply Kept.drew | refine Kept.setCell ?_ (.inr GW196.out) _ | refine Kept.setCell ?_ (.inr GW197.out) _ | refine Kept.setCell ?_ (.inr GW198.out) _) | exact HK.out)⟩
          · rw [if_neg c24] at H
            have c24b0 : decide (a2_5 < t201) = false := decide_eq_false c24
            clear c24
            replace H := Option.bind_eq_some_iff.mp H
            obtain ⟨t204, A420, H⟩ := H
            replace H : ((spec_l4Size.f a2_5).bind fun t205 => (some (l2_0, a2_1, wrap64 (a2_2 + a3), t204, wrap64 (a2_4 + a3), a2_5, t205))) = some (r1, r2, r3, r4, r5, r6, r7) := H
            have A42 := Aside0.mk A420
            clear A420
            replace H := Option.bind_eq_some_iff.mp H
            obtain ⟨t205, A430, H⟩ := H
            replace H : (some (l2_0, a2_1, wrap64 (a2_2 + a3), t204, wrap64 (a2_4 + a3), a2_5, t205)) = some (r1, r2, r3, r4, r5, r6, r7) := H
            have A43 := Aside0.mk A430
            clear A430
            simp only [Option.some.injEq, Prod.mk.injEq] at H
            obtain ⟨rfl, rfl, rfl, rfl, rfl, rfl, rfl⟩ := H
            have hnb44 := NB196_197.out
            have hnc44 := NB197_196.out
            have hnb45 := NB196_198.out
            have hnc45 := NB198_196.out
            have hcz46_0 : wc.cell? ⟨gb196, 0, none⟩ = some (.int .i64 a0_0) := (blk_cell BK196.out 0).trans rfl
            have hcz46_1 : wc.cell? ⟨gb196, 1, none⟩ = some (.int .i64 a0_1) := (blk_cell BK196.out 1).trans rfl
            have hcz46_2 : wc.cell? ⟨gb196, 2, none⟩ = some (.int .i64 a0_2) := (blk_cell BK196.out 2).trans rfl
            have hfz46_0 := blk_frozen BK196.out 0
            have hfz46_1 := blk_frozen BK196.out 1
            have hfz46_2 := blk_frozen BK196.out 2
            have hnb47 := NB197_198.out
            have hnc47 := NB198_197.out
            have hcz48_0 : wc.cell? ⟨gb197, 0, none⟩ = some (.slice Ao8 l2_0.length co8) := (blk_cell BK197.out 0).trans rfl
            have hcz48_1 : wc.cell? ⟨gb197, 1, none⟩ = some (.int .i64 a2_1) := (blk_cell BK197.out 1).trans rfl
            have hcz48_2 : wc.cell? ⟨gb197, 2, none⟩ = some (.int .i64 a2_2) := (blk_cell BK197.out 2).trans rfl
            have hcz48_3 : wc.cell? ⟨gb197, 3, none⟩ = some (.int .i64 a2_3) := (blk_cell BK197.out 3).trans rfl
            have hcz48_4 : wc.cell? ⟨gb197, 4, none⟩ = some (.int .i64 a2_4) := (blk_cell BK197.out 4).trans rfl
            have hcz48_5 : wc.cell? ⟨gb197, 5, none⟩ = some (.int .i64 a2_5) := (blk_cell BK197.out 5).trans rfl
            have hfz48_0 := blk_frozen BK197.out 0
            have hfz48_1 := blk_frozen BK197.out 1
            have hfz48_2 := blk_frozen BK197.out 2
            have hfz48_3 := blk_frozen BK197.out 3
            have hfz48_4 := blk_frozen BK197.out 4
            have hfz48_5 := blk_frozen BK197.out 5
            try go_wp2_with (first | ((with_reducible refine gate_callee (f := 90) rfl ?_); refine goesL_ (some 31) rfl rfl Try.func90 (by kernel_rfl) rfl #[.agg #[.int .i64 a0_0, .int .i64 a0_1, .int .i64 a0_2], .int .i64 a2_4, .int .i64 a2_5, .int .i64 a3] rfl (by (try simp only [List.map_toArray, List.map_cons, List.map_nil]); first | done | rfl | (simp only [List.length_drop, List.length_take]; rfl)) ?_; (with_reducible refine (spec_l4Next.calls a0_0 a0_1 a0_2 a2_4 a2_5 a3 t201 _ A23.out).mono ?_); rintro e w49 ⟨rfl, hb⟩; refine ⟨_, rfl, ?_⟩; have n0_ := Aside0.mk (Kd.R_below (by (with_reducible repeat (first | apply Kd.R_alloc | apply Kd.R_drewN | apply Kd.R_drew)); exact HO_198000.out) hb); have n1_ := Aside0.mk (blk_below (g := gb196) (o := .cells #[.int .i64 a0_0, .int .i64 a0_1, .int .i64 a0_2] 60 (0, 0)) (by (with_reducible repeat (first | refine blk_drewN ?_ _ | refine blk_drew ?_ | refine blk_alloc ?_ _)); exact BK196.out) hb); have n2_ := Aside0.mk (blk_below (g := gb197) (o := .cells #[.slice Ao8 l2_0.length co8, .int .i64 a2_1, .int .i64 a2_2, .int .i64 a2_3, .int .i64 a2_4, .int .i64 a2_5] 115 (0, 0)) (by (with_reducible repeat (first | refine blk_drewN ?_ _ | refine blk_drew ?_ | refine blk_alloc ?_ _)); exact BK197.out) hb); have n3_ := Aside0.mk (blk_below (g := gb198) (o := .cells #[.slice none 0 0, .int .i64 0, .int .i64 0, .int .i64 0, .int .i64 0, .int .i64 0] 115 (0, 0)) (by (with_reducible repeat (first | refine blk_drewN ?_ _ | refine blk_drew ?_ | refine blk_alloc ?_ _)); exact BK198.out) hb); have n4_ := Aside0.mk (Kept.below (S := (fun k_ => P2_0_ k_)) (by repeat (first | (with_reducible first | exact HK.out | apply Kept.alloc | apply Kept.drewN | apply Kept.drew | refine Kept.setCell ?_ (.inr GW196.out) _ | refine Kept.setCell ?_ (.inr GW197.out) _ | refine Kept.setCell ?_ (.inr GW198.out) _) | exact HK.out)) hb); have n5_ := Aside0.mk (below_step (by repeat (first | (with_reducible first | exact HB.out | apply below_alloc | apply pw_below_drewN | apply below_drew1 | refine below_set ?_ GE196.out | refine below_set ?_ GE197.out | refine below_set ?_ GE198.out) | exact HB.out)) hb); clear HO_198000; clear BK196; clear BK197; clear BK198; clear HK; clear HB; have HO_198000 := n0_; have BK196 := n1_; have BK197 := n2_; have BK198 := n3_; have HK := n4_; have HB := n5_; clear n0_ n1_ n2_ n3_ n4_ n5_; (try clear hb); (try clear hb2); (try clear hk); (try clear hi); have hcz50_0 : w49.cell? ⟨gb197, 0, none⟩ = some (.slice Ao8 l2_0.length co8) := (blk_cell BK197.out 0).trans rfl; have hcz50_1 : w49.cell? ⟨gb197, 1, none⟩ = some (.int .i64 a2_1) := (blk_cell BK197.out 1).trans rfl; have hcz50_2 : w49.cell? ⟨gb197, 2, none⟩ = some (.int .i64 a2_2) := (blk_cell BK197.out 2).trans rfl; have hcz50_3 : w49.cell? ⟨gb197, 3, none⟩ = some (.int .i64 a2_3) := (blk_cell BK197.out 3).trans rfl; have hcz50_4 : w49.cell? ⟨gb197, 4, none⟩ = some (.int .i64 a2_4) := (blk_cell BK197.out 4).trans rfl; have hcz50_5 : w49.cell? ⟨gb197, 5, none⟩ = some (.int .i64 a2_5) := (blk_cell BK197.out 5).trans rfl; have hfz50_0 := blk_frozen BK197.out 0; have hfz50_1 := blk_frozen BK197.out 1; have hfz50_2 := blk_frozen BK197.out 2; have hfz50_3 := blk_frozen BK197.out 3; have hfz50_4 := blk_frozen BK197.out 4; have hfz50_5 := blk_frozen BK197.out 5) | ((with_reducible refine gate_callee (f := 94) rfl ?_); refine goesL_ (some 109) rfl rfl Try.func94 (by kernel_rfl) rfl #[.int .i64 a2_3, .int .i64 (wrap64 (a2_5 - (wrap64 (a2_4 + a3))))] rfl (by (try simp only [List.map_toArray, List.map_cons, List.map_nil]); first | done | rfl | (simp only [List.length_drop, List.length_take]; rfl)) ?_; (with_reducible refine (spec_l1Most.calls a2_3 (wrap64 (a2_5 - (wrap64 (a2_4 + a3)))) t204 _ A42.out).mono ?_); rintro e w' ⟨rfl, ⟨nd, rfl⟩⟩; refine ⟨_, rfl, ?_⟩))
            have n0_ : Aside0 (Kd.R (Kd.int .i64) 3 (((w49.setCell ⟨gb197, 2, none⟩ (.int .i64 (wrap64 (a2_2 + a3)))).setCell ⟨gb197, 4, none⟩ (.int .i64 (wrap64 (a2_4 + a3)))).setCell ⟨gb197, 3, none⟩ (.int .i64 t204)) w0.heap.size (fun k_ => (P2_0_ k_ ∨ w.heap.size ≤ k_)) (.slice Ao8 l2_0.length co8) l2_0) := ⟨by (with_reducible repeat (first | apply Kd.R_alloc | apply Kd.R_drewN | apply Kd.R_drew)); exact Kd.R_mono (Kd.R_far (p := ⟨gb197, 3, none⟩) (Kd.R_far (p := ⟨gb197, 4, none⟩) (Kd.R_far (p := ⟨gb197, 2, none⟩) (Kd.R_types HO_198000.out BK197.out (by decide)) (fun _ hk => hk.2) (.int .i64 (wrap64 (a2_2 + a3)))) (fun _ hk => hk.2) (.int .i64 (wrap64 (a2_4 + a3)))) (fun _ hk => hk.2) (.int .i64 t204)) (fun _ hk => hk.1)⟩
            have n1_ : Aside0 ((((w49.setCell ⟨gb197, 2, none⟩ (.int .i64 (wrap64 (a2_2 + a3)))).setCell ⟨gb197, 4, none⟩ (.int .i64 (wrap64 (a2_4 + a3)))).setCell ⟨gb197, 3, none⟩ (.int .i64 t204)).heap[gb196]? = some (.cells #[.int .i64 a0_0, .int .i64 a0_1, .int .i64 a0_2] 60 (0, 0))) := ⟨by (with_reducible repeat (first | refine blk_drewN ?_ _ | refine blk_drew ?_ | refine blk_alloc ?_ _)); refine blk_far ?_ NB196_197.out _; (with_reducible repeat (first | refine blk_drewN ?_ _ | refine blk_drew ?_ | refine blk_alloc ?_ _)); refine blk_far ?_ NB196_197.out _; (with_reducible repeat (first | refine blk_drewN ?_ _ | refine blk_drew ?_ | refine blk_alloc ?_ _)); refine blk_far ?_ NB196_197.out _; (with_reducible repeat (first | refine blk_drewN ?_ _ | refine blk_drew ?_ | refine blk_alloc ?_ _)); exact BK196.out⟩
            have n2_ : Aside0 ((((w49.setCell ⟨gb197, 2, none⟩ (.int .i64 (wrap64 (a2_2 + a3)))).setCell ⟨gb197, 4, none⟩ (.int .i64 (wrap64 (a2_4 + a3)))).setCell ⟨gb197, 3, none⟩ (.int .i64 t204)).heap[gb197]? = some (.cells #[.slice Ao8 l2_0.length co8, .int .i64 a2_1, .int .i64 (wrap64 (a2_2 + a3)), .int .i64 t204, .int .i64 (wrap64 (a2_4 + a3)), .int .i64 a2_5] 115 (0, 0))) := ⟨by (with_reducible repeat (first | refine blk_drewN ?_ _ | refine blk_drew ?_ | refine blk_alloc ?_ _)); refine blk_put (cs := #[.slice Ao8 l2_0.length co8, .int .i64 a2_1, .int .i64 (wrap64 (a2_2 + a3)), .int .i64 a2_3, .int .i64 (wrap64 (a2_4 + a3)), .int .i64 a2_5]) ?_ 3 _ rfl; (with_reducible repeat (first | refine blk_drewN ?_ _ | refine blk_drew ?_ | refine blk_alloc ?_ _)); refine blk_put (cs := #[.slice Ao8 l2_0.length co8, .int .i64 a2_1, .int .i64 (wrap64 (a2_2 + a3)), .int .i64 a2_3, .int .i64 a2_4, .int .i64 a2_5]) ?_ 4 _ rfl; (with_reducible repeat (first | refine blk_drewN ?_ _ | refine blk_drew ?_ | refine blk_alloc ?_ _)); refine blk_put (cs := #[.slice Ao8 l2_0.length co8, .int .i64 a2_1, .int .i64 a2_2, .int .i64 a2_3, .int .i64 a2_4, .int .i64 a2_5]) ?_ 2 _ rfl; (with_reducible repeat (first | refine blk_drewN ?_ _ | refine blk_drew ?_ | refine blk_alloc ?_ _)); exact BK197.out⟩
            have n3_ : Aside0 ((((w49.setCell ⟨gb197, 2, none⟩ (.int .i64 (wrap64 (a2_2 + a3)))).setCell ⟨gb197, 4, none⟩ (.int .i64 (wrap64 (a2_4 + a3)))).setCell ⟨gb197, 3, none⟩ (.int .i64 t204)).heap[gb198]? = some (.cells #[.slice none 0 0, .int .i64 0, .int .i64 0, .int .i64 0, .int .i64 0, .int .i64 0] 115 (0, 0))) := ⟨by (with_reducible repeat (first | refine blk_drewN ?_ _ | refine blk_drew ?_ | refine blk_alloc ?_ _)); refine blk_far ?_ NB198_197.out _; (with_reducible repeat (first | refine blk_drewN ?_ _ | refine blk_drew ?_ | refine blk_alloc ?_ _)); refine blk_far ?_ NB198_197.out _; (with_reducible repeat (first | refine blk_drewN ?_ _ | refine blk_drew ?_ | refine blk_alloc ?_ _)); refine blk_far ?_ NB198_197.out _; (with_reducible repeat (first | refine blk_drewN ?_ _ | refine blk_drew ?_ | refine blk_alloc ?_ _)); exact BK198.out⟩
            have n4_ : Aside0 (Kept w (((w49.setCell ⟨gb197, 2, none⟩ (.int .i64 (wrap64 (a2_2 + a3)))).setCell ⟨gb197, 4, none⟩ (.int .i64 (wrap64 (a2_4 + a3)))).setCell ⟨gb197, 3, none⟩ (.int .i64 t204)) (fun k_ => P2_0_ k_)) := ⟨by repeat (first | (with_reducible first | exact HK.out | apply Kept.alloc | apply Kept.drewN | apply Kept.drew | refine Kept.setCell ?_ (.inr GW196.out) _ | refine Kept.setCell ?_ (.inr GW197.out) _ | refine Kept.setCell ?_ (.inr GW198.out) _) | exact HK.out)⟩
            have n5_ : Aside0 (Below w0.heap.size w0 (((w49.setCell ⟨gb197, 2, none⟩ (.int .i64 (wrap64 (a2_2 + a3)))).setCell ⟨gb197, 4, none⟩ (.int .i64 (wrap64 (a2_4 + a3)))).setCell ⟨gb197, 3, none⟩ (.int .i64 t204))) := ⟨by repeat (first | (with_reducible first | exact HB.out | apply below_alloc | apply pw_below_drewN | apply below_drew1 | refine below_set ?_ GE196.out | refine below_set ?_ GE197.out | refine below_set ?_ GE198.out) | exact HB.out)⟩
            (try clear HO_198000)
            (try clear BK196)
            (try clear BK197)
            (try clear BK198)
            (try clear HK)
            (try clear HB)
            (try simp only [drewN_set])
            generalize (((w49.setCell ⟨gb197, 2, none⟩ (.int .i64 (wrap64 (a2_2 + a3)))).setCell ⟨gb197, 4, none⟩ (.int .i64 (wrap64 (a2_4 + a3)))).setCell ⟨gb197, 3, none⟩ (.int .i64 t204)) = w51 at n0_ n1_ n2_ n3_ n4_ n5_ ⊢
            have HO_198000 := n0_
            have BK196 := n1_
            have BK197 := n2_
            have BK198 := n3_
            have HK := n4_
            have HB := n5_
            clear n0_ n1_ n2_ n3_ n4_ n5_
            (try simp only [World.drewN_drewN]); (try (rw [drewN_self w51]; generalize hq_ : World.drewN w51 _ = w51; have n0_ : Aside0 (Kd.R (Kd.int .i64) 3 w51 w0.heap.size (fun k_ => (P2_0_ k_ ∨ w.heap.size ≤ k_)) (.slice Ao8 l2_0.length co8) l2_0) := ⟨by rw [← hq_]; exact (by (with_reducible repeat (first | apply Kd.R_alloc | apply Kd.R_drewN | apply Kd.R_drew)); exact HO_198000.out)⟩; have n1_ : Aside0 (w51.heap[gb196]? = some (.cells #[.int .i64 a0_0, .int .i64 a0_1, .int .i64 a0_2] 60 (0, 0))) := ⟨by rw [← hq_]; exact (by (with_reducible repeat (first | refine blk_drewN ?_ _ | refine blk_drew ?_ | refine blk_alloc ?_ _)); exact BK196.out)⟩; have n2_ : Aside0 (w51.heap[gb197]? = some (.cells #[.slice Ao8 l2_0.length co8, .int .i64 a2_1, .int .i64 (wrap64 (a2_2 + a3)), .int .i64 t204, .int .i64 (wrap64 (a2_4 + a3)), .int .i64 a2_5] 115 (0, 0))) := ⟨by rw [← hq_]; exact (by (with_reducible repeat (first | refine blk_drewN ?_ _ | refine blk_drew ?_ | refine blk_alloc ?_ _)); exact BK197.out)⟩; have n3_ : Aside0 (w51.heap[gb198]? = some (.cells #[.slice none 0 0, .int .i64 0, .int .i64 0, .int .i64 0, .int .i64 0, .int .i64 0] 115 (0, 0))) := ⟨by rw [← hq_]; exact (by (with_reducible repeat (first | refine blk_drewN ?_ _ | refine blk_drew ?_ | refine blk_alloc ?_ _)); exact BK198.out)⟩; have n4_ : Aside0 (Kept w w51 (fun k_ => P2_0_ k_)) := ⟨by rw [← hq_]; exact (by repeat (first | (with_reducible first | exact HK.out | apply Kept.alloc | apply Kept.drewN | apply Kept.drew | refine Kept.setCell ?_ (.inr GW196.out) _ | refine Kept.setCell ?_ (.inr GW197.out) _ | refine Kept.setCell ?_ (.inr GW198.out) _) | exact HK.out))⟩; have n5_ : Aside0 (Below w0.heap.size w0 w51) := ⟨by rw [← hq_]; exact (by repeat (first | (with_reducible first | exact HB.out | apply below_alloc | apply pw_below_drewN | apply below_drew1 | refine below_set ?_ GE196.out | refine below_set ?_ GE197.out | refine below_set ?_ GE198.out) | exact HB.out))⟩; clear HO_198000 BK196 BK197 BK198 HK HB hq_; have HO_198000 := n0_; have BK196 := n1_; have BK197 := n2_; have BK198 := n3_; have HK := n4_; have HB := n5_; clear n0_ n1_ n2_ n3_ n4_ n5_))
            have n0_ := Aside0.mk (Kd.R_drew HO_198000.out)
            have n1_ := Aside0.mk (blk_drew BK196.out)
            have n2_ := Aside0.mk (blk_drew BK197.out)
            have n3_ := Aside0.mk (blk_drew BK198.out)
            have n4_ := Aside0.mk (Kept.drew HK.out)
            have n5_ := Aside0.mk (below_drew1 HB.out)
            clear HO_198000
            clear BK196
            clear BK197
            clear BK198
            clear HK
            clear HB
            have HO_198000 := n0_
            have BK196 := n1_
            have BK197 := n2_
            have BK198 := n3_
            have HK := n4_
            have HB := n5_
            clear n0_ n1_ n2_ n3_ n4_ n5_
            refine start_ (n := 6) (S := fun w' => w'.cell? ⟨gb197, 0, none⟩ = some (.slice Ao8 l2_0.length co8) ∧ w'.cell? ⟨gb197, 1, none⟩ = some (.int .i64 a2_1) ∧ w'.cell? ⟨gb197, 2, none⟩ = some (.int .i64 (wrap64 (a2_2 + a3))) ∧ w'.cell? ⟨gb197, 3, none⟩ = some (.int .i64 t204) ∧ w'.cell? ⟨gb197, 4, none⟩ = some (.int .i64 (wrap64 (a2_4 + a3))) ∧ w'.cell? ⟨gb197, 5, none⟩ = some (.int .i64 a2_5)) (ds := []) #[false, false, false, false, false, false] (by kernel_rfl) rfl rfl ⟨(blk_cell BK197.out 0).trans rfl, (blk_cell BK197.out 1).trans rfl, (blk_cell BK197.out 2).trans rfl, (blk_cell BK197.out 3).trans rfl, (blk_cell BK197.out 4).trans rfl, (blk_cell BK197.out 5).trans rfl⟩ (fun hHeld => ?_)
            generalize w51.drew = w52 at HO_198000 BK196 BK197 BK198 HK HB hHeld ⊢
            refine pure_ (i := 1) (N := some 112) (v := ?_) (a' := ?_) #[false, true, false, false, false, false] rfl rfl (by kernel_rfl) (fun _ _ _ h => h) (Or.inl ⟨by rfl, ?_⟩) ?_ ?_
            rotate_left
            · intro w'
              go_simp
              with_reducible rfl
            rotate_left
            · simp only [Act.put, List.setIfInBounds_toArray, List.set_cons_zero, List.set_cons_succ, i64_w, i32_w]
              rfl
            refine take_ (i := 0) (N := some 111) (v := ?_) (a' := ?_) #[true, true, false, false, false, false] rfl rfl (by kernel_rfl) (fun _ _ _ h => h) (Or.inl ⟨by rfl, ?_⟩) hHeld ?_ ?_
            rotate_left
            · rintro w' ⟨s0, s1, s2, s3, s4, s5⟩
              go_simp
              with_reducible rfl
            rotate_left
            · simp only [Act.put, List.setIfInBounds_toArray, List.set_cons_zero, List.set_cons_succ, i64_w, i32_w]
              rfl
            refine take_ (i := 2) (N := some 113) (v := ?_) (a' := ?_) #[true, true, true, false, false, false] rfl rfl (by kernel_rfl) (fun _ _ _ h => h) (Or.inl ⟨by rfl, ?_⟩) hHeld ?_ ?_
            rotate_left
            · rintro w' ⟨s0, s1, s2, s3, s4, s5⟩
              go_simp
              with_reducible rfl
            rotate_left
            · simp only [Act.put, List.setIfInBounds_toArray, List.set_cons_zero, List.set_cons_succ, i64_w, i32_w]
              rfl
            refine one_ (i := 3) (N := some 114) #[true, true, true, true, false, false] rfl rfl (by kernel_rfl) (by decide) (fun K hK => ?_)
            refine goes_ Try.func89 (by kernel_rfl) rfl #[.int .i64 a2_5] (by rfl) rfl rfl (by (try simp only [List.map_toArray, List.map_cons, List.map_nil]); first | done | rfl | (simp only [List.length_drop, List.length_take]; rfl)) ?_
            with_reducible refine (spec_l4Size.calls a2_5 t205 _ A43.out).mono ?_
            rintro e w' ⟨rfl, ⟨nd, rfl⟩⟩
            refine ⟨_, rfl, ?_⟩
            refine hK.out _ _ ⟨(blk_cell BK197.out 0).trans rfl, (blk_cell BK197.out 1).trans rfl, (blk_cell BK197.out 2).trans rfl, (blk_cell BK197.out 3).trans rfl, (blk_cell BK197.out 4).trans rfl, (blk_cell BK197.out 5).trans rfl⟩ (fun hHeld => ?_)
            clear hK K
            refine norm_ (a' := ?_) ?_ ?_
            rotate_left
            · show Act.put _ (some 114) _ = _
              simp only [Act.put, List.setIfInBounds_toArray, List.set_cons_zero, List.set_cons_succ, i64_w, i32_w]
              rfl
            refine one_ (i := 4) (N := none) #[true, true, true, true, true, false] rfl rfl (by kernel_rfl) (by decide) (fun K hK => ?_)
            have hs53 : w52.cell? ⟨gb198, 0, none⟩ = some (.slice none 0 0) := (blk_cell BK198.out 0).trans rfl
            have hfs53 := blk_frozen BK198.out 0
            have hns53_0 := NB196_198.out
            have hns53_1 := NB197_198.out
            have hms53_0 := NB198_196.out
            have hms53_1 := NB198_197.out
            have hs54 : w52.cell? ⟨gb198, 1, none⟩ = some (.int .i64 0) := (blk_cell BK198.out 1).trans rfl
            have hfs54 := blk_frozen BK198.out 1
            have hns54_0 := NB196_198.out
            have hns54_1 := NB197_198.out
            have hms54_0 := NB198_196.out
            have hms54_1 := NB198_197.out
            have hs55 : w52.cell? ⟨gb198, 2, none⟩ = some (.int .i64 0) := (blk_cell BK198.out 2).trans rfl
            have hfs55 := blk_frozen BK198.out 2
            have hns55_0 := NB196_198.out
            have hns55_1 := NB197_198.out
            have hms55_0 := NB198_196.out
            have hms55_1 := NB198_197.out
            have hs56 : w52.cell? ⟨gb198, 3, none⟩ = some (.int .i64 0) := (blk_cell BK198.out 3).trans rfl
            have hfs56 := blk_frozen BK198.out 3
            have hns56_0 := NB196_198.out
            have hns56_1 := NB197_198.out
            have hms56_0 := NB198_196.out
            have hms56_1 := NB198_197.out
            have hs57 : w52.cell? ⟨gb198, 4, none⟩ = some (.int .i64 0) := (blk_cell BK198.out 4).trans rfl
            have hfs57 := blk_frozen BK198.out 4
            have hns57_0 := NB196_198.out
            have hns57_1 := NB197_198.out
            have hms57_0 := NB198_196.out
            have hms57_1 := NB198_197.out
            have hs58 : w52.cell? ⟨gb198, 5, none⟩ = some (.int .i64 0) := (blk_cell BK198.out 5).trans rfl
            have hfs58 := blk_frozen BK198.out 5
            have hns58_0 := NB196_198.out
            have hns58_1 := NB197_198.out
            have hms58_0 := NB198_196.out
            have hms58_1 := NB198_197.out
            refine skip_ (w1 := ?_) (by rfl) rfl ?_ ?_
            rotate_left
            · go_simp
              rfl
            refine hK.out _ _ ⟨((cell_far (p := ⟨gb198, _, none⟩) NB197_198.out _).trans (((cell_far (p := ⟨gb198, _, none⟩) NB197_198.out _).trans (((cell_far (p := ⟨gb198, _, none⟩) NB197_198.out _).trans (((cell_far (p := ⟨gb198, _, none⟩) NB197_198.out _).trans (((cell_far (p := ⟨gb198, _, none⟩) NB197_198.out _).trans (((cell_far (p := ⟨gb198, _, none⟩) NB197_198.out _).trans (hHeld.1)))))))))))), ((cell_far (p := ⟨gb198, _, none⟩) NB197_198.out _).trans (((cell_far (p := ⟨gb198, _, none⟩) NB197_198.out _).trans (((cell_far (p := ⟨gb198, _, none⟩) NB197_198.out _).trans (((cell_far (p := ⟨gb198, _, none⟩) NB197_198.out _).trans (((cell_far (p := ⟨gb198, _, none⟩) NB197_198.out _).trans (((cell_far (p := ⟨gb198, _, none⟩) NB197_198.out _).trans (hHeld.2.1)))))))))))), ((cell_far (p := ⟨gb198, _, none⟩) NB197_198.out _).trans (((cell_far (p := ⟨gb198, _, none⟩) NB197_198.out _).trans (((cell_far (p := ⟨gb198, _, none⟩) NB197_198.out _).trans (((cell_far (p := ⟨gb198, _, none⟩) NB197_198.out _).trans (((cell_far (p := ⟨gb198, _, none⟩) NB197_198.out _).trans (((cell_far (p := ⟨gb198, _, none⟩) NB197_198.out _).trans (hHeld.2.2.1)))))))))))), ((cell_far (p := ⟨gb198, _, none⟩) NB197_198.out _).trans (((cell_far (p := ⟨gb198, _, none⟩) NB197_198.out _).trans (((cell_far (p := ⟨gb198, _, none⟩) NB197_198.out _).trans (((cell_far (p := ⟨gb198, _, none⟩) NB197_198.out _).trans (((cell_far (p := ⟨gb198, _, none⟩) NB197_198.out _).trans (((cell_far (p := ⟨gb198, _, none⟩) NB197_198.out _).trans (hHeld.2.2.2.1)))))))))))), ((cell_far (p := ⟨gb198, _, none⟩) NB197_198.out _).trans (((cell_far (p := ⟨gb198, _, none⟩) NB197_198.out _).trans (((cell_far (p := ⟨gb198, _, none⟩) NB197_198.out _).trans (((cell_far (p := ⟨gb198, _, none⟩) NB197_198.out _).trans (((cell_far (p := ⟨gb198, _, none⟩) NB197_198.out _).trans (((cell_far (p := ⟨gb198, _, none⟩) NB197_198.out _).trans (hHeld.2.2.2.2.1)))))))))))), ((cell_far (p := ⟨gb198, _, none⟩) NB197_198.out _).trans (((cell_far (p := ⟨gb198, _, none⟩) NB197_198.out _).trans (((cell_far (p := ⟨gb198, _, none⟩) NB197_198.out _).trans (((cell_far (p := ⟨gb198, _, none⟩) NB197_198.out _).trans (((cell_far (p := ⟨gb198, _, none⟩) NB197_198.out _).trans (((cell_far (p := ⟨gb198, _, none⟩) NB197_198.out _).trans (hHeld.2.2.2.2.2))))))))))))⟩ (fun hHeld => ?_)
            clear hK K
            refine pure_ (i := 5) (N := some 9) (v := ?_) (a' := ?_) #[true, true, true, true, true, true] rfl rfl (by kernel_rfl) (fun _ _ _ h => h) (Or.inl ⟨by rfl, ?_⟩) ?_ ?_
            rotate_left
            · intro w'
              go_simp
              with_reducible rfl
            rotate_left
            · simp only [Act.put, List.setIfInBounds_toArray, List.set_cons_zero, List.set_cons_succ, i64_w, i32_w]
              rfl
            refine done_ (by kernel_rfl) ?_
            try go_wp2
            refine bodyPost_ret (results_ct rfl _ _ gb198 115 #[.slice Ao8 l2_0.length co8, .int .i64 a2_1, .int .i64 (wrap64 (a2_2 + a3)), .int .i64 t204, .int .i64 (wrap64 (a2_4 + a3)), .int .i64 a2_5] (0, 0) _ rfl (by (with_reducible repeat (first | refine blk_drewN ?_ _ | refine blk_drew ?_ | refine blk_alloc ?_ _)); refine blk_put (cs := #[.slice Ao8 l2_0.length co8, .int .i64 a2_1, .int .i64 (wrap64 (a2_2 + a3)), .int .i64 t204, .int .i64 (wrap64 (a2_4 + a3)), .int .i64 0]) ?_ 5 _ rfl; (with_reducible repeat (first | refine blk_drewN ?_ _ | refine blk_drew ?_ | refine blk_alloc ?_ _)); refine blk_put (cs := #[.slice Ao8 l2_0.length co8, .int .i64 a2_1, .int .i64 (wrap64 (a2_2 + a3)), .int .i64 t204, .int .i64 0, .int .i64 0]) ?_ 4 _ rfl; (with_reducible repeat (first | refine blk_drewN ?_ _ | refine blk_drew ?_ | refine blk_alloc ?_ _)); refine blk_put (cs := #[.slice Ao8 l2_0.length co8, .int .i64 a2_1, .int .i64 (wrap64 (a2_2 + a3)), .int .i64 0, .int .i64 0, .int .i64 0]) ?_ 3 _ rfl; (with_reducible repeat (first | refine blk_drewN ?_ _ | refine blk_drew ?_ | refine blk_alloc ?_ _)); refine blk_put (cs := #[.slice Ao8 l2_0.length co8, .int .i64 a2_1, .int .i64 0, .int .i64 0, .int .i64 0, .int .i64 0]) ?_ 2 _ rfl; (with_reducible repeat (first | refine blk_drewN ?_ _ | refine blk_drew ?_ | refine blk_alloc ?_ _)); refine blk_put (cs := #[.slice Ao8 l2_0.length co8, .int .i64 0, .int .i64 0, .int .i64 0, .int .i64 0, .int .i64 0]) ?_ 1 _ rfl; (with_reducible repeat (first | refine blk_drewN ?_ _ | refine blk_drew ?_ | refine blk_alloc ?_ _)); refine blk_put (cs := #[.slice none 0 0, .int .i64 0, .int .i64 0, .int .i64 0, .int .i64 0, .int .i64 0]) ?_ 0 _ rfl; (with_reducible repeat (first | refine blk_drewN ?_ _ | refine blk_drew ?_ | refine blk_alloc ?_ _)); exact BK198.out) Try.underlying115 rfl (by kernel_rfl)) rfl ?_
            exact ⟨_, by first | rfl | (simp [errW_none, errW_some] <;> rfl) | (simp [*, errW_none, errW_some] <;> rfl), by (with_reducible repeat (first | apply Kd.R_alloc | apply Kd.R_drewN | apply Kd.R_drew)); exact Kd.R_mono (Kd.R_far (p := ⟨gb198, 5, none⟩) (Kd.R_far (p := ⟨gb198, 4, none⟩) (Kd.R_far (p := ⟨gb198, 3, none⟩) (Kd.R_far (p := ⟨gb198, 2, none⟩) (Kd.R_far (p := ⟨gb198, 1, none⟩) (Kd.R_far (p := ⟨gb198, 0, none⟩) (Kd.R_types HO_198000.out BK198.out (by decide)) (fun _ hk => hk.2) (.slice Ao8 l2_0.length co8)) (fun _ hk => hk.2) (.int .i64 a2_1)) (fun _ hk => hk.2) (.int .i64 (wrap64 (a2_2 + a3)))) (fun _ hk => hk.2) (.int .i64 t204)) (fun _ hk => hk.2) (.int .i64 (wrap64 (a2_4 + a3)))) (fun _ hk => hk.2) (.int .i64 a2_5)) (fun _ hk => hk.1), by repeat (first | (with_reducible first | exact HB.out | apply below_alloc | apply pw_below_drewN | apply below_drew1 | refine below_set ?_ GE196.out | refine below_set ?_ GE197.out | refine below_set ?_ GE198.out) | exact HB.out), by repeat (first | (with_reducible first | exact HK.out | apply Kept.alloc | apply Kept.drewN | apply Kept.drew | refine Kept.setCell ?_ (.inr GW196.out) _ | refine Kept.setCell ?_ (.inr GW197.out) _ | refine Kept.setCell ?_ (.inr GW198.out) _) | exact HK.out)⟩
  · rw [if_neg c5] at H
    have c5b0 : decide (0 ≤ a3) = false := decide_eq_false c5
    clear c5
    have HC59 := Aside0.mk H
    clear H
    go_enter Try.func119, Try.ntmps119
    go_upto_region 11 with (first | ((with_reducible refine gate_dst (N := 4) rfl ?_); refine box_event ?hg (N := 4) ?hd (cs := #[.int .i64 a0_0, .int .i64 a0_1, .int .i64 a0_2]) (t := 60) ?hr ?_; (case hd => rfl); (case hg => rfl); (case hr => first | (go_simp; done) | (go_simp; rfl)); intro gb196 hg w60 hbox hb; have n0_ := Aside0.mk (Kd.R_below (by (with_reducible repeat (first | apply Kd.R_alloc | apply Kd.R_drewN | apply Kd.R_drew)); exact HO2_0.out) hb); have n1_ := Aside0.mk (Kept.below (S := (fun k_ => P2_0_ k_)) (by repeat (first | (with_reducible first | exact HK.out | apply Kept.alloc | apply Kept.drewN | apply Kept.drew) | exact HK.out)) hb); have n2_ := Aside0.mk (below_step (by repeat (first | (with_reducible first | exact HB.out | apply below_alloc | apply pw_below_drewN | apply below_drew1) | exact HB.out)) hb); have n3_ := Aside0.mk (hbox); have n4_ := Aside0.mk ((by rw [hg]; exact (by first | exact HK.out.1 | exact (show Kept w _ (fun k_ => P2_0_ k_) from by repeat (first | (with_reducible first | exact HK.out | apply Kept.alloc | apply Kept.drewN | apply Kept.drew) | exact HK.out)).1) : w.heap.size ≤ gb196)); have n5_ := Aside0.mk ((by rw [hg]; exact (below_size (by repeat (first | (with_reducible first | exact HB.out | apply below_alloc | apply pw_below_drewN | apply below_drew1) | exact HB.out))) : w0.heap.size ≤ gb196)); clear HO2_0; clear HK; clear HB; have HO2_0 := n0_; have HK := n1_; have HB := n2_; have BK196 := n3_; have GW196 := n4_; have GE196 := n5_; clear n0_ n1_ n2_ n3_ n4_ n5_; clear hb hbox hg; obtain ⟨Ao61, co61, eo61⟩ := Kd.R_slice HO2_0.out; subst eo61) | ((with_reducible refine gate_dst (N := 6) rfl ?_); refine box_event ?hg (N := 6) ?hd (cs := #[.slice Ao61 l2_0.length co61, .int .i64 a2_1, .int .i64 a2_2, .int .i64 a2_3, .int .i64 a2_4, .int .i64 a2_5]) (t := 115) ?hr ?_; (case hd => rfl); (case hg => rfl); (case hr => first | (go_simp; done) | (go_simp; rfl)); intro gb197 hg w62 hbox hb; have n0_ := Aside0.mk (Kd.R_below (by (with_reducible repeat (first | apply Kd.R_alloc | apply Kd.R_drewN | apply Kd.R_drew)); exact HO2_0.out) hb); have n1_ := Aside0.mk (blk_below (g := gb196) (o := .cells #[.int .i64 a0_0, .int .i64 a0_1, .int .i64 a0_2] 60 (0, 0)) (by (with_reducible repeat (first | refine blk_drewN ?_ _ | refine blk_drew ?_ | refine blk_alloc ?_ _)); exact BK196.out) hb); have n2_ := Aside0.mk (Kept.below (S := (fun k_ => P2_0_ k_)) (by repeat (first | (with_reducible first | exact HK.out | apply Kept.alloc | apply Kept.drewN | apply Kept.drew | refine Kept.setCell ?_ (.inr GW196.out) _) | exact HK.out)) hb); have n3_ := Aside0.mk (below_step (by repeat (first | (with_reducible first | exact HB.out | apply below_alloc | apply pw_below_drewN | apply below_drew1 | refine below_set ?_ GE196.out) | exact HB.out)) hb); have n4_ := Aside0.mk (hbox); have n5_ := Aside0.mk ((by rw [hg]; exact (by first | exact HK.out.1 | exact (show Kept w _ (fun k_ => P2_0_ k_) from by repeat (first | (with_reducible first | exact HK.out | apply Kept.alloc | apply Kept.drewN | apply Kept.drew | refine Kept.setCell ?_ (.inr GW196.out) _) | exact HK.out)).1) : w.heap.size ≤ gb197)); have n6_ := Aside0.mk ((by rw [hg]; exact (below_size (by repeat (first | (with_reducible first | exact HB.out | apply below_alloc | apply pw_below_drewN | apply below_drew1 | refine below_set ?_ GE196.out) | exact HB.out))) : w0.heap.size ≤ gb197)); have n7_ := Aside0.mk ((by rw [hg]; exact Nat.ne_of_lt (blk_lt (g := gb196) (o := .cells #[.int .i64 a0_0, .int .i64 a0_1, .int .i64 a0_2] 60 (0, 0)) (by (with_reducible repeat (first | refine blk_drewN ?_ _ | refine blk_drew ?_ | refine blk_alloc ?_ _)); exact BK196.out)) : gb196 ≠ gb197)); have n8_ := Aside0.mk ((by rw [hg]; exact Nat.ne_of_gt (blk_lt (g := gb196) (o := .cells #[.int .i64 a0_0, .int .i64 a0_1, .int .i64 a0_2] 60 (0, 0)) (by (with_reducible repeat (first | refine blk_drewN ?_ _ | refine blk_drew ?_ | refine blk_alloc ?_ _)); exact BK196.out)) : gb197 ≠ gb196)); clear HO2_0; clear BK196; clear HK; clear HB; have HO2_0 := n0_; have BK196 := n1_; have HK := n2_; have HB := n3_; have BK197 := n4_; have GW197 := n5_; have GE197 := n6_; have NB196_197 := n7_; have NB197_196 := n8_; clear n0_ n1_ n2_ n3_ n4_ n5_ n6_ n7_ n8_; clear hb hbox hg) | ((with_reducible refine gate_dst (N := 8) rfl ?_); refine box_event ?hg (N := 8) ?hd (cs := #[.slice none 0 0, .int .i64 0, .int .i64 0, .int .i64 0, .int .i64 0, .int .i64 0]) (t := 115) ?hr ?_; (case hd => rfl); (case hg => rfl); (case hr => first | (go_simp; done) | (go_simp; rfl)); intro gb198 hg w63 hbox hb; have n0_ := Aside0.mk (Kd.R_below (by (with_reducible repeat (first | apply Kd.R_alloc | apply Kd.R_drewN | apply Kd.R_drew)); exact HO2_0.out) hb); have n1_ := Aside0.mk (blk_below (g := gb196) (o := .cells #[.int .i64 a0_0, .int .i64 a0_1, .int .i64 a0_2] 60 (0, 0)) (by (with_reducible repeat (first | refine blk_drewN ?_ _ | refine blk_drew ?_ | refine blk_alloc ?_ _)); exact BK196.out) hb); have n2_ := Aside0.mk (blk_below (g := gb197) (o := .cells #[.slice Ao61 l2_0.length co61, .int .i64 a2_1, .int .i64 a2_2, .int .i64 a2_3, .int .i64 a2_4, .int .i64 a2_5] 115 (0, 0)) (by (with_reducible repeat (first | refine blk_drewN ?_ _ | refine blk_drew ?_ | refine blk_alloc ?_ _)); exact BK197.out) hb); have n3_ := Aside0.mk (Kept.below (S := (fun k_ => P2_0_ k_)) (by repeat (first | (with_reducible first | exact HK.out | apply Kept.alloc | apply Kept.drewN | apply Kept.drew | refine Kept.setCell ?_ (.inr GW196.out) _ | refine Kept.setCell ?_ (.inr GW197.out) _) | exact HK.out)) hb); have n4_ := Aside0.mk (below_step (by repeat (first | (with_reducible first | exact HB.out | apply below_alloc | apply pw_below_drewN | apply below_drew1 | refine below_set ?_ GE196.out | refine below_set ?_ GE197.out) | exact HB.out)) hb); have n5_ := Aside0.mk (hbox); have n6_ := Aside0.mk ((by rw [hg]; exact (by first | exact HK.out.1 | exact (show Kept w _ (fun k_ => P2_0_ k_) from by repeat (first | (with_reducible first | exact HK.out | apply Kept.alloc | apply Kept.drewN | apply Kept.drew | refine Kept.setCell ?_ (.inr GW196.out) _ | refine Kept.setCell ?_ (.inr GW197.out) _) | exact HK.out)).1) : w.heap.size ≤ gb198)); have n7_ := Aside0.mk ((by rw [hg]; exact (below_size (by repeat (first | (with_reducible first | exact HB.out | apply below_alloc | apply pw_below_drewN | apply below_drew1 | refine below_set ?_ GE196.out | refine below_set ?_ GE197.out) | exact HB.out))) : w0.heap.size ≤ gb198)); have n8_ := Aside0.mk ((by rw [hg]; exact Nat.ne_of_lt (blk_lt (g := gb196) (o := .cells #[.int .i64 a0_0, .int .i64 a0_1, .int .i64 a0_2] 60 (0, 0)) (by (with_reducible repeat (first | refine blk_drewN ?_ _ | refine blk_drew ?_ | refine blk_alloc ?_ _)); exact BK196.out)) : gb196 ≠ gb198)); have n9_ := Aside0.mk ((by rw [hg]; exact Nat.ne_of_gt (blk_lt (g := gb196) (o := .cells #[.int .i64 a0_0, .int .i64 a0_1, .int .i64 a0_2] 60 (0, 0)) (by (with_reducible repeat (first | refine blk_drewN ?_ _ | refine blk_drew ?_ | refine blk_alloc ?_ _)); exact BK196.out)) : gb198 ≠ gb196)); have n10_ := Aside0.mk ((by rw [hg]; exact Nat.ne_of_lt (blk_lt (g := gb197) (o := .cells #[.slice Ao61 l2_0.length co61, .int .i64 a2_1, .int .i64 a2_2, .int .i64 a2_3, .int .i64 a2_4, .int .i64 a2_5] 115 (0, 0)) (by (with_reducible repeat (first | refine blk_drewN ?_ _ | refine blk_drew ?_ | refine blk_alloc ?_ _)); exact BK197.out)) : gb197 ≠ gb198)); have n11_ := Aside0.mk ((by rw [hg]; exact Nat.ne_of_gt (blk_lt (g := gb197) (o := .cells #[.slice Ao61 l2_0.length co61, .int .i64 a2_1, .int .i64 a2_2, .int .i64 a2_3, .int .i64 a2_4, .int .i64 a2_5] 115 (0, 0)) (by (with_reducible repeat (first | refine blk_drewN ?_ _ | refine blk_drew ?_ | refine blk_alloc ?_ _)); exact BK197.out)) : gb198 ≠ gb197)); clear HO2_0; clear BK196; clear BK197; clear HK; clear HB; have HO2_0 := n0_; have BK196 := n1_; have BK197 := n2_; have HK := n3_; have HB := n4_; have BK198 := n5_; have GW198 := n6_; have GE198 := n7_; have NB196_198 := n8_; have NB198_196 := n9_; have NB197_198 := n10_; have NB198_197 := n11_; clear n0_ n1_ n2_ n3_ n4_ n5_ n6_ n7_ n8_ n9_ n10_ n11_; clear hb hbox hg))
    (try simp only [Act.put, List.setIfInBounds_toArray, List.set_cons_zero, List.set_cons_succ])
    go_cut [66] (fun v66 wc => ∃ (kq : Nat) (x66_58 : Bool), v66 = .bool x66_58 ∧ Aside0 (spec_l4Do.j1 kq a1 a3 x66_58 l2_0 a2_1 a2_2 a2_3 a2_4 a2_5 = some (r1, r2, r3, r4, r5, r6, r7)) ∧ Aside0 (kq ≤ k) ∧ Aside0 (Kd.R (Kd.int .i64) 3 wc w0.heap.size (fun k_ => (P2_0_ k_ ∨ w.heap.size ≤ k_)) (.slice Ao61 l2_0.length co61) l2_0) ∧ Aside0 (wc.heap[gb196]? = some (.cells #[.int .i64 a0_0, .int .i64 a0_1, .int .i64 a0_2] 60 (0, 0))) ∧ Aside0 (wc.heap[gb197]? = some (.cells #[(.slice Ao61 l2_0.length co61), .int .i64 a2_1, .int .i64 a2_2, .int .i64 a2_3, .int .i64 a2_4, .int .i64 a2_5] 115 (0, 0))) ∧ Aside0 (wc.heap[gb198]? = some (.cells #[(.slice none 0 0), .int .i64 0, .int .i64 0, .int .i64 0, .int .i64 0, .int .i64 0] 115 (0, 0))) ∧ Aside0 (Kept w wc (fun k_ => P2_0_ k_)) ∧ Aside0 (Below w0.heap.size w0 wc))
    case first =>
      have H := HC59.out
      clear HC59
      by_cases c64 : a1 = 0
      · rw [if_pos c64] at H
        have c64b0 : (a1 == 0) = true := beq_iff_eq.mpr c64
        have c64b1 : (a1 != 0) = false := bne_eq_false_iff_eq.mpr c64
        clear c64
        (first | rw [c64b0] | (simp only [i64_w, i32_w]; rw [c64b0]) | skip)
        have H' := Aside0.mk H
        clear H
        go_wp2
        go_meet
        case rel => exact ⟨_, (true), (by first | rfl | (simp; done) | (simp [*]; done)), H', ⟨by first | omega | exact Nat.le_refl _⟩, ⟨by (with_reducible repeat (first | apply Kd.R_alloc | apply Kd.R_drewN | apply Kd.R_drew)); exact HO2_0.out⟩, ⟨by (with_reducible repeat (first | refine blk_drewN ?_ _ | refine blk_drew ?_ | refine blk_alloc ?_ _)); exact BK196.out⟩, ⟨by (with_reducible repeat (first | refine blk_drewN ?_ _ | refine blk_drew ?_ | refine blk_alloc ?_ _)); exact BK197.out⟩, ⟨by (with_reducible repeat (first | refine blk_drewN ?_ _ | refine blk_drew ?_ | refine blk_alloc ?_ _)); exact BK198.out⟩, ⟨by repeat (first | (with_reducible first | exact HK.out | apply Kept.alloc | apply Kept.drewN | apply Kept.drew | refine Kept.setCell ?_ (.inr GW196.out) _ | refine Kept.setCell ?_ (.inr GW197.out) _ | refine Kept.setCell ?_ (.inr GW198.out) _) | exact HK.out)⟩, ⟨by repeat (first | (with_reducible first | exact HB.out | apply below_alloc | apply pw_below_drewN | apply below_drew1 | refine below_set ?_ GE196.out | refine below_set ?_ GE197.out | refine below_set ?_ GE198.out) | exact HB.out)⟩⟩
      · rw [if_neg c64] at H
        have c64b0 : (a1 == 0) = false := beq_eq_false_iff_ne.mpr c64
        have c64b1 : (a1 != 0) = true := bne_iff_ne.mpr c64
        (first | rw [c64b0] | (simp only [i64_w, i32_w]; rw [c64b0]) | skip)
        have H' := Aside0.mk H
        clear H
        have hnb65 := NB197_196.out
        have hnc65 := NB196_197.out
        have hnb66 := NB197_198.out
        have hnc66 := NB198_197.out
        have hcz67_0 : w63.cell? ⟨gb197, 0, none⟩ = some (.slice Ao61 l2_0.length co61) := (blk_cell BK197.out 0).trans rfl
        have hcz67_1 : w63.cell? ⟨gb197, 1, none⟩ = some (.int .i64 a2_1) := (blk_cell BK197.out 1).trans rfl
        have hcz67_2 : w63.cell? ⟨gb197, 2, none⟩ = some (.int .i64 a2_2) := (blk_cell BK197.out 2).trans rfl
        have hcz67_3 : w63.cell? ⟨gb197, 3, none⟩ = some (.int .i64 a2_3) := (blk_cell BK197.out 3).trans rfl
        have hcz67_4 : w63.cell? ⟨gb197, 4, none⟩ = some (.int .i64 a2_4) := (blk_cell BK197.out 4).trans rfl
        have hcz67_5 : w63.cell? ⟨gb197, 5, none⟩ = some (.int .i64 a2_5) := (blk_cell BK197.out 5).trans rfl
        have hfz67_0 := blk_frozen BK197.out 0
        have hfz67_1 := blk_frozen BK197.out 1
        have hfz67_2 := blk_frozen BK197.out 2
        have hfz67_3 := blk_frozen BK197.out 3
        have hfz67_4 := blk_frozen BK197.out 4
        have hfz67_5 := blk_frozen BK197.out 5
        go_wp2
        go_meet
        case rel => exact ⟨_, (decide ((wrap64 (a2_4 + a3)) < 0)), (by first | rfl | (simp; done) | (simp [*]; done)), H', ⟨by first | omega | exact Nat.le_refl _⟩, ⟨by (with_reducible repeat (first | apply Kd.R_alloc | apply Kd.R_drewN | apply Kd.R_drew)); exact HO2_0.out⟩, ⟨by (with_reducible repeat (first | refine blk_drewN ?_ _ | refine blk_drew ?_ | refine blk_alloc ?_ _)); exact BK196.out⟩, ⟨by (with_reducible repeat (first | refine blk_drewN ?_ _ | refine blk_drew ?_ | refine blk_alloc ?_ _)); exact BK197.out⟩, ⟨by (with_reducible repeat (first | refine blk_drewN ?_ _ | refine blk_drew ?_ | refine blk_alloc ?_ _)); exact BK198.out⟩, ⟨by repeat (first | (with_reducible first | exact HK.out | apply Kept.alloc | apply Kept.drewN | apply Kept.drew | refine Kept.setCell ?_ (.inr GW196.out) _ | refine Kept.setCell ?_ (.inr GW197.out) _ | refine Kept.setCell ?_ (.inr GW198.out) _) | exact HK.out)⟩, ⟨by repeat (first | (with_reducible first | exact HB.out | apply below_alloc | apply pw_below_drewN | apply below_drew1 | refine below_set ?_ GE196.out | refine below_set ?_ GE197.out | refine below_set ?_ GE198.out) | exact HB.out)⟩⟩
    case rest =>
      clear HC59
      try clear c1
      try clear c2
      try clear p2
      try clear c3
      try clear c4
      try clear c5
      try clear c5b0
      try clear c6
      try clear p6
      try clear c8
      try clear c9
      try clear c11
      try clear c12
      try clear c14
      try clear c15
      try clear c17
      try clear c18
      try clear c19
      try clear c21
      try clear c24
      try clear c24b0
      try clear c27
      try clear c28
      try clear c30
      try clear c44
      try clear c45
      try clear c47
      try clear c64
      try clear c64b0
      try clear c64b1
      try clear p64
      try clear c65
      try clear c66
      try clear hcz16_0
      try clear hcz16_1
      try clear hcz16_2
      try clear hcz16_3
      try clear hcz16_4
      try clear hcz16_5
      try clear hcz20_0
      try clear hcz20_1
      try clear hcz20_2
      try clear hcz20_3
      try clear hcz20_4
      try clear hcz20_5
      try clear hcz22_0
      try clear hcz22_1
      try clear hcz22_2
      try clear hcz22_3
      try clear hcz22_4
      try clear hcz22_5
      try clear hcz29_0
      try clear hcz29_1
      try clear hcz29_2
      try clear hcz31_0
      try clear hcz31_1
      try clear hcz31_2
      try clear hcz31_3
      try clear hcz31_4
      try clear hcz31_5
      try clear hcz33_0
      try clear hcz33_1
      try clear hcz33_2
      try clear hcz33_3
      try clear hcz33_4
      try clear hcz33_5
      try clear hcz46_0
      try clear hcz46_1
      try clear hcz46_2
      try clear hcz48_0
      try clear hcz48_1
      try clear hcz48_2
      try clear hcz48_3
      try clear hcz48_4
      try clear hcz48_5
      try clear hcz50_0
      try clear hcz50_1
      try clear hcz50_2
      try clear hcz50_3
      try clear hcz50_4
      try clear hcz50_5
      try clear hcz67_0
      try clear hcz67_1
      try clear hcz67_2
      try clear hcz67_3
      try clear hcz67_4
      try clear hcz67_5
      try clear hfz16_0
      try clear hfz16_1
      try clear hfz16_2
      try clear hfz16_3
      try clear hfz16_4
      try clear hfz16_5
      try clear hfz20_0
      try clear hfz20_1
      try clear hfz20_2
      try clear hfz20_3
      try clear hfz20_4
      try clear hfz20_5
      try clear hfz22_0
      try clear hfz22_1
      try clear hfz22_2
      try clear hfz22_3
      try clear hfz22_4
      try clear hfz22_5
      try clear hfz29_0
      try clear hfz29_1
      try clear hfz29_2
      try clear hfz31_0
      try clear hfz31_1
      try clear hfz31_2
      try clear hfz31_3
      try clear hfz31_4
      try clear hfz31_5
      try clear hfz33_0
      try clear hfz33_1
      try clear hfz33_2
      try clear hfz33_3
      try clear hfz33_4
      try clear hfz33_5
      try clear hfz46_0
      try clear hfz46_1
      try clear hfz46_2
      try clear hfz48_0
      try clear hfz48_1
      try clear hfz48_2
      try clear hfz48_3
      try clear hfz48_4
      try clear hfz48_5
      try clear hfz50_0
      try clear hfz50_1
      try clear hfz50_2
      try clear hfz50_3
      try clear hfz50_4
      try clear hfz50_5
      try clear hfz67_0
      try clear hfz67_1
      try clear hfz67_2
      try clear hfz67_3
      try clear hfz67_4
      try clear hfz67_5
      try clear p2
      try clear p6
      obtain ⟨kq, x66_58, rfl, HA, HJ58, HO_198000, BK196, BK197, BK198, HK, HB⟩ := hcut
      cases kq with
      | zero => exact absurd HA.out (by simp [spec_l4Do.j1])
      | succ kj58 =>
        have H := HA.out
        clear HA
        simp only [spec_l4Do.j1] at H
        by_cases c68 : x66_58 = true
        · subst c68
          have H1 : (some (l2_0, a2_1, a2_2, a2_3, a2_4, a2_5, false)) = some (r1, r2, r3, r4, r5, r6, r7) := by rw [if_pos rfl] at H; exact H
          clear H
          have H := H1
          clear H1
          simp only [Option.some.injEq, Prod.mk.injEq] at H
          obtain ⟨rfl, rfl, rfl, rfl, rfl, rfl, rfl⟩ := H
          have hnb69 := NB197_196.out
          have hnc69 := NB196_197.out
          have hnb70 := NB197_198.out
          have hnc70 := NB198_197.out
          have hcz71_0 : wc.cell? ⟨gb197, 0, none⟩ = some (.slice Ao61 l2_0.length co61) := (blk_cell BK197.out 0).trans rfl
          have hcz71_1 : wc.cell? ⟨gb197, 1, none⟩ = some (.int .i64 a2_1) := (blk_cell BK197.out 1).trans rfl
          have hcz71_2 : wc.cell? ⟨gb197, 2, none⟩ = some (.int .i64 a2_2) := (blk_cell BK197.out 2).trans rfl
          have hcz71_3 : wc.cell? ⟨gb197, 3, none⟩ = some (.int .i64 a2_3) := (blk_cell BK197.out 3).trans rfl
          have hcz71_4 : wc.cell? ⟨gb197, 4, none⟩ = some (.int .i64 a2_4) := (blk_cell BK197.out 4).trans rfl
          have hcz71_5 : wc.cell? ⟨gb197, 5, none⟩ = some (.int .i64 a2_5) := (blk_cell BK197.out 5).trans rfl
          have hfz71_0 := blk_frozen BK197.out 0
          have hfz71_1 := blk_frozen BK197.out 1
          have hfz71_2 := blk_frozen BK197.out 2
          have hfz71_3 := blk_frozen BK197.out 3
          have hfz71_4 := blk_frozen BK197.out 4
          have hfz71_5 := blk_frozen BK197.out 5
          have hnb72 := NB198_196.out
          have hnc72 := NB196_198.out
          have hcz73_0 : wc.cell? ⟨gb198, 0, none⟩ = some (.slice none 0 0) := (blk_cell BK198.out 0).trans rfl
          have hcz73_1 : wc.cell? ⟨gb198, 1, none⟩ = some (.int .i64 0) := (blk_cell BK198.out 1).trans rfl
          have hcz73_2 : wc.cell? ⟨gb198, 2, none⟩ = some (.int .i64 0) := (blk_cell BK198.out 2).trans rfl
          have hcz73_3 : wc.cell? ⟨gb198, 3, none⟩ = some (.int .i64 0) := (blk_cell BK198.out 3).trans rfl
          have hcz73_4 : wc.cell? ⟨gb198, 4, none⟩ = some (.int .i64 0) := (blk_cell BK198.out 4).trans rfl
          have hcz73_5 : wc.cell? ⟨gb198, 5, none⟩ = some (.int .i64 0) := (blk_cell BK198.out 5).trans rfl
          have hfz73_0 := blk_frozen BK198.out 0
          have hfz73_1 := blk_frozen BK198.out 1
          have hfz73_2 := blk_frozen BK198.out 2
          have hfz73_3 := blk_frozen BK198.out 3
          have hfz73_4 := blk_frozen BK198.out 4
          have hfz73_5 := blk_frozen BK198.out 5
          go_wp2
          refine bodyPost_ret (results_ct rfl _ _ gb198 115 #[.slice Ao61 l2_0.length co61, .int .i64 a2_1, .int .i64 a2_2, .int .i64 a2_3, .int .i64 a2_4, .int .i64 a2_5] (0, 0) _ rfl (by (with_reducible repeat (first | refine blk_drewN ?_ _ | refine blk_drew ?_ | refine blk_alloc ?_ _)); refine blk_put (cs := #[.slice Ao61 l2_0.length co61, .int .i64 a2_1, .int .i64 a2_2, .int .i64 a2_3, .int .i64 a2_4, .int .i64 0]) ?_ 5 _ rfl; (with_reducible repeat (first | refine blk_drewN ?_ _ | refine blk_drew ?_ | refine blk_alloc ?_ _)); refine blk_put (cs := #[.slice Ao61 l2_0.length co61, .int .i64 a2_1, .int .i64 a2_2, .int .i64 a2_3, .int .i64 0, .int .i64 0]) ?_ 4 _ rfl; (with_reducible repeat (first | refine blk_drewN ?_ _ | refine blk_drew ?_ | refine blk_alloc ?_ _)); refine blk_put (cs := #[.slice Ao61 l2_0.length co61, .int .i64 a2_1, .int .i64 a2_2, .int .i64 0, .int .i64 0, .int .i64 0]) ?_ 3 _ rfl; (with_reducible repeat (first | refine blk_drewN ?_ _ | refine blk_drew ?_ | refine blk_alloc ?_ _)); refine blk_put (cs := #[.slice Ao61 l2_0.length co61, .int .i64 a2_1, .int .i64 0, .int .i64 0, .int .i64 0, .int .i64 0]) ?_ 2 _ rfl; (with_reducible repeat (first | refine blk_drewN ?_ _ | refine blk_drew ?_ | refine blk_alloc ?_ _)); refine blk_put (cs := #[.slice Ao61 l2_0.length co61, .int .i64 0, .int .i64 0, .int .i64 0, .int .i64 0, .int .i64 0]) ?_ 1 _ rfl; (with_reducible repeat (first | refine blk_drewN ?_ _ | refine blk_drew ?_ | refine blk_alloc ?_ _)); refine blk_put (cs := #[.slice none 0 0, .int .i64 0, .int .i64 0, .int .i64 0, .int .i64 0, .int .i64 0]) ?_ 0 _ rfl; (with_reducible repeat (first | refine blk_drewN ?_ _ | refine blk_drew ?_ | refine blk_alloc ?_ _)); exact BK198.out) Try.underlying115 rfl (by kernel_rfl)) rfl ?_
          exact ⟨_, by first | rfl | (simp [errW_none, errW_some] <;> rfl) | (simp [*, errW_none, errW_some] <;> rfl), by (with_reducible repeat (first | apply Kd.R_alloc | apply Kd.R_drewN | apply Kd.R_drew)); exact Kd.R_mono (Kd.R_far (p := ⟨gb198, 5, none⟩) (Kd.R_far (p := ⟨gb198, 4, none⟩) (Kd.R_far (p := ⟨gb198, 3, none⟩) (Kd.R_far (p := ⟨gb198, 2, none⟩) (Kd.R_far (p := ⟨gb198, 1, none⟩) (Kd.R_far (p := ⟨gb198, 0, none⟩) (Kd.R_types HO_198000.out BK198.out (by decide)) (fun _ hk => hk.2) (.slice Ao61 l2_0.length co61)) (fun _ hk => hk.2) (.int .i64 a2_1)) (fun _ hk => hk.2) (.int .i64 a2_2)) (fun _ hk => hk.2) (.int .i64 a2_3)) (fun _ hk => hk.2) (.int .i64 a2_4)) (fun _ hk => hk.2) (.int .i64 a2_5)) (fun _ hk => hk.1), by repeat (first | (with_reducible first | exact HB.out | apply below_alloc | apply pw_below_drewN | apply below_drew1 | refine below_set ?_ GE196.out | refine below_set ?_ GE197.out | refine below_set ?_ GE198.out) | exact HB.out), by repeat (first | (with_reducible first | exact HK.out | apply Kept.alloc | apply Kept.drewN | apply Kept.drew | refine Kept.setCell ?_ (.inr GW196.out) _ | refine Kept.setCell ?_ (.inr GW197.out) _ | refine Kept.setCell ?_ (.inr GW198.out) _) | exact HK.out)⟩
        · replace c68 := Bool.eq_false_iff.mpr c68
          subst c68
          have H1 : (if a2_5 ≥ (wrap64 (a1 * (wrap64 (a2_4 + a3)))) then (spec_l4Do.j2 kj58 (decide (a2_5 > 1)) l2_0 a2_1 a2_2 a2_3 (wrap64 (a2_4 + a3)) a2_5) else (spec_l4Do.j2 kj58 false l2_0 a2_1 a2_2 a2_3 (wrap64 (a2_4 + a3)) a2_5)) = some (r1, r2, r3, r4, r5, r6, r7) := by rw [if_neg (show ¬ (false = true) by decide)] at H; exact H
          clear H
          have H := H1
          clear H1
          have HC74 := Aside0.mk H
          clear H
          have hnb75 := NB197_196.out
          have hnc75 := NB196_197.out
          have hnb76 := NB197_198.out
          have hnc76 := NB198_197.out
          have hcz77_0 : wc.cell? ⟨gb197, 0, none⟩ = some (.slice Ao61 l2_0.length co61) := (blk_cell BK197.out 0).trans rfl
          have hcz77_1 : wc.cell? ⟨gb197, 1, none⟩ = some (.int .i64 a2_1) := (blk_cell BK197.out 1).trans rfl
          have hcz77_2 : wc.cell? ⟨gb197, 2, none⟩ = some (.int .i64 a2_2) := (blk_cell BK197.out 2).trans rfl
          have hcz77_3 : wc.cell? ⟨gb197, 3, none⟩ = some (.int .i64 a2_3) := (blk_cell BK197.out 3).trans rfl
          have hcz77_4 : wc.cell? ⟨gb197, 4, none⟩ = some (.int .i64 a2_4) := (blk_cell BK197.out 4).trans rfl
          have hcz77_5 : wc.cell? ⟨gb197, 5, none⟩ = some (.int .i64 a2_5) := (blk_cell BK197.out 5).trans rfl
          have hfz77_0 := blk_frozen BK197.out 0
          have hfz77_1 := blk_frozen BK197.out 1
          have hfz77_2 := blk_frozen BK197.out 2
          have hfz77_3 := blk_frozen BK197.out 3
          have hfz77_4 := blk_frozen BK197.out 4
          have hfz77_5 := blk_frozen BK197.out 5
          go_upto_region 14 with (fail)
          go_cut [84] (fun v84 wc => ∃ (kq : Nat) (x84_73 : Bool), v84 = .bool x84_73 ∧ Aside0 (spec_l4Do.j2 kq x84_73 l2_0 a2_1 a2_2 a2_3 (wrap64 (a2_4 + a3)) a2_5 = some (r1, r2, r3, r4, r5, r6, r7)) ∧ Aside0 (kq ≤ kj58) ∧ Aside0 (Kd.R (Kd.int .i64) 3 wc w0.heap.size (fun k_ => (P2_0_ k_ ∨ w.heap.size ≤ k_)) (.slice Ao61 l2_0.length co61) l2_0) ∧ Aside0 (wc.heap[gb196]? = some (.cells #[.int .i64 a0_0, .int .i64 a0_1, .int .i64 a0_2] 60 (0, 0))) ∧ Aside0 (wc.heap[gb197]? = some (.cells #[(.slice Ao61 l2_0.length co61), .int .i64 a2_1, .int .i64 a2_2, .int .i64 a2_3, .int .i64 (wrap64 (a2_4 + a3)), .int .i64 a2_5] 115 (0, 0))) ∧ Aside0 (wc.heap[gb198]? = some (.cells #[(.slice none 0 0), .int .i64 0, .int .i64 0, .int .i64 0, .int .i64 0, .int .i64 0] 115 (0, 0))) ∧ Aside0 (Kept w wc (fun k_ => P2_0_ k_)) ∧ Aside0 (Below w0.heap.size w0 wc))
          case first =>
            have H := HC74.out
            clear HC74
            by_cases c78 : a2_5 ≥ (wrap64 (a1 * (wrap64 (a2_4 + a3))))
            · rw [if_pos c78] at H
              have c78b0 : decide ((wrap64 (a1 * (wrap64 (a2_4 + a3)))) ≤ a2_5) = true := decide_eq_true c78
              clear c78
              (first | rw [c78b0] | (simp only [i64_w, i32_w]; rw [c78b0]) | skip)
              have H' := Aside0.mk H
              clear H
              have hnb79 := NB197_196.out
              have hnc79 := NB196_197.out
              have hnb80 := NB197_198.out
              have hnc80 := NB198_197.out
              have hcz81_0 : wc.cell? ⟨gb197, 0, none⟩ = some (.slice Ao61 l2_0.length co61) := (blk_cell BK197.out 0).trans rfl
              have hcz81_1 : wc.cell? ⟨gb197, 1, none⟩ = some (.int .i64 a2_1) := (blk_cell BK197.out 1).trans rfl
              have hcz81_2 : wc.cell? ⟨gb197, 2, none⟩ = some (.int .i64 a2_2) := (blk_cell BK197.out 2).trans rfl
              have hcz81_3 : wc.cell? ⟨gb197, 3, none⟩ = some (.int .i64 a2_3) := (blk_cell BK197.out 3).trans rfl
              have hcz81_4 : wc.cell? ⟨gb197, 4, none⟩ = some (.int .i64 a2_4) := (blk_cell BK197.out 4).trans rfl
              have hcz81_5 : wc.cell? ⟨gb197, 5, none⟩ = some (.int .i64 a2_5) := (blk_cell BK197.out 5).trans rfl
              have hfz81_0 := blk_frozen BK197.out 0
              have hfz81_1 := blk_frozen BK197.out 1
              have hfz81_2 := blk_frozen BK197.out 2
              have hfz81_3 := blk_frozen BK197.out 3
              have hfz81_4 := blk_frozen BK197.out 4
              have hfz81_5 := blk_frozen BK197.out 5
              go_wp2
              go_meet
              case rel => exact ⟨_, (decide (a2_5 > 1)), (by first | rfl | (simp; done) | (simp [*]; done)), H', ⟨by have := HJ58.out; first | omega | exact Nat.le_refl _⟩, ⟨by (with_reducible repeat (first | apply Kd.R_alloc | apply Kd.R_drewN | apply Kd.R_drew)); exact Kd.R_mono (Kd.R_far (p := ⟨gb197, 4, none⟩) (Kd.R_types HO_198000.out BK197.out (by decide)) (fun _ hk => hk.2) (.int .i64 (wrap64 (a2_4 + a3)))) (fun _ hk => hk.1)⟩, ⟨by (with_reducible repeat (first | refine blk_drewN ?_ _ | refine blk_drew ?_ | refine blk_alloc ?_ _)); refine blk_far ?_ NB196_197.out _; (with_reducible repeat (first | refine blk_drewN ?_ _ | refine blk_drew ?_ | refine blk_alloc ?_ _)); exact BK196.out⟩, ⟨by (with_reducible repeat (first | refine blk_drewN ?_ _ | refine blk_drew ?_ | refine blk_alloc ?_ _)); refine blk_put (cs := #[.slice Ao61 l2_0.length co61, .int .i64 a2_1, .int .i64 a2_2, .int .i64 a2_3, .int .i64 a2_4, .int .i64 a2_5]) ?_ 4 _ rfl; (with_reducible repeat (first | refine blk_drewN ?_ _ | refine blk_drew ?_ | refine blk_alloc ?_ _)); exact BK197.out⟩, ⟨by (with_reducible repeat (first | refine blk_drewN ?_ _ | refine blk_drew ?_ | refine blk_alloc ?_ _)); refine blk_far ?_ NB198_197.out _; (with_reducible repeat (first | refine blk_drewN ?_ _ | refine blk_drew ?_ | refine blk_alloc ?_ _)); exact BK198.out⟩, ⟨by repeat (first | (with_reducible first | exact HK.out | apply Kept.alloc | apply Kept.drewN | apply Kept.drew | refine Kept.setCell ?_ (.inr GW196.out) _ | refine Kept.setCell ?_ (.inr GW197.out) _ | refine Kept.setCell ?_ (.inr GW198.out) _) | exact HK.out)⟩, ⟨by repeat (first | (with_reducible first | exact HB.out | apply below_alloc | apply pw_below_drewN | apply below_drew1 | refine below_set ?_ GE196.out | refine below_set ?_ GE197.out | refine below_set ?_ GE198.out) | exact HB.out)⟩⟩
            · rw [if_neg c78] at H
              have c78b0 : decide ((wrap64 (a1 * (wrap64 (a2_4 + a3)))) ≤ a2_5) = false := decide_eq_false c78
              clear c78
              (first | rw [c78b0] | (simp only [i64_w, i32_w]; rw [c78b0]) | skip)
              have H' := Aside0.mk H
              clear H
              have hnb82 := NB197_196.out
              have hnc82 := NB196_197.out
              have hnb83 := NB197_198.out
              have hnc83 := NB198_197.out
              have hcz84_0 : wc.cell? ⟨gb197, 0, none⟩ = some (.slice Ao61 l2_0.length co61) := (blk_cell BK197.out 0).trans rfl
              have hcz84_1 : wc.cell? ⟨gb197, 1, none⟩ = some (.int .i64 a2_1) := (blk_cell BK197.out 1).trans rfl
              have hcz84_2 : wc.cell? ⟨gb197, 2, none⟩ = some (.int .i64 a2_2) := (blk_cell BK197.out 2).trans rfl
              have hcz84_3 : wc.cell? ⟨gb197, 3, none⟩ = some (.int .i64 a2_3) := (blk_cell BK197.out 3).trans rfl
              have hcz84_4 : wc.cell? ⟨gb197, 4, none⟩ = some (.int .i64 a2_4) := (blk_cell BK197.out 4).trans rfl
              have hcz84_5 : wc.cell? ⟨gb197, 5, none⟩ = some (.int .i64 a2_5) := (blk_cell BK197.out 5).trans rfl
              have hfz84_0 := blk_frozen BK197.out 0
              have hfz84_1 := blk_frozen BK197.out 1
              have hfz84_2 := blk_frozen BK197.out 2
              have hfz84_3 := blk_frozen BK197.out 3
              have hfz84_4 := blk_frozen BK197.out 4
              have hfz84_5 := blk_frozen BK197.out 5
              go_wp2
              go_meet
              case rel => exact ⟨_, (false), (by first | rfl | (simp; done) | (simp [*]; done)), H', ⟨by have := HJ58.out; first | omega | exact Nat.le_refl _⟩, ⟨by (with_reducible repeat (first | apply Kd.R_alloc | apply Kd.R_drewN | apply Kd.R_drew)); exact Kd.R_mono (Kd.R_far (p := ⟨gb197, 4, none⟩) (Kd.R_types HO_198000.out BK197.out (by decide)) (fun _ hk => hk.2) (.int .i64 (wrap64 (a2_4 + a3)))) (fun _ hk => hk.1)⟩, ⟨by (with_reducible repeat (first | refine blk_drewN ?_ _ | refine blk_drew ?_ | refine blk_alloc ?_ _)); refine blk_far ?_ NB196_197.out _; (with_reducible repeat (first | refine blk_drewN ?_ _ | refine blk_drew ?_ | refine blk_alloc ?_ _)); exact BK196.out⟩, ⟨by (with_reducible repeat (first | refine blk_drewN ?_ _ | refine blk_drew ?_ | refine blk_alloc ?_ _)); refine blk_put (cs := #[.slice Ao61 l2_0.length co61, .int .i64 a2_1, .int .i64 a2_2, .int .i64 a2_3, .int .i64 a2_4, .int .i64 a2_5]) ?_ 4 _ rfl; (with_reducible repeat (first | refine blk_drewN ?_ _ | refine blk_drew ?_ | refine blk_alloc ?_ _)); exact BK197.out⟩, ⟨by (with_reducible repeat (first | refine blk_drewN ?_ _ | refine blk_drew ?_ | refine blk_alloc ?_ _)); refine blk_far ?_ NB198_197.out _; (with_reducible repeat (first | refine blk_drewN ?_ _ | refine blk_drew ?_ | refine blk_alloc ?_ _)); exact BK198.out⟩, ⟨by repeat (first | (with_reducible first | exact HK.out | apply Kept.alloc | apply Kept.drewN | apply Kept.drew | refine Kept.setCell ?_ (.inr GW196.out) _ | refine Kept.setCell ?_ (.inr GW197.out) _ | refine Kept.setCell ?_ (.inr GW198.out) _) | exact HK.out)⟩, ⟨by repeat (first | (with_reducible first | exact HB.out | apply below_alloc | apply pw_below_drewN | apply below_drew1 | refine below_set ?_ GE196.out | refine below_set ?_ GE197.out | refine below_set ?_ GE198.out) | exact HB.out)⟩⟩
          case rest =>
            clear HC74
            try clear c1
            try clear c2
            try clear p2
            try clear c3
            try clear c4
            try clear c5
            try clear c5b0
            try clear c6
            try clear p6
            try clear c7
            try clear c8
            try clear c9
            try clear c11
            try clear c12
            try clear c14
            try clear c15
            try clear c17
            try clear c18
            try clear c19
            try clear c21
            try clear c24
            try clear c24b0
            try clear c27
            try clear c28
            try clear c30
            try clear c44
            try clear c45
            try clear c47
            try clear c64
            try clear c64b0
            try clear c64b1
            try clear p64
            try clear c65
            try clear c66
            try clear c68
            try clear c69
            try clear c70
            try clear c72
            try clear c75
            try clear c76
            try clear c78
            try clear c78b0
            try clear c79
            try clear c80
            try clear c82
            try clear c83
            try clear hcz16_0
            try clear hcz16_1
            try clear hcz16_2
            try clear hcz16_3
            try clear hcz16_4
            try clear hcz16_5
            try clear hcz20_0
            try clear hcz20_1
            try clear hcz20_2
            try clear hcz20_3
            try clear hcz20_4
            try clear hcz20_5
            try clear hcz22_0
            try clear hcz22_1
            try clear hcz22_2
            try clear hcz22_3
            try clear hcz22_4
            try clear hcz22_5
            try clear hcz29_0
            try clear hcz29_1
            try clear hcz29_2
            try clear hcz31_0
            try clear hcz31_1
            try clear hcz31_2
            try clear hcz31_3
            try clear hcz31_4
            try clear hcz31_5
            try clear hcz33_0
            try clear hcz33_1
            try clear hcz33_2
            try clear hcz33_3
            try clear hcz33_4
            try clear hcz33_5
            try clear hcz46_0
            try clear hcz46_1
            try clear hcz46_2
            try clear hcz48_0
            try clear hcz48_1
            try clear hcz48_2
            try clear hcz48_3
            try clear hcz48_4
            try clear hcz48_5
            try clear hcz50_0
            try clear hcz50_1
            try clear hcz50_2
            try clear hcz50_3
            try clear hcz50_4
            try clear hcz50_5
            try clear hcz67_0
            try clear hcz67_1
            try clear hcz67_2
            try clear hcz67_3
            try clear hcz67_4
            try clear hcz67_5
            try clear hcz71_0
            try clear hcz71_1
            try clear hcz71_2
            try clear hcz71_3
            try clear hcz71_4
            try clear hcz71_5
            try clear hcz73_0
            try clear hcz73_1
            try clear hcz73_2
            try clear hcz73_3
            try clear hcz73_4
            try clear hcz73_5
            try clear hcz77_0
            try clear hcz77_1
            try clear hcz77_2
            try clear hcz77_3
            try clear hcz77_4
            try clear hcz77_5
            try clear hcz81_0
            try clear hcz81_1
            try clear hcz81_2
            try clear hcz81_3
            try clear hcz81_4
            try clear hcz81_5
            try clear hcz84_0
            try clear hcz84_1
            try clear hcz84_2
            try clear hcz84_3
            try clear hcz84_4
            try clear hcz84_5
            try clear hfz16_0
            try clear hfz16_1
            try clear hfz16_2
            try clear hfz16_3
            try clear hfz16_4
            try clear hfz16_5
            try clear hfz20_0
            try clear hfz20_1
            try clear hfz20_2
            try clear hfz20_3
            try clear hfz20_4
            try clear hfz20_5
            try clear hfz22_0
            try clear hfz22_1
            try clear hfz22_2
            try clear hfz22_3
            try clear hfz22_4
            try clear hfz22_5
            try clear hfz29_0
            try clear hfz29_1
            try clear hfz29_2
            try clear hfz31_0
            try clear hfz31_1
            try clear hfz31_2
            try clear hfz31_3
            try clear hfz31_4
            try clear hfz31_5
            try clear hfz33_0
            try clear hfz33_1
            try clear hfz33_2
            try clear hfz33_3
            try clear hfz33_4
            try clear hfz33_5
            try clear hfz46_0
            try clear hfz46_1
            try clear hfz46_2
            try clear hfz48_0
            try clear hfz48_1
            try clear hfz48_2
            try clear hfz48_3
            try clear hfz48_4
            try clear hfz48_5
            try clear hfz50_0
            try clear hfz50_1
            try clear hfz50_2
            try clear hfz50_3
            try clear hfz50_4
            try clear hfz50_5
            try clear hfz67_0
            try clear hfz67_1
            try clear hfz67_2
            try clear hfz67_3
            try clear hfz67_4
            try clear hfz67_5
            try clear hfz71_0
            try clear hfz71_1
            try clear hfz71_2
            try clear hfz71_3
            try clear hfz71_4
            try clear hfz71_5
            try clear hfz73_0
            try clear hfz73_1
            try clear hfz73_2
            try clear hfz73_3
            try clear hfz73_4
            try clear hfz73_5
            try clear hfz77_0
            try clear hfz77_1
            try clear hfz77_2
            try clear hfz77_3
            try clear hfz77_4
            try clear hfz77_5
            try clear hfz81_0
            try clear hfz81_1
            try clear hfz81_2
            try clear hfz81_3
            try clear hfz81_4
            try clear hfz81_5
            try clear hfz84_0
            try clear hfz84_1
            try clear hfz84_2
            try clear hfz84_3
            try clear hfz84_4
            try clear hfz84_5
            try clear p2
            try clear p6
            try clear p64
            obtain ⟨kq, x84_73, rfl, HA, HJ73, HO_198000, BK196, BK197, BK198, HK, HB⟩ := hcut
            cases kq with
            | zero => exact absurd HA.out (by simp [spec_l4Do.j2])
            | succ kj73 =>
              have H := HA.out
              clear HA
              simp only [spec_l4Do.j2] at H
              by_cases c85 : x84_73 = true
              · subst c85
                have H1 : ((spec_l1Most.f (wrap64 (Int.tdiv a2_5 2)) (wrap64 (a2_4 + a3))).bind fun t206 => ((spec_l1Most.f a2_3 (wrap64 (t206 - (wrap64 (a2_4 + a3))))).bind fun t207 => ((spec_l4Size.f t206).bind fun t208 => (some (l2_0, wrap64 (a2_1 + 1), wrap64 (a2_2 + (wrap64 (a2_4 + a3))), t207, (wrap64 (a2_4 + a3)), t206, t208))))) = some (r1, r2, r3, r4, r5, r6, r7) := by rw [if_pos rfl] at H; exact H
                clear H
                have H := H1
                clear H1
                replace H := Option.bind_eq_some_iff.mp H
                obtain ⟨t206, A860, H⟩ := H
                replace H : ((spec_l1Most.f a2_3 (wrap64 (t206 - (wrap64 (a2_4 + a3))))).bind fun t207 => ((spec_l4Size.f t206).bind fun t208 => (some (l2_0, wrap64 (a2_1 + 1), wrap64 (a2_2 + (wrap64 (a2_4 + a3))), t207, (wrap64 (a2_4 + a3)), t206, t208)))) = some (r1, r2, r3, r4, r5, r6, r7) := H
                have A86 := Aside0.mk A860
                clear A860
                replace H := Option.bind_eq_some_iff.mp H
                obtain ⟨t207, A870, H⟩ := H
                replace H : ((spec_l4Size.f t206).bind fun t208 => (some (l2_0, wrap64 (a2_1 + 1), wrap64 (a2_2 + (wrap64 (a2_4 + a3))), t207, (wrap64 (a2_4 + a3)), t206, t208))) = some (r1, r2, r3, r4, r5, r6, r7) := H
                have A87 := Aside0.mk A870
                clear A870
                replace H := Option.bind_eq_some_iff.mp H
                obtain ⟨t208, A880, H⟩ := H
                replace H : (some (l2_0, wrap64 (a2_1 + 1), wrap64 (a2_2 + (wrap64 (a2_4 + a3))), t207, (wrap64 (a2_4 + a3)), t206, t208)) = some (r1, r2, r3, r4, r5, r6, r7) := H
                have A88 := Aside0.mk A880
                clear A880
                simp only [Option.some.injEq, Prod.mk.injEq] at H
                obtain ⟨rfl, rfl, rfl, rfl, rfl, rfl, rfl⟩ := H
                have hnb89 := NB197_196.out
                have hnc89 := NB196_197.out
                have hnb90 := NB197_198.out
                have hnc90 := NB198_197.out
                have hcz91_0 : wc.cell? ⟨gb197, 0, none⟩ = some (.slice Ao61 l2_0.length co61) := (blk_cell BK197.out 0).trans rfl
                have hcz91_1 : wc.cell? ⟨gb197, 1, none⟩ = some (.int .i64 a2_1) := (blk_cell BK197.out 1).trans rfl
                have hcz91_2 : wc.cell? ⟨gb197, 2, none⟩ = some (.int .i64 a2_2) := (blk_cell BK197.out 2).trans rfl
                have hcz91_3 : wc.cell? ⟨gb197, 3, none⟩ = some (.int .i64 a2_3) := (blk_cell BK197.out 3).trans rfl
                have hcz91_4 : wc.cell? ⟨gb197, 4, none⟩ = some (.int .i64 (wrap64 (a2_4 + a3))) := (blk_cell BK197.out 4).trans rfl
                have hcz91_5 : wc.cell? ⟨gb197, 5, none⟩ = some (.int .i64 a2_5) := (blk_cell BK197.out 5).trans rfl
                have hfz91_0 := blk_frozen BK197.out 0
                have hfz91_1 := blk_frozen BK197.out 1
                have hfz91_2 := blk_frozen BK197.out 2
                have hfz91_3 := blk_frozen BK197.out 3
                have hfz91_4 := blk_frozen BK197.out 4
                have hfz91_5 := blk_frozen BK197.out 5
                try go_wp2_with (first | ((with_reducible refine gate_callee (f := 94) rfl ?_); refine goesL_ (some 90) rfl rfl Try.func94 (by kernel_rfl) rfl #[.int .i64 (wrap64 (Int.tdiv a2_5 2)), .int .i64 (wrap64 (a2_4 + a3))] rfl (by (try simp only [List.map_toArray, List.map_cons, List.map_nil]); first | done | rfl | (simp only [List.length_drop, List.length_take]; rfl)) ?_; (with_reducible refine (spec_l1Most.calls (wrap64 (Int.tdiv a2_5 2)) (wrap64 (a2_4 + a3)) t206 _ A86.out).mono ?_); rintro e w' ⟨rfl, ⟨nd, rfl⟩⟩; refine ⟨_, rfl, ?_⟩; (try simp only [World.drewN_drewN]); (try (rw [drewN_self wc]; generalize hq_ : World.drewN wc _ = wc; have n0_ : Aside0 (Kd.R (Kd.int .i64) 3 wc w0.heap.size (fun k_ => (P2_0_ k_ ∨ w.heap.size ≤ k_)) (.slice Ao61 l2_0.length co61) l2_0) := ⟨by rw [← hq_]; exact (by (with_reducible repeat (first | apply Kd.R_alloc | apply Kd.R_drewN | apply Kd.R_drew)); exact HO_198000.out)⟩; have n1_ : Aside0 (wc.heap[gb196]? = some (.cells #[.int .i64 a0_0, .int .i64 a0_1, .int .i64 a0_2] 60 (0, 0))) := ⟨by rw [← hq_]; exact (by (with_reducible repeat (first | refine blk_drewN ?_ _ | refine blk_drew ?_ | refine blk_alloc ?_ _)); exact BK196.out)⟩; have n2_ : Aside0 (wc.heap[gb197]? = some (.cells #[.slice Ao61 l2_0.length co61, .int .i64 a2_1, .int .i64 a2_2, .int .i64 a2_3, .int .i64 (wrap64 (a2_4 + a3)), .int .i64 a2_5] 115 (0, 0))) := ⟨by rw [← hq_]; exact (by (with_reducible repeat (first | refine blk_drewN ?_ _ | refine blk_drew ?_ | refine blk_alloc ?_ _)); exact BK197.out)⟩; have n3_ : Aside0 (wc.heap[gb198]? = some (.cells #[.slice none 0 0, .int .i64 0, .int .i64 0, .int .i64 0, .int .i64 0, .int .i64 0] 115 (0, 0))) := ⟨by rw [← hq_]; exact (by (with_reducible repeat (first | refine blk_drewN ?_ _ | refine blk_drew ?_ | refine blk_alloc ?_ _)); exact BK198.out)⟩; have n4_ : Aside0 (Kept w wc (fun k_ => P2_0_ k_)) := ⟨by rw [← hq_]; exact (by repeat (first | (with_reducible first | exact HK.out | apply Kept.alloc | apply Kept.drewN | apply Kept.drew | refine Kept.setCell ?_ (.inr GW196.out) _ | refine Kept.setCell ?_ (.inr GW197.out) _ | refine Kept.setCell ?_ (.inr GW198.out) _) | exact HK.out))⟩; have n5_ : Aside0 (Below w0.heap.size w0 wc) := ⟨by rw [← hq_]; exact (by repeat (first | (with_reducible first | exact HB.out | apply below_alloc | apply pw_below_drewN | apply below_drew1 | refine below_set ?_ GE196.out | refine below_set ?_ GE197.out | refine below_set ?_ GE198.out) | exact HB.out))⟩; clear HO_198000 BK196 BK197 BK198 HK HB hq_; have HO_198000 := n0_; have BK196 := n1_; have BK197 := n2_; have BK198 := n3_; have HK := n4_; have HB := n5_; clear n0_ n1_ n2_ n3_ n4_ n5_; have hcz91_0 : wc.cell? ⟨gb197, 0, none⟩ = some (.slice Ao61 l2_0.length co61) := (blk_cell BK197.out 0).trans rfl; have hcz91_1 : wc.cell? ⟨gb197, 1, none⟩ = some (.int .i64 a2_1) := (blk_cell BK197.out 1).trans rfl; have hcz91_2 : wc.cell? ⟨gb197, 2, none⟩ = some (.int .i64 a2_2) := (blk_cell BK197.out 2).trans rfl; have hcz91_3 : wc.cell? ⟨gb197, 3, none⟩ = some (.int .i64 a2_3) := (blk_cell BK197.out 3).trans rfl; have hcz91_4 : wc.cell? ⟨gb197, 4, none⟩ = some (.int .i64 (wrap64 (a2_4 + a3))) := (blk_cell BK197.out 4).trans rfl; have hcz91_5 : wc.cell? ⟨gb197, 5, none⟩ = some (.int .i64 a2_5) := (blk_cell BK197.out 5).trans rfl; have hfz91_0 := blk_frozen BK197.out 0; have hfz91_1 := blk_frozen BK197.out 1; have hfz91_2 := blk_frozen BK197.out 2; have hfz91_3 := blk_frozen BK197.out 3; have hfz91_4 := blk_frozen BK197.out 4; have hfz91_5 := blk_frozen BK197.out 5))) | ((with_reducible refine gate_callee (f := 94) rfl ?_); refine goesL_ (some 109) rfl rfl Try.func94 (by kernel_rfl) rfl #[.int .i64 a2_3, .int .i64 (wrap64 (t206 - (wrap64 (a2_4 + a3))))] rfl (by (try simp only [List.map_toArray, List.map_cons, List.map_nil]); first | done | rfl | (simp only [List.length_drop, List.length_take]; rfl)) ?_; (with_reducible refine (spec_l1Most.calls a2_3 (wrap64 (t206 - (wrap64 (a2_4 + a3)))) t207 _ A87.out).mono ?_); rintro e w' ⟨rfl, ⟨nd, rfl⟩⟩; refine ⟨_, rfl, ?_⟩))
                have n0_ : Aside0 (Kd.R (Kd.int .i64) 3 ((((wc.setCell ⟨gb197, 5, none⟩ (.int .i64 t206)).setCell ⟨gb197, 1, none⟩ (.int .i64 (wrap64 (a2_1 + 1)))).setCell ⟨gb197, 2, none⟩ (.int .i64 (wrap64 (a2_2 + (wrap64 (a2_4 + a3)))))).setCell ⟨gb197, 3, none⟩ (.int .i64 t207)) w0.heap.size (fun k_ => (P2_0_ k_ ∨ w.heap.size ≤ k_)) (.slice Ao61 l2_0.length co61) l2_0) := ⟨by (with_reducible repeat (first | apply Kd.R_alloc | apply Kd.R_drewN | apply Kd.R_drew)); exact Kd.R_mono (Kd.R_far (p := ⟨gb197, 3, none⟩) (Kd.R_far (p := ⟨gb197, 2, none⟩) (Kd.R_far (p := ⟨gb197, 1, none⟩) (Kd.R_far (p := ⟨gb197, 5, none⟩) (Kd.R_types HO_198000.out BK197.out (by decide)) (fun _ hk => hk.2) (.int .i64 t206)) (fun _ hk => hk.2) (.int .i64 (wrap64 (a2_1 + 1)))) (fun _ hk => hk.2) (.int .i64 (wrap64 (a2_2 + (wrap64 (a2_4 + a3)))))) (fun _ hk => hk.2) (.int .i64 t207)) (fun _ hk => hk.1)⟩
                have n1_ : Aside0 (((((wc.setCell ⟨gb197, 5, none⟩ (.int .i64 t206)).setCell ⟨gb197, 1, none⟩ (.int .i64 (wrap64 (a2_1 + 1)))).setCell ⟨gb197, 2, none⟩ (.int .i64 (wrap64 (a2_2 + (wrap64 (a2_4 + a3)))))).setCell ⟨gb197, 3, none⟩ (.int .i64 t207)).heap[gb196]? = some (.cells #[.int .i64 a0_0, .int .i64 a0_1, .int .i64 a0_2] 60 (0, 0))) := ⟨by (with_reducible repeat (first | refine blk_drewN ?_ _ | refine blk_drew ?_ | refine blk_alloc ?_ _)); refine blk_far ?_ NB196_197.out _; (with_reducible repeat (first | refine blk_drewN ?_ _ | refine blk_drew ?_ | refine blk_alloc ?_ _)); refine blk_far ?_ NB196_197.out _; (with_reducible repeat (first | refine blk_drewN ?_ _ | refine blk_drew ?_ | refine blk_alloc ?_ _)); refine blk_far ?_ NB196_197.out _; (with_reducible repeat (first | refine blk_drewN ?_ _ | refine blk_drew ?_ | refine blk_alloc ?_ _)); refine blk_far ?_ NB196_197.out _; (with_reducible repeat (first | refine blk_drewN ?_ _ | refine blk_drew ?_ | refine blk_alloc ?_ _)); exact BK196.out⟩
                have n2_ : Aside0 (((((wc.setCell ⟨gb197, 5, none⟩ (.int .i64 t206)).setCell ⟨gb197, 1, none⟩ (.int .i64 (wrap64 (a2_1 + 1)))).setCell ⟨gb197, 2, none⟩ (.int .i64 (wrap64 (a2_2 + (wrap64 (a2_4 + a3)))))).setCell ⟨gb197, 3, none⟩ (.int .i64 t207)).heap[gb197]? = some (.cells #[.slice Ao61 l2_0.length co61, .int .i64 (wrap64 (a2_1 + 1)), .int .i64 (wrap64 (a2_2 + (wrap64 (a2_4 + a3)))), .int .i64 t207, .int .i64 (wrap64 (a2_4 + a3)), .int .i64 t206] 115 (0, 0))) := ⟨by (with_reducible repeat (first | refine blk_drewN ?_ _ | refine blk_drew ?_ | refine blk_alloc ?_ _)); refine blk_put (cs := #[.slice Ao61 l2_0.length co61, .int .i64 (wrap64 (a2_1 + 1)), .int .i64 (wrap64 (a2_2 + (wrap64 (a2_4 + a3)))), .int .i64 a2_3, .int .i64 (wrap64 (a2_4 + a3)), .int .i64 t206]) ?_ 3 _ rfl; (with_reducible repeat (first | refine blk_drewN ?_ _ | refine blk_drew ?_ | refine blk_alloc ?_ _)); refine blk_put (cs := #[.slice Ao61 l2_0.length co61, .int .i64 (wrap64 (a2_1 + 1)), .int .i64 a2_2, .int .i64 a2_3, .int .i64 (wrap64 (a2_4 + a3)), .int .i64 t206]) ?_ 2 _ rfl; (with_reducible repeat (first | refine blk_drewN ?_ _ | refine blk_drew ?_ | refine blk_alloc ?_ _)); refine blk_put (cs := #[.slice Ao61 l2_0.length co61, .int .i64 a2_1, .int .i64 a2_2, .int .i64 a2_3, .int .i64 (wrap64 (a2_4 + a3)), .int .i64 t206]) ?_ 1 _ rfl; (with_reducible repeat (first | refine blk_drewN ?_ _ | refine blk_drew ?_ | refine blk_alloc ?_ _)); refine blk_put (cs := #[.slice Ao61 l2_0.length co61, .int .i64 a2_1, .int .i64 a2_2, .int .i64 a2_3, .int .i64 (wrap64 (a2_4 + a3)), .int .i64 a2_5]) ?_ 5 _ rfl; (with_reducible repeat (first | refine blk_drewN ?_ _ | refine blk_drew ?_ | refine blk_alloc ?_ _)); exact BK197.out⟩
                have n3_ : Aside0 (((((wc.setCell ⟨gb197, 5, none⟩ (.int .i64 t206)).setCell ⟨gb197, 1, none⟩ (.int .i64 (wrap64 (a2_1 + 1)))).setCell ⟨gb197, 2, none⟩ (.int .i64 (wrap64 (a2_2 + (wrap64 (a2_4 + a3)))))).setCell ⟨gb197, 3, none⟩ (.int .i64 t207)).heap[gb198]? = some (.cells #[.slice none 0 0, .int .i64 0, .int .i64 0, .int .i64 0, .int .i64 0, .int .i64 0] 115 (0, 0))) := ⟨by (with_reducible repeat (first | refine blk_drewN ?_ _ | refine blk_drew ?_ | refine blk_alloc ?_ _)); refine blk_far ?_ NB198_197.out _; (with_reducible repeat (first | refine blk_drewN ?_ _ | refine blk_drew ?_ | refine blk_alloc ?_ _)); refine blk_far ?_ NB198_197.out _; (with_reducible repeat (first | refine blk_drewN ?_ _ | refine blk_drew ?_ | refine blk_alloc ?_ _)); refine blk_far ?_ NB198_197.out _; (with_reducible repeat (first | refine blk_drewN ?_ _ | refine blk_drew ?_ | refine blk_alloc ?_ _)); refine blk_far ?_ NB198_197.out _; (with_reducible repeat (first | refine blk_drewN ?_ _ | refine blk_drew ?_ | refine blk_alloc ?_ _)); exact BK198.out⟩
                have n4_ : Aside0 (Kept w ((((wc.setCell ⟨gb197, 5, none⟩ (.int .i64 t206)).setCell ⟨gb197, 1, none⟩ (.int .i64 (wrap64 (a2_1 + 1)))).setCell ⟨gb197, 2, none⟩ (.int .i64 (wrap64 (a2_2 + (wrap64 (a2_4 + a3)))))).setCell ⟨gb197, 3, none⟩ (.int .i64 t207)) (fun k_ => P2_0_ k_)) := ⟨by repeat (first | (with_reducible first | exact HK.out | apply Kept.alloc | apply Kept.drewN | apply Kept.drew | refine Kept.setCell ?_ (.inr GW196.out) _ | refine Kept.setCell ?_ (.inr GW197.out) _ | refine Kept.setCell ?_ (.inr GW198.out) _) | exact HK.out)⟩
                have n5_ : Aside0 (Below w0.heap.size w0 ((((wc.setCell ⟨gb197, 5, none⟩ (.int .i64 t206)).setCell ⟨gb197, 1, none⟩ (.int .i64 (wrap64 (a2_1 + 1)))).setCell ⟨gb197, 2, none⟩ (.int .i64 (wrap64 (a2_2 + (wrap64 (a2_4 + a3)))))).setCell ⟨gb197, 3, none⟩ (.int .i64 t207))) := ⟨by repeat (first | (with_reducible first | exact HB.out | apply below_alloc | apply pw_below_drewN | apply below_drew1 | refine below_set ?_ GE196.out | refine below_set ?_ GE197.out | refine below_set ?_ GE198.out) | exact HB.out)⟩
                (try clear HO_198000)
                (try clear BK196)
                (try clear BK197)
                (try clear BK198)
                (try clear HK)
                (try clear HB)
                (try simp only [drewN_set])
                generalize ((((wc.setCell ⟨gb197, 5, none⟩ (.int .i64 t206)).setCell ⟨gb197, 1, none⟩ (.int .i64 (wrap64 (a2_1 + 1)))).setCell ⟨gb197, 2, none⟩ (.int .i64 (wrap64 (a2_2 + (wrap64 (a2_4 + a3)))))).setCell ⟨gb197, 3, none⟩ (.int .i64 t207)) = w92 at n0_ n1_ n2_ n3_ n4_ n5_ ⊢
                have HO_198000 := n0_
                have BK196 := n1_
                have BK197 := n2_
                have BK198 := n3_
                have HK := n4_
                have HB := n5_
                clear n0_ n1_ n2_ n3_ n4_ n5_
                (try simp only [World.drewN_drewN]); (try (rw [drewN_self w92]; generalize hq_ : World.drewN w92 _ = w92; have n0_ : Aside0 (Kd.R (Kd.int .i64) 3 w92 w0.heap.size (fun k_ => (P2_0_ k_ ∨ w.heap.size ≤ k_)) (.slice Ao61 l2_0.length co61) l2_0) := ⟨by rw [← hq_]; exact (by (with_reducible repeat (first | apply Kd.R_alloc | apply Kd.R_drewN | apply Kd.R_drew)); exact HO_198000.out)⟩; have n1_ : Aside0 (w92.heap[gb196]? = some (.cells #[.int .i64 a0_0, .int .i64 a0_1, .int .i64 a0_2] 60 (0, 0))) := ⟨by rw [← hq_]; exact (by (with_reducible repeat (first | refine blk_drewN ?_ _ | refine blk_drew ?_ | refine blk_alloc ?_ _)); exact BK196.out)⟩; have n2_ : Aside0 (w92.heap[gb197]? = some (.cells #[.slice Ao61 l2_0.length co61, .int .i64 (wrap64 (a2_1 + 1)), .int .i64 (wrap64 (a2_2 + (wrap64 (a2_4 + a3)))), .int .i64 t207, .int .i64 (wrap64 (a2_4 + a3)), .int .i64 t206] 115 (0, 0))) := ⟨by rw [← hq_]; exact (by (with_reducible repeat (first | refine blk_drewN ?_ _ | refine blk_drew ?_ | refine blk_alloc ?_ _)); exact BK197.out)⟩; have n3_ : Aside0 (w92.heap[gb198]? = some (.cells #[.slice none 0 0, .int .i64 0, .int .i64 0, .int .i64 0, .int .i64 0, .int .i64 0] 115 (0, 0))) := ⟨by rw [← hq_]; exact (by (with_reducible repeat (first | refine blk_drewN ?_ _ | refine blk_drew ?_ | refine blk_alloc ?_ _)); exact BK198.out)⟩; have n4_ : Aside0 (Kept w w92 (fun k_ => P2_0_ k_)) := ⟨by rw [← hq_]; exact (by repeat (first | (with_reducible first | exact HK.out | apply Kept.alloc | apply Kept.drewN | apply Kept.drew | refine Kept.setCell ?_ (.inr GW196.out) _ | refine Kept.setCell ?_ (.inr GW197.out) _ | refine Kept.setCell ?_ (.inr GW198.out) _) | exact HK.out))⟩; have n5_ : Aside0 (Below w0.heap.size w0 w92) := ⟨by rw [← hq_]; exact (by repeat (first | (with_reducible first | exact HB.out | apply below_alloc | apply pw_below_drewN | apply below_drew1 | refine below_set ?_ GE196.out | refine below_set ?_ GE197.out | refine below_set ?_ GE198.out) | exact HB.out))⟩; clear HO_198000 BK196 BK197 BK198 HK HB hq_; have HO_198000 := n0_; have BK196 := n1_; have BK197 := n2_; have BK198 := n3_; have HK := n4_; have HB := n5_; clear n0_ n1_ n2_ n3_ n4_ n5_))
                have n0_ := Aside0.mk (Kd.R_drew HO_198000.out)
                have n1_ := Aside0.mk (blk_drew BK196.out)
                have n2_ := Aside0.mk (blk_drew BK197.out)
                have n3_ := Aside0.mk (blk_drew BK198.out)
                have n4_ := Aside0.mk (Kept.drew HK.out)
                have n5_ := Aside0.mk (below_drew1 HB.out)
                clear HO_198000
                clear BK196
                clear BK197
                clear BK198
                clear HK
                clear HB
                have HO_198000 := n0_
                have BK196 := n1_
                have BK197 := n2_
                have BK198 := n3_
                have HK := n4_
                have HB := n5_
                clear n0_ n1_ n2_ n3_ n4_ n5_
                refine start_ (n := 6) (S := fun w' => w'.cell? ⟨gb197, 0, none⟩ = some (.slice Ao61 l2_0.length co61) ∧ w'.cell? ⟨gb197, 1, none⟩ = some (.int .i64 (wrap64 (a2_1 + 1))) ∧ w'.cell? ⟨gb197, 2, none⟩ = some (.int .i64 (wrap64 (a2_2 + (wrap64 (a2_4 + a3))))) ∧ w'.cell? ⟨gb197, 3, none⟩ = some (.int .i64 t207) ∧ w'.cell? ⟨gb197, 4, none⟩ = some (.int .i64 (wrap64 (a2_4 + a3))) ∧ w'.cell? ⟨gb197, 5, none⟩ = some (.int .i64 t206)) (ds := []) #[false, false, false, false, false, false] (by kernel_rfl) rfl rfl ⟨(blk_cell BK197.out 0).trans rfl, (blk_cell BK197.out 1).trans rfl, (blk_cell BK197.out 2).trans rfl, (blk_cell BK197.out 3).trans rfl, (blk_cell BK197.out 4).trans rfl, (blk_cell BK197.out 5).trans rfl⟩ (fun hHeld => ?_)
                generalize w92.drew = w93 at HO_198000 BK196 BK197 BK198 HK HB hHeld ⊢
                refine pure_ (i := 1) (N := some 112) (v := ?_) (a' := ?_) #[false, true, false, false, false, false] rfl rfl (by kernel_rfl) (fun _ _ _ h => h) (Or.inl ⟨by rfl, ?_⟩) ?_ ?_
                rotate_left
                · intro w'
                  go_simp
                  with_reducible rfl
                rotate_left
                · simp only [Act.put, List.setIfInBounds_toArray, List.set_cons_zero, List.set_cons_succ, i64_w, i32_w]
                  rfl
                refine take_ (i := 0) (N := some 111) (v := ?_) (a' := ?_) #[true, true, false, false, false, false] rfl rfl (by kernel_rfl) (fun _ _ _ h => h) (Or.inl ⟨by rfl, ?_⟩) hHeld ?_ ?_
                rotate_left
                · rintro w' ⟨s0, s1, s2, s3, s4, s5⟩
                  go_simp
                  with_reducible rfl
                rotate_left
                · simp only [Act.put, List.setIfInBounds_toArray, List.set_cons_zero, List.set_cons_succ, i64_w, i32_w]
                  rfl
                refine take_ (i := 2) (N := some 113) (v := ?_) (a' := ?_) #[true, true, true, false, false, false] rfl rfl (by kernel_rfl) (fun _ _ _ h => h) (Or.inl ⟨by rfl, ?_⟩) hHeld ?_ ?_
                rotate_left
                · rintro w' ⟨s0, s1, s2, s3, s4, s5⟩
                  go_simp
                  with_reducible rfl
                rotate_left
                · simp only [Act.put, List.setIfInBounds_toArray, List.set_cons_zero, List.set_cons_succ, i64_w, i32_w]
                  rfl
                refine one_ (i := 3) (N := some 114) #[true, true, true, true, false, false] rfl rfl (by kernel_rfl) (by decide) (fun K hK => ?_)
                refine goes_ Try.func89 (by kernel_rfl) rfl #[.int .i64 t206] (by rfl) rfl rfl (by (try simp only [List.map_toArray, List.map_cons, List.map_nil]); first | done | rfl | (simp only [List.length_drop, List.length_take]; rfl)) ?_
                with_reducible refine (spec_l4Size.calls t206 t208 _ A88.out).mono ?_
                rintro e w' ⟨rfl, ⟨nd, rfl⟩⟩
                refine ⟨_, rfl, ?_⟩
                refine hK.out _ _ ⟨(blk_cell BK197.out 0).trans rfl, (blk_cell BK197.out 1).trans rfl, (blk_cell BK197.out 2).trans rfl, (blk_cell BK197.out 3).trans rfl, (blk_cell BK197.out 4).trans rfl, (blk_cell BK197.out 5).trans rfl⟩ (fun hHeld => ?_)
                clear hK K
                refine norm_ (a' := ?_) ?_ ?_
                rotate_left
                · show Act.put _ (some 114) _ = _
                  simp only [Act.put, List.setIfInBounds_toArray, List.set_cons_zero, List.set_cons_succ, i64_w, i32_w]
                  rfl
                refine one_ (i := 4) (N := none) #[true, true, true, true, true, false] rfl rfl (by kernel_rfl) (by decide) (fun K hK => ?_)
                have hs94 : w93.cell? ⟨gb198, 0, none⟩ = some (.slice none 0 0) := (blk_cell BK198.out 0).trans rfl
                have hfs94 := blk_frozen BK198.out 0
                have hns94_0 := NB196_198.out
                have hns94_1 := NB197_198.out
                have hms94_0 := NB198_196.out
                have hms94_1 := NB198_197.out
                have hs95 : w93.cell? ⟨gb198, 1, none⟩ = some (.int .i64 0) := (blk_cell BK198.out 1).trans rfl
                have hfs95 := blk_frozen BK198.out 1
                have hns95_0 := NB196_198.out
                have hns95_1 := NB197_198.out
                have hms95_0 := NB198_196.out
                have hms95_1 := NB198_197.out
                have hs96 : w93.cell? ⟨gb198, 2, none⟩ = some (.int .i64 0) := (blk_cell BK198.out 2).trans rfl
                have hfs96 := blk_frozen BK198.out 2
                have hns96_0 := NB196_198.out
                have hns96_1 := NB197_198.out
                have hms96_0 := NB198_196.out
                have hms96_1 := NB198_197.out
                have hs97 : w93.cell? ⟨gb198, 3, none⟩ = some (.int .i64 0) := (blk_cell BK198.out 3).trans rfl
                have hfs97 := blk_frozen BK198.out 3
                have hns97_0 := NB196_198.out
                have hns97_1 := NB197_198.out
                have hms97_0 := NB198_196.out
                have hms97_1 := NB198_197.out
                have hs98 : w93.cell? ⟨gb198, 4, none⟩ = some (.int .i64 0) := (blk_cell BK198.out 4).trans rfl
                have hfs98 := blk_frozen BK198.out 4
                have hns98_0 := NB196_198.out
                have hns98_1 := NB197_198.out
                have hms98_0 := NB198_196.out
                have hms98_1 := NB198_197.out
                have hs99 : w93.cell? ⟨gb198, 5, none⟩ = some (.int .i64 0) := (blk_cell BK198.out 5).trans rfl
                have hfs99 := blk_frozen BK198.out 5
                have hns99_0 := NB196_198.out
                have hns99_1 := NB197_198.out
                have hms99_0 := NB198_196.out
                have hms99_1 := NB198_197.out
                refine skip_ (w1 := ?_) (by rfl) rfl ?_ ?_
                rotate_left
                · go_simp
                  rfl
                refine hK.out _ _ ⟨((cell_far (p := ⟨gb198, _, none⟩) NB197_198.out _).trans (((cell_far (p := ⟨gb198, _, none⟩) NB197_198.out _).trans (((cell_far (p := ⟨gb198, _, none⟩) NB197_198.out _).trans (((cell_far (p := ⟨gb198, _, none⟩) NB197_198.out _).trans (((cell_far (p := ⟨gb198, _, none⟩) NB197_198.out _).trans (((cell_far (p := ⟨gb198, _, none⟩) NB197_198.out _).trans (hHeld.1)))))))))))), ((cell_far (p := ⟨gb198, _, none⟩) NB197_198.out _).trans (((cell_far (p := ⟨gb198, _, none⟩) NB197_198.out _).trans (((cell_far (p := ⟨gb198, _, none⟩) NB197_198.out _).trans (((cell_far (p := ⟨gb198, _, none⟩) NB197_198.out _).trans (((cell_far (p := ⟨gb198, _, none⟩) NB197_198.out _).trans (((cell_far (p := ⟨gb198, _, none⟩) NB197_198.out _).trans (hHeld.2.1)))))))))))), ((cell_far (p := ⟨gb198, _, none⟩) NB197_198.out _).trans (((cell_far (p := ⟨gb198, _, none⟩) NB197_198.out _).trans (((cell_far (p := ⟨gb198, _, none⟩) NB197_198.out _).trans (((cell_far (p := ⟨gb198, _, none⟩) NB197_198.out _).trans (((cell_far (p := ⟨gb198, _, none⟩) NB197_198.out _).trans (((cell_far (p := ⟨gb198, _, none⟩) NB197_198.out _).trans (hHeld.2.2.1)))))))))))), ((cell_far (p := ⟨gb198, _, none⟩) NB197_198.out _).trans (((cell_far (p := ⟨gb198, _, none⟩) NB197_198.out _).trans (((cell_far (p := ⟨gb198, _, none⟩) NB197_198.out _).trans (((cell_far (p := ⟨gb198, _, none⟩) NB197_198.out _).trans (((cell_far (p := ⟨gb198, _, none⟩) NB197_198.out _).trans (((cell_far (p := ⟨gb198, _, none⟩) NB197_198.out _).trans (hHeld.2.2.2.1)))))))))))), ((cell_far (p := ⟨gb198, _, none⟩) NB197_198.out _).trans (((cell_far (p := ⟨gb198, _, none⟩) NB197_198.out _).trans (((cell_far (p := ⟨gb198, _, none⟩) NB197_198.out _).trans (((cell_far (p := ⟨gb198, _, none⟩) NB197_198.out _).trans (((cell_far (p := ⟨gb198, _, none⟩) NB197_198.out _).trans (((cell_far (p := ⟨gb198, _, none⟩) NB197_198.out _).trans (hHeld.2.2.2.2.1)))))))))))), ((cell_far (p := ⟨gb198, _, none⟩) NB197_198.out _).trans (((cell_far (p := ⟨gb198, _, none⟩) NB197_198.out _).trans (((cell_far (p := ⟨gb198, _, none⟩) NB197_198.out _).trans (((cell_far (p := ⟨gb198, _, none⟩) NB197_198.out _).trans (((cell_far (p := ⟨gb198, _, none⟩) NB197_198.out _).trans (((cell_far (p := ⟨gb198, _, none⟩) NB197_198.out _).trans (hHeld.2.2.2.2.2))))))))))))⟩ (fun hHeld => ?_)
                clear hK K
                refine pure_ (i := 5) (N := some 9) (v := ?_) (a' := ?_) #[true, true, true, true, true, true] rfl rfl (by kernel_rfl) (fun _ _ _ h => h) (Or.inl ⟨by rfl, ?_⟩) ?_ ?_
                rotate_left
                · intro w'
                  go_simp
                  with_reducible rfl
                rotate_left
                · simp only [Act.put, List.setIfInBounds_toArray, List.set_cons_zero, List.set_cons_succ, i64_w, i32_w]
                  rfl
                refine done_ (by kernel_rfl) ?_
                try go_wp2
                refine bodyPost_ret (results_ct rfl _ _ gb198 115 #[.slice Ao61 l2_0.length co61, .int .i64 (wrap64 (a2_1 + 1)), .int .i64 (wrap64 (a2_2 + (wrap64 (a2_4 + a3)))), .int .i64 t207, .int .i64 (wrap64 (a2_4 + a3)), .int .i64 t206] (0, 0) _ rfl (by (with_reducible repeat (first | refine blk_drewN ?_ _ | refine blk_drew ?_ | refine blk_alloc ?_ _)); refine blk_put (cs := #[.slice Ao61 l2_0.length co61, .int .i64 (wrap64 (a2_1 + 1)), .int .i64 (wrap64 (a2_2 + (wrap64 (a2_4 + a3)))), .int .i64 t207, .int .i64 (wrap64 (a2_4 + a3)), .int .i64 0]) ?_ 5 _ rfl; (with_reducible repeat (first | refine blk_drewN ?_ _ | refine blk_drew ?_ | refine blk_alloc ?_ _)); refine blk_put (cs := #[.slice Ao61 l2_0.length co61, .int .i64 (wrap64 (a2_1 + 1)), .int .i64 (wrap64 (a2_2 + (wrap64 (a2_4 + a3)))), .int .i64 t207, .int .i64 0, .int .i64 0]) ?_ 4 _ rfl; (with_reducible repeat (first | refine blk_drewN ?_ _ | refine blk_drew ?_ | refine blk_alloc ?_ _)); refine blk_put (cs := #[.slice Ao61 l2_0.length co61, .int .i64 (wrap64 (a2_1 + 1)), .int .i64 (wrap64 (a2_2 + (wrap64 (a2_4 + a3)))), .int .i64 0, .int .i64 0, .int .i64 0]) ?_ 3 _ rfl; (with_reducible repeat (first | refine blk_drewN ?_ _ | refine blk_drew ?_ | refine blk_alloc ?_ _)); refine blk_put (cs := #[.slice Ao61 l2_0.length co61, .int .i64 (wrap64 (a2_1 + 1)), .int .i64 0, .int .i64 0, .int .i64 0, .int .i64 0]) ?_ 2 _ rfl; (with_reducible repeat (first | refine blk_drewN ?_ _ | refine blk_drew ?_ | refine blk_alloc ?_ _)); refine blk_put (cs := #[.slice Ao61 l2_0.length co61, .int .i64 0, .int .i64 0, .int .i64 0, .int .i64 0, .int .i64 0]) ?_ 1 _ rfl; (with_reducible repeat (first | refine blk_drewN ?_ _ | refine blk_drew ?_ | refine blk_alloc ?_ _)); refine blk_put (cs := #[.slice none 0 0, .int .i64 0, .int .i64 0, .int .i64 0, .int .i64 0, .int .i64 0]) ?_ 0 _ rfl; (with_reducible repeat (first | refine blk_drewN ?_ _ | refine blk_drew ?_ | refine blk_alloc ?_ _)); exact BK198.out) Try.underlying115 rfl (by kernel_rfl)) rfl ?_
                exact ⟨_, by first | rfl | (simp [errW_none, errW_some] <;> rfl) | (simp [*, errW_none, errW_some] <;> rfl), by (with_reducible repeat (first | apply Kd.R_alloc | apply Kd.R_drewN | apply Kd.R_drew)); exact Kd.R_mono (Kd.R_far (p := ⟨gb198, 5, none⟩) (Kd.R_far (p := ⟨gb198, 4, none⟩) (Kd.R_far (p := ⟨gb198, 3, none⟩) (Kd.R_far (p := ⟨gb198, 2, none⟩) (Kd.R_far (p := ⟨gb198, 1, none⟩) (Kd.R_far (p := ⟨gb198, 0, none⟩) (Kd.R_types HO_198000.out BK198.out (by decide)) (fun _ hk => hk.2) (.slice Ao61 l2_0.length co61)) (fun _ hk => hk.2) (.int .i64 (wrap64 (a2_1 + 1)))) (fun _ hk => hk.2) (.int .i64 (wrap64 (a2_2 + (wrap64 (a2_4 + a3)))))) (fun _ hk => hk.2) (.int .i64 t207)) (fun _ hk => hk.2) (.int .i64 (wrap64 (a2_4 + a3)))) (fun _ hk => hk.2) (.int .i64 t206)) (fun _ hk => hk.1), by repeat (first | (with_reducible first | exact HB.out | apply below_alloc | apply pw_below_drewN | apply below_drew1 | refine below_set ?_ GE196.out | refine below_set ?_ GE197.out | refine below_set ?_ GE198.out) | exact HB.out), by repeat (first | (with_reducible first | exact HK.out | apply Kept.alloc | apply Kept.drewN | apply Kept.drew | refine Kept.setCell ?_ (.inr GW196.out) _ | refine Kept.setCell ?_ (.inr GW197.out) _ | refine Kept.setCell ?_ (.inr GW198.out) _) | exact HK.out)⟩
              · replace c85 := Bool.eq_false_iff.mpr c85
                subst c85
                have H1 : ((spec_l1Most.f a2_3 (wrap64 (a2_5 - (wrap64 (a2_4 + a3))))).bind fun t209 => ((spec_l4Size.f a2_5).bind fun t210 => (some (l2_0, a2_1, a2_2, t209, (wrap64 (a2_4 + a3)), a2_5, t210)))) = some (r1, r2, r3, r4, r5, r6, r7) := by rw [if_neg (show ¬ (false = true) by decide)] at H; exact H
                clear H
                have H := H1
                clear H1
                replace H := Option.bind_eq_some_iff.mp H
                obtain ⟨t209, A1000, H⟩ := H
                replace H : ((spec_l4Size.f a2_5).bind fun t210 => (some (l2_0, a2_1, a2_2, t209, (wrap64 (a2_4 + a3)), a2_5, t210))) = some (r1, r2, r3, r4, r5, r6, r7) := H
                have A100 := Aside0.mk A1000
                clear A1000
                replace H := Option.bind_eq_some_iff.mp H
                obtain ⟨t210, A1010, H⟩ := H
                replace H : (some (l2_0, a2_1, a2_2, t209, (wrap64 (a2_4 + a3)), a2_5, t210)) = some (r1, r2, r3, r4, r5, r6, r7) := H
                have A101 := Aside0.mk A1010
                clear A1010
                simp only [Option.some.injEq, Prod.mk.injEq] at H
                obtain ⟨rfl, rfl, rfl, rfl, rfl, rfl, rfl⟩ := H
                have hnb102 := NB197_196.out
                have hnc102 := NB196_197.out
                have hnb103 := NB197_198.out
                have hnc103 := NB198_197.out
                have hcz104_0 : wc.cell? ⟨gb197, 0, none⟩ = some (.slice Ao61 l2_0.length co61) := (blk_cell BK197.out 0).trans rfl
                have hcz104_1 : wc.cell? ⟨gb197, 1, none⟩ = some (.int .i64 a2_1) := (blk_cell BK197.out 1).trans rfl
                have hcz104_2 : wc.cell? ⟨gb197, 2, none⟩ = some (.int .i64 a2_2) := (blk_cell BK197.out 2).trans rfl
                have hcz104_3 : wc.cell? ⟨gb197, 3, none⟩ = some (.int .i64 a2_3) := (blk_cell BK197.out 3).trans rfl
                have hcz104_4 : wc.cell? ⟨gb197, 4, none⟩ = some (.int .i64 (wrap64 (a2_4 + a3))) := (blk_cell BK197.out 4).trans rfl
                have hcz104_5 : wc.cell? ⟨gb197, 5, none⟩ = some (.int .i64 a2_5) := (blk_cell BK197.out 5).trans rfl
                have hfz104_0 := blk_frozen BK197.out 0
                have hfz104_1 := blk_frozen BK197.out 1
                have hfz104_2 := blk_frozen BK197.out 2
                have hfz104_3 := blk_frozen BK197.out 3
                have hfz104_4 := blk_frozen BK197.out 4
                have hfz104_5 := blk_frozen BK197.out 5
                try go_wp2_with (first | ((with_reducible refine gate_callee (f := 94) rfl ?_); refine goesL_ (some 109) rfl rfl Try.func94 (by kernel_rfl) rfl #[.int .i64 a2_3, .int .i64 (wrap64 (a2_5 - (wrap64 (a2_4 + a3))))] rfl (by (try simp only [List.map_toArray, List.map_cons, List.map_nil]); first | done | rfl | (simp only [List.length_drop, List.length_take]; rfl)) ?_; (with_reducible refine (spec_l1Most.calls a2_3 (wrap64 (a2_5 - (wrap64 (a2_4 + a3)))) t209 _ A100.out).mono ?_); rintro e w' ⟨rfl, ⟨nd, rfl⟩⟩; refine ⟨_, rfl, ?_⟩; (try simp only [World.drewN_drewN]); (try (rw [drewN_self wc]; generalize hq_ : World.drewN wc _ = wc; have n0_ : Aside0 (Kd.R (Kd.int .i64) 3 wc w0.heap.size (fun k_ => (P2_0_ k_ ∨ w.heap.size ≤ k_)) (.slice Ao61 l2_0.length co61) l2_0) := ⟨by rw [← hq_]; exact (by (with_reducible repeat (first | apply Kd.R_alloc | apply Kd.R_drewN | apply Kd.R_drew)); exact HO_198000.out)⟩; have n1_ : Aside0 (wc.heap[gb196]? = some (.cells #[.int .i64 a0_0, .int .i64 a0_1, .int .i64 a0_2] 60 (0, 0))) := ⟨by rw [← hq_]; exact (by (with_reducible repeat (first | refine blk_drewN ?_ _ | refine blk_drew ?_ | refine blk_alloc ?_ _)); exact BK196.out)⟩; have n2_ : Aside0 (wc.heap[gb197]? = some (.cells #[.slice Ao61 l2_0.length co61, .int .i64 a2_1, .int .i64 a2_2, .int .i64 a2_3, .int .i64 (wrap64 (a2_4 + a3)), .int .i64 a2_5] 115 (0, 0))) := ⟨by rw [← hq_]; exact (by (with_reducible repeat (first | refine blk_drewN ?_ _ | refine blk_drew ?_ | refine blk_alloc ?_ _)); exact BK197.out)⟩; have n3_ : Aside0 (wc.heap[gb198]? = some (.cells #[.slice none 0 0, .int .i64 0, .int .i64 0, .int .i64 0, .int .i64 0, .int .i64 0] 115 (0, 0))) := ⟨by rw [← hq_]; exact (by (with_reducible repeat (first | refine blk_drewN ?_ _ | refine blk_drew ?_ | refine blk_alloc ?_ _)); exact BK198.out)⟩; have n4_ : Aside0 (Kept w wc (fun k_ => P2_0_ k_)) := ⟨by rw [← hq_]; exact (by repeat (first | (with_reducible first | exact HK.out | apply Kept.alloc | apply Kept.drewN | apply Kept.drew | refine Kept.setCell ?_ (.inr GW196.out) _ | refine Kept.setCell ?_ (.inr GW197.out) _ | refine Kept.setCell ?_ (.inr GW198.out) _) | exact HK.out))⟩; have n5_ : Aside0 (Below w0.heap.size w0 wc) := ⟨by rw [← hq_]; exact (by repeat (first | (with_reducible first | exact HB.out | apply below_alloc | apply pw_below_drewN | apply below_drew1 | refine below_set ?_ GE196.out | refine below_set ?_ GE197.out | refine below_set ?_ GE198.out) | exact HB.out))⟩; clear HO_198000 BK196 BK197 BK198 HK HB hq_; have HO_198000 := n0_; have BK196 := n1_; have BK197 := n2_; have BK198 := n3_; have HK := n4_; have HB := n5_; clear n0_ n1_ n2_ n3_ n4_ n5_; have hcz104_0 : wc.cell? ⟨gb197, 0, none⟩ = some (.slice Ao61 l2_0.length co61) := (blk_cell BK197.out 0).trans rfl; have hcz104_1 : wc.cell? ⟨gb197, 1, none⟩ = some (.int .i64 a2_1) := (blk_cell BK197.out 1).trans rfl; have hcz104_2 : wc.cell? ⟨gb197, 2, none⟩ = some (.int .i64 a2_2) := (blk_cell BK197.out 2).trans rfl; have hcz104_3 : wc.cell? ⟨gb197, 3, none⟩ = some (.int .i64 a2_3) := (blk_cell BK197.out 3).trans rfl; have hcz104_4 : wc.cell? ⟨gb197, 4, none⟩ = some (.int .i64 (wrap64 (a2_4 + a3))) := (blk_cell BK197.out 4).trans rfl; have hcz104_5 : wc.cell? ⟨gb197, 5, none⟩ = some (.int .i64 a2_5) := (blk_cell BK197.out 5).trans rfl; have hfz104_0 := blk_frozen BK197.out 0; have hfz104_1 := blk_frozen BK197.out 1; have hfz104_2 := blk_frozen BK197.out 2; have hfz104_3 := blk_frozen BK197.out 3; have hfz104_4 := blk_frozen BK197.out 4; have hfz104_5 := blk_frozen BK197.out 5))))
                have n0_ : Aside0 (Kd.R (Kd.int .i64) 3 (wc.setCell ⟨gb197, 3, none⟩ (.int .i64 t209)) w0.heap.size (fun k_ => (P2_0_ k_ ∨ w.heap.size ≤ k_)) (.slice Ao61 l2_0.length co61) l2_0) := ⟨by (with_reducible repeat (first | apply Kd.R_alloc | apply Kd.R_drewN | apply Kd.R_drew)); exact Kd.R_mono (Kd.R_far (p := ⟨gb197, 3, none⟩) (Kd.R_types HO_198000.out BK197.out (by decide)) (fun _ hk => hk.2) (.int .i64 t209)) (fun _ hk => hk.1)⟩
                have n1_ : Aside0 ((wc.setCell ⟨gb197, 3, none⟩ (.int .i64 t209)).heap[gb196]? = some (.cells #[.int .i64 a0_0, .int .i64 a0_1, .int .i64 a0_2] 60 (0, 0))) := ⟨by (with_reducible repeat (first | refine blk_drewN ?_ _ | refine blk_drew ?_ | refine blk_alloc ?_ _)); refine blk_far ?_ NB196_197.out _; (with_reducible repeat (first | refine blk_drewN ?_ _ | refine blk_drew ?_ | refine blk_alloc ?_ _)); exact BK196.out⟩
                have n2_ : Aside0 ((wc.setCell ⟨gb197, 3, none⟩ (.int .i64 t209)).heap[gb197]? = some (.cells #[.slice Ao61 l2_0.length co61, .int .i64 a2_1, .int .i64 a2_2, .int .i64 t209, .int .i64 (wrap64 (a2_4 + a3)), .int .i64 a2_5] 115 (0, 0))) := ⟨by (with_reducible repeat (first | refine blk_drewN ?_ _ | refine blk_drew ?_ | refine blk_alloc ?_ _)); refine blk_put (cs := #[.slice Ao61 l2_0.length co61, .int .i64 a2_1, .int .i64 a2_2, .int .i64 a2_3, .int .i64 (wrap64 (a2_4 + a3)), .int .i64 a2_5]) ?_ 3 _ rfl; (with_reducible repeat (first | refine blk_drewN ?_ _ | refine blk_drew ?_ | refine blk_alloc ?_ _)); exact BK197.out⟩
                have n3_ : Aside0 ((wc.setCell ⟨gb197, 3, none⟩ (.int .i64 t209)).heap[gb198]? = some (.cells #[.slice none 0 0, .int .i64 0, .int .i64 0, .int .i64 0, .int .i64 0, .int .i64 0] 115 (0, 0))) := ⟨by (with_reducible repeat (first | refine blk_drewN ?_ _ | refine blk_drew ?_ | refine blk_alloc ?_ _)); refine blk_far ?_ NB198_197.out _; (with_reducible repeat (first | refine blk_drewN ?_ _ | refine blk_drew ?_ | refine blk_alloc ?_ _)); exact BK198.out⟩
                have n4_ : Aside0 (Kept w (wc.setCell ⟨gb197, 3, none⟩ (.int .i64 t209)) (fun k_ => P2_0_ k_)) := ⟨by repeat (first | (with_reducible first | exact HK.out | apply Kept.alloc | apply Kept.drewN | apply Kept.drew | refine Kept.setCell ?_ (.inr GW196.out) _ | refine Kept.setCell ?_ (.inr GW197.out) _ | refine Kept.setCell ?_ (.inr GW198.out) _) | exact HK.out)⟩
                have n5_ : Aside0 (Below w0.heap.size w0 (wc.setCell ⟨gb197, 3, none⟩ (.int .i64 t209))) := ⟨by repeat (first | (with_reducible first | exact HB.out | apply below_alloc | apply pw_below_drewN | apply below_drew1 | refine below_set ?_ GE196.out | refine below_set ?_ GE197.out | refine below_set ?_ GE198.out) | exact HB.out)⟩
                (try clear HO_198000)
                (try clear BK196)
                (try clear BK197)
                (try clear BK198)
                (try clear HK)
                (try clear HB)
                generalize (wc.setCell ⟨gb197, 3, none⟩ (.int .i64 t209)) = w105 at n0_ n1_ n2_ n3_ n4_ n5_ ⊢
                have HO_198000 := n0_
                have BK196 := n1_
                have BK197 := n2_
                have BK198 := n3_
                have HK := n4_
                have HB := n5_
                clear n0_ n1_ n2_ n3_ n4_ n5_
                have n0_ := Aside0.mk (Kd.R_drew HO_198000.out)
                have n1_ := Aside0.mk (blk_drew BK196.out)
                have n2_ := Aside0.mk (blk_drew BK197.out)
                have n3_ := Aside0.mk (blk_drew BK198.out)
                have n4_ := Aside0.mk (Kept.drew HK.out)
                have n5_ := Aside0.mk (below_drew1 HB.out)
                clear HO_198000
                clear BK196
                clear BK197
                clear BK198
                clear HK
                clear HB
                have HO_198000 := n0_
                have BK196 := n1_
                have BK197 := n2_
                have BK198 := n3_
                have HK := n4_
                have HB := n5_
                clear n0_ n1_ n2_ n3_ n4_ n5_
                refine start_ (n := 6) (S := fun w' => w'.cell? ⟨gb197, 0, none⟩ = some (.slice Ao61 l2_0.length co61) ∧ w'.cell? ⟨gb197, 1, none⟩ = some (.int .i64 a2_1) ∧ w'.cell? ⟨gb197, 2, none⟩ = some (.int .i64 a2_2) ∧ w'.cell? ⟨gb197, 3, none⟩ = some (.int .i64 t209) ∧ w'.cell? ⟨gb197, 4, none⟩ = some (.int .i64 (wrap64 (a2_4 + a3))) ∧ w'.cell? ⟨gb197, 5, none⟩ = some (.int .i64 a2_5)) (ds := []) #[false, false, false, false, false, false] (by kernel_rfl) rfl rfl ⟨(blk_cell BK197.out 0).trans rfl, (blk_cell BK197.out 1).trans rfl, (blk_cell BK197.out 2).trans rfl, (blk_cell BK197.out 3).trans rfl, (blk_cell BK197.out 4).trans rfl, (blk_cell BK197.out 5).trans rfl⟩ (fun hHeld => ?_)
                generalize w105.drew = w106 at HO_198000 BK196 BK197 BK198 HK HB hHeld ⊢
                refine pure_ (i := 1) (N := some 112) (v := ?_) (a' := ?_) #[false, true, false, false, false, false] rfl rfl (by kernel_rfl) (fun _ _ _ h => h) (Or.inl ⟨by rfl, ?_⟩) ?_ ?_
                rotate_left
                · intro w'
                  go_simp
                  with_reducible rfl
                rotate_left
                · simp only [Act.put, List.setIfInBounds_toArray, List.set_cons_zero, List.set_cons_succ, i64_w, i32_w]
                  rfl
                refine take_ (i := 0) (N := some 111) (v := ?_) (a' := ?_) #[true, true, false, false, false, false] rfl rfl (by kernel_rfl) (fun _ _ _ h => h) (Or.inl ⟨by rfl, ?_⟩) hHeld ?_ ?_
                rotate_left
                · rintro w' ⟨s0, s1, s2, s3, s4, s5⟩
                  go_simp
                  with_reducible rfl
                rotate_left
                · simp only [Act.put, List.setIfInBounds_toArray, List.set_cons_zero, List.set_cons_succ, i64_w, i32_w]
                  rfl
                refine take_ (i := 2) (N := some 113) (v := ?_) (a' := ?_) #[true, true, true, false, false, false] rfl rfl (by kernel_rfl) (fun _ _ _ h => h) (Or.inl ⟨by rfl, ?_⟩) hHeld ?_ ?_
                rotate_left
                · rintro w' ⟨s0, s1, s2, s3, s4, s5⟩
                  go_simp
                  with_reducible rfl
                rotate_left
                · simp only [Act.put, List.setIfInBounds_toArray, List.set_cons_zero, List.set_cons_succ, i64_w, i32_w]
                  rfl
                refine one_ (i := 3) (N := some 114) #[true, true, true, true, false, false] rfl rfl (by kernel_rfl) (by decide) (fun K hK => ?_)
                refine goes_ Try.func89 (by kernel_rfl) rfl #[.int .i64 a2_5] (by rfl) rfl rfl (by (try simp only [List.map_toArray, List.map_cons, List.map_nil]); first | done | rfl | (simp only [List.length_drop, List.length_take]; rfl)) ?_
                with_reducible refine (spec_l4Size.calls a2_5 t210 _ A101.out).mono ?_
                rintro e w' ⟨rfl, ⟨nd, rfl⟩⟩
                refine ⟨_, rfl, ?_⟩
                refine hK.out _ _ ⟨(blk_cell BK197.out 0).trans rfl, (blk_cell BK197.out 1).trans rfl, (blk_cell BK197.out 2).trans rfl, (blk_cell BK197.out 3).trans rfl, (blk_cell BK197.out 4).trans rfl, (blk_cell BK197.out 5).trans rfl⟩ (fun hHeld => ?_)
                clear hK K
                refine norm_ (a' := ?_) ?_ ?_
                rotate_left
                · show Act.put _ (some 114) _ = _
                  simp only [Act.put, List.setIfInBounds_toArray, List.set_cons_zero, List.set_cons_succ, i64_w, i32_w]
                  rfl
                refine one_ (i := 4) (N := none) #[true, true, true, true, true, false] rfl rfl (by kernel_rfl) (by decide) (fun K hK => ?_)
                have hs107 : w106.cell? ⟨gb198, 0, none⟩ = some (.slice none 0 0) := (blk_cell BK198.out 0).trans rfl
                have hfs107 := blk_frozen BK198.out 0
                have hns107_0 := NB196_198.out
                have hns107_1 := NB197_198.out
                have hms107_0 := NB198_196.out
                have hms107_1 := NB198_197.out
                have hs108 : w106.cell? ⟨gb198, 1, none⟩ = some (.int .i64 0) := (blk_cell BK198.out 1).trans rfl
                have hfs108 := blk_frozen BK198.out 1
                have hns108_0 := NB196_198.out
                have hns108_1 := NB197_198.out
                have hms108_0 := NB198_196.out
                have hms108_1 := NB198_197.out
                have hs109 : w106.cell? ⟨gb198, 2, none⟩ = some (.int .i64 0) := (blk_cell BK198.out 2).trans rfl
                have hfs109 := blk_frozen BK198.out 2
                have hns109_0 := NB196_198.out
                have hns109_1 := NB197_198.out
                have hms109_0 := NB198_196.out
                have hms109_1 := NB198_197.out
                have hs110 : w106.cell? ⟨gb198, 3, none⟩ = some (.int .i64 0) := (blk_cell BK198.out 3).trans rfl
                have hfs110 := blk_frozen BK198.out 3
                have hns110_0 := NB196_198.out
                have hns110_1 := NB197_198.out
                have hms110_0 := NB198_196.out
                have hms110_1 := NB198_197.out
                have hs111 : w106.cell? ⟨gb198, 4, none⟩ = some (.int .i64 0) := (blk_cell BK198.out 4).trans rfl
                have hfs111 := blk_frozen BK198.out 4
                have hns111_0 := NB196_198.out
                have hns111_1 := NB197_198.out
                have hms111_0 := NB198_196.out
                have hms111_1 := NB198_197.out
                have hs112 : w106.cell? ⟨gb198, 5, none⟩ = some (.int .i64 0) := (blk_cell BK198.out 5).trans rfl
                have hfs112 := blk_frozen BK198.out 5
                have hns112_0 := NB196_198.out
                have hns112_1 := NB197_198.out
                have hms112_0 := NB198_196.out
                have hms112_1 := NB198_197.out
                refine skip_ (w1 := ?_) (by rfl) rfl ?_ ?_
                rotate_left
                · go_simp
                  rfl
                refine hK.out _ _ ⟨((cell_far (p := ⟨gb198, _, none⟩) NB197_198.out _).trans (((cell_far (p := ⟨gb198, _, none⟩) NB197_198.out _).trans (((cell_far (p := ⟨gb198, _, none⟩) NB197_198.out _).trans (((cell_far (p := ⟨gb198, _, none⟩) NB197_198.out _).trans (((cell_far (p := ⟨gb198, _, none⟩) NB197_198.out _).trans (((cell_far (p := ⟨gb198, _, none⟩) NB197_198.out _).trans (hHeld.1)))))))))))), ((cell_far (p := ⟨gb198, _, none⟩) NB197_198.out _).trans (((cell_far (p := ⟨gb198, _, none⟩) NB197_198.out _).trans (((cell_far (p := ⟨gb198, _, none⟩) NB197_198.out _).trans (((cell_far (p := ⟨gb198, _, none⟩) NB197_198.out _).trans (((cell_far (p := ⟨gb198, _, none⟩) NB197_198.out _).trans (((cell_far (p := ⟨gb198, _, none⟩) NB197_198.out _).trans (hHeld.2.1)))))))))))), ((cell_far (p := ⟨gb198, _, none⟩) NB197_198.out _).trans (((cell_far (p := ⟨gb198, _, none⟩) NB197_198.out _).trans (((cell_far (p := ⟨gb198, _, none⟩) NB197_198.out _).trans (((cell_far (p := ⟨gb198, _, none⟩) NB197_198.out _).trans (((cell_far (p := ⟨gb198, _, none⟩) NB197_198.out _).trans (((cell_far (p := ⟨gb198, _, none⟩) NB197_198.out _).trans (hHeld.2.2.1)))))))))))), ((cell_far (p := ⟨gb198, _, none⟩) NB197_198.out _).trans (((cell_far (p := ⟨gb198, _, none⟩) NB197_198.out _).trans (((cell_far (p := ⟨gb198, _, none⟩) NB197_198.out _).trans (((cell_far (p := ⟨gb198, _, none⟩) NB197_198.out _).trans (((cell_far (p := ⟨gb198, _, none⟩) NB197_198.out _).trans (((cell_far (p := ⟨gb198, _, none⟩) NB197_198.out _).trans (hHeld.2.2.2.1)))))))))))), ((cell_far (p := ⟨gb198, _, none⟩) NB197_198.out _).trans (((cell_far (p := ⟨gb198, _, none⟩) NB197_198.out _).trans (((cell_far (p := ⟨gb198, _, none⟩) NB197_198.out _).trans (((cell_far (p := ⟨gb198, _, none⟩) NB197_198.out _).trans (((cell_far (p := ⟨gb198, _, none⟩) NB197_198.out _).trans (((cell_far (p := ⟨gb198, _, none⟩) NB197_198.out _).trans (hHeld.2.2.2.2.1)))))))))))), ((cell_far (p := ⟨gb198, _, none⟩) NB197_198.out _).trans (((cell_far (p := ⟨gb198, _, none⟩) NB197_198.out _).trans (((cell_far (p := ⟨gb198, _, none⟩) NB197_198.out _).trans (((cell_far (p := ⟨gb198, _, none⟩) NB197_198.out _).trans (((cell_far (p := ⟨gb198, _, none⟩) NB197_198.out _).trans (((cell_far (p := ⟨gb198, _, none⟩) NB197_198.out _).trans (hHeld.2.2.2.2.2))))))))))))⟩ (fun hHeld => ?_)
                clear hK K
                refine pure_ (i := 5) (N := some 9) (v := ?_) (a' := ?_) #[true, true, true, true, true, true] rfl rfl (by kernel_rfl) (fun _ _ _ h => h) (Or.inl ⟨by rfl, ?_⟩) ?_ ?_
                rotate_left
                · intro w'
                  go_simp
                  with_reducible rfl
                rotate_left
                · simp only [Act.put, List.setIfInBounds_toArray, List.set_cons_zero, List.set_cons_succ, i64_w, i32_w]
                  rfl
                refine done_ (by kernel_rfl) ?_
                try go_wp2
                refine bodyPost_ret (results_ct rfl _ _ gb198 115 #[.slice Ao61 l2_0.length co61, .int .i64 a2_1, .int .i64 a2_2, .int .i64 t209, .int .i64 (wrap64 (a2_4 + a3)), .int .i64 a2_5] (0, 0) _ rfl (by (with_reducible repeat (first | refine blk_drewN ?_ _ | refine blk_drew ?_ | refine blk_alloc ?_ _)); refine blk_put (cs := #[.slice Ao61 l2_0.length co61, .int .i64 a2_1, .int .i64 a2_2, .int .i64 t209, .int .i64 (wrap64 (a2_4 + a3)), .int .i64 0]) ?_ 5 _ rfl; (with_reducible repeat (first | refine blk_drewN ?_ _ | refine blk_drew ?_ | refine blk_alloc ?_ _)); refine blk_put (cs := #[.slice Ao61 l2_0.length co61, .int .i64 a2_1, .int .i64 a2_2, .int .i64 t209, .int .i64 0, .int .i64 0]) ?_ 4 _ rfl; (with_reducible repeat (first | refine blk_drewN ?_ _ | refine blk_drew ?_ | refine blk_alloc ?_ _)); refine blk_put (cs := #[.slice Ao61 l2_0.length co61, .int .i64 a2_1, .int .i64 a2_2, .int .i64 0, .int .i64 0, .int .i64 0]) ?_ 3 _ rfl; (with_reducible repeat (first | refine blk_drewN ?_ _ | refine blk_drew ?_ | refine blk_alloc ?_ _)); refine blk_put (cs := #[.slice Ao61 l2_0.length co61, .int .i64 a2_1, .int .i64 0, .int .i64 0, .int .i64 0, .int .i64 0]) ?_ 2 _ rfl; (with_reducible repeat (first | refine blk_drewN ?_ _ | refine blk_drew ?_ | refine blk_alloc ?_ _)); refine blk_put (cs := #[.slice Ao61 l2_0.length co61, .int .i64 0, .int .i64 0, .int .i64 0, .int .i64 0, .int .i64 0]) ?_ 1 _ rfl; (with_reducible repeat (first | refine blk_drewN ?_ _ | refine blk_drew ?_ | refine blk_alloc ?_ _)); refine blk_put (cs := #[.slice none 0 0, .int .i64 0, .int .i64 0, .int .i64 0, .int .i64 0, .int .i64 0]) ?_ 0 _ rfl; (with_reducible repeat (first | refine blk_drewN ?_ _ | refine blk_drew ?_ | refine blk_alloc ?_ _)); exact BK198.out) Try.underlying115 rfl (by kernel_rfl)) rfl ?_
                exact ⟨_, by first | rfl | (simp [errW_none, errW_some] <;> rfl) | (simp [*, errW_none, errW_some] <;> rfl), by (with_reducible repeat (first | apply Kd.R_alloc | apply Kd.R_drewN | apply Kd.R_drew)); exact Kd.R_mono (Kd.R_far (p := ⟨gb198, 5, none⟩) (Kd.R_far (p := ⟨gb198, 4, none⟩) (Kd.R_far (p := ⟨gb198, 3, none⟩) (Kd.R_far (p := ⟨gb198, 2, none⟩) (Kd.R_far (p := ⟨gb198, 1, none⟩) (Kd.R_far (p := ⟨gb198, 0, none⟩) (Kd.R_types HO_198000.out BK198.out (by decide)) (fun _ hk => hk.2) (.slice Ao61 l2_0.length co61)) (fun _ hk => hk.2) (.int .i64 a2_1)) (fun _ hk => hk.2) (.int .i64 a2_2)) (fun _ hk => hk.2) (.int .i64 t209)) (fun _ hk => hk.2) (.int .i64 (wrap64 (a2_4 + a3)))) (fun _ hk => hk.2) (.int .i64 a2_5)) (fun _ hk => hk.1), by repeat (first | (with_reducible first | exact HB.out | apply below_alloc | apply pw_below_drewN | apply below_drew1 | refine below_set ?_ GE196.out | refine below_set ?_ GE197.out | refine below_set ?_ GE198.out) | exact HB.out), by repeat (first | (with_reducible first | exact HK.out | apply Kept.alloc | apply Kept.drewN | apply Kept.drew | refine Kept.setCell ?_ (.inr GW196.out) _ | refine Kept.setCell ?_ (.inr GW197.out) _ | refine Kept.setCell ?_ (.inr GW198.out) _) | exact HK.out)⟩

end Go.Proofs.Ytkifenbcepicjab.PFnGrowth
