/- What is proved here: each Go function that is named below answers, and leaves memory, as the theorem of its name says; no condition beyond those that each theorem states. Laid by this session's own program (wip/driver.py) over the kit's print. -/
import Derived.Test.YtkifenbcepicjabPFnGrowthx0
import Derived.Test.YtkifenbcepicjabPFnGrowthx1
import Derived.Test.YtkifenbcepicjabPFnGrowthx2
namespace Go.Proofs.Ytkifenbcepicjab.PFnGrowth
open Go.RowKit Go.Proofs.YtkifenbcepicjabW.PrintWords Go.Proofs.YtkifenbcepicjabW.PrintLast Go.Proofs.YtkifenbcepicjabW.PrintMore
attribute [local go_sem] max2_int min2_int max_two min_two max_three min_three max_four min_four   -- for this text's walks alone
set_option linter.unusedVariables false
set_option linter.unusedSimpArgs false

open Go.Proofs.Ytkifenbcepicjab.Cp
/-! ### impl_within: function 86 -/
def impl_within.f (a0 : Int) (a1 : Int) (a2 : Int) : Option (Bool) := if a0 ≥ a1 then (some (decide (a0 ≤ a2))) else (some false)
set_option maxHeartbeats 8000000 in
set_option maxRecDepth 100000 in
theorem impl_within.calls (a0 : Int) (a1 : Int) (a2 : Int) (r : Bool) (w : World) (h : impl_within.f a0 a1 a2 = some r) :
  Calls Try.prog 86 #[.int .i64 a0, .int .i64 a1, .int .i64 a2] w fun e w' => e = .returned (.bool r) ∧ Drawn0 w w' := by
 have H : (if a0 ≥ a1 then (some (decide (a0 ≤ a2))) else (some false)) = some r := h
 clear h
 by_cases c4 : a0 ≥ a1
 ·rw [if_pos c4] at H
  have c4b0 : decide (a1 ≤ a0) = true := decide_eq_true c4
  clear c4
  obtain rfl := Option.some.inj H
  go_enter Try.func86, Try.ntmps86
  go_wp2
  go_ret
  exact ⟨zfs, by repeat (first | exact Drawn0.refl _ | apply Drawn0.step)⟩
 ·rw [if_neg c4] at H
  have c4b0 : decide (a1 ≤ a0) = false := decide_eq_false c4
  clear c4
  obtain rfl := Option.some.inj H
  go_enter Try.func86, Try.ntmps86
  go_wp2
  go_ret
  exact ⟨zfs, by repeat (first | exact Drawn0.refl _ | apply Drawn0.step)⟩

open Go.Proofs.Ytkifenbcepicjab.Cp
/-! ### impl_IsGrowRule: function 43 -/
def impl_IsGrowRule.f (a0_0 : Int) (a0_1 : Int) (a0_2 : Int) : Option (Bool) := (impl_within.f a0_0 1 8).bind fun t325 => (if t325 = true then ((impl_within.f a0_1 1 a0_0).bind fun t326 => (if t326 = true then ((impl_within.f a0_2 0 64).bind fun t327 => (some t327)) else (some false))) else (some false))
set_option maxHeartbeats 8000000 in
set_option maxRecDepth 100000 in
theorem impl_IsGrowRule.calls (a0_0 : Int) (a0_1 : Int) (a0_2 : Int) (r : Bool) (w : World) (h : impl_IsGrowRule.f a0_0 a0_1 a0_2 = some r) :
  Calls Try.prog 43 #[.agg #[.int .i64 a0_0, .int .i64 a0_1, .int .i64 a0_2]] w fun e w' => e = .returned (.bool r) ∧ Below w.heap.size w w' := by
 have hu60 := Try.underlying60
 have HB := Aside0.mk (Below.refl w.heap.size w)
 have H : ((impl_within.f a0_0 1 8).bind fun t325 => (if t325 = true then ((impl_within.f a0_1 1 a0_0).bind fun t326 => (if t326 = true then ((impl_within.f a0_2 0 64).bind fun t327 => (some t327)) else (some false))) else (some false))) = some r := h
 clear h
 replace H := Option.bind_eq_some_iff.mp H
 obtain ⟨t325, A20, H⟩ := H
 replace H : (if t325 = true then ((impl_within.f a0_1 1 a0_0).bind fun t326 => (if t326 = true then ((impl_within.f a0_2 0 64).bind fun t327 => (some t327)) else (some false))) else (some false)) = some r := H
 have A2 := Aside0.mk A20
 clear A20
 by_cases c3 : t325 = true
 ·subst c3
  have H1 : ((impl_within.f a0_1 1 a0_0).bind fun t326 => (if t326 = true then ((impl_within.f a0_2 0 64).bind fun t327 => (some t327)) else (some false))) = some r := by rw [if_pos rfl] at H; exact H
  clear H
  have H := H1
  clear H1
  replace H := Option.bind_eq_some_iff.mp H
  obtain ⟨t326, A40, H⟩ := H
  replace H : (if t326 = true then ((impl_within.f a0_2 0 64).bind fun t327 => (some t327)) else (some false)) = some r := H
  have A4 := Aside0.mk A40
  clear A40
  by_cases c5 : t326 = true
  ·subst c5
   have H1 : ((impl_within.f a0_2 0 64).bind fun t327 => (some t327)) = some r := by rw [if_pos rfl] at H; exact H
   clear H
   have H := H1
   clear H1
   replace H := Option.bind_eq_some_iff.mp H
   obtain ⟨t327, A60, H⟩ := H
   replace H : (some t327) = some r := H
   have A6 := Aside0.mk A60
   clear A60
   obtain rfl := Option.some.inj H
   go_enter Try.func43, Try.ntmps43
   go_wp2_with (first | ((with_reducible refine gate_dst (N := 1) rfl ?_); refine box_event ?hg (N := 1) ?hd (cs := #[.int .i64 a0_0, .int .i64 a0_1, .int .i64 a0_2]) (t := 60) ?hr ?_; (case hd => rfl); (case hg => rfl); (case hr => first | (go_simp; done) | (go_simp; rfl)); intro gb324 hg w7 hbox hb; have BK324 := Aside0.mk (hbox); have GW324 := zge HB hg; have GE324 := zge HB hg; replace HB := zhs HB hb; clear hb hbox hg; have hcz8_0 := zc0 BK324 0 rfl; have hcz8_1 := zc0 BK324 1 rfl; have hcz8_2 := zc0 BK324 2 rfl; have hfz8_0 := blk_frozen BK324.out 0; have hfz8_1 := blk_frozen BK324.out 1; have hfz8_2 := blk_frozen BK324.out 2) | ((with_reducible refine gate_callee (f := 86) rfl ?_); refine goesL_ (some 5) rfl rfl Try.func86 (by kernel_rfl) rfl #[.int .i64 a0_0, .int .i64 1, .int .i64 8] rfl (by (try simp only [zq1, zq2, zq3]); first | done | rfl | (simp only [List.length_drop, List.length_take]; rfl)) ?_; (with_reducible refine (impl_within.calls a0_0 1 8 true _ A2.out).mono ?_); rintro e w' ⟨rfl, ⟨nd, rfl⟩⟩; refine ⟨_, rfl, ?_⟩) | (go_at_call 86; (with_reducible refine (impl_within.calls a0_1 1 a0_0 true _ A4.out).mono ?_); rintro e w' ⟨rfl, ⟨nd, rfl⟩⟩) | (go_at_call 86; (with_reducible refine (impl_within.calls a0_2 0 64 t327 _ A6.out).mono ?_); rintro e w' ⟨rfl, ⟨nd, rfl⟩⟩))
   go_ret
   exact ⟨zfr, by repeat (first | exact zh0 HB | refine below_set ?_ GE324.out)⟩
  ·replace c5 := Bool.eq_false_iff.mpr c5
   subst c5
   have H1 : (some false) = some r := by rw [if_neg (show ¬ (false = true) by decide)] at H; exact H
   clear H
   have H := H1
   clear H1
   obtain rfl := Option.some.inj H
   go_enter Try.func43, Try.ntmps43
   go_wp2_with (first | ((with_reducible refine gate_dst (N := 1) rfl ?_); refine box_event ?hg (N := 1) ?hd (cs := #[.int .i64 a0_0, .int .i64 a0_1, .int .i64 a0_2]) (t := 60) ?hr ?_; (case hd => rfl); (case hg => rfl); (case hr => first | (go_simp; done) | (go_simp; rfl)); intro gb324 hg w9 hbox hb; have BK324 := Aside0.mk (hbox); have GW324 := zge HB hg; have GE324 := zge HB hg; replace HB := zhs HB hb; clear hb hbox hg; have hcz10_0 := zc0 BK324 0 rfl; have hcz10_1 := zc0 BK324 1 rfl; have hcz10_2 := zc0 BK324 2 rfl; have hfz10_0 := blk_frozen BK324.out 0; have hfz10_1 := blk_frozen BK324.out 1; have hfz10_2 := blk_frozen BK324.out 2) | ((with_reducible refine gate_callee (f := 86) rfl ?_); refine goesL_ (some 5) rfl rfl Try.func86 (by kernel_rfl) rfl #[.int .i64 a0_0, .int .i64 1, .int .i64 8] rfl (by (try simp only [zq1, zq2, zq3]); first | done | rfl | (simp only [List.length_drop, List.length_take]; rfl)) ?_; (with_reducible refine (impl_within.calls a0_0 1 8 true _ A2.out).mono ?_); rintro e w' ⟨rfl, ⟨nd, rfl⟩⟩; refine ⟨_, rfl, ?_⟩) | (go_at_call 86; (with_reducible refine (impl_within.calls a0_1 1 a0_0 false _ A4.out).mono ?_); rintro e w' ⟨rfl, ⟨nd, rfl⟩⟩))
   go_ret
   exact ⟨zfr, by repeat (first | exact zh0 HB | refine below_set ?_ GE324.out)⟩
 ·replace c3 := Bool.eq_false_iff.mpr c3
  subst c3
  have H1 : (some false) = some r := by rw [if_neg (show ¬ (false = true) by decide)] at H; exact H
  clear H
  have H := H1
  clear H1
  obtain rfl := Option.some.inj H
  go_enter Try.func43, Try.ntmps43
  go_wp2_with (first | ((with_reducible refine gate_dst (N := 1) rfl ?_); refine box_event ?hg (N := 1) ?hd (cs := #[.int .i64 a0_0, .int .i64 a0_1, .int .i64 a0_2]) (t := 60) ?hr ?_; (case hd => rfl); (case hg => rfl); (case hr => first | (go_simp; done) | (go_simp; rfl)); intro gb324 hg w11 hbox hb; have BK324 := Aside0.mk (hbox); have GW324 := zge HB hg; have GE324 := zge HB hg; replace HB := zhs HB hb; clear hb hbox hg; have hcz12_0 := zc0 BK324 0 rfl; have hcz12_1 := zc0 BK324 1 rfl; have hcz12_2 := zc0 BK324 2 rfl; have hfz12_0 := blk_frozen BK324.out 0; have hfz12_1 := blk_frozen BK324.out 1; have hfz12_2 := blk_frozen BK324.out 2) | ((with_reducible refine gate_callee (f := 86) rfl ?_); refine goesL_ (some 5) rfl rfl Try.func86 (by kernel_rfl) rfl #[.int .i64 a0_0, .int .i64 1, .int .i64 8] rfl (by (try simp only [zq1, zq2, zq3]); first | done | rfl | (simp only [List.length_drop, List.length_take]; rfl)) ?_; (with_reducible refine (impl_within.calls a0_0 1 8 false _ A2.out).mono ?_); rintro e w' ⟨rfl, ⟨nd, rfl⟩⟩; refine ⟨_, rfl, ?_⟩))
  go_ret
  exact ⟨zfr, by repeat (first | exact zh0 HB | refine below_set ?_ GE324.out)⟩

open Go.Proofs.Ytkifenbcepicjab.Cp
/-! ### impl_GrowsFast: function 41 -/
def impl_GrowsFast.f (a0_0 : Int) (a0_1 : Int) (a0_2 : Int) : Option (Bool × Bool) := (impl_IsGrowRule.f a0_0 a0_1 a0_2).bind fun t329 => (if t329 = true then (some (decide (a0_0 > a0_1), true)) else (some (false, false)))
set_option maxHeartbeats 8000000 in
set_option maxRecDepth 100000 in
theorem impl_GrowsFast.calls (a0_0 : Int) (a0_1 : Int) (a0_2 : Int) (r1 : Bool) (r2 : Bool) (w : World) (h : impl_GrowsFast.f a0_0 a0_1 a0_2 = some (r1, r2)) :
  Calls Try.prog 41 #[.agg #[.int .i64 a0_0, .int .i64 a0_1, .int .i64 a0_2]] w fun e w' => e = .returned (.tuple #[.bool r1, .bool r2]) ∧ Below w.heap.size w w' := by
 have hu60 := Try.underlying60
 have HB := Aside0.mk (Below.refl w.heap.size w)
 have H : ((impl_IsGrowRule.f a0_0 a0_1 a0_2).bind fun t329 => (if t329 = true then (some (decide (a0_0 > a0_1), true)) else (some (false, false)))) = some (r1, r2) := h
 clear h
 replace H := Option.bind_eq_some_iff.mp H
 obtain ⟨t329, A20, H⟩ := H
 replace H : (if t329 = true then (some (decide (a0_0 > a0_1), true)) else (some (false, false))) = some (r1, r2) := H
 have A2 := Aside0.mk A20
 clear A20
 by_cases c3 : t329 = true
 ·subst c3
  have H1 : (some (decide (a0_0 > a0_1), true)) = some (r1, r2) := by rw [if_pos rfl] at H; exact H
  clear H
  have H := H1
  clear H1
  simp only [Option.some.injEq, Prod.mk.injEq] at H
  obtain ⟨rfl, rfl⟩ := H
  go_enter Try.func41, Try.ntmps41
  go_wp2_with (first | ((with_reducible refine gate_dst (N := 1) rfl ?_); refine box_event ?hg (N := 1) ?hd (cs := #[.int .i64 a0_0, .int .i64 a0_1, .int .i64 a0_2]) (t := 60) ?hr ?_; (case hd => rfl); (case hg => rfl); (case hr => first | (go_simp; done) | (go_simp; rfl)); intro gb328 hg w4 hbox hb; have BK328 := Aside0.mk (hbox); have GW328 := zge HB hg; have GE328 := zge HB hg; replace HB := zhs HB hb; clear hb hbox hg; have hcz5_0 := zc0 BK328 0 rfl; have hcz5_1 := zc0 BK328 1 rfl; have hcz5_2 := zc0 BK328 2 rfl; have hfz5_0 := blk_frozen BK328.out 0; have hfz5_1 := blk_frozen BK328.out 1; have hfz5_2 := blk_frozen BK328.out 2) | ((with_reducible refine gate_callee (f := 43) rfl ?_); refine goesL_ (some 5) rfl rfl Try.func43 (by kernel_rfl) rfl #[.agg #[.int .i64 a0_0, .int .i64 a0_1, .int .i64 a0_2]] rfl (by (try simp only [zq1, zq2, zq3]); first | done | rfl | (simp only [List.length_drop, List.length_take]; rfl)) ?_; (with_reducible refine (impl_IsGrowRule.calls a0_0 a0_1 a0_2 true _ A2.out).mono ?_); rintro e w6 ⟨rfl, hb⟩; refine ⟨_, rfl, ?_⟩; replace BK328 := zb0 BK328 hb; replace HB := zhs HB hb; (try clear hb); have hcz7_0 := zc0 BK328 0 rfl; have hcz7_1 := zc0 BK328 1 rfl; have hcz7_2 := zc0 BK328 2 rfl; have hfz7_0 := blk_frozen BK328.out 0; have hfz7_1 := blk_frozen BK328.out 1; have hfz7_2 := blk_frozen BK328.out 2))
  go_ret2
  exact ⟨zfr, by repeat (first | exact zh0 HB | refine below_set ?_ GE328.out)⟩
 ·replace c3 := Bool.eq_false_iff.mpr c3
  subst c3
  have H1 : (some (false, false)) = some (r1, r2) := by rw [if_neg (show ¬ (false = true) by decide)] at H; exact H
  clear H
  have H := H1
  clear H1
  simp only [Option.some.injEq, Prod.mk.injEq] at H
  obtain ⟨rfl, rfl⟩ := H
  go_enter Try.func41, Try.ntmps41
  go_wp2_with (first | ((with_reducible refine gate_dst (N := 1) rfl ?_); refine box_event ?hg (N := 1) ?hd (cs := #[.int .i64 a0_0, .int .i64 a0_1, .int .i64 a0_2]) (t := 60) ?hr ?_; (case hd => rfl); (case hg => rfl); (case hr => first | (go_simp; done) | (go_simp; rfl)); intro gb328 hg w8 hbox hb; have BK328 := Aside0.mk (hbox); have GW328 := zge HB hg; have GE328 := zge HB hg; replace HB := zhs HB hb; clear hb hbox hg; have hcz9_0 := zc0 BK328 0 rfl; have hcz9_1 := zc0 BK328 1 rfl; have hcz9_2 := zc0 BK328 2 rfl; have hfz9_0 := blk_frozen BK328.out 0; have hfz9_1 := blk_frozen BK328.out 1; have hfz9_2 := blk_frozen BK328.out 2) | ((with_reducible refine gate_callee (f := 43) rfl ?_); refine goesL_ (some 5) rfl rfl Try.func43 (by kernel_rfl) rfl #[.agg #[.int .i64 a0_0, .int .i64 a0_1, .int .i64 a0_2]] rfl (by (try simp only [zq1, zq2, zq3]); first | done | rfl | (simp only [List.length_drop, List.length_take]; rfl)) ?_; (with_reducible refine (impl_IsGrowRule.calls a0_0 a0_1 a0_2 false _ A2.out).mono ?_); rintro e w10 ⟨rfl, hb⟩; refine ⟨_, rfl, ?_⟩; replace BK328 := zb0 BK328 hb; replace HB := zhs HB hb; (try clear hb)))
  go_ret2
  exact ⟨zfr, by repeat (first | exact zh0 HB | refine below_set ?_ GE328.out)⟩

open Go.Proofs.Ytkifenbcepicjab.Cp
/-! ### spec_GrowsFast: function 42 -/
def spec_GrowsFast.f (a0_0 : Int) (a0_1 : Int) (a0_2 : Int) : Option (Bool × Bool) := (spec_l4Rule.f a0_0 a0_1 a0_2).bind fun t331 => (if t331 = true then (some (decide (a0_0 > a0_1), true)) else (some (false, false)))
set_option maxHeartbeats 8000000 in
set_option maxRecDepth 100000 in
theorem spec_GrowsFast.calls (a0_0 : Int) (a0_1 : Int) (a0_2 : Int) (r1 : Bool) (r2 : Bool) (w : World) (h : spec_GrowsFast.f a0_0 a0_1 a0_2 = some (r1, r2)) :
  Calls Try.prog 42 #[.agg #[.int .i64 a0_0, .int .i64 a0_1, .int .i64 a0_2]] w fun e w' => e = .returned (.tuple #[.bool r1, .bool r2]) ∧ Below w.heap.size w w' := by
 have hu60 := Try.underlying60
 have HB := Aside0.mk (Below.refl w.heap.size w)
 have H : ((spec_l4Rule.f a0_0 a0_1 a0_2).bind fun t331 => (if t331 = true then (some (decide (a0_0 > a0_1), true)) else (some (false, false)))) = some (r1, r2) := h
 clear h
 replace H := Option.bind_eq_some_iff.mp H
 obtain ⟨t331, A20, H⟩ := H
 replace H : (if t331 = true then (some (decide (a0_0 > a0_1), true)) else (some (false, false))) = some (r1, r2) := H
 have A2 := Aside0.mk A20
 clear A20
 by_cases c3 : t331 = true
 ·subst c3
  have H1 : (some (decide (a0_0 > a0_1), true)) = some (r1, r2) := by rw [if_pos rfl] at H; exact H
  clear H
  have H := H1
  clear H1
  simp only [Option.some.injEq, Prod.mk.injEq] at H
  obtain ⟨rfl, rfl⟩ := H
  go_enter Try.func42, Try.ntmps42
  go_wp2_with (first | ((with_reducible refine gate_dst (N := 1) rfl ?_); refine box_event ?hg (N := 1) ?hd (cs := #[.int .i64 a0_0, .int .i64 a0_1, .int .i64 a0_2]) (t := 60) ?hr ?_; (case hd => rfl); (case hg => rfl); (case hr => first | (go_simp; done) | (go_simp; rfl)); intro gb330 hg w4 hbox hb; have BK330 := Aside0.mk (hbox); have GW330 := zge HB hg; have GE330 := zge HB hg; replace HB := zhs HB hb; clear hb hbox hg; have hcz5_0 := zc0 BK330 0 rfl; have hcz5_1 := zc0 BK330 1 rfl; have hcz5_2 := zc0 BK330 2 rfl; have hfz5_0 := blk_frozen BK330.out 0; have hfz5_1 := blk_frozen BK330.out 1; have hfz5_2 := blk_frozen BK330.out 2) | ((with_reducible refine gate_callee (f := 85) rfl ?_); refine goesL_ (some 5) rfl rfl Try.func85 (by kernel_rfl) rfl #[.agg #[.int .i64 a0_0, .int .i64 a0_1, .int .i64 a0_2]] rfl (by (try simp only [zq1, zq2, zq3]); first | done | rfl | (simp only [List.length_drop, List.length_take]; rfl)) ?_; (with_reducible refine (spec_l4Rule.calls a0_0 a0_1 a0_2 true _ A2.out).mono ?_); rintro e w6 ⟨rfl, hb⟩; refine ⟨_, rfl, ?_⟩; replace BK330 := zb0 BK330 hb; replace HB := zhs HB hb; (try clear hb); have hcz7_0 := zc0 BK330 0 rfl; have hcz7_1 := zc0 BK330 1 rfl; have hcz7_2 := zc0 BK330 2 rfl; have hfz7_0 := blk_frozen BK330.out 0; have hfz7_1 := blk_frozen BK330.out 1; have hfz7_2 := blk_frozen BK330.out 2))
  go_ret2
  exact ⟨zfr, by repeat (first | exact zh0 HB | refine below_set ?_ GE330.out)⟩
 ·replace c3 := Bool.eq_false_iff.mpr c3
  subst c3
  have H1 : (some (false, false)) = some (r1, r2) := by rw [if_neg (show ¬ (false = true) by decide)] at H; exact H
  clear H
  have H := H1
  clear H1
  simp only [Option.some.injEq, Prod.mk.injEq] at H
  obtain ⟨rfl, rfl⟩ := H
  go_enter Try.func42, Try.ntmps42
  go_wp2_with (first | ((with_reducible refine gate_dst (N := 1) rfl ?_); refine box_event ?hg (N := 1) ?hd (cs := #[.int .i64 a0_0, .int .i64 a0_1, .int .i64 a0_2]) (t := 60) ?hr ?_; (case hd => rfl); (case hg => rfl); (case hr => first | (go_simp; done) | (go_simp; rfl)); intro gb330 hg w8 hbox hb; have BK330 := Aside0.mk (hbox); have GW330 := zge HB hg; have GE330 := zge HB hg; replace HB := zhs HB hb; clear hb hbox hg; have hcz9_0 := zc0 BK330 0 rfl; have hcz9_1 := zc0 BK330 1 rfl; have hcz9_2 := zc0 BK330 2 rfl; have hfz9_0 := blk_frozen BK330.out 0; have hfz9_1 := blk_frozen BK330.out 1; have hfz9_2 := blk_frozen BK330.out 2) | ((with_reducible refine gate_callee (f := 85) rfl ?_); refine goesL_ (some 5) rfl rfl Try.func85 (by kernel_rfl) rfl #[.agg #[.int .i64 a0_0, .int .i64 a0_1, .int .i64 a0_2]] rfl (by (try simp only [zq1, zq2, zq3]); first | done | rfl | (simp only [List.length_drop, List.length_take]; rfl)) ?_; (with_reducible refine (spec_l4Rule.calls a0_0 a0_1 a0_2 false _ A2.out).mono ?_); rintro e w10 ⟨rfl, hb⟩; refine ⟨_, rfl, ?_⟩; replace BK330 := zb0 BK330 hb; replace HB := zhs HB hb; (try clear hb)))
  go_ret2
  exact ⟨zfr, by repeat (first | exact zh0 HB | refine below_set ?_ GE330.out)⟩

/-! ### spec_DrawNextCap: function 44 (by hand) -/
def spec_DrawNextCap.f (l0 : List Int) : Option (Int × Int × Int × Int × Int × Int) := (spec_l1Cur_growRule.f l0 0 0).bind fun x => (spec_l1Cur_among.f l0 x.2.2.2.1 x.2.2.2.2 ([3, 0, 8, 1, 100, 999999, 1000000, (-1)] : List Int)).bind fun y => (spec_l1Cur_among.f l0 y.2.1 y.2.2 ([0, 1, 4, 0, 12, (-1), 4611686018427387904] : List Int)).bind fun z => (spec_l1Cur_among.f l0 z.2.1 z.2.2 ([1, 5, 0, 20, 1000000, (-1)] : List Int)).bind fun u => some (x.1, x.2.1, x.2.2.1, y.1, z.1, u.1)
set_option maxHeartbeats 4000000 in
set_option maxRecDepth 100000 in
theorem spec_DrawNextCap.calls (A0 : Option Addr) (c0 : Nat) (l0 : List Int) (r1 r2 r3 r4 r5 r6 : Int) (w : World) (hr0 : Kd.C (Kd.int .u8) w A0 l0.length l0) (hc0 : l0.length ≤ c0) (h : spec_DrawNextCap.f l0 = some (r1, r2, r3, r4, r5, r6)) :
    Calls Try.prog 44 #[.slice A0 l0.length c0] w fun e w' => e = .returned (.tuple #[.agg #[.int .i64 r1, .int .i64 r2, .int .i64 r3], .int .i64 r4, .int .i64 r5, .int .i64 r6]) ∧ Below w.heap.size w w' := by
  have HR0 := Lib.hid hr0
  clear hr0 hc0
  unfold spec_DrawNextCap.f at h
  obtain ⟨⟨x1, x2, x3, x4, x5⟩, hg, h⟩ := Option.bind_eq_some_iff.mp h
  have HG := Lib.hid hg
  clear hg
  obtain ⟨⟨y0, t0, u0⟩, hy, h⟩ := Option.bind_eq_some_iff.mp h
  dsimp only at hy
  have HY0 := Lib.hid hy
  clear hy
  obtain ⟨⟨y1, t1, u1⟩, hy, h⟩ := Option.bind_eq_some_iff.mp h
  dsimp only at hy
  have HY1 := Lib.hid hy
  clear hy
  obtain ⟨⟨y2, t2, u2⟩, hy, h⟩ := Option.bind_eq_some_iff.mp h
  dsimp only at hy
  have HY2 := Lib.hid hy
  clear hy
  simp only [Option.some.injEq, Prod.mk.injEq] at h
  obtain ⟨rfl, rfl, rfl, rfl, rfl, rfl⟩ := h
  obtain ⟨gb, hgb⟩ : ∃ g, g = w.heap.size := ⟨_, rfl⟩
  obtain ⟨W0, hW⟩ : ∃ W, W = w.alloc (.cells #[.int .i64 0, .int .i64 0, .int .i64 0] 60) := ⟨_, rfl⟩
  have HI : Hid (Lv.Inv w W0 [Lv.boxF gb #[.int .i64 0, .int .i64 0, .int .i64 0] 60]) := by
    subst hW hgb
    exact Lib.hid ((Lv.Inv.refl w).box #[.int .i64 0, .int .i64 0, .int .i64 0] 60)
  go_enter Try.func44, Try.ntmps44
  go_upto_region 1 with (fail)
  rw [← hW, ← hgb]
  clear hW hgb
  refine Fl.startL [.take 0, .take 1, .one 2, .take 3] (by decide) HI.out ?_
  refine Fl.take (some 7) (v := .slice A0 l0.length c0) rfl rfl (Or.inl ⟨by rfl, fun _ _ => by rfl⟩) ?_
  simp only [Act.put, Fl.z1, Fl.z2, Fl.z3]
  refine Fl.take (some 8) (v := .agg #[.slice A0 l0.length c0, .int .i64 0, .int .u64 0]) rfl rfl (Or.inl ⟨by rfl, fun _ _ => by first | rfl | (go_simp; done) | (go_simp; rfl) | (go_simp; simp only [i64_w])⟩) ?_
  simp only [Act.put, Fl.z1, Fl.z2, Fl.z3]
  refine spec_DrawSingleCost.boxed (N := 9) (cs := #[.slice A0 l0.length c0, .int .i64 0, .int .u64 0]) (t := 106) rfl rfl (by rfl) (fun w => by first | (go_simp; done) | (go_simp; rfl)) (fun gc => ?_)
  simp only [Act.put, Fl.z1, Fl.z2, Fl.z3]
  refine Fl.take (some 6) (v := .pointer (some ⟨gc, 0, none⟩)) rfl rfl (Or.inl ⟨by rfl, fun _ _ => by rfl⟩) ?_
  simp only [Act.put, Fl.z1, Fl.z2, Fl.z3]
  refine Fl.stop (fun W hi => ?_)
  replace HI := Lib.hid hi
  clear hi
  replace HI := Lib.hid (spec_DrawSingleCost.ofBox HI.out HR0.out)
  go_upto_region 2 with (fail)
  refine Fl.startW [.take 0, .one 1, .take 2, .one 3, .one 4, .take 5, .one 6, .one 7, .take 8, .one 9, .one 10, .one 11, .take 12, .take 13, .take 14] (by decide) HI.out ?_
  refine Fl.take (some 10) (v := .pointer (some ⟨gc, 0, none⟩)) rfl rfl (Or.inl ⟨by rfl, fun _ _ => by rfl⟩) ?_
  simp only [Act.put, Fl.z1, Fl.z2, Fl.z3]
  refine Fl.call (some 11) Try.func74 (by kernel_rfl) rfl #[.pointer (some ⟨gc, 0, none⟩)] rfl rfl rfl (by rfl) rfl (fun E2 W2 hE2 hi => ?_)
  refine (spec_l1Cur_growRule.calls gc l0 0 0 x1 x2 x3 x4 x5 w W2 (spec_DrawSingleCost.got hi (i := 0) rfl) hi.bel HG.out).mono ?_
  rintro e W' ⟨rfl, hI2, hB2, hK2⟩
  refine Fl.keepI (F := []) (v := .agg #[.int .i64 x1, .int .i64 x2, .int .i64 x3]) (F' := [spec_DrawSingleCost.curF w gc l0 x4 x5, Lv.boxF gb #[.int .i64 0, .int .i64 0, .int .i64 0] 60]) (spec_DrawSingleCost.on hi (i := 0) rfl hI2 hB2 hK2) ?_
  clear hi hI2 hB2 hK2 hE2
  simp only [Act.put, Fl.z1, Fl.z2, Fl.z3]
  refine Fl.take (some 12) (v := .pointer (some ⟨gc, 0, none⟩)) rfl rfl (Or.inl ⟨by rfl, fun _ _ => by rfl⟩) ?_
  simp only [Act.put, Fl.z1, Fl.z2, Fl.z3]
  refine Fl.lit (N := 13) (cs := #[.int .i64 3, .int .i64 0, .int .i64 8, .int .i64 1, .int .i64 100, .int .i64 999999, .int .i64 1000000, .int .i64 (-1)]) (t := 3) (n := 8) rfl rfl (by rfl) (fun w => by first | (go_simp; done) | (go_simp; rfl)) (fun b0 => ?_)
  simp only [Act.put, Fl.z1, Fl.z2, Fl.z3]
  refine Fl.call (some 14) Try.func82 (by kernel_rfl) rfl #[.pointer (some ⟨gc, 0, none⟩), .slice (some ⟨b0, 0, none⟩) 8 8] rfl rfl rfl (by rfl) rfl (fun E2 W2 hE2 hi => ?_)
  have hc_ := spec_l1Cur_among.calls gc l0 x4 x5 (some ⟨b0, 0, none⟩) 8 [3, 0, 8, 1, 100, 999999, 1000000, (-1)] y0 t0 u0 w W2 (spec_DrawSingleCost.got hi (i := 1) rfl) hi.bel (spec_DrawSingleCost.laid [3, 0, 8, 1, 100, 999999, 1000000, (-1)] hi (n := 8) rfl (by decide)) (Nat.le_refl _) (fun ad e _ => by cases e; exact ((spec_DrawSingleCost.got hi (i := 1) rfl).ne_blk (hi.blk 0 rfl) (by decide)).symm) HY0.out
  refine hc_.mono ?_
  rintro e W' ⟨rfl, hI2, hB2, hK2⟩
  refine Fl.keepI (F := []) (v := .int .i64 y0) (F' := [Lv.boxF b0 #[.int .i64 3, .int .i64 0, .int .i64 8, .int .i64 1, .int .i64 100, .int .i64 999999, .int .i64 1000000, .int .i64 (-1)] 3, spec_DrawSingleCost.curF w gc l0 t0 u0, Lv.boxF gb #[.int .i64 0, .int .i64 0, .int .i64 0] 60]) (spec_DrawSingleCost.on hi (i := 1) rfl hI2 hB2 hK2) ?_
  clear hi hc_ hI2 hB2 hK2 hE2
  simp only [Act.put, Fl.z1, Fl.z2, Fl.z3]
  refine Fl.take (some 15) (v := .pointer (some ⟨gc, 0, none⟩)) rfl rfl (Or.inl ⟨by rfl, fun _ _ => by rfl⟩) ?_
  simp only [Act.put, Fl.z1, Fl.z2, Fl.z3]
  refine Fl.lit (N := 16) (cs := #[.int .i64 0, .int .i64 1, .int .i64 4, .int .i64 0, .int .i64 12, .int .i64 (-1), .int .i64 4611686018427387904]) (t := 3) (n := 7) rfl rfl (by rfl) (fun w => by first | (go_simp; done) | (go_simp; rfl)) (fun b1 => ?_)
  simp only [Act.put, Fl.z1, Fl.z2, Fl.z3]
  refine Fl.call (some 17) Try.func82 (by kernel_rfl) rfl #[.pointer (some ⟨gc, 0, none⟩), .slice (some ⟨b1, 0, none⟩) 7 7] rfl rfl rfl (by rfl) rfl (fun E2 W2 hE2 hi => ?_)
  have hc_ := spec_l1Cur_among.calls gc l0 t0 u0 (some ⟨b1, 0, none⟩) 7 [0, 1, 4, 0, 12, (-1), 4611686018427387904] y1 t1 u1 w W2 (spec_DrawSingleCost.got hi (i := 2) rfl) hi.bel (spec_DrawSingleCost.laid [0, 1, 4, 0, 12, (-1), 4611686018427387904] hi (n := 7) rfl (by decide)) (Nat.le_refl _) (fun ad e _ => by cases e; exact ((spec_DrawSingleCost.got hi (i := 2) rfl).ne_blk (hi.blk 0 rfl) (by decide)).symm) HY1.out
  refine hc_.mono ?_
  rintro e W' ⟨rfl, hI2, hB2, hK2⟩
  refine Fl.keepI (F := []) (v := .int .i64 y1) (F' := [Lv.boxF b1 #[.int .i64 0, .int .i64 1, .int .i64 4, .int .i64 0, .int .i64 12, .int .i64 (-1), .int .i64 4611686018427387904] 3, Lv.boxF b0 #[.int .i64 3, .int .i64 0, .int .i64 8, .int .i64 1, .int .i64 100, .int .i64 999999, .int .i64 1000000, .int .i64 (-1)] 3, spec_DrawSingleCost.curF w gc l0 t1 u1, Lv.boxF gb #[.int .i64 0, .int .i64 0, .int .i64 0] 60]) (spec_DrawSingleCost.on hi (i := 2) rfl hI2 hB2 hK2) ?_
  clear hi hc_ hI2 hB2 hK2 hE2
  simp only [Act.put, Fl.z1, Fl.z2, Fl.z3]
  refine Fl.take (some 18) (v := .pointer (some ⟨gc, 0, none⟩)) rfl rfl (Or.inl ⟨by rfl, fun _ _ => by rfl⟩) ?_
  simp only [Act.put, Fl.z1, Fl.z2, Fl.z3]
  refine Fl.lit (N := 19) (cs := #[.int .i64 1, .int .i64 5, .int .i64 0, .int .i64 20, .int .i64 1000000, .int .i64 (-1)]) (t := 3) (n := 6) rfl rfl (by rfl) (fun w => by first | (go_simp; done) | (go_simp; rfl)) (fun b2 => ?_)
  simp only [Act.put, Fl.z1, Fl.z2, Fl.z3]
  refine Fl.call (some 20) Try.func82 (by kernel_rfl) rfl #[.pointer (some ⟨gc, 0, none⟩), .slice (some ⟨b2, 0, none⟩) 6 6] rfl rfl rfl (by rfl) rfl (fun E2 W2 hE2 hi => ?_)
  have hc_ := spec_l1Cur_among.calls gc l0 t1 u1 (some ⟨b2, 0, none⟩) 6 [1, 5, 0, 20, 1000000, (-1)] y2 t2 u2 w W2 (spec_DrawSingleCost.got hi (i := 3) rfl) hi.bel (spec_DrawSingleCost.laid [1, 5, 0, 20, 1000000, (-1)] hi (n := 6) rfl (by decide)) (Nat.le_refl _) (fun ad e _ => by cases e; exact ((spec_DrawSingleCost.got hi (i := 3) rfl).ne_blk (hi.blk 0 rfl) (by decide)).symm) HY2.out
  refine hc_.mono ?_
  rintro e W' ⟨rfl, hI2, hB2, hK2⟩
  refine Fl.keepI (F := []) (v := .int .i64 y2) (F' := [Lv.boxF b2 #[.int .i64 1, .int .i64 5, .int .i64 0, .int .i64 20, .int .i64 1000000, .int .i64 (-1)] 3, Lv.boxF b1 #[.int .i64 0, .int .i64 1, .int .i64 4, .int .i64 0, .int .i64 12, .int .i64 (-1), .int .i64 4611686018427387904] 3, Lv.boxF b0 #[.int .i64 3, .int .i64 0, .int .i64 8, .int .i64 1, .int .i64 100, .int .i64 999999, .int .i64 1000000, .int .i64 (-1)] 3, spec_DrawSingleCost.curF w gc l0 t2 u2, Lv.boxF gb #[.int .i64 0, .int .i64 0, .int .i64 0] 60]) (spec_DrawSingleCost.on hi (i := 3) rfl hI2 hB2 hK2) ?_
  clear hi hc_ hI2 hB2 hK2 hE2
  simp only [Act.put, Fl.z1, Fl.z2, Fl.z3]
  refine Fl.store 4 #[.int .i64 x1, .int .i64 x2, .int .i64 x3] rfl rfl rfl rfl _ _ _ rfl rfl rfl (by rfl) rfl (by kernel_rfl) (by simp [Value.oneCell']) ?_
  refine Fl.take (some 3) (v := .int .i64 y0) rfl rfl (Or.inl ⟨by rfl, fun _ _ => by rfl⟩) ?_
  simp only [Act.put, Fl.z1, Fl.z2, Fl.z3]
  refine Fl.take (some 4) (v := .int .i64 y1) rfl rfl (Or.inl ⟨by rfl, fun _ _ => by rfl⟩) ?_
  simp only [Act.put, Fl.z1, Fl.z2, Fl.z3]
  refine Fl.take (some 5) (v := .int .i64 y2) rfl rfl (Or.inl ⟨by rfl, fun _ _ => by rfl⟩) ?_
  simp only [Act.put, Fl.z1, Fl.z2, Fl.z3]
  refine Fl.stopW (fun W hi => ?_)
  replace HI := Lib.hid hi
  clear hi
  go_wp2
  refine bodyPost_ret (v := .tuple #[.agg #[.int .i64 x1, .int .i64 x2, .int .i64 x3], .int .i64 y0, .int .i64 y1, .int .i64 y2]) (results_list (rs := [.cell 2 60, .tmp 3, .tmp 4, .tmp 5]) rfl (by simp) (.cell _ _ _ (0, 0) _ rfl (HI.out.blk 4 rfl) Try.underlying60 rfl (by kernel_rfl) (.tmp (.tmp (.tmp .nil))))) rfl ?_
  exact ⟨rfl, HI.out.bel⟩

/-! ### impl_NextCap: function 45 (by hand) -/
def impl_NextCap.f (a0_0 a0_1 a0_2 : Int) (a1 a2 a3 : Int) : Option (Int × Bool) := some (if impl_store_grow.ruleB a0_0 a0_1 a0_2 = true then (if (0 ≤ a1 ∧ a1 ≤ 1000000) ∧ 0 ≤ a2 ∧ a2 ≤ 1000000 - a1 then (if (impl_store_grow.stepF a0_0 a0_1 a0_2 (a1, a1 + a2, 0, 0) a3).1 = true then ((impl_store_grow.stepF a0_0 a0_1 a0_2 (a1, a1 + a2, 0, 0) a3).2.2.1, true) else (0, false)) else (0, false)) else (0, false))
set_option maxHeartbeats 4000000 in
set_option maxRecDepth 100000 in
theorem impl_NextCap.calls (a0_0 a0_1 a0_2 : Int) (a1 a2 a3 : Int) (r1 : Int) (r2 : Bool) (w : World) (h : impl_NextCap.f a0_0 a0_1 a0_2 a1 a2 a3 = some (r1, r2)) :
    Calls Try.prog 45 #[.agg #[.int .i64 a0_0, .int .i64 a0_1, .int .i64 a0_2], .int .i64 a1, .int .i64 a2, .int .i64 a3] w fun e w' => e = .returned (.tuple #[.int .i64 r1, .bool r2]) ∧ Below w.heap.size w w' := by
  unfold impl_NextCap.f at h
  replace h := Option.some.inj h
  by_cases hru : impl_store_grow.ruleB a0_0 a0_1 a0_2 = true
  · rw [if_pos hru] at h
    have HRU := Lib.hid hru
    have HGR := Lib.hid (impl_store_grow.gr a0_0 a0_1 a0_2)
    rw [hru] at HGR
    clear hru
    have HIG := Lib.hid (impl_store_grow.ig a1)
    by_cases hg : 0 ≤ a1 ∧ a1 ≤ 1000000
    · rw [decide_eq_true hg.1, decide_eq_true hg.2] at HIG
      have HE1 : Hid (IntKind.i64.wrap (1000000 - a1) = 1000000 - a1) := Lib.hid (by rw [IntKind.wrap_i64]; omega)
      have HWI := Lib.hid (impl_store_grow.wi a2 0 (1000000 - a1))
      by_cases hw2 : 0 ≤ a2 ∧ a2 ≤ 1000000 - a1
      · rw [if_pos ⟨hg, hw2⟩] at h
        rw [decide_eq_true hw2.1, decide_eq_true hw2.2] at HWI
        have HE2 : Hid (IntKind.i64.wrap (a1 + a2) = a1 + a2) := Lib.hid (by rw [IntKind.wrap_i64]; omega)
        have HOK : Hid (impl_store_grow.Ok (a1, a1 + a2, 0, 0) 0) := Lib.hid ⟨by show 0 ≤ a1; omega, by show a1 ≤ a1 + a2; omega, by show a1 + a2 ≤ 1000000; omega, by show (0 : Int) ≤ 0; decide, by show (0 : Int) ≤ 3000000 * 0; decide, by show (0 : Int) ≤ 0; decide, by show (0 : Int) ≤ 0; decide⟩
        obtain ⟨q, hq⟩ : ∃ q, q = impl_store_grow.stepF a0_0 a0_1 a0_2 (a1, a1 + a2, 0, 0) a3 := ⟨_, rfl⟩
        rw [← hq] at h
        have HQ := Lib.hid hq.symm
        obtain ⟨bq, s2⟩ := q
        clear hq hg hw2
        obtain ⟨gb, hgb⟩ : ∃ g, g = w.heap.size := ⟨_, rfl⟩
        obtain ⟨W0, hW⟩ : ∃ W, W = w.alloc (.cells #[.int .i64 a0_0, .int .i64 a0_1, .int .i64 a0_2] 60) := ⟨_, rfl⟩
        have HI : Hid (Lv.Inv w W0 [Lv.boxF gb #[.int .i64 a0_0, .int .i64 a0_1, .int .i64 a0_2] 60]) := by
          subst hW hgb
          exact Lib.hid ((Lv.Inv.refl w).box #[.int .i64 a0_0, .int .i64 a0_1, .int .i64 a0_2] 60)
        go_enter Try.func45, Try.ntmps45
        go_upto_region 1 with (fail)
        rw [← hW, ← hgb]
        clear hW hgb
        refine Fl.startL [.take 0, .one 1, .take 2, .take 3, .take 4, .one 5, .take 6, .take 7, .take 8, .take 9, .take 10, .take 11, .one 12, .take 13, .take 14] (by decide) HI.out ?_
        refine Fl.take (some 11) (v := .agg #[.int .i64 a0_0, .int .i64 a0_1, .int .i64 a0_2]) rfl rfl (Fl.ld 0 rfl (by rfl) _ _ rfl rfl Try.underlying60 rfl (by kernel_rfl)) ?_
        simp only [Act.put, Fl.z1, Fl.z2, Fl.z3]
        refine Fl.call (some 12) Try.func43 (by kernel_rfl) rfl #[.agg #[.int .i64 a0_0, .int .i64 a0_1, .int .i64 a0_2]] rfl rfl rfl (by rfl) rfl (fun E2 W2 hE2 hi => ?_)
        refine (HGR.out W2).mono ?_
        rintro e W' ⟨rfl, hb⟩
        refine Fl.keep (v := .bool true) hi hb ?_
        clear hi hb hE2
        simp only [Act.put, Fl.z1, Fl.z2, Fl.z3]
        refine Fl.take (some 13) (v := .bool false) rfl rfl (Or.inl ⟨by rfl, fun _ _ => by rfl⟩) ?_
        simp only [Act.put, Fl.z1, Fl.z2, Fl.z3]
        refine Fl.take (some 14) (v := .bool false) rfl rfl (Or.inl ⟨by rfl, fun _ _ => by rfl⟩) ?_
        simp only [Act.put, Fl.z1, Fl.z2, Fl.z3]
        refine Fl.take (some 15) (v := .int .i64 a1) rfl rfl (Or.inl ⟨by rfl, fun _ _ => by rfl⟩) ?_
        simp only [Act.put, Fl.z1, Fl.z2, Fl.z3]
        refine Fl.call (some 16) Try.func87 (by kernel_rfl) rfl #[.int .i64 a1] rfl rfl rfl (by rfl) rfl (fun E2 W2 hE2 hi => ?_)
        refine (HIG.out W2).mono ?_
        rintro e W' ⟨rfl, rfl⟩
        refine Fl.keep (v := .bool true) hi (Below.refl _ _) ?_
        clear hi hE2
        simp only [Act.put, Fl.z1, Fl.z2, Fl.z3]
        refine Fl.take (some 17) (v := .bool false) rfl rfl (Or.inl ⟨by rfl, fun _ _ => by rfl⟩) ?_
        simp only [Act.put, Fl.z1, Fl.z2, Fl.z3]
        refine Fl.take (some 18) (v := .bool false) rfl rfl (Or.inl ⟨by rfl, fun _ _ => by rfl⟩) ?_
        simp only [Act.put, Fl.z1, Fl.z2, Fl.z3]
        refine Fl.take (some 19) (v := .bool false) rfl rfl (Or.inl ⟨by rfl, fun _ _ => by rfl⟩) ?_
        simp only [Act.put, Fl.z1, Fl.z2, Fl.z3]
        refine Fl.take (some 20) (v := .int .i64 a2) rfl rfl (Or.inl ⟨by rfl, fun _ _ => by rfl⟩) ?_
        simp only [Act.put, Fl.z1, Fl.z2, Fl.z3]
        refine Fl.take (some 21) (v := .int .i64 a1) rfl rfl (Or.inl ⟨by rfl, fun _ _ => by rfl⟩) ?_
        simp only [Act.put, Fl.z1, Fl.z2, Fl.z3]
        refine Fl.take (some 22) (v := .int .i64 (1000000 - a1)) rfl rfl (Or.inl ⟨by rfl, fun _ _ => by have e1 := HE1.out; first | (go_simp; done) | (go_simp; rw [e1]; done) | (go_simp; rw [e1]; rfl) | (go_simp; simp only [e1])⟩) ?_
        simp only [Act.put, Fl.z1, Fl.z2, Fl.z3]
        refine Fl.call (some 23) Try.func86 (by kernel_rfl) rfl #[.int .i64 a2, .int .i64 0, .int .i64 (1000000 - a1)] rfl rfl rfl (by rfl) rfl (fun E2 W2 hE2 hi => ?_)
        refine (HWI.out W2).mono ?_
        rintro e W' ⟨rfl, rfl⟩
        refine Fl.keep (v := .bool true) hi (Below.refl _ _) ?_
        clear hi hE2
        simp only [Act.put, Fl.z1, Fl.z2, Fl.z3]
        refine Fl.take (some 24) (v := .bool false) rfl rfl (Or.inl ⟨by rfl, fun _ _ => by rfl⟩) ?_
        simp only [Act.put, Fl.z1, Fl.z2, Fl.z3]
        refine Fl.take (some 25) (v := .bool false) rfl rfl (Or.inl ⟨by rfl, fun _ _ => by rfl⟩) ?_
        simp only [Act.put, Fl.z1, Fl.z2, Fl.z3]
        refine Fl.stop (fun W hi => ?_)
        replace HI := Lib.hid hi
        clear hi
        go_upto_region 3 with (fail)
        refine Fl.startW [.take 0, .take 1, .take 2, .take 3, .take 4, .one 5, .one 6] (by decide) HI.out ?_
        refine Fl.take (some 26) (v := .int .i64 a1) rfl rfl (Or.inl ⟨by rfl, fun _ _ => by rfl⟩) ?_
        simp only [Act.put, Fl.z1, Fl.z2, Fl.z3]
        refine Fl.take (some 27) (v := .int .i64 a1) rfl rfl (Or.inl ⟨by rfl, fun _ _ => by rfl⟩) ?_
        simp only [Act.put, Fl.z1, Fl.z2, Fl.z3]
        refine Fl.take (some 28) (v := .int .i64 a2) rfl rfl (Or.inl ⟨by rfl, fun _ _ => by rfl⟩) ?_
        simp only [Act.put, Fl.z1, Fl.z2, Fl.z3]
        refine Fl.take (some 29) (v := .int .i64 (a1 + a2)) rfl rfl (Or.inl ⟨by rfl, fun _ _ => by have e1 := HE2.out; first | (go_simp; done) | (go_simp; rw [e1]; done) | (go_simp; rw [e1]; rfl) | (go_simp; simp only [e1])⟩) ?_
        simp only [Act.put, Fl.z1, Fl.z2, Fl.z3]
        refine Fl.take (some 30) (v := .agg #[.int .i64 a1, .int .i64 (a1 + a2), .int .i64 0, .int .i64 0]) rfl rfl (Or.inl ⟨by rfl, fun _ _ => by first | rfl | (go_simp; done) | (go_simp; rfl) | (go_simp; simp only [i64_w])⟩) ?_
        simp only [Act.put, Fl.z1, Fl.z2, Fl.z3]
        refine Fl.var (N := 10) (cs := #[.int .i64 0, .int .i64 0, .int .i64 0, .int .i64 0]) (t := 110) ⟨_, rfl, rfl, fun _ => rfl, fun e w => by first | (go_simp; done) | (go_simp; rfl)⟩ (fun gs => ?_)
        simp only [Act.put, Fl.z1, Fl.z2, Fl.z3]
        refine Fl.store 0 #[.int .i64 a1, .int .i64 (a1 + a2), .int .i64 0, .int .i64 0] rfl rfl rfl rfl _ _ _ rfl rfl rfl (by rfl) rfl (by kernel_rfl) (by simp [Value.oneCell']) ?_
        refine Fl.stopW (fun W hi => ?_)
        replace HI := Lib.hid hi
        clear hi
        replace HI : Hid (Lv.Inv w W [Lv.boxF gs (impl_store_grow.cs (a1, a1 + a2, 0, 0)) 110, Lv.boxF gb #[.int .i64 a0_0, .int .i64 a0_1, .int .i64 a0_2] 60]) := HI
        cases bq with
        | false =>
          replace h : ((0 : Int), false) = (r1, r2) := h
          obtain ⟨rfl, rfl⟩ := Prod.mk.inj h
          clear h
          go_upto_region 4 with (fail)
          refine Fl.startW [.one 0, .take 1, .one 2, .take 3] (by decide) HI.out ?_
          refine Fl.ldF (some 31) 1 rfl rfl rfl (by rfl) _ _ rfl rfl Try.underlying60 rfl (by kernel_rfl) ?_
          simp only [Act.put, Fl.z1, Fl.z2, Fl.z3]
          refine Fl.take (some 32) (v := .int .i64 a3) rfl rfl (Or.inl ⟨by rfl, fun _ _ => by rfl⟩) ?_
          simp only [Act.put, Fl.z1, Fl.z2, Fl.z3]
          refine Fl.call (some 33) Try.func88 (by kernel_rfl) rfl #[.pointer (some ⟨gs, 0, none⟩), .agg #[.int .i64 a0_0, .int .i64 a0_1, .int .i64 a0_2], .int .i64 a3] rfl rfl rfl (by rfl) rfl (fun E2 W hE2 hi => ?_)
          have hc_ := impl_store_grow.run a0_0 a0_1 a0_2 a3 (a1, a1 + a2, 0, 0) gs 0 _ W _ hi rfl HRU.out _ HOK.out (by decide)
          rw [HQ.out] at hc_
          refine hc_.mono ?_
          rintro e W' ⟨rfl, hi2⟩
          refine Fl.keepI (F := []) (v := .bool false) (F' := Lv.boxF gs (impl_store_grow.cs s2) 110 :: [Lv.boxF gb #[.int .i64 a0_0, .int .i64 a0_1, .int .i64 a0_2] 60]) hi2 ?_
          clear hi hi2 hE2 hc_
          simp only [Act.put, Fl.z1, Fl.z2, Fl.z3]
          refine Fl.take (some 34) (v := .bool true) rfl rfl (Or.inl ⟨by rfl, fun _ _ => by rfl⟩) ?_
          simp only [Act.put, Fl.z1, Fl.z2, Fl.z3]
          refine Fl.stopW (fun W hi => ?_)
          replace HI := Lib.hid hi
          clear hi
          go_wp2
          go_ret2
          exact ⟨rfl, HI.out.bel⟩
        | true =>
          replace h : (s2.2.1, true) = (r1, r2) := h
          obtain ⟨rfl, rfl⟩ := Prod.mk.inj h
          clear h
          go_upto_region 4 with (fail)
          refine Fl.startW [.one 0, .take 1, .one 2, .take 3] (by decide) HI.out ?_
          refine Fl.ldF (some 31) 1 rfl rfl rfl (by rfl) _ _ rfl rfl Try.underlying60 rfl (by kernel_rfl) ?_
          simp only [Act.put, Fl.z1, Fl.z2, Fl.z3]
          refine Fl.take (some 32) (v := .int .i64 a3) rfl rfl (Or.inl ⟨by rfl, fun _ _ => by rfl⟩) ?_
          simp only [Act.put, Fl.z1, Fl.z2, Fl.z3]
          refine Fl.call (some 33) Try.func88 (by kernel_rfl) rfl #[.pointer (some ⟨gs, 0, none⟩), .agg #[.int .i64 a0_0, .int .i64 a0_1, .int .i64 a0_2], .int .i64 a3] rfl rfl rfl (by rfl) rfl (fun E2 W hE2 hi => ?_)
          have hc_ := impl_store_grow.run a0_0 a0_1 a0_2 a3 (a1, a1 + a2, 0, 0) gs 0 _ W _ hi rfl HRU.out _ HOK.out (by decide)
          rw [HQ.out] at hc_
          refine hc_.mono ?_
          rintro e W' ⟨rfl, hi2⟩
          refine Fl.keepI (F := []) (v := .bool true) (F' := Lv.boxF gs (impl_store_grow.cs s2) 110 :: [Lv.boxF gb #[.int .i64 a0_0, .int .i64 a0_1, .int .i64 a0_2] 60]) hi2 ?_
          clear hi hi2 hE2 hc_
          simp only [Act.put, Fl.z1, Fl.z2, Fl.z3]
          refine Fl.take (some 34) (v := .bool false) rfl rfl (Or.inl ⟨by rfl, fun _ _ => by rfl⟩) ?_
          simp only [Act.put, Fl.z1, Fl.z2, Fl.z3]
          refine Fl.stopW (fun W hi => ?_)
          replace HI := Lib.hid hi
          clear hi
          go_upto_region 6 with (fail)
          refine Fl.startL [.take 0, .take 1, .take 2, .take 3] (by decide) HI.out ?_
          refine Fl.take (some 35) (v := .pointer (some ⟨gs, 1, none⟩)) rfl rfl (Or.inl ⟨by rfl, fun _ _ => by first | rfl | (go_simp; done) | (go_simp; rfl) | (go_simp; omega)⟩) ?_
          simp only [Act.put, Fl.z1, Fl.z2, Fl.z3]
          refine Fl.take (some 36) (v := .int .i64 s2.2.1) rfl rfl (Fl.ldc 0 1 rfl (by rfl) _ _ rfl rfl rfl Try.underlying3 rfl) ?_
          simp only [Act.put, Fl.z1, Fl.z2, Fl.z3]
          refine Fl.take (some 8) (v := .int .i64 s2.2.1) rfl rfl (Or.inl ⟨by rfl, fun _ _ => by rfl⟩) ?_
          simp only [Act.put, Fl.z1, Fl.z2, Fl.z3]
          refine Fl.take (some 9) (v := .bool true) rfl rfl (Or.inl ⟨by rfl, fun _ _ => by rfl⟩) ?_
          simp only [Act.put, Fl.z1, Fl.z2, Fl.z3]
          refine Fl.stop (fun W hi => ?_)
          replace HI := Lib.hid hi
          clear hi
          go_wp2
          go_ret2
          exact ⟨rfl, HI.out.bel⟩
      · rw [if_neg (fun hh => hw2 hh.2)] at h
        obtain ⟨rfl, rfl⟩ := Prod.mk.inj h
        clear h
        rw [show (decide (0 ≤ a2) && decide (a2 ≤ 1000000 - a1)) = false from by rw [← Bool.decide_and]; exact decide_eq_false hw2] at HWI
        clear hg hw2
        obtain ⟨gb, hgb⟩ : ∃ g, g = w.heap.size := ⟨_, rfl⟩
        obtain ⟨W0, hW⟩ : ∃ W, W = w.alloc (.cells #[.int .i64 a0_0, .int .i64 a0_1, .int .i64 a0_2] 60) := ⟨_, rfl⟩
        have HI : Hid (Lv.Inv w W0 [Lv.boxF gb #[.int .i64 a0_0, .int .i64 a0_1, .int .i64 a0_2] 60]) := by
          subst hW hgb
          exact Lib.hid ((Lv.Inv.refl w).box #[.int .i64 a0_0, .int .i64 a0_1, .int .i64 a0_2] 60)
        go_enter Try.func45, Try.ntmps45
        go_upto_region 1 with (fail)
        rw [← hW, ← hgb]
        clear hW hgb
        refine Fl.startL [.take 0, .one 1, .take 2, .take 3, .take 4, .one 5, .take 6, .take 7, .take 8, .take 9, .take 10, .take 11, .one 12, .take 13, .take 14] (by decide) HI.out ?_
        refine Fl.take (some 11) (v := .agg #[.int .i64 a0_0, .int .i64 a0_1, .int .i64 a0_2]) rfl rfl (Fl.ld 0 rfl (by rfl) _ _ rfl rfl Try.underlying60 rfl (by kernel_rfl)) ?_
        simp only [Act.put, Fl.z1, Fl.z2, Fl.z3]
        refine Fl.call (some 12) Try.func43 (by kernel_rfl) rfl #[.agg #[.int .i64 a0_0, .int .i64 a0_1, .int .i64 a0_2]] rfl rfl rfl (by rfl) rfl (fun E2 W2 hE2 hi => ?_)
        refine (HGR.out W2).mono ?_
        rintro e W' ⟨rfl, hb⟩
        refine Fl.keep (v := .bool true) hi hb ?_
        clear hi hb hE2
        simp only [Act.put, Fl.z1, Fl.z2, Fl.z3]
        refine Fl.take (some 13) (v := .bool false) rfl rfl (Or.inl ⟨by rfl, fun _ _ => by rfl⟩) ?_
        simp only [Act.put, Fl.z1, Fl.z2, Fl.z3]
        refine Fl.take (some 14) (v := .bool false) rfl rfl (Or.inl ⟨by rfl, fun _ _ => by rfl⟩) ?_
        simp only [Act.put, Fl.z1, Fl.z2, Fl.z3]
        refine Fl.take (some 15) (v := .int .i64 a1) rfl rfl (Or.inl ⟨by rfl, fun _ _ => by rfl⟩) ?_
        simp only [Act.put, Fl.z1, Fl.z2, Fl.z3]
        refine Fl.call (some 16) Try.func87 (by kernel_rfl) rfl #[.int .i64 a1] rfl rfl rfl (by rfl) rfl (fun E2 W2 hE2 hi => ?_)
        refine (HIG.out W2).mono ?_
        rintro e W' ⟨rfl, rfl⟩
        refine Fl.keep (v := .bool true) hi (Below.refl _ _) ?_
        clear hi hE2
        simp only [Act.put, Fl.z1, Fl.z2, Fl.z3]
        refine Fl.take (some 17) (v := .bool false) rfl rfl (Or.inl ⟨by rfl, fun _ _ => by rfl⟩) ?_
        simp only [Act.put, Fl.z1, Fl.z2, Fl.z3]
        refine Fl.take (some 18) (v := .bool false) rfl rfl (Or.inl ⟨by rfl, fun _ _ => by rfl⟩) ?_
        simp only [Act.put, Fl.z1, Fl.z2, Fl.z3]
        refine Fl.take (some 19) (v := .bool false) rfl rfl (Or.inl ⟨by rfl, fun _ _ => by rfl⟩) ?_
        simp only [Act.put, Fl.z1, Fl.z2, Fl.z3]
        refine Fl.take (some 20) (v := .int .i64 a2) rfl rfl (Or.inl ⟨by rfl, fun _ _ => by rfl⟩) ?_
        simp only [Act.put, Fl.z1, Fl.z2, Fl.z3]
        refine Fl.take (some 21) (v := .int .i64 a1) rfl rfl (Or.inl ⟨by rfl, fun _ _ => by rfl⟩) ?_
        simp only [Act.put, Fl.z1, Fl.z2, Fl.z3]
        refine Fl.take (some 22) (v := .int .i64 (1000000 - a1)) rfl rfl (Or.inl ⟨by rfl, fun _ _ => by have e1 := HE1.out; first | (go_simp; done) | (go_simp; rw [e1]; done) | (go_simp; rw [e1]; rfl) | (go_simp; simp only [e1])⟩) ?_
        simp only [Act.put, Fl.z1, Fl.z2, Fl.z3]
        refine Fl.call (some 23) Try.func86 (by kernel_rfl) rfl #[.int .i64 a2, .int .i64 0, .int .i64 (1000000 - a1)] rfl rfl rfl (by rfl) rfl (fun E2 W2 hE2 hi => ?_)
        refine (HWI.out W2).mono ?_
        rintro e W' ⟨rfl, rfl⟩
        refine Fl.keep (v := .bool false) hi (Below.refl _ _) ?_
        clear hi hE2
        simp only [Act.put, Fl.z1, Fl.z2, Fl.z3]
        refine Fl.take (some 24) (v := .bool true) rfl rfl (Or.inl ⟨by rfl, fun _ _ => by rfl⟩) ?_
        simp only [Act.put, Fl.z1, Fl.z2, Fl.z3]
        refine Fl.take (some 25) (v := .bool true) rfl rfl (Or.inl ⟨by rfl, fun _ _ => by rfl⟩) ?_
        simp only [Act.put, Fl.z1, Fl.z2, Fl.z3]
        refine Fl.stop (fun W hi => ?_)
        replace HI := Lib.hid hi
        clear hi
        go_wp2
        go_ret2
        exact ⟨rfl, HI.out.bel⟩
    · rw [if_neg (fun hh => hg hh.1)] at h
      obtain ⟨rfl, rfl⟩ := Prod.mk.inj h
      clear h
      rw [show (decide (0 ≤ a1) && decide (a1 ≤ 1000000)) = false from by rw [← Bool.decide_and]; exact decide_eq_false hg] at HIG
      clear hg
      obtain ⟨gb, hgb⟩ : ∃ g, g = w.heap.size := ⟨_, rfl⟩
      obtain ⟨W0, hW⟩ : ∃ W, W = w.alloc (.cells #[.int .i64 a0_0, .int .i64 a0_1, .int .i64 a0_2] 60) := ⟨_, rfl⟩
      have HI : Hid (Lv.Inv w W0 [Lv.boxF gb #[.int .i64 a0_0, .int .i64 a0_1, .int .i64 a0_2] 60]) := by
        subst hW hgb
        exact Lib.hid ((Lv.Inv.refl w).box #[.int .i64 a0_0, .int .i64 a0_1, .int .i64 a0_2] 60)
      go_enter Try.func45, Try.ntmps45
      go_upto_region 1 with (fail)
      rw [← hW, ← hgb]
      clear hW hgb
      refine Fl.startL [.take 0, .one 1, .take 2, .take 3, .take 4, .one 5, .take 6, .take 7, .take 8, .take 9, .take 10, .take 11, .take 12, .take 13, .take 14] (by decide) HI.out ?_
      refine Fl.take (some 11) (v := .agg #[.int .i64 a0_0, .int .i64 a0_1, .int .i64 a0_2]) rfl rfl (Fl.ld 0 rfl (by rfl) _ _ rfl rfl Try.underlying60 rfl (by kernel_rfl)) ?_
      simp only [Act.put, Fl.z1, Fl.z2, Fl.z3]
      refine Fl.call (some 12) Try.func43 (by kernel_rfl) rfl #[.agg #[.int .i64 a0_0, .int .i64 a0_1, .int .i64 a0_2]] rfl rfl rfl (by rfl) rfl (fun E2 W2 hE2 hi => ?_)
      refine (HGR.out W2).mono ?_
      rintro e W' ⟨rfl, hb⟩
      refine Fl.keep (v := .bool true) hi hb ?_
      clear hi hb hE2
      simp only [Act.put, Fl.z1, Fl.z2, Fl.z3]
      refine Fl.take (some 13) (v := .bool false) rfl rfl (Or.inl ⟨by rfl, fun _ _ => by rfl⟩) ?_
      simp only [Act.put, Fl.z1, Fl.z2, Fl.z3]
      refine Fl.take (some 14) (v := .bool false) rfl rfl (Or.inl ⟨by rfl, fun _ _ => by rfl⟩) ?_
      simp only [Act.put, Fl.z1, Fl.z2, Fl.z3]
      refine Fl.take (some 15) (v := .int .i64 a1) rfl rfl (Or.inl ⟨by rfl, fun _ _ => by rfl⟩) ?_
      simp only [Act.put, Fl.z1, Fl.z2, Fl.z3]
      refine Fl.call (some 16) Try.func87 (by kernel_rfl) rfl #[.int .i64 a1] rfl rfl rfl (by rfl) rfl (fun E2 W2 hE2 hi => ?_)
      refine (HIG.out W2).mono ?_
      rintro e W' ⟨rfl, rfl⟩
      refine Fl.keep (v := .bool false) hi (Below.refl _ _) ?_
      clear hi hE2
      simp only [Act.put, Fl.z1, Fl.z2, Fl.z3]
      refine Fl.take (some 17) (v := .bool true) rfl rfl (Or.inl ⟨by rfl, fun _ _ => by rfl⟩) ?_
      simp only [Act.put, Fl.z1, Fl.z2, Fl.z3]
      refine Fl.take (some 18) (v := .bool true) rfl rfl (Or.inl ⟨by rfl, fun _ _ => by rfl⟩) ?_
      simp only [Act.put, Fl.z1, Fl.z2, Fl.z3]
      refine Fl.take (some 19) (v := .bool true) rfl rfl (Or.inl ⟨by rfl, fun _ _ => by rfl⟩) ?_
      simp only [Act.put, Fl.z1, Fl.z2, Fl.z3]
      refine Fl.take (some 20) (v := undef) rfl rfl (Or.inr ⟨by rfl, rfl⟩) ?_
      simp only [Act.put, Fl.z1, Fl.z2, Fl.z3]
      refine Fl.take (some 21) (v := undef) rfl rfl (Or.inr ⟨by rfl, rfl⟩) ?_
      simp only [Act.put, Fl.z1, Fl.z2, Fl.z3]
      refine Fl.take (some 22) (v := undef) rfl rfl (Or.inr ⟨by rfl, rfl⟩) ?_
      simp only [Act.put, Fl.z1, Fl.z2, Fl.z3]
      refine Fl.take (some 23) (v := undef) rfl rfl (Or.inr ⟨by rfl, rfl⟩) ?_
      simp only [Act.put, Fl.z1, Fl.z2, Fl.z3]
      refine Fl.take (some 24) (v := undef) rfl rfl (Or.inr ⟨by rfl, rfl⟩) ?_
      simp only [Act.put, Fl.z1, Fl.z2, Fl.z3]
      refine Fl.take (some 25) (v := .bool true) rfl rfl (Or.inl ⟨by rfl, fun _ _ => by rfl⟩) ?_
      simp only [Act.put, Fl.z1, Fl.z2, Fl.z3]
      refine Fl.stop (fun W hi => ?_)
      replace HI := Lib.hid hi
      clear hi
      go_wp2
      go_ret2
      exact ⟨rfl, HI.out.bel⟩
  · rw [if_neg hru] at h
    obtain ⟨rfl, rfl⟩ := Prod.mk.inj h
    clear h
    have HGR := Lib.hid (impl_store_grow.gr a0_0 a0_1 a0_2)
    rw [show impl_store_grow.ruleB a0_0 a0_1 a0_2 = false from Bool.eq_false_iff.mpr hru] at HGR
    clear hru
    obtain ⟨gb, hgb⟩ : ∃ g, g = w.heap.size := ⟨_, rfl⟩
    obtain ⟨W0, hW⟩ : ∃ W, W = w.alloc (.cells #[.int .i64 a0_0, .int .i64 a0_1, .int .i64 a0_2] 60) := ⟨_, rfl⟩
    have HI : Hid (Lv.Inv w W0 [Lv.boxF gb #[.int .i64 a0_0, .int .i64 a0_1, .int .i64 a0_2] 60]) := by
      subst hW hgb
      exact Lib.hid ((Lv.Inv.refl w).box #[.int .i64 a0_0, .int .i64 a0_1, .int .i64 a0_2] 60)
    go_enter Try.func45, Try.ntmps45
    go_upto_region 1 with (fail)
    rw [← hW, ← hgb]
    clear hW hgb
    refine Fl.startL [.take 0, .one 1, .take 2, .take 3, .take 4, .take 5, .take 6, .take 7, .take 8, .take 9, .take 10, .take 11, .take 12, .take 13, .take 14] (by decide) HI.out ?_
    refine Fl.take (some 11) (v := .agg #[.int .i64 a0_0, .int .i64 a0_1, .int .i64 a0_2]) rfl rfl (Fl.ld 0 rfl (by rfl) _ _ rfl rfl Try.underlying60 rfl (by kernel_rfl)) ?_
    simp only [Act.put, Fl.z1, Fl.z2, Fl.z3]
    refine Fl.call (some 12) Try.func43 (by kernel_rfl) rfl #[.agg #[.int .i64 a0_0, .int .i64 a0_1, .int .i64 a0_2]] rfl rfl rfl (by rfl) rfl (fun E2 W2 hE2 hi => ?_)
    refine (HGR.out W2).mono ?_
    rintro e W' ⟨rfl, hb⟩
    refine Fl.keep (v := .bool false) hi hb ?_
    clear hi hb hE2
    simp only [Act.put, Fl.z1, Fl.z2, Fl.z3]
    refine Fl.take (some 13) (v := .bool true) rfl rfl (Or.inl ⟨by rfl, fun _ _ => by rfl⟩) ?_
    simp only [Act.put, Fl.z1, Fl.z2, Fl.z3]
    refine Fl.take (some 14) (v := .bool true) rfl rfl (Or.inl ⟨by rfl, fun _ _ => by rfl⟩) ?_
    simp only [Act.put, Fl.z1, Fl.z2, Fl.z3]
    refine Fl.take (some 15) (v := undef) rfl rfl (Or.inr ⟨by rfl, rfl⟩) ?_
    simp only [Act.put, Fl.z1, Fl.z2, Fl.z3]
    refine Fl.take (some 16) (v := undef) rfl rfl (Or.inr ⟨by rfl, rfl⟩) ?_
    simp only [Act.put, Fl.z1, Fl.z2, Fl.z3]
    refine Fl.take (some 17) (v := undef) rfl rfl (Or.inr ⟨by rfl, rfl⟩) ?_
    simp only [Act.put, Fl.z1, Fl.z2, Fl.z3]
    refine Fl.take (some 18) (v := .bool true) rfl rfl (Or.inl ⟨by rfl, fun _ _ => by rfl⟩) ?_
    simp only [Act.put, Fl.z1, Fl.z2, Fl.z3]
    refine Fl.take (some 19) (v := .bool true) rfl rfl (Or.inl ⟨by rfl, fun _ _ => by rfl⟩) ?_
    simp only [Act.put, Fl.z1, Fl.z2, Fl.z3]
    refine Fl.take (some 20) (v := undef) rfl rfl (Or.inr ⟨by rfl, rfl⟩) ?_
    simp only [Act.put, Fl.z1, Fl.z2, Fl.z3]
    refine Fl.take (some 21) (v := undef) rfl rfl (Or.inr ⟨by rfl, rfl⟩) ?_
    simp only [Act.put, Fl.z1, Fl.z2, Fl.z3]
    refine Fl.take (some 22) (v := undef) rfl rfl (Or.inr ⟨by rfl, rfl⟩) ?_
    simp only [Act.put, Fl.z1, Fl.z2, Fl.z3]
    refine Fl.take (some 23) (v := undef) rfl rfl (Or.inr ⟨by rfl, rfl⟩) ?_
    simp only [Act.put, Fl.z1, Fl.z2, Fl.z3]
    refine Fl.take (some 24) (v := undef) rfl rfl (Or.inr ⟨by rfl, rfl⟩) ?_
    simp only [Act.put, Fl.z1, Fl.z2, Fl.z3]
    refine Fl.take (some 25) (v := .bool true) rfl rfl (Or.inl ⟨by rfl, fun _ _ => by rfl⟩) ?_
    simp only [Act.put, Fl.z1, Fl.z2, Fl.z3]
    refine Fl.stop (fun W hi => ?_)
    replace HI := Lib.hid hi
    clear hi
    go_wp2
    go_ret2
    exact ⟨rfl, HI.out.bel⟩

open Go.Proofs.Ytkifenbcepicjab.Cp
/-! ### spec_NextCap: function 46 -/
def spec_NextCap.j0 : Nat → Int → Int → Int → Bool → Int → Int → Int → Option (Int × Bool)
 | 0, _, _, _, _, _, _, _ => none
 | k + 1, x1, x2, x3, x42, x333000, x333001, x333002 => if x42 = true then (some (0, false)) else ((spec_l4Next.f x333000 x333001 x333002 x1 (wrap64 (x1 + x2)) x3).bind fun t339 => ((spec_l4Size.f t339).bind fun t340 => (if t340 = true then (some (t339, true)) else (some (0, false)))))
def spec_NextCap.f (k : Nat) (a0_0 : Int) (a0_1 : Int) (a0_2 : Int) (a1 : Int) (a2 : Int) (a3 : Int) : Option (Int × Bool) := (spec_l4Rule.f a0_0 a0_1 a0_2).bind fun t333 => (if t333 = true then ((spec_l4Size.f a1).bind fun t334 => (if t334 = true then ((spec_l4Size.f a2).bind fun t335 => (if t335 = true then ((spec_l4Size.f a3).bind fun t336 => (if t336 = true then ((spec_l4Size.f (wrap64 (a1 + a2))).bind fun t337 => (if t337 = true then ((spec_l4Size.f (wrap64 (a1 + a3))).bind fun t338 => (spec_NextCap.j0 k a1 a2 a3 (!t338) a0_0 a0_1 a0_2)) else (spec_NextCap.j0 k a1 a2 a3 true a0_0 a0_1 a0_2))) else (spec_NextCap.j0 k a1 a2 a3 true a0_0 a0_1 a0_2))) else (spec_NextCap.j0 k a1 a2 a3 true a0_0 a0_1 a0_2))) else (spec_NextCap.j0 k a1 a2 a3 true a0_0 a0_1 a0_2))) else (spec_NextCap.j0 k a1 a2 a3 true a0_0 a0_1 a0_2))
theorem spec_NextCap.mono_l : ∀ k, (∀ y0 y1 y2 y3 y4 y5 y6, LeO (spec_NextCap.j0 k y0 y1 y2 y3 y4 y5 y6) (spec_NextCap.j0 (k + 1) y0 y1 y2 y3 y4 y5 y6))
 | 0 => fun _ _ _ _ _ _ _ r h => by simp [spec_NextCap.j0] at h
 | k + 1 => by
  have ih0 := spec_NextCap.mono_l k
  ·intro y0 y1 y2 y3 y4 y5 y6
   unfold spec_NextCap.j0
   repeat' first
   | (with_reducible exact ih0 _ _ _ _ _ _ _)
   | (with_reducible exact LeO.refl _)
   | (with_reducible exact LeO.none _)
   | (with_reducible refine LeO.ite ?_ ?_)
   | (with_reducible refine LeO.bind ?_ (fun _ => ?_))
   | exact ih0 _ _ _ _ _ _ _
   | exact LeO.none _
   | refine LeO.ite ?_ ?_
   | refine LeO.bind ?_ (fun _ => ?_)
theorem spec_NextCap.mono : ∀ a0 a1 a2 a3 a4 a5 k, LeO (spec_NextCap.f k a0 a1 a2 a3 a4 a5) (spec_NextCap.f (k + 1) a0 a1 a2 a3 a4 a5) := by
 intro a0 a1 a2 a3 a4 a5 k
 have ih0 := spec_NextCap.mono_l k
 unfold spec_NextCap.f
 repeat' first
   | (with_reducible exact ih0 _ _ _ _ _ _ _)
   | (with_reducible exact LeO.refl _)
   | (with_reducible exact LeO.none _)
   | (with_reducible refine LeO.ite ?_ ?_)
   | (with_reducible refine LeO.bind ?_ (fun _ => ?_))
   | exact ih0 _ _ _ _ _ _ _
   | exact LeO.none _
   | refine LeO.ite ?_ ?_
   | refine LeO.bind ?_ (fun _ => ?_)
set_option maxHeartbeats 8000000 in
set_option maxRecDepth 100000 in
theorem spec_NextCap.calls (k : Nat) (a0_0 : Int) (a0_1 : Int) (a0_2 : Int) (a1 : Int) (a2 : Int) (a3 : Int) (r1 : Int) (r2 : Bool) (w : World) (h : spec_NextCap.f k a0_0 a0_1 a0_2 a1 a2 a3 = some (r1, r2)) :
  Calls Try.prog 46 #[.agg #[.int .i64 a0_0, .int .i64 a0_1, .int .i64 a0_2], .int .i64 a1, .int .i64 a2, .int .i64 a3] w fun e w' => e = .returned (.tuple #[.int .i64 r1, .bool r2]) ∧ Below w.heap.size w w' := by
 have hu60 := Try.underlying60
 have HB := Aside0.mk (Below.refl w.heap.size w)
 have H : ((spec_l4Rule.f a0_0 a0_1 a0_2).bind fun t333 => (if t333 = true then ((spec_l4Size.f a1).bind fun t334 => (if t334 = true then ((spec_l4Size.f a2).bind fun t335 => (if t335 = true then ((spec_l4Size.f a3).bind fun t336 => (if t336 = true then ((spec_l4Size.f (wrap64 (a1 + a2))).bind fun t337 => (if t337 = true then ((spec_l4Size.f (wrap64 (a1 + a3))).bind fun t338 => (spec_NextCap.j0 k a1 a2 a3 (!t338) a0_0 a0_1 a0_2)) else (spec_NextCap.j0 k a1 a2 a3 true a0_0 a0_1 a0_2))) else (spec_NextCap.j0 k a1 a2 a3 true a0_0 a0_1 a0_2))) else (spec_NextCap.j0 k a1 a2 a3 true a0_0 a0_1 a0_2))) else (spec_NextCap.j0 k a1 a2 a3 true a0_0 a0_1 a0_2))) else (spec_NextCap.j0 k a1 a2 a3 true a0_0 a0_1 a0_2))) = some (r1, r2) := h
 clear h
 have HC5 := Aside0.mk H
 clear H
 go_enter Try.func46, Try.ntmps46
 go_upto_region 1 with (first | ((with_reducible refine gate_dst (N := 4) rfl ?_); refine box_event ?hg (N := 4) ?hd (cs := #[.int .i64 a0_0, .int .i64 a0_1, .int .i64 a0_2]) (t := 60) ?hr ?_; (case hd => rfl); (case hg => rfl); (case hr => first | (go_simp; done) | (go_simp; rfl)); intro gb332 hg w6 hbox hb; have BK332 := Aside0.mk (hbox); have GW332 := zge HB hg; have GE332 := zge HB hg; replace HB := zhs HB hb; clear hb hbox hg))
 (try simp only [Act.put, zp1, zp2, zp3])
 go_cut [42] (fun v42 wc => ∃ (kq : Nat) (x42_4 : Bool), v42 = .bool x42_4 ∧ Aside0 (spec_NextCap.j0 kq a1 a2 a3 x42_4 a0_0 a0_1 a0_2 = some (r1, r2)) ∧ Aside0 (kq ≤ k) ∧ Aside0 (wc.heap[gb332]? = some (.cells #[.int .i64 a0_0, .int .i64 a0_1, .int .i64 a0_2] 60 (0, 0))) ∧ Aside0 (Below w.heap.size w wc))
 case first =>
  have H := HC5.out
  clear HC5
  replace H := Option.bind_eq_some_iff.mp H
  obtain ⟨t333, A70, H⟩ := H
  replace H : (if t333 = true then ((spec_l4Size.f a1).bind fun t334 => (if t334 = true then ((spec_l4Size.f a2).bind fun t335 => (if t335 = true then ((spec_l4Size.f a3).bind fun t336 => (if t336 = true then ((spec_l4Size.f (wrap64 (a1 + a2))).bind fun t337 => (if t337 = true then ((spec_l4Size.f (wrap64 (a1 + a3))).bind fun t338 => (spec_NextCap.j0 k a1 a2 a3 (!t338) a0_0 a0_1 a0_2)) else (spec_NextCap.j0 k a1 a2 a3 true a0_0 a0_1 a0_2))) else (spec_NextCap.j0 k a1 a2 a3 true a0_0 a0_1 a0_2))) else (spec_NextCap.j0 k a1 a2 a3 true a0_0 a0_1 a0_2))) else (spec_NextCap.j0 k a1 a2 a3 true a0_0 a0_1 a0_2))) else (spec_NextCap.j0 k a1 a2 a3 true a0_0 a0_1 a0_2)) = some (r1, r2) := H
  have A7 := Aside0.mk A70
  clear A70
  by_cases c8 : t333 = true
  ·subst c8
   have H1 : ((spec_l4Size.f a1).bind fun t334 => (if t334 = true then ((spec_l4Size.f a2).bind fun t335 => (if t335 = true then ((spec_l4Size.f a3).bind fun t336 => (if t336 = true then ((spec_l4Size.f (wrap64 (a1 + a2))).bind fun t337 => (if t337 = true then ((spec_l4Size.f (wrap64 (a1 + a3))).bind fun t338 => (spec_NextCap.j0 k a1 a2 a3 (!t338) a0_0 a0_1 a0_2)) else (spec_NextCap.j0 k a1 a2 a3 true a0_0 a0_1 a0_2))) else (spec_NextCap.j0 k a1 a2 a3 true a0_0 a0_1 a0_2))) else (spec_NextCap.j0 k a1 a2 a3 true a0_0 a0_1 a0_2))) else (spec_NextCap.j0 k a1 a2 a3 true a0_0 a0_1 a0_2))) = some (r1, r2) := by rw [if_pos rfl] at H; exact H
   clear H
   have H := H1
   clear H1
   replace H := Option.bind_eq_some_iff.mp H
   obtain ⟨t334, A90, H⟩ := H
   replace H : (if t334 = true then ((spec_l4Size.f a2).bind fun t335 => (if t335 = true then ((spec_l4Size.f a3).bind fun t336 => (if t336 = true then ((spec_l4Size.f (wrap64 (a1 + a2))).bind fun t337 => (if t337 = true then ((spec_l4Size.f (wrap64 (a1 + a3))).bind fun t338 => (spec_NextCap.j0 k a1 a2 a3 (!t338) a0_0 a0_1 a0_2)) else (spec_NextCap.j0 k a1 a2 a3 true a0_0 a0_1 a0_2))) else (spec_NextCap.j0 k a1 a2 a3 true a0_0 a0_1 a0_2))) else (spec_NextCap.j0 k a1 a2 a3 true a0_0 a0_1 a0_2))) else (spec_NextCap.j0 k a1 a2 a3 true a0_0 a0_1 a0_2)) = some (r1, r2) := H
   have A9 := Aside0.mk A90
   clear A90
   by_cases c10 : t334 = true
   ·subst c10
    have H1 : ((spec_l4Size.f a2).bind fun t335 => (if t335 = true then ((spec_l4Size.f a3).bind fun t336 => (if t336 = true then ((spec_l4Size.f (wrap64 (a1 + a2))).bind fun t337 => (if t337 = true then ((spec_l4Size.f (wrap64 (a1 + a3))).bind fun t338 => (spec_NextCap.j0 k a1 a2 a3 (!t338) a0_0 a0_1 a0_2)) else (spec_NextCap.j0 k a1 a2 a3 true a0_0 a0_1 a0_2))) else (spec_NextCap.j0 k a1 a2 a3 true a0_0 a0_1 a0_2))) else (spec_NextCap.j0 k a1 a2 a3 true a0_0 a0_1 a0_2))) = some (r1, r2) := by rw [if_pos rfl] at H; exact H
    clear H
    have H := H1
    clear H1
    replace H := Option.bind_eq_some_iff.mp H
    obtain ⟨t335, A110, H⟩ := H
    replace H : (if t335 = true then ((spec_l4Size.f a3).bind fun t336 => (if t336 = true then ((spec_l4Size.f (wrap64 (a1 + a2))).bind fun t337 => (if t337 = true then ((spec_l4Size.f (wrap64 (a1 + a3))).bind fun t338 => (spec_NextCap.j0 k a1 a2 a3 (!t338) a0_0 a0_1 a0_2)) else (spec_NextCap.j0 k a1 a2 a3 true a0_0 a0_1 a0_2))) else (spec_NextCap.j0 k a1 a2 a3 true a0_0 a0_1 a0_2))) else (spec_NextCap.j0 k a1 a2 a3 true a0_0 a0_1 a0_2)) = some (r1, r2) := H
    have A11 := Aside0.mk A110
    clear A110
    by_cases c12 : t335 = true
    ·subst c12
     have H1 : ((spec_l4Size.f a3).bind fun t336 => (if t336 = true then ((spec_l4Size.f (wrap64 (a1 + a2))).bind fun t337 => (if t337 = true then ((spec_l4Size.f (wrap64 (a1 + a3))).bind fun t338 => (spec_NextCap.j0 k a1 a2 a3 (!t338) a0_0 a0_1 a0_2)) else (spec_NextCap.j0 k a1 a2 a3 true a0_0 a0_1 a0_2))) else (spec_NextCap.j0 k a1 a2 a3 true a0_0 a0_1 a0_2))) = some (r1, r2) := by rw [if_pos rfl] at H; exact H
     clear H
     have H := H1
     clear H1
     replace H := Option.bind_eq_some_iff.mp H
     obtain ⟨t336, A130, H⟩ := H
     replace H : (if t336 = true then ((spec_l4Size.f (wrap64 (a1 + a2))).bind fun t337 => (if t337 = true then ((spec_l4Size.f (wrap64 (a1 + a3))).bind fun t338 => (spec_NextCap.j0 k a1 a2 a3 (!t338) a0_0 a0_1 a0_2)) else (spec_NextCap.j0 k a1 a2 a3 true a0_0 a0_1 a0_2))) else (spec_NextCap.j0 k a1 a2 a3 true a0_0 a0_1 a0_2)) = some (r1, r2) := H
     have A13 := Aside0.mk A130
     clear A130
     by_cases c14 : t336 = true
     ·subst c14
      have H1 : ((spec_l4Size.f (wrap64 (a1 + a2))).bind fun t337 => (if t337 = true then ((spec_l4Size.f (wrap64 (a1 + a3))).bind fun t338 => (spec_NextCap.j0 k a1 a2 a3 (!t338) a0_0 a0_1 a0_2)) else (spec_NextCap.j0 k a1 a2 a3 true a0_0 a0_1 a0_2))) = some (r1, r2) := by rw [if_pos rfl] at H; exact H
      clear H
      have H := H1
      clear H1
      replace H := Option.bind_eq_some_iff.mp H
      obtain ⟨t337, A150, H⟩ := H
      replace H : (if t337 = true then ((spec_l4Size.f (wrap64 (a1 + a3))).bind fun t338 => (spec_NextCap.j0 k a1 a2 a3 (!t338) a0_0 a0_1 a0_2)) else (spec_NextCap.j0 k a1 a2 a3 true a0_0 a0_1 a0_2)) = some (r1, r2) := H
      have A15 := Aside0.mk A150
      clear A150
      by_cases c16 : t337 = true
      ·subst c16
       have H1 : ((spec_l4Size.f (wrap64 (a1 + a3))).bind fun t338 => (spec_NextCap.j0 k a1 a2 a3 (!t338) a0_0 a0_1 a0_2)) = some (r1, r2) := by rw [if_pos rfl] at H; exact H
       clear H
       have H := H1
       clear H1
       replace H := Option.bind_eq_some_iff.mp H
       obtain ⟨t338, A170, H⟩ := H
       replace H : (spec_NextCap.j0 k a1 a2 a3 (!t338) a0_0 a0_1 a0_2) = some (r1, r2) := H
       have A17 := Aside0.mk A170
       clear A170
       have H' := Aside0.mk H
       clear H
       have hcz18_0 := zc0 BK332 0 rfl
       have hcz18_1 := zc0 BK332 1 rfl
       have hcz18_2 := zc0 BK332 2 rfl
       have hfz18_0 := blk_frozen BK332.out 0
       have hfz18_1 := blk_frozen BK332.out 1
       have hfz18_2 := blk_frozen BK332.out 2
       go_wp2_with (first | ((with_reducible refine gate_callee (f := 85) rfl ?_); refine goesL_ (some 12) rfl rfl Try.func85 (by kernel_rfl) rfl #[.agg #[.int .i64 a0_0, .int .i64 a0_1, .int .i64 a0_2]] rfl (by (try simp only [zq1, zq2, zq3]); first | done | rfl | (simp only [List.length_drop, List.length_take]; rfl)) ?_; (with_reducible refine (spec_l4Rule.calls a0_0 a0_1 a0_2 true _ A7.out).mono ?_); rintro e w19 ⟨rfl, hb⟩; refine ⟨_, rfl, ?_⟩; replace BK332 := zb0 BK332 hb; replace HB := zhs HB hb; (try clear hb)) | (go_at_call 89; (with_reducible refine (spec_l4Size.calls a1 true _ A9.out).mono ?_); rintro e w' ⟨rfl, ⟨nd, rfl⟩⟩) | (go_at_call 89; (with_reducible refine (spec_l4Size.calls a2 true _ A11.out).mono ?_); rintro e w' ⟨rfl, ⟨nd, rfl⟩⟩) | (go_at_call 89; (with_reducible refine (spec_l4Size.calls a3 true _ A13.out).mono ?_); rintro e w' ⟨rfl, ⟨nd, rfl⟩⟩) | (go_at_call 89; (with_reducible refine (spec_l4Size.calls (wrap64 (a1 + a2)) true _ A15.out).mono ?_); rintro e w' ⟨rfl, ⟨nd, rfl⟩⟩) | (go_at_call 89; (with_reducible refine (spec_l4Size.calls (wrap64 (a1 + a3)) t338 _ A17.out).mono ?_); rintro e w' ⟨rfl, ⟨nd, rfl⟩⟩))
       go_meet
       case rel => exact ⟨_, (!t338), zfs, H', ⟨by first | omega | exact Nat.le_refl _⟩, ⟨zk0 BK332⟩, ⟨by repeat (first | exact zh0 HB | refine below_set ?_ GE332.out)⟩⟩
      ·replace c16 := Bool.eq_false_iff.mpr c16
       subst c16
       have H1 : (spec_NextCap.j0 k a1 a2 a3 true a0_0 a0_1 a0_2) = some (r1, r2) := by rw [if_neg (show ¬ (false = true) by decide)] at H; exact H
       clear H
       have H := H1
       clear H1
       have H' := Aside0.mk H
       clear H
       have hcz20_0 := zc0 BK332 0 rfl
       have hcz20_1 := zc0 BK332 1 rfl
       have hcz20_2 := zc0 BK332 2 rfl
       have hfz20_0 := blk_frozen BK332.out 0
       have hfz20_1 := blk_frozen BK332.out 1
       have hfz20_2 := blk_frozen BK332.out 2
       go_wp2_with (first | ((with_reducible refine gate_callee (f := 85) rfl ?_); refine goesL_ (some 12) rfl rfl Try.func85 (by kernel_rfl) rfl #[.agg #[.int .i64 a0_0, .int .i64 a0_1, .int .i64 a0_2]] rfl (by (try simp only [zq1, zq2, zq3]); first | done | rfl | (simp only [List.length_drop, List.length_take]; rfl)) ?_; (with_reducible refine (spec_l4Rule.calls a0_0 a0_1 a0_2 true _ A7.out).mono ?_); rintro e w21 ⟨rfl, hb⟩; refine ⟨_, rfl, ?_⟩; replace BK332 := zb0 BK332 hb; replace HB := zhs HB hb; (try clear hb)) | (go_at_call 89; (with_reducible refine (spec_l4Size.calls a1 true _ A9.out).mono ?_); rintro e w' ⟨rfl, ⟨nd, rfl⟩⟩) | (go_at_call 89; (with_reducible refine (spec_l4Size.calls a2 true _ A11.out).mono ?_); rintro e w' ⟨rfl, ⟨nd, rfl⟩⟩) | (go_at_call 89; (with_reducible refine (spec_l4Size.calls a3 true _ A13.out).mono ?_); rintro e w' ⟨rfl, ⟨nd, rfl⟩⟩) | (go_at_call 89; (with_reducible refine (spec_l4Size.calls (wrap64 (a1 + a2)) false _ A15.out).mono ?_); rintro e w' ⟨rfl, ⟨nd, rfl⟩⟩))
       go_meet
       case rel => exact ⟨_, (true), zfs, H', ⟨by first | omega | exact Nat.le_refl _⟩, ⟨zk0 BK332⟩, ⟨by repeat (first | exact zh0 HB | refine below_set ?_ GE332.out)⟩⟩
     ·replace c14 := Bool.eq_false_iff.mpr c14
      subst c14
      have H1 : (spec_NextCap.j0 k a1 a2 a3 true a0_0 a0_1 a0_2) = some (r1, r2) := by rw [if_neg (show ¬ (false = true) by decide)] at H; exact H
      clear H
      have H := H1
      clear H1
      have H' := Aside0.mk H
      clear H
      have hcz22_0 := zc0 BK332 0 rfl
      have hcz22_1 := zc0 BK332 1 rfl
      have hcz22_2 := zc0 BK332 2 rfl
      have hfz22_0 := blk_frozen BK332.out 0
      have hfz22_1 := blk_frozen BK332.out 1
      have hfz22_2 := blk_frozen BK332.out 2
      go_wp2_with (first | ((with_reducible refine gate_callee (f := 85) rfl ?_); refine goesL_ (some 12) rfl rfl Try.func85 (by kernel_rfl) rfl #[.agg #[.int .i64 a0_0, .int .i64 a0_1, .int .i64 a0_2]] rfl (by (try simp only [zq1, zq2, zq3]); first | done | rfl | (simp only [List.length_drop, List.length_take]; rfl)) ?_; (with_reducible refine (spec_l4Rule.calls a0_0 a0_1 a0_2 true _ A7.out).mono ?_); rintro e w23 ⟨rfl, hb⟩; refine ⟨_, rfl, ?_⟩; replace BK332 := zb0 BK332 hb; replace HB := zhs HB hb; (try clear hb)) | (go_at_call 89; (with_reducible refine (spec_l4Size.calls a1 true _ A9.out).mono ?_); rintro e w' ⟨rfl, ⟨nd, rfl⟩⟩) | (go_at_call 89; (with_reducible refine (spec_l4Size.calls a2 true _ A11.out).mono ?_); rintro e w' ⟨rfl, ⟨nd, rfl⟩⟩) | (go_at_call 89; (with_reducible refine (spec_l4Size.calls a3 false _ A13.out).mono ?_); rintro e w' ⟨rfl, ⟨nd, rfl⟩⟩))
      go_meet
      case rel => exact ⟨_, (true), zfs, H', ⟨by first | omega | exact Nat.le_refl _⟩, ⟨zk0 BK332⟩, ⟨by repeat (first | exact zh0 HB | refine below_set ?_ GE332.out)⟩⟩
    ·replace c12 := Bool.eq_false_iff.mpr c12
     subst c12
     have H1 : (spec_NextCap.j0 k a1 a2 a3 true a0_0 a0_1 a0_2) = some (r1, r2) := by rw [if_neg (show ¬ (false = true) by decide)] at H; exact H
     clear H
     have H := H1
     clear H1
     have H' := Aside0.mk H
     clear H
     have hcz24_0 := zc0 BK332 0 rfl
     have hcz24_1 := zc0 BK332 1 rfl
     have hcz24_2 := zc0 BK332 2 rfl
     have hfz24_0 := blk_frozen BK332.out 0
     have hfz24_1 := blk_frozen BK332.out 1
     have hfz24_2 := blk_frozen BK332.out 2
     go_wp2_with (first | ((with_reducible refine gate_callee (f := 85) rfl ?_); refine goesL_ (some 12) rfl rfl Try.func85 (by kernel_rfl) rfl #[.agg #[.int .i64 a0_0, .int .i64 a0_1, .int .i64 a0_2]] rfl (by (try simp only [zq1, zq2, zq3]); first | done | rfl | (simp only [List.length_drop, List.length_take]; rfl)) ?_; (with_reducible refine (spec_l4Rule.calls a0_0 a0_1 a0_2 true _ A7.out).mono ?_); rintro e w25 ⟨rfl, hb⟩; refine ⟨_, rfl, ?_⟩; replace BK332 := zb0 BK332 hb; replace HB := zhs HB hb; (try clear hb)) | (go_at_call 89; (with_reducible refine (spec_l4Size.calls a1 true _ A9.out).mono ?_); rintro e w' ⟨rfl, ⟨nd, rfl⟩⟩) | (go_at_call 89; (with_reducible refine (spec_l4Size.calls a2 false _ A11.out).mono ?_); rintro e w' ⟨rfl, ⟨nd, rfl⟩⟩))
     go_meet
     case rel => exact ⟨_, (true), zfs, H', ⟨by first | omega | exact Nat.le_refl _⟩, ⟨zk0 BK332⟩, ⟨by repeat (first | exact zh0 HB | refine below_set ?_ GE332.out)⟩⟩
   ·replace c10 := Bool.eq_false_iff.mpr c10
    subst c10
    have H1 : (spec_NextCap.j0 k a1 a2 a3 true a0_0 a0_1 a0_2) = some (r1, r2) := by rw [if_neg (show ¬ (false = true) by decide)] at H; exact H
    clear H
    have H := H1
    clear H1
    have H' := Aside0.mk H
    clear H
    have hcz26_0 := zc0 BK332 0 rfl
    have hcz26_1 := zc0 BK332 1 rfl
    have hcz26_2 := zc0 BK332 2 rfl
    have hfz26_0 := blk_frozen BK332.out 0
    have hfz26_1 := blk_frozen BK332.out 1
    have hfz26_2 := blk_frozen BK332.out 2
    go_wp2_with (first | ((with_reducible refine gate_callee (f := 85) rfl ?_); refine goesL_ (some 12) rfl rfl Try.func85 (by kernel_rfl) rfl #[.agg #[.int .i64 a0_0, .int .i64 a0_1, .int .i64 a0_2]] rfl (by (try simp only [zq1, zq2, zq3]); first | done | rfl | (simp only [List.length_drop, List.length_take]; rfl)) ?_; (with_reducible refine (spec_l4Rule.calls a0_0 a0_1 a0_2 true _ A7.out).mono ?_); rintro e w27 ⟨rfl, hb⟩; refine ⟨_, rfl, ?_⟩; replace BK332 := zb0 BK332 hb; replace HB := zhs HB hb; (try clear hb)) | (go_at_call 89; (with_reducible refine (spec_l4Size.calls a1 false _ A9.out).mono ?_); rintro e w' ⟨rfl, ⟨nd, rfl⟩⟩))
    go_meet
    case rel => exact ⟨_, (true), zfs, H', ⟨by first | omega | exact Nat.le_refl _⟩, ⟨zk0 BK332⟩, ⟨by repeat (first | exact zh0 HB | refine below_set ?_ GE332.out)⟩⟩
  ·replace c8 := Bool.eq_false_iff.mpr c8
   subst c8
   have H1 : (spec_NextCap.j0 k a1 a2 a3 true a0_0 a0_1 a0_2) = some (r1, r2) := by rw [if_neg (show ¬ (false = true) by decide)] at H; exact H
   clear H
   have H := H1
   clear H1
   have H' := Aside0.mk H
   clear H
   have hcz28_0 := zc0 BK332 0 rfl
   have hcz28_1 := zc0 BK332 1 rfl
   have hcz28_2 := zc0 BK332 2 rfl
   have hfz28_0 := blk_frozen BK332.out 0
   have hfz28_1 := blk_frozen BK332.out 1
   have hfz28_2 := blk_frozen BK332.out 2
   go_wp2_with (first | ((with_reducible refine gate_callee (f := 85) rfl ?_); refine goesL_ (some 12) rfl rfl Try.func85 (by kernel_rfl) rfl #[.agg #[.int .i64 a0_0, .int .i64 a0_1, .int .i64 a0_2]] rfl (by (try simp only [zq1, zq2, zq3]); first | done | rfl | (simp only [List.length_drop, List.length_take]; rfl)) ?_; (with_reducible refine (spec_l4Rule.calls a0_0 a0_1 a0_2 false _ A7.out).mono ?_); rintro e w29 ⟨rfl, hb⟩; refine ⟨_, rfl, ?_⟩; replace BK332 := zb0 BK332 hb; replace HB := zhs HB hb; (try clear hb)))
   go_meet
   case rel => exact ⟨_, (true), zfs, H', ⟨by first | omega | exact Nat.le_refl _⟩, ⟨zk0 BK332⟩, ⟨by repeat (first | exact zh0 HB | refine below_set ?_ GE332.out)⟩⟩
 case rest =>
  clear HC5
  try clear c1
  try clear p2
  try clear c4
  try clear p6
  try clear c8
  try clear c10
  try clear c12
  try clear c14
  try clear c16
  try clear hcz18_0
  try clear hcz18_1
  try clear hcz18_2
  try clear hcz20_0
  try clear hcz20_1
  try clear hcz20_2
  try clear hcz22_0
  try clear hcz22_1
  try clear hcz22_2
  try clear hcz24_0
  try clear hcz24_1
  try clear hcz24_2
  try clear hcz26_0
  try clear hcz26_1
  try clear hcz26_2
  try clear hcz28_0
  try clear hcz28_1
  try clear hcz28_2
  try clear hfz18_0
  try clear hfz18_1
  try clear hfz18_2
  try clear hfz20_0
  try clear hfz20_1
  try clear hfz20_2
  try clear hfz22_0
  try clear hfz22_1
  try clear hfz22_2
  try clear hfz24_0
  try clear hfz24_1
  try clear hfz24_2
  try clear hfz26_0
  try clear hfz26_1
  try clear hfz26_2
  try clear hfz28_0
  try clear hfz28_1
  try clear hfz28_2
  obtain ⟨kq, x42_4, rfl, HA, HJ4, BK332, HB⟩ := hcut
  cases kq with
  | zero => exact absurd HA.out (by simp [spec_NextCap.j0])
  | succ kj4 =>
   have H := HA.out
   clear HA
   simp only [spec_NextCap.j0] at H
   by_cases c30 : x42_4 = true
   ·subst c30
    have H1 : (some (0, false)) = some (r1, r2) := by rw [if_pos rfl] at H; exact H
    clear H
    have H := H1
    clear H1
    simp only [Option.some.injEq, Prod.mk.injEq] at H
    obtain ⟨rfl, rfl⟩ := H
    go_wp2
    go_ret2
    exact ⟨zfr, by repeat (first | exact zh0 HB | refine below_set ?_ GE332.out)⟩
   ·replace c30 := Bool.eq_false_iff.mpr c30
    subst c30
    have H1 : ((spec_l4Next.f a0_0 a0_1 a0_2 a1 (wrap64 (a1 + a2)) a3).bind fun t339 => ((spec_l4Size.f t339).bind fun t340 => (if t340 = true then (some (t339, true)) else (some (0, false))))) = some (r1, r2) := by rw [if_neg (show ¬ (false = true) by decide)] at H; exact H
    clear H
    have H := H1
    clear H1
    replace H := Option.bind_eq_some_iff.mp H
    obtain ⟨t339, A310, H⟩ := H
    replace H : ((spec_l4Size.f t339).bind fun t340 => (if t340 = true then (some (t339, true)) else (some (0, false)))) = some (r1, r2) := H
    have A31 := Aside0.mk A310
    clear A310
    replace H := Option.bind_eq_some_iff.mp H
    obtain ⟨t340, A320, H⟩ := H
    replace H : (if t340 = true then (some (t339, true)) else (some (0, false))) = some (r1, r2) := H
    have A32 := Aside0.mk A320
    clear A320
    by_cases c33 : t340 = true
    ·subst c33
     have H1 : (some (t339, true)) = some (r1, r2) := by rw [if_pos rfl] at H; exact H
     clear H
     have H := H1
     clear H1
     simp only [Option.some.injEq, Prod.mk.injEq] at H
     obtain ⟨rfl, rfl⟩ := H
     have hcz34_0 := zc0 BK332 0 rfl
     have hcz34_1 := zc0 BK332 1 rfl
     have hcz34_2 := zc0 BK332 2 rfl
     have hfz34_0 := blk_frozen BK332.out 0
     have hfz34_1 := blk_frozen BK332.out 1
     have hfz34_2 := blk_frozen BK332.out 2
     go_wp2_with (first | ((with_reducible refine gate_callee (f := 90) rfl ?_); refine goesL_ (some 49) rfl rfl Try.func90 (by kernel_rfl) rfl #[.agg #[.int .i64 a0_0, .int .i64 a0_1, .int .i64 a0_2], .int .i64 a1, .int .i64 (wrap64 (a1 + a2)), .int .i64 a3] rfl (by (try simp only [zq1, zq2, zq3]); first | done | rfl | (simp only [List.length_drop, List.length_take]; rfl)) ?_; (with_reducible refine (spec_l4Next.calls a0_0 a0_1 a0_2 a1 (wrap64 (a1 + a2)) a3 t339 _ A31.out).mono ?_); rintro e w35 ⟨rfl, hb⟩; refine ⟨_, rfl, ?_⟩; replace BK332 := zb0 BK332 hb; replace HB := zhs HB hb; (try clear hb)) | ((with_reducible refine gate_callee (f := 89) rfl ?_); refine goesL_ (some 51) rfl rfl Try.func89 (by kernel_rfl) rfl #[.int .i64 t339] rfl (by (try simp only [zq1, zq2, zq3]); first | done | rfl | (simp only [List.length_drop, List.length_take]; rfl)) ?_; (with_reducible refine (spec_l4Size.calls t339 true _ A32.out).mono ?_); rintro e w' ⟨rfl, ⟨nd, rfl⟩⟩; refine ⟨_, rfl, ?_⟩))
     go_ret2
     exact ⟨zfr, by repeat (first | exact zh0 HB | refine below_set ?_ GE332.out)⟩
    ·replace c33 := Bool.eq_false_iff.mpr c33
     subst c33
     have H1 : (some (0, false)) = some (r1, r2) := by rw [if_neg (show ¬ (false = true) by decide)] at H; exact H
     clear H
     have H := H1
     clear H1
     simp only [Option.some.injEq, Prod.mk.injEq] at H
     obtain ⟨rfl, rfl⟩ := H
     have hcz36_0 := zc0 BK332 0 rfl
     have hcz36_1 := zc0 BK332 1 rfl
     have hcz36_2 := zc0 BK332 2 rfl
     have hfz36_0 := blk_frozen BK332.out 0
     have hfz36_1 := blk_frozen BK332.out 1
     have hfz36_2 := blk_frozen BK332.out 2
     go_wp2_with (first | ((with_reducible refine gate_callee (f := 90) rfl ?_); refine goesL_ (some 49) rfl rfl Try.func90 (by kernel_rfl) rfl #[.agg #[.int .i64 a0_0, .int .i64 a0_1, .int .i64 a0_2], .int .i64 a1, .int .i64 (wrap64 (a1 + a2)), .int .i64 a3] rfl (by (try simp only [zq1, zq2, zq3]); first | done | rfl | (simp only [List.length_drop, List.length_take]; rfl)) ?_; (with_reducible refine (spec_l4Next.calls a0_0 a0_1 a0_2 a1 (wrap64 (a1 + a2)) a3 t339 _ A31.out).mono ?_); rintro e w37 ⟨rfl, hb⟩; refine ⟨_, rfl, ?_⟩; replace BK332 := zb0 BK332 hb; replace HB := zhs HB hb; (try clear hb)) | ((with_reducible refine gate_callee (f := 89) rfl ?_); refine goesL_ (some 51) rfl rfl Try.func89 (by kernel_rfl) rfl #[.int .i64 t339] rfl (by (try simp only [zq1, zq2, zq3]); first | done | rfl | (simp only [List.length_drop, List.length_take]; rfl)) ?_; (with_reducible refine (spec_l4Size.calls t339 false _ A32.out).mono ?_); rintro e w' ⟨rfl, ⟨nd, rfl⟩⟩; refine ⟨_, rfl, ?_⟩))
     go_ret2
     exact ⟨zfr, by repeat (first | exact zh0 HB | refine below_set ?_ GE332.out)⟩

end Go.Proofs.Ytkifenbcepicjab.PFnGrowth
