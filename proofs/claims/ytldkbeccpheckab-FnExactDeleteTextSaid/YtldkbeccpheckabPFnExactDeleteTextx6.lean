/- What is proved here: each Go function that is named below answers, and leaves memory, as the theorem of its name says; no condition beyond those that each theorem states. Laid by this session's own program (wip/driver.py) over the kit's print. -/
import Derived.Test.YtldkbeccpheckabPFnExactDeleteTextx0
import Derived.Test.YtldkbeccpheckabPFnExactDeleteTextx4
import Derived.Test.YtldkbeccpheckabPFnExactDeleteTextx5
namespace Go.Proofs.Ytldkbeccpheckab.PFnExactDeleteText
open Go.RowKit Go.Proofs.YtldkbeccpheckabW.PrintWords Go.Proofs.YtldkbeccpheckabW.PrintLast Go.Proofs.YtldkbeccpheckabW.PrintMore
attribute [local go_sem] max2_int min2_int max_two min_two max_three min_three max_four min_four   -- for this text's walks alone
set_option linter.unusedVariables false
set_option linter.unusedSimpArgs false

open Go.Proofs.Ytldkbeccpheckab.Cp
/-! ### impl_joined: function 94 -/
def impl_joined.f (k : Nat) (l0 : List (List (S61))) : Option ((List (S61)) × Bool) := (impl_Window_163.f k l0).bind fun t302 => (if (t302.length : Int) > 12 then (some (([] : List (S61)), false)) else (some (t302, true)))
theorem impl_joined.mono : ∀ a0 k, LeO (impl_joined.f k a0) (impl_joined.f (k + 1) a0) := by
 intro a0 k
 unfold impl_joined.f
 repeat' first
   | (with_reducible exact impl_Window_163.mono _ _)
   | (with_reducible exact LeO.refl _)
   | (with_reducible exact LeO.none _)
   | (with_reducible refine LeO.ite ?_ ?_)
   | (with_reducible refine LeO.bind ?_ (fun _ => ?_))
   | exact impl_Window_163.mono _ _
   | exact LeO.none _
   | refine LeO.ite ?_ ?_
   | refine LeO.bind ?_ (fun _ => ?_)
set_option maxHeartbeats 8000000 in
set_option maxRecDepth 100000 in
theorem impl_joined.calls (k : Nat) (A0 : Option Addr) (c0 : Nat) (l0 : List (List (S61))) (r1 : List (S61)) (r2 : Bool) (w : World) (hr0 : Kd.C (Kd.slice 61 k61) w A0 l0.length l0) (hc0 : l0.length ≤ c0) (h : impl_joined.f k l0 = some (r1, r2)) :
  Calls Try.prog 94 #[.slice A0 l0.length c0] w fun e w' => ∃ v0_ : Value, e = .returned (.tuple #[.agg #[v0_], .bool r2]) ∧ Kd.R k61 61 w' w.heap.size (fun _ => True) v0_ r1 ∧ Below w.heap.size w w' := by
 have hu32 := Try.underlying32
 have HR0 := Aside0.mk hr0
 have HC0 := Aside0.mk hc0
 clear hr0 hc0
 have HB := Aside0.mk (Below.refl w.heap.size w)
 have H : ((impl_Window_163.f k l0).bind fun t302 => (if (t302.length : Int) > 12 then (some (([] : List (S61)), false)) else (some (t302, true)))) = some (r1, r2) := h
 clear h
 replace H := Option.bind_eq_some_iff.mp H
 obtain ⟨t302, A20, H⟩ := H
 replace H : (if (t302.length : Int) > 12 then (some (([] : List (S61)), false)) else (some (t302, true))) = some (r1, r2) := H
 have A2 := Aside0.mk A20
 clear A20
 by_cases c3 : (t302.length : Int) > 12
 ·rw [if_pos c3] at H
  have c3b0 : decide (12 < (t302.length : Int)) = true := decide_eq_true c3
  have c3b1 : decide (12 < t302.length) = true := decide_eq_true (by omega)
  clear c3
  simp only [Option.some.injEq, Prod.mk.injEq] at H
  obtain ⟨rfl, rfl⟩ := H
  go_enter Try.func94, Try.ntmps94
  go_wp2_with (first | ((with_reducible refine gate_dst (N := 2) rfl ?_); refine box_event ?hg (N := 2) ?hd (cs := #[.slice none 0 0]) (t := 32) ?hr ?_; (case hd => rfl); (case hg => rfl); (case hr => first | (go_simp; done) | (go_simp; rfl)); intro gb301 hg w4 hbox hb; have BK301 := Aside0.mk (hbox); have GW301 := zge HB hg; have GE301 := zge HB hg; replace HB := zhs HB hb; clear hb hbox hg) | ((with_reducible refine gate_callee (f := 163) rfl ?_); refine goesL_ (some 6) rfl rfl Try.func163 (by kernel_rfl) rfl #[.slice A0 l0.length c0] rfl (by (try simp only [zq1, zq2, zq3]); first | done | rfl | (simp only [List.length_drop, List.length_take]; rfl)) ?_; (with_reducible refine (impl_Window_163.calls k _ _ l0 t302 _ ?side1 ?side2 A2.out).mono ?_); (case side1 => exact Kd.C_below HR0.out (zh0 HB)); (case side2 => exact HC0.out); rintro e w5 ⟨v303, rfl, ho0, hb⟩; refine ⟨_, rfl, ?_⟩; have HO304 := Aside0.mk (Kd.R_lower ho0 (below_size (by repeat (first | exact zh0 HB | refine below_set ?_ GE301.out)))); replace BK301 := zb0 BK301 hb; replace HB := Aside0.mk (below_step (by repeat (first | exact zh0 HB | refine below_set ?_ GE301.out)) hb); (try clear hb); (try clear ho0); obtain ⟨Ao6, co6, eo6⟩ := Kd.R_slice HO304.out; subst eo6; have hcz7_0 := zc0 BK301 0 rfl; have hfz7_0 := blk_frozen BK301.out 0))
  refine bodyPost_ret (results_ct rfl _ _ gb301 32 #[.slice none 0 0] (0, 0) _ rfl (by (with_reducible repeat (first | refine blk_drewN ?_ _ | refine blk_drew ?_ | refine blk_alloc ?_ _)); refine blk_put (cs := #[.slice none 0 0]) ?_ 0 _ rfl; (with_reducible repeat (first | refine blk_drewN ?_ _ | refine blk_drew ?_ | refine blk_alloc ?_ _)); exact BK301.out) Try.underlying32 rfl (by kernel_rfl)) rfl ?_
  exact ⟨_, by first | rfl | (simp <;> rfl) | (simp [*] <;> rfl), by first | exact Kd.R_nil _ _ _ _ _ | exact Kd.N_nil _ _ _ _ _ | exact Kd.V_nil _ _ _ _ _ | exact Kd.Q_nil _ _ _ _ _ | exact Kd.S_nil _ _ _ _ _, by repeat (first | exact zh0 HB | refine below_set ?_ GE301.out)⟩
 ·rw [if_neg c3] at H
  have c3b0 : decide (12 < (t302.length : Int)) = false := decide_eq_false c3
  have c3b1 : decide (12 < t302.length) = false := decide_eq_false (by omega)
  clear c3
  simp only [Option.some.injEq, Prod.mk.injEq] at H
  obtain ⟨rfl, rfl⟩ := H
  go_enter Try.func94, Try.ntmps94
  go_wp2_with (first | ((with_reducible refine gate_dst (N := 2) rfl ?_); refine box_event ?hg (N := 2) ?hd (cs := #[.slice none 0 0]) (t := 32) ?hr ?_; (case hd => rfl); (case hg => rfl); (case hr => first | (go_simp; done) | (go_simp; rfl)); intro gb301 hg w8 hbox hb; have BK301 := Aside0.mk (hbox); have GW301 := zge HB hg; have GE301 := zge HB hg; replace HB := zhs HB hb; clear hb hbox hg) | ((with_reducible refine gate_callee (f := 163) rfl ?_); refine goesL_ (some 6) rfl rfl Try.func163 (by kernel_rfl) rfl #[.slice A0 l0.length c0] rfl (by (try simp only [zq1, zq2, zq3]); first | done | rfl | (simp only [List.length_drop, List.length_take]; rfl)) ?_; (with_reducible refine (impl_Window_163.calls k _ _ l0 t302 _ ?side1 ?side2 A2.out).mono ?_); (case side1 => exact Kd.C_below HR0.out (zh0 HB)); (case side2 => exact HC0.out); rintro e w9 ⟨v303, rfl, ho0, hb⟩; refine ⟨_, rfl, ?_⟩; have HO304 := Aside0.mk (Kd.R_lower ho0 (below_size (by repeat (first | exact zh0 HB | refine below_set ?_ GE301.out)))); replace BK301 := zb0 BK301 hb; replace HB := Aside0.mk (below_step (by repeat (first | exact zh0 HB | refine below_set ?_ GE301.out)) hb); (try clear hb); (try clear ho0); obtain ⟨Ao10, co10, eo10⟩ := Kd.R_slice HO304.out; subst eo10; have hcz11_0 := zc0 BK301 0 rfl; have hfz11_0 := blk_frozen BK301.out 0))
  refine bodyPost_ret (results_ct rfl _ _ gb301 32 #[.slice Ao10 t302.length co10] (0, 0) _ rfl (by (with_reducible repeat (first | refine blk_drewN ?_ _ | refine blk_drew ?_ | refine blk_alloc ?_ _)); refine blk_put (cs := #[.slice none 0 0]) ?_ 0 _ rfl; (with_reducible repeat (first | refine blk_drewN ?_ _ | refine blk_drew ?_ | refine blk_alloc ?_ _)); exact BK301.out) Try.underlying32 rfl (by kernel_rfl)) rfl ?_
  exact ⟨_, by first | rfl | (simp <;> rfl) | (simp [*] <;> rfl), by (with_reducible repeat (first | apply Kd.R_alloc | apply Kd.R_drewN | apply Kd.R_drew)); exact Kd.R_mono (Kd.R_far (p := ⟨gb301, 0, none⟩) (Kd.R_types HO304.out BK301.out (by decide)) (fun _ hk => hk.2) (.slice Ao10 t302.length co10)) (fun _ hk => trivial), by repeat (first | exact zh0 HB | refine below_set ?_ GE301.out)⟩

open Go.Proofs.Ytldkbeccpheckab.Cp
/-! ### impl_Rope_length: function 101 -/
def impl_Rope_length.l0 : Nat → Int → List (S61) → Int → Int → Option (Int)
 | 0, _, _, _, _ => none
 | k + 1, x3, x7, x8, x9 => if x9 < x8 then (if 0 ≤ x9 then (if x9 < (x7.length : Int) then (impl_Rope_length.l0 k (wrap64 (x3 + ((rd_T61 x7 x9).f2))) x7 x8 (wrap64 (x9 + 1))) else (none)) else (none)) else (some x3)
def impl_Rope_length.f (k : Nat) (l0_0 : List (S61)) : Option (Int) := impl_Rope_length.l0 k 0 l0_0 (l0_0.length : Int) 0
theorem impl_Rope_length.mono_l : ∀ k, (∀ y0 y1 y2 y3, LeO (impl_Rope_length.l0 k y0 y1 y2 y3) (impl_Rope_length.l0 (k + 1) y0 y1 y2 y3))
 | 0 => fun _ _ _ _ r h => by simp [impl_Rope_length.l0] at h
 | k + 1 => by
  have ih0 := impl_Rope_length.mono_l k
  ·intro y0 y1 y2 y3
   unfold impl_Rope_length.l0
   repeat' first
   | (with_reducible exact ih0 _ _ _ _)
   | (with_reducible exact LeO.refl _)
   | (with_reducible exact LeO.none _)
   | (with_reducible refine LeO.ite ?_ ?_)
   | (with_reducible refine LeO.bind ?_ (fun _ => ?_))
   | exact ih0 _ _ _ _
   | exact LeO.none _
   | refine LeO.ite ?_ ?_
   | refine LeO.bind ?_ (fun _ => ?_)
theorem impl_Rope_length.mono : ∀ a0 k, LeO (impl_Rope_length.f k a0) (impl_Rope_length.f (k + 1) a0) := by
 intro a0 k
 have ih0 := impl_Rope_length.mono_l k
 unfold impl_Rope_length.f
 repeat' first
   | (with_reducible exact ih0 _ _ _ _)
   | (with_reducible exact LeO.refl _)
   | (with_reducible exact LeO.none _)
   | (with_reducible refine LeO.ite ?_ ?_)
   | (with_reducible refine LeO.bind ?_ (fun _ => ?_))
   | exact ih0 _ _ _ _
   | exact LeO.none _
   | refine LeO.ite ?_ ?_
   | refine LeO.bind ?_ (fun _ => ?_)
set_option maxHeartbeats 8000000 in
set_option maxRecDepth 100000 in
theorem impl_Rope_length.calls (k : Nat) (A0_0 : Option Addr) (c0_0 : Nat) (l0_0 : List (S61)) (r : Int) (w : World) (hr0_0 : Kd.C k61 w A0_0 l0_0.length l0_0) (hc0_0 : l0_0.length ≤ c0_0) (h : impl_Rope_length.f k l0_0 = some r) :
  Calls Try.prog 101 #[.agg #[.slice A0_0 l0_0.length c0_0]] w fun e w' => e = .returned (.int .i64 r) ∧ Below w.heap.size w w' := by
 have hu32 := Try.underlying32
 have hu61 := Try.underlying61
 have HR0_0 := Aside0.mk hr0_0
 have HC0_0 := Aside0.mk hc0_0
 clear hr0_0 hc0_0
 have HB := Aside0.mk (Below.refl w.heap.size w)
 have H : (impl_Rope_length.l0 k 0 l0_0 (l0_0.length : Int) 0) = some r := h
 clear h
 have H' := Aside0.mk H
 clear H
 go_enter Try.func101, Try.ntmps101
 go_wp2_with (first | ((with_reducible refine gate_dst (N := 1) rfl ?_); refine box_event ?hg (N := 1) ?hd (cs := #[.slice A0_0 l0_0.length c0_0]) (t := 32) ?hr ?_; (case hd => rfl); (case hg => rfl); (case hr => first | (go_simp; done) | (go_simp; rfl)); intro gb305 hg w2 hbox hb; have BK305 := Aside0.mk (hbox); have GW305 := zge HB hg; have GE305 := zge HB hg; replace HB := zhs HB hb; clear hb hbox hg; have hcz3_0 := zc0 BK305 0 rfl; have hfz3_0 := blk_frozen BK305.out 0))
 go_loopg [3, 9] k (fun kq v3 v9 w' => ∃ (x3_1 : Int) (x9_1 : Int), v3 = .int .i64 x3_1 ∧ v9 = .int .i64 x9_1 ∧ Aside0 (impl_Rope_length.l0 kq x3_1 l0_0 (l0_0.length : Int) x9_1 = some r) ∧ Aside0 (kq ≤ k) ∧ Aside0 (w'.heap[gb305]? = some (.cells #[(.slice A0_0 l0_0.length c0_0)] 32 (0, 0))) ∧ Aside0 (Below w.heap.size w w'))
 case atStart => exact ⟨(0), (0), (by first | rfl | (simp; done) | (simp [*]; done)), (by first | rfl | (simp; done) | (simp [*]; done)), H', ⟨Nat.le_refl _⟩, ⟨zk0 BK305⟩, ⟨by repeat (first | exact zh0 HB | refine below_set ?_ GE305.out)⟩⟩
 case round =>
  clear H'
  try clear c1
  try clear p2
  try clear hcz3_0
  try clear hfz3_0
  obtain ⟨x3_1, x9_1, rfl, rfl, HA, HK1, BK305, HB⟩ := hrel
  cases gk with
  | zero => exact absurd HA.out (by simp [impl_Rope_length.l0])
  | succ k1 =>
   have H := HA.out
   clear HA
   simp only [impl_Rope_length.l0] at H
   by_cases c4 : x9_1 < (l0_0.length : Int)
   ·rw [if_pos c4] at H
    have c4b0 : decide (x9_1 < (l0_0.length : Int)) = true := decide_eq_true c4
    clear c4
    by_cases c5 : 0 ≤ x9_1
    ·rw [if_pos c5] at H
     have c5b0 : decide (0 ≤ x9_1) = true := decide_eq_true c5
     clear c5
     by_cases c6 : x9_1 < (l0_0.length : Int)
     ·rw [if_pos c6] at H
      have c6b0 : decide (x9_1 < (l0_0.length : Int)) = true := decide_eq_true c6
      clear c6
      have H' := Aside0.mk H
      clear H
      have p306 : 0 ≤ (x9_1 : Int) := of_decide_eq_true (by first | (with_reducible assumption) | assumption)
      have q306 : x9_1 < (l0_0.length : Int) := of_decide_eq_true (by first | (with_reducible assumption) | assumption)
      obtain ⟨ad306, e306, hx306_0, hx306_1, hx306_2, hx306_3⟩ := at_T61 HR0_0.out x9_1 p306 q306
      cases e306
      replace hx306_0 := (HB.out.cell (World.block_lt_of_cell? w _ hx306_0)).trans hx306_0
      replace hx306_1 := (HB.out.cell (World.block_lt_of_cell? w _ hx306_1)).trans hx306_1
      replace hx306_2 := (HB.out.cell (World.block_lt_of_cell? w _ hx306_2)).trans hx306_2
      replace hx306_3 := (HB.out.cell (World.block_lt_of_cell? w _ hx306_3)).trans hx306_3
      replace p306 := eq_true p306
      replace q306 := eq_true q306
      go_wp2_with (first | ((with_reducible refine gate_dst (N := 5) rfl ?_); refine box_event ?hg (N := 5) ?hd (cs := #[.int .i64 0, .int .i64 0, .int .i64 0, .int .i64 0]) (t := 61) ?hr ?_; (case hd => rfl); (case hg => rfl); (case hr => first | (go_simp; done) | (go_simp; rfl)); intro gb307 hg w7 hbox hb; have BK307 := Aside0.mk (hbox); have GW307 := Aside0.mk ((by rw [hg]; exact (below_size (by repeat (first | exact zh0 HB | refine below_set ?_ GE305.out))) : w.heap.size ≤ gb307)); have GE307 := Aside0.mk ((by rw [hg]; exact (below_size (by repeat (first | exact zh0 HB | refine below_set ?_ GE305.out))) : w.heap.size ≤ gb307)); have NB305_307 := znl BK305 hg; have NB307_305 := znr BK305 hg; replace BK305 := zb0 BK305 hb; replace HB := Aside0.mk (below_step (by repeat (first | exact zh0 HB | refine below_set ?_ GE305.out)) hb); clear hb hbox hg; have hnb8 := NB307_305.out; have hnc8 := NB305_307.out; have hcz9_0 := zc0 BK307 0 rfl; have hcz9_1 := zc0 BK307 1 rfl; have hcz9_2 := zc0 BK307 2 rfl; have hcz9_3 := zc0 BK307 3 rfl; have hfz9_0 := blk_frozen BK307.out 0; have hfz9_1 := blk_frozen BK307.out 1; have hfz9_2 := blk_frozen BK307.out 2; have hfz9_3 := blk_frozen BK307.out 3))
      go_roundg k1
      case measure => have := HK1.out; omega
      case rel => exact ⟨(wrap64 (x3_1 + ((rd_T61 l0_0 x9_1).f2))), (wrap64 (x9_1 + 1)), (by first | rfl | (simp; done) | (simp [*]; done)), (by first | rfl | (simp; done) | (simp [*]; done)), H', ⟨by have := HK1.out; omega⟩, ⟨by (with_reducible repeat (first | refine blk_drewN ?_ _ | refine blk_drew ?_ | refine blk_alloc ?_ _)); refine blk_far ?_ NB305_307.out _; refine blk_far ?_ NB305_307.out _; refine blk_far ?_ NB305_307.out _; refine blk_far ?_ NB305_307.out _; (with_reducible repeat (first | refine blk_drewN ?_ _ | refine blk_drew ?_ | refine blk_alloc ?_ _)); exact BK305.out⟩, ⟨by repeat (first | exact zh0 HB | refine below_set ?_ GE305.out | refine below_set ?_ GE307.out)⟩⟩
     ·rw [if_neg c6] at H
      exact absurd H (by simp)
    ·rw [if_neg c5] at H
     exact absurd H (by simp)
   ·rw [if_neg c4] at H
    have c4b0 : decide (x9_1 < (l0_0.length : Int)) = false := decide_eq_false c4
    clear c4
    obtain rfl := Option.some.inj H
    go_wp2
    go_ret
    exact ⟨by first | rfl | (simp <;> rfl) | (simp [*] <;> rfl), by repeat (first | exact zh0 HB | refine below_set ?_ GE305.out)⟩

open Go.Proofs.Ytldkbeccpheckab.Cp
/-! ### impl_Window_part: function 103 -/
def impl_Window_part.f (a0_0 : Int) (a0_1 : Int) (a0_2 : Int) (a0_3 : Int) (a1 : Int) (a2 : Int) : Option (Int × Int × Int × Int) := some (a0_0, wrap64 (a0_1 + a1), a2, a2)
set_option maxHeartbeats 8000000 in
set_option maxRecDepth 100000 in
theorem impl_Window_part.calls (a0_0 : Int) (a0_1 : Int) (a0_2 : Int) (a0_3 : Int) (a1 : Int) (a2 : Int) (r1 : Int) (r2 : Int) (r3 : Int) (r4 : Int) (w : World) (h : impl_Window_part.f a0_0 a0_1 a0_2 a0_3 a1 a2 = some (r1, r2, r3, r4)) :
  Calls Try.prog 103 #[.agg #[.int .i64 a0_0, .int .i64 a0_1, .int .i64 a0_2, .int .i64 a0_3], .int .i64 a1, .int .i64 a2] w fun e w' => e = .returned (.agg #[.int .i64 r1, .int .i64 r2, .int .i64 r3, .int .i64 r4]) ∧ Below w.heap.size w w' := by
 have hu61 := Try.underlying61
 have HB := Aside0.mk (Below.refl w.heap.size w)
 have H : (some (a0_0, wrap64 (a0_1 + a1), a2, a2)) = some (r1, r2, r3, r4) := h
 clear h
 simp only [Option.some.injEq, Prod.mk.injEq] at H
 obtain ⟨rfl, rfl, rfl, rfl⟩ := H
 go_enter Try.func103, Try.ntmps103
 go_wp2_with (first | ((with_reducible refine gate_dst (N := 3) rfl ?_); refine box_event ?hg (N := 3) ?hd (cs := #[.int .i64 a0_0, .int .i64 a0_1, .int .i64 a0_2, .int .i64 a0_3]) (t := 61) ?hr ?_; (case hd => rfl); (case hg => rfl); (case hr => first | (go_simp; done) | (go_simp; rfl)); intro gb308 hg w4 hbox hb; have BK308 := Aside0.mk (hbox); have GW308 := zge HB hg; have GE308 := zge HB hg; replace HB := zhs HB hb; clear hb hbox hg) | ((with_reducible refine gate_dst (N := 6) rfl ?_); refine box_event ?hg (N := 6) ?hd (cs := #[.int .i64 0, .int .i64 0, .int .i64 0, .int .i64 0]) (t := 61) ?hr ?_; (case hd => rfl); (case hg => rfl); (case hr => first | (go_simp; done) | (go_simp; rfl)); intro gb309 hg w5 hbox hb; have BK309 := Aside0.mk (hbox); have GW309 := Aside0.mk ((by rw [hg]; exact (below_size (by repeat (first | exact zh0 HB | refine below_set ?_ GE308.out))) : w.heap.size ≤ gb309)); have GE309 := Aside0.mk ((by rw [hg]; exact (below_size (by repeat (first | exact zh0 HB | refine below_set ?_ GE308.out))) : w.heap.size ≤ gb309)); have NB308_309 := znl BK308 hg; have NB309_308 := znr BK308 hg; replace BK308 := zb0 BK308 hb; replace HB := Aside0.mk (below_step (by repeat (first | exact zh0 HB | refine below_set ?_ GE308.out)) hb); clear hb hbox hg; have hnb6 := NB308_309.out; have hnc6 := NB309_308.out; have hcz7_0 := zc0 BK308 0 rfl; have hcz7_1 := zc0 BK308 1 rfl; have hcz7_2 := zc0 BK308 2 rfl; have hcz7_3 := zc0 BK308 3 rfl; have hfz7_0 := blk_frozen BK308.out 0; have hfz7_1 := blk_frozen BK308.out 1; have hfz7_2 := blk_frozen BK308.out 2; have hfz7_3 := blk_frozen BK308.out 3; have hcz8_0 := zc0 BK309 0 rfl; have hcz8_1 := zc0 BK309 1 rfl; have hcz8_2 := zc0 BK309 2 rfl; have hcz8_3 := zc0 BK309 3 rfl; have hfz8_0 := blk_frozen BK309.out 0; have hfz8_1 := blk_frozen BK309.out 1; have hfz8_2 := blk_frozen BK309.out 2; have hfz8_3 := blk_frozen BK309.out 3))
 refine bodyPost_ret (results_cell_row rfl _ _ gb309 61 #[.int .i64 a0_0, .int .i64 (wrap64 (a0_1 + a1)), .int .i64 a2, .int .i64 a2] (0, 0) _ rfl (by (with_reducible repeat (first | refine blk_drewN ?_ _ | refine blk_drew ?_ | refine blk_alloc ?_ _)); refine blk_put (cs := #[.int .i64 a0_0, .int .i64 (wrap64 (a0_1 + a1)), .int .i64 a2, .int .i64 0]) ?_ 3 _ rfl; refine blk_put (cs := #[.int .i64 a0_0, .int .i64 (wrap64 (a0_1 + a1)), .int .i64 0, .int .i64 0]) ?_ 2 _ rfl; refine blk_put (cs := #[.int .i64 a0_0, .int .i64 0, .int .i64 0, .int .i64 0]) ?_ 1 _ rfl; refine blk_put (cs := #[.int .i64 0, .int .i64 0, .int .i64 0, .int .i64 0]) ?_ 0 _ rfl; (with_reducible repeat (first | refine blk_drewN ?_ _ | refine blk_drew ?_ | refine blk_alloc ?_ _)); exact BK309.out) Try.underlying61 rfl (by kernel_rfl)) rfl ?_
 exact ⟨by first | rfl | (simp <;> rfl) | (simp [*] <;> rfl), by repeat (first | exact zh0 HB | refine below_set ?_ GE308.out | refine below_set ?_ GE309.out)⟩

open Go.Proofs.Ytldkbeccpheckab.Cp
/-! ### impl_Rope_split: function 102 -/
mutual
def impl_Rope_split.l0 : Nat → Int → List (S61) → List (S61) → Int → List (S61) → Int → Int → List (S61) → Option ((List (S61)) × (List (S61)))
 | 0, _, _, _, _, _, _, _, _ => none
 | k + 1, x1, x6, x7, x8, x15, x16, x17, x311000 => if x17 < x16 then (if 0 ≤ x17 then (if x17 < (x15.length : Int) then (if ((rd_T61 x15 x17).f2) = 0 then (if (wrap64 (x1 - x8)) > 0 then (impl_Rope_split.j1 k x1 x6 x7 x8 (wrap64 (x1 - x8)) x15 x16 x17 true x311000 ((rd_T61 x15 x17).f0) ((rd_T61 x15 x17).f1) ((rd_T61 x15 x17).f2) ((rd_T61 x15 x17).f3)) else ((impl_Rope_length.f k x311000).bind fun t319 => (impl_Rope_split.j1 k x1 x6 x7 x8 (wrap64 (x1 - x8)) x15 x16 x17 (x1 == t319) x311000 ((rd_T61 x15 x17).f0) ((rd_T61 x15 x17).f1) ((rd_T61 x15 x17).f2) ((rd_T61 x15 x17).f3)))) else (impl_Rope_split.j1 k x1 x6 x7 x8 (wrap64 (x1 - x8)) x15 x16 x17 false x311000 ((rd_T61 x15 x17).f0) ((rd_T61 x15 x17).f1) ((rd_T61 x15 x17).f2) ((rd_T61 x15 x17).f3))) else (none)) else (none)) else (some (x6, x7))
def impl_Rope_split.j1 : Nat → Int → List (S61) → List (S61) → Int → Int → List (S61) → Int → Int → Bool → List (S61) → Int → Int → Int → Int → Option ((List (S61)) × (List (S61)))
 | 0, _, _, _, _, _, _, _, _, _, _, _, _, _, _ => none
 | k + 1, x1, x6, x7, x8, x11, x15, x16, x17, x48, x311000, x319000, x319001, x319002, x319003 => if x48 = true then (impl_Rope_split.j2 k x1 x6 x7 x8 x11 x15 x16 x17 x48 x311000 x319000 x319001 x319002 x319003) else (if x319002 > 0 then (impl_Rope_split.j2 k x1 x6 x7 x8 x11 x15 x16 x17 (decide (x11 ≥ x319002)) x311000 x319000 x319001 x319002 x319003) else (impl_Rope_split.j2 k x1 x6 x7 x8 x11 x15 x16 x17 false x311000 x319000 x319001 x319002 x319003))
def impl_Rope_split.j2 : Nat → Int → List (S61) → List (S61) → Int → Int → List (S61) → Int → Int → Bool → List (S61) → Int → Int → Int → Int → Option ((List (S61)) × (List (S61)))
 | 0, _, _, _, _, _, _, _, _, _, _, _, _, _, _ => none
 | k + 1, x1, x6, x7, x8, x11, x15, x16, x17, x48, x311000, x319000, x319001, x319002, x319003 => if x48 = true then (if x6.length < 4398046511104 then (impl_Rope_split.l0 k x1 (x6 ++ [(⟨x319000, x319001, x319002, x319003⟩ : S61)]) x7 (wrap64 (x8 + x319002)) x15 x16 (wrap64 (x17 + 1)) x311000) else (none)) else (if x11 ≤ 0 then (if x7.length < 4398046511104 then (impl_Rope_split.l0 k x1 x6 (x7 ++ [(⟨x319000, x319001, x319002, x319003⟩ : S61)]) (wrap64 (x8 + x319002)) x15 x16 (wrap64 (x17 + 1)) x311000) else (none)) else ((impl_Window_part.f x319000 x319001 x319002 x319003 0 x11).bind fun bt326 => (if x6.length < 4398046511104 then (if x7.length < 4398046511104 then (impl_Rope_split.l0 k x1 (x6 ++ [(⟨bt326.1, bt326.2.1, bt326.2.2.1, bt326.2.2.2⟩ : S61)]) (x7 ++ [(⟨x319000, wrap64 (x319001 + x11), wrap64 (x319002 - x11), wrap64 (x319003 - x11)⟩ : S61)]) (wrap64 (x8 + x319002)) x15 x16 (wrap64 (x17 + 1)) x311000) else (none)) else (none))))
end
def impl_Rope_split.f (k : Nat) (l0_0 : List (S61)) (a1 : Int) : Option ((List (S61)) × (List (S61))) := impl_Rope_split.l0 k a1 (([] : List (S61))) (([] : List (S61))) 0 l0_0 (l0_0.length : Int) 0 l0_0
theorem impl_Rope_split.mono_l : ∀ k, (∀ y0 y1 y2 y3 y4 y5 y6 y7, LeO (impl_Rope_split.l0 k y0 y1 y2 y3 y4 y5 y6 y7) (impl_Rope_split.l0 (k + 1) y0 y1 y2 y3 y4 y5 y6 y7)) ∧ (∀ y0 y1 y2 y3 y4 y5 y6 y7 y8 y9 y10 y11 y12 y13, LeO (impl_Rope_split.j1 k y0 y1 y2 y3 y4 y5 y6 y7 y8 y9 y10 y11 y12 y13) (impl_Rope_split.j1 (k + 1) y0 y1 y2 y3 y4 y5 y6 y7 y8 y9 y10 y11 y12 y13)) ∧ (∀ y0 y1 y2 y3 y4 y5 y6 y7 y8 y9 y10 y11 y12 y13, LeO (impl_Rope_split.j2 k y0 y1 y2 y3 y4 y5 y6 y7 y8 y9 y10 y11 y12 y13) (impl_Rope_split.j2 (k + 1) y0 y1 y2 y3 y4 y5 y6 y7 y8 y9 y10 y11 y12 y13))
 | 0 => ⟨fun _ _ _ _ _ _ _ _ r h => by simp [impl_Rope_split.l0] at h, fun _ _ _ _ _ _ _ _ _ _ _ _ _ _ r h => by simp [impl_Rope_split.j1] at h, fun _ _ _ _ _ _ _ _ _ _ _ _ _ _ r h => by simp [impl_Rope_split.j2] at h⟩
 | k + 1 => by
  obtain ⟨ih0, ih1, ih2⟩ := impl_Rope_split.mono_l k
  refine ⟨?_, ?_, ?_⟩
  ·intro y0 y1 y2 y3 y4 y5 y6 y7
   unfold impl_Rope_split.l0
   repeat' first
   | (with_reducible exact ih0 _ _ _ _ _ _ _ _)
   | (with_reducible exact ih1 _ _ _ _ _ _ _ _ _ _ _ _ _ _)
   | (with_reducible exact ih2 _ _ _ _ _ _ _ _ _ _ _ _ _ _)
   | (with_reducible exact impl_Rope_length.mono _ _)
   | (with_reducible exact LeO.refl _)
   | (with_reducible exact LeO.none _)
   | (with_reducible refine LeO.ite ?_ ?_)
   | (with_reducible refine LeO.bind ?_ (fun _ => ?_))
   | exact ih0 _ _ _ _ _ _ _ _
   | exact ih1 _ _ _ _ _ _ _ _ _ _ _ _ _ _
   | exact ih2 _ _ _ _ _ _ _ _ _ _ _ _ _ _
   | exact impl_Rope_length.mono _ _
   | exact LeO.none _
   | refine LeO.ite ?_ ?_
   | refine LeO.bind ?_ (fun _ => ?_)
  ·intro y0 y1 y2 y3 y4 y5 y6 y7 y8 y9 y10 y11 y12 y13
   unfold impl_Rope_split.j1
   repeat' first
   | (with_reducible exact ih0 _ _ _ _ _ _ _ _)
   | (with_reducible exact ih1 _ _ _ _ _ _ _ _ _ _ _ _ _ _)
   | (with_reducible exact ih2 _ _ _ _ _ _ _ _ _ _ _ _ _ _)
   | (with_reducible exact impl_Rope_length.mono _ _)
   | (with_reducible exact LeO.refl _)
   | (with_reducible exact LeO.none _)
   | (with_reducible refine LeO.ite ?_ ?_)
   | (with_reducible refine LeO.bind ?_ (fun _ => ?_))
   | exact ih0 _ _ _ _ _ _ _ _
   | exact ih1 _ _ _ _ _ _ _ _ _ _ _ _ _ _
   | exact ih2 _ _ _ _ _ _ _ _ _ _ _ _ _ _
   | exact impl_Rope_length.mono _ _
   | exact LeO.none _
   | refine LeO.ite ?_ ?_
   | refine LeO.bind ?_ (fun _ => ?_)
  ·intro y0 y1 y2 y3 y4 y5 y6 y7 y8 y9 y10 y11 y12 y13
   unfold impl_Rope_split.j2
   repeat' first
   | (with_reducible exact ih0 _ _ _ _ _ _ _ _)
   | (with_reducible exact ih1 _ _ _ _ _ _ _ _ _ _ _ _ _ _)
   | (with_reducible exact ih2 _ _ _ _ _ _ _ _ _ _ _ _ _ _)
   | (with_reducible exact impl_Rope_length.mono _ _)
   | (with_reducible exact LeO.refl _)
   | (with_reducible exact LeO.none _)
   | (with_reducible refine LeO.ite ?_ ?_)
   | (with_reducible refine LeO.bind ?_ (fun _ => ?_))
   | exact ih0 _ _ _ _ _ _ _ _
   | exact ih1 _ _ _ _ _ _ _ _ _ _ _ _ _ _
   | exact ih2 _ _ _ _ _ _ _ _ _ _ _ _ _ _
   | exact impl_Rope_length.mono _ _
   | exact LeO.none _
   | refine LeO.ite ?_ ?_
   | refine LeO.bind ?_ (fun _ => ?_)
theorem impl_Rope_split.mono : ∀ a0 a1 k, LeO (impl_Rope_split.f k a0 a1) (impl_Rope_split.f (k + 1) a0 a1) := by
 intro a0 a1 k
 obtain ⟨ih0, ih1, ih2⟩ := impl_Rope_split.mono_l k
 unfold impl_Rope_split.f
 repeat' first
   | (with_reducible exact ih0 _ _ _ _ _ _ _ _)
   | (with_reducible exact ih1 _ _ _ _ _ _ _ _ _ _ _ _ _ _)
   | (with_reducible exact ih2 _ _ _ _ _ _ _ _ _ _ _ _ _ _)
   | (with_reducible exact impl_Rope_length.mono _ _)
   | (with_reducible exact LeO.refl _)
   | (with_reducible exact LeO.none _)
   | (with_reducible refine LeO.ite ?_ ?_)
   | (with_reducible refine LeO.bind ?_ (fun _ => ?_))
   | exact ih0 _ _ _ _ _ _ _ _
   | exact ih1 _ _ _ _ _ _ _ _ _ _ _ _ _ _
   | exact ih2 _ _ _ _ _ _ _ _ _ _ _ _ _ _
   | exact impl_Rope_length.mono _ _
   | exact LeO.none _
   | refine LeO.ite ?_ ?_
   | refine LeO.bind ?_ (fun _ => ?_)
set_option maxHeartbeats 8000000 in
set_option maxRecDepth 100000 in
theorem impl_Rope_split.calls (k : Nat) (A0_0 : Option Addr) (c0_0 : Nat) (l0_0 : List (S61)) (a1 : Int) (r1 : List (S61)) (r2 : List (S61)) (w : World) (hr0_0 : Kd.C k61 w A0_0 l0_0.length l0_0) (hc0_0 : l0_0.length ≤ c0_0) (h : impl_Rope_split.f k l0_0 a1 = some (r1, r2)) :
  Calls Try.prog 102 #[.agg #[.slice A0_0 l0_0.length c0_0], .int .i64 a1] w fun e w' => ∃ v0_ v1_ : Value, e = .returned (.tuple #[v0_, v1_]) ∧ Kd.R k61 61 w' w.heap.size (fun k_ => some k_ ≠ (v1_ : Value).ownBlock) v0_ r1 ∧ Kd.R k61 61 w' w.heap.size (fun k_ => some k_ ≠ (v0_ : Value).ownBlock) v1_ r2 ∧ Below w.heap.size w w' := by
 have hu32 := Try.underlying32
 have hu61 := Try.underlying61
 have HR0_0 := Aside0.mk hr0_0
 have HC0_0 := Aside0.mk hc0_0
 clear hr0_0 hc0_0
 have HB := Aside0.mk (Below.refl w.heap.size w)
 have H : (impl_Rope_split.l0 k a1 (([] : List (S61))) (([] : List (S61))) 0 l0_0 (l0_0.length : Int) 0 l0_0) = some (r1, r2) := h
 clear h
 obtain ⟨y311, hy311⟩ : ∃ y_ : List (S61), y_ = (([] : List (S61))) := ⟨_, rfl⟩
 replace H : (impl_Rope_split.l0 k a1 y311 (([] : List (S61))) 0 l0_0 (l0_0.length : Int) 0 l0_0) = some (r1, r2) := by first | (rw [hy311]; with_reducible exact H) | (have H2_ := (Option.bind_some _ _).symm.trans H; rw [hy311]; with_reducible exact H2_) | (have H2_ := (Option.bind_some _ _).symm.trans H; with_reducible exact H2_) | with_reducible exact H | (rw [hy311]; exact H) | exact H
 have Ny311 := Aside0.mk hy311
 clear hy311
 obtain ⟨y314, hy314⟩ : ∃ y_ : List (S61), y_ = (([] : List (S61))) := ⟨_, rfl⟩
 replace H : (impl_Rope_split.l0 k a1 y311 y314 0 l0_0 (l0_0.length : Int) 0 l0_0) = some (r1, r2) := by first | (rw [hy314]; with_reducible exact H) | (have H2_ := (Option.bind_some _ _).symm.trans H; rw [hy314]; with_reducible exact H2_) | (have H2_ := (Option.bind_some _ _).symm.trans H; with_reducible exact H2_) | with_reducible exact H | (rw [hy314]; exact H) | exact H
 have Ny314 := Aside0.mk hy314
 clear hy314
 have H' := Aside0.mk H
 clear H
 go_enter Try.func102, Try.ntmps102
 go_wp2_with (first | ((with_reducible refine gate_dst (N := 2) rfl ?_); refine box_event ?hg (N := 2) ?hd (cs := #[.slice A0_0 l0_0.length c0_0]) (t := 32) ?hr ?_; (case hd => rfl); (case hg => rfl); (case hr => first | (go_simp; done) | (go_simp; rfl)); intro gb310 hg w3 hbox hb; have BK310 := Aside0.mk (hbox); have GW310 := zge HB hg; have GE310 := zge HB hg; replace HB := zhs HB hb; clear hb hbox hg) | ((with_reducible refine gate_dst (N := 12) rfl ?_); refine Kd.R_lit k61 _ 61 ?hg (N := 12) ?hd (xs := ([] : List (S61))) (inner := []) (ok := fun _ => True) (okp := fun _ => True) ?hr ?hp (fun _ hk => hk) trivial (Below.refl _ _) (Nat.le_refl _) (by simp) ?_; (case hd => rfl); (case hg => rfl); (case hr => first | (go_simp; done) | (go_simp; rfl)); (case hp => exact (Reps.none _ _)); intro v312 w4 ho5 hb hg_ hnew_; clear hg_ hnew_; (first | rw [← Ny311.out] at ho5 | (simp only [Int.reduceToNat] at ho5; rw [← Ny311.out] at ho5)); have HO313 := Aside0.mk (Kd.R_lower ho5 (below_size (zh0 HB))); replace BK310 := zb0 BK310 hb; replace HB := zhs HB hb; clear hb ho5) | ((with_reducible refine gate_dst (N := 13) rfl ?_); refine Kd.R_lit k61 _ 61 ?hg (N := 13) ?hd (xs := ([] : List (S61))) (inner := []) (ok := fun _ => True) (okp := fun _ => True) ?hr ?hp (fun _ hk => hk) trivial (Below.refl _ _) (Nat.le_refl _) (by simp) ?_; (case hd => rfl); (case hg => rfl); (case hr => first | (go_simp; done) | (go_simp; rfl)); (case hp => exact (Reps.none _ _)); intro v315 w6 ho7 hb hg_ hnew_; clear hg_ hnew_; (first | rw [← Ny314.out] at ho7 | (simp only [Int.reduceToNat] at ho7; rw [← Ny314.out] at ho7)); have HO316 := Aside0.mk (Kd.R_lower (Kd.R_new' ho7 (Kd.R_lt (zr0 HO313))) (below_size (zh0 HB))); replace HO313 := Aside0.mk (Kd.R_elder' (zr0 HO313) (Kd.R_base ho7) hb); replace BK310 := zb0 BK310 hb; replace HB := zhs HB hb; clear hb ho7; have hcz8_0 := zc0 BK310 0 rfl; have hfz8_0 := blk_frozen BK310.out 0))
 go_loopg [6, 7, 8, 17] k (fun kq v6 v7 v8 v17 w' => ∃ (x6_1 : List (S61)) (x7_1 : List (S61)) (x8_1 : Int) (x17_1 : Int), v8 = .int .i64 x8_1 ∧ v17 = .int .i64 x17_1 ∧ Aside0 (impl_Rope_split.l0 kq a1 x6_1 x7_1 x8_1 l0_0 (l0_0.length : Int) x17_1 l0_0 = some (r1, r2)) ∧ Aside0 (kq ≤ k) ∧ Aside0 (Kd.R k61 61 w' w.heap.size (fun k_ => some k_ ≠ (v7 : Value).ownBlock) v6 x6_1) ∧ Aside0 (Kd.R k61 61 w' w.heap.size (fun k_ => some k_ ≠ (v6 : Value).ownBlock) v7 x7_1) ∧ Aside0 (w'.heap[gb310]? = some (.cells #[(.slice A0_0 l0_0.length c0_0)] 32 (0, 0))) ∧ Aside0 (Below w.heap.size w w'))
 case atStart => exact ⟨(y311), (y314), (0), (0), (by first | rfl | (simp; done) | (simp [*]; done)), (by first | rfl | (simp; done) | (simp [*]; done)), H', ⟨Nat.le_refl _⟩, ⟨by (with_reducible repeat (first | apply Kd.R_alloc | apply Kd.R_drewN | apply Kd.R_drew)); exact Kd.R_mono HO313.out (fun _ hk => hk.2)⟩, ⟨by (with_reducible repeat (first | apply Kd.R_alloc | apply Kd.R_drewN | apply Kd.R_drew)); exact Kd.R_mono HO316.out (fun _ hk => hk.2)⟩, ⟨zk0 BK310⟩, ⟨by repeat (first | exact zh0 HB | refine below_set ?_ GE310.out)⟩⟩
 case round =>
  clear H'
  try clear c1
  try clear p2
  try clear hcz8_0
  try clear hfz8_0
  obtain ⟨x6_1, x7_1, x8_1, x17_1, rfl, rfl, HA, HK1, HO_6, HO_7, BK310, HB⟩ := hrel
  cases gk with
  | zero => exact absurd HA.out (by simp [impl_Rope_split.l0])
  | succ k1 =>
   have H := HA.out
   clear HA
   simp only [impl_Rope_split.l0] at H
   by_cases c9 : x17_1 < (l0_0.length : Int)
   ·rw [if_pos c9] at H
    have c9b0 : decide (x17_1 < (l0_0.length : Int)) = true := decide_eq_true c9
    clear c9
    by_cases c10 : 0 ≤ x17_1
    ·rw [if_pos c10] at H
     have c10b0 : decide (0 ≤ x17_1) = true := decide_eq_true c10
     clear c10
     by_cases c11 : x17_1 < (l0_0.length : Int)
     ·rw [if_pos c11] at H
      have c11b0 : decide (x17_1 < (l0_0.length : Int)) = true := decide_eq_true c11
      clear c11
      have HC12 := Aside0.mk H
      clear H
      have p317 : 0 ≤ (x17_1 : Int) := of_decide_eq_true (by first | (with_reducible assumption) | assumption)
      have q317 : x17_1 < (l0_0.length : Int) := of_decide_eq_true (by first | (with_reducible assumption) | assumption)
      obtain ⟨ad317, e317, hx317_0, hx317_1, hx317_2, hx317_3⟩ := at_T61 HR0_0.out x17_1 p317 q317
      cases e317
      replace hx317_0 := (HB.out.cell (World.block_lt_of_cell? w _ hx317_0)).trans hx317_0
      replace hx317_1 := (HB.out.cell (World.block_lt_of_cell? w _ hx317_1)).trans hx317_1
      replace hx317_2 := (HB.out.cell (World.block_lt_of_cell? w _ hx317_2)).trans hx317_2
      replace hx317_3 := (HB.out.cell (World.block_lt_of_cell? w _ hx317_3)).trans hx317_3
      replace p317 := eq_true p317
      replace q317 := eq_true q317
      go_upto_region 8 with (first | ((with_reducible refine gate_dst (N := 10) rfl ?_); refine box_event ?hg (N := 10) ?hd (cs := #[.int .i64 0, .int .i64 0, .int .i64 0, .int .i64 0]) (t := 61) ?hr ?_; (case hd => rfl); (case hg => rfl); (case hr => first | (go_simp; done) | (go_simp; rfl)); intro gb318 hg w13 hbox hb; have BK318 := Aside0.mk (hbox); have GW318 := Aside0.mk ((by rw [hg]; exact (below_size (by repeat (first | exact zh0 HB | refine below_set ?_ GE310.out))) : w.heap.size ≤ gb318)); have GE318 := Aside0.mk ((by rw [hg]; exact (below_size (by repeat (first | exact zh0 HB | refine below_set ?_ GE310.out))) : w.heap.size ≤ gb318)); have NB310_318 := znl BK310 hg; have NB318_310 := znr BK310 hg; replace HO_6 := Aside0.mk (Kd.R_below (Kd.R_elderB (zr0 HO_6) gb318 (Nat.le_of_eq hg.symm)) hb); replace HO_7 := Aside0.mk (Kd.R_below (Kd.R_elderB (zr0 HO_7) gb318 (Nat.le_of_eq hg.symm)) hb); replace BK310 := zb0 BK310 hb; replace HB := Aside0.mk (below_step (by repeat (first | exact zh0 HB | refine below_set ?_ GE310.out)) hb); clear hb hbox hg; have hnb14 := NB318_310.out; have hnc14 := NB310_318.out; have hcz15_0 := zc0 BK318 0 rfl; have hcz15_1 := zc0 BK318 1 rfl; have hcz15_2 := zc0 BK318 2 rfl; have hcz15_3 := zc0 BK318 3 rfl; have hfz15_0 := blk_frozen BK318.out 0; have hfz15_1 := blk_frozen BK318.out 1; have hfz15_2 := blk_frozen BK318.out 2; have hfz15_3 := blk_frozen BK318.out 3))
      (try simp only [Act.put, zp1, zp2, zp3])
      go_cut [48] (fun v48 wc => ∃ (kq : Nat) (x48_11 : Bool), v48 = .bool x48_11 ∧ Aside0 (impl_Rope_split.j1 kq a1 x6_1 x7_1 x8_1 (wrap64 (a1 - x8_1)) l0_0 (l0_0.length : Int) x17_1 x48_11 l0_0 ((rd_T61 l0_0 x17_1).f0) ((rd_T61 l0_0 x17_1).f1) ((rd_T61 l0_0 x17_1).f2) ((rd_T61 l0_0 x17_1).f3) = some (r1, r2)) ∧ Aside0 (kq ≤ k1) ∧ Aside0 (Kd.R k61 61 wc w.heap.size (fun k_ => some k_ ≠ (u7 : Value).ownBlock ∧ k_ ≠ gb318) u6 x6_1) ∧ Aside0 (Kd.R k61 61 wc w.heap.size (fun k_ => some k_ ≠ (u6 : Value).ownBlock ∧ k_ ≠ gb318) u7 x7_1) ∧ Aside0 (wc.heap[gb310]? = some (.cells #[(.slice (some ad317) l0_0.length c0_0)] 32 (0, 0))) ∧ Aside0 (wc.heap[gb318]? = some (.cells #[.int .i64 ((rd_T61 l0_0 x17_1).f0), .int .i64 ((rd_T61 l0_0 x17_1).f1), .int .i64 ((rd_T61 l0_0 x17_1).f2), .int .i64 ((rd_T61 l0_0 x17_1).f3)] 61 (0, 0))) ∧ Aside0 (Below w.heap.size w wc))
      case first =>
       have H := HC12.out
       clear HC12
       by_cases c16 : ((rd_T61 l0_0 x17_1).f2) = 0
       ·rw [if_pos c16] at H
        have c16b0 : (((rd_T61 l0_0 x17_1).f2) == 0) = true := beq_iff_eq.mpr c16
        have c16b1 : (((rd_T61 l0_0 x17_1).f2) != 0) = false := bne_eq_false_iff_eq.mpr c16
        clear c16
        (first | rw [c16b0] | (simp only [i64_w, i32_w]; rw [c16b0]) | skip)
        by_cases c17 : (wrap64 (a1 - x8_1)) > 0
        ·rw [if_pos c17] at H
         have c17b0 : decide (0 < (wrap64 (a1 - x8_1))) = true := decide_eq_true c17
         clear c17
         have H' := Aside0.mk H
         clear H
         have hnb18 := NB318_310.out
         have hnc18 := NB310_318.out
         have hcz19_0 := zc0 BK318 0 rfl
         have hcz19_1 := zc0 BK318 1 rfl
         have hcz19_2 := zc0 BK318 2 rfl
         have hcz19_3 := zc0 BK318 3 rfl
         have hfz19_0 := blk_frozen BK318.out 0
         have hfz19_1 := blk_frozen BK318.out 1
         have hfz19_2 := blk_frozen BK318.out 2
         have hfz19_3 := blk_frozen BK318.out 3
         go_wp2
         go_meet
         case rel => exact ⟨_, (true), (by first | rfl | (simp; done) | (simp [*]; done)), H', ⟨by have := HK1.out; first | omega | exact Nat.le_refl _⟩, ⟨by (with_reducible repeat (first | apply Kd.R_alloc | apply Kd.R_drewN | apply Kd.R_drew)); exact Kd.R_mono (Kd.R_far (p := ⟨gb318, 3, none⟩) (Kd.R_far (p := ⟨gb318, 2, none⟩) (Kd.R_far (p := ⟨gb318, 1, none⟩) (Kd.R_far (p := ⟨gb318, 0, none⟩) (Kd.R_mono HO_6.out (fun k_ hk => (⟨hk, hk.2⟩ : _ ∧ k_ ≠ gb318))) (fun _ hk => hk.2) (.int .i64 ((rd_T61 l0_0 x17_1).f0))) (fun _ hk => hk.2) (.int .i64 ((rd_T61 l0_0 x17_1).f1))) (fun _ hk => hk.2) (.int .i64 ((rd_T61 l0_0 x17_1).f2))) (fun _ hk => hk.2) (.int .i64 ((rd_T61 l0_0 x17_1).f3))) (fun _ hk => ⟨hk.1.1, hk.1.2⟩)⟩, ⟨by (with_reducible repeat (first | apply Kd.R_alloc | apply Kd.R_drewN | apply Kd.R_drew)); exact Kd.R_mono (Kd.R_far (p := ⟨gb318, 3, none⟩) (Kd.R_far (p := ⟨gb318, 2, none⟩) (Kd.R_far (p := ⟨gb318, 1, none⟩) (Kd.R_far (p := ⟨gb318, 0, none⟩) (Kd.R_mono HO_7.out (fun k_ hk => (⟨hk, hk.2⟩ : _ ∧ k_ ≠ gb318))) (fun _ hk => hk.2) (.int .i64 ((rd_T61 l0_0 x17_1).f0))) (fun _ hk => hk.2) (.int .i64 ((rd_T61 l0_0 x17_1).f1))) (fun _ hk => hk.2) (.int .i64 ((rd_T61 l0_0 x17_1).f2))) (fun _ hk => hk.2) (.int .i64 ((rd_T61 l0_0 x17_1).f3))) (fun _ hk => ⟨hk.1.1, hk.1.2⟩)⟩, ⟨by (with_reducible repeat (first | refine blk_drewN ?_ _ | refine blk_drew ?_ | refine blk_alloc ?_ _)); refine blk_far ?_ NB310_318.out _; refine blk_far ?_ NB310_318.out _; refine blk_far ?_ NB310_318.out _; refine blk_far ?_ NB310_318.out _; (with_reducible repeat (first | refine blk_drewN ?_ _ | refine blk_drew ?_ | refine blk_alloc ?_ _)); exact BK310.out⟩, ⟨by (with_reducible repeat (first | refine blk_drewN ?_ _ | refine blk_drew ?_ | refine blk_alloc ?_ _)); refine blk_put (cs := #[.int .i64 ((rd_T61 l0_0 x17_1).f0), .int .i64 ((rd_T61 l0_0 x17_1).f1), .int .i64 ((rd_T61 l0_0 x17_1).f2), .int .i64 0]) ?_ 3 _ rfl; refine blk_put (cs := #[.int .i64 ((rd_T61 l0_0 x17_1).f0), .int .i64 ((rd_T61 l0_0 x17_1).f1), .int .i64 0, .int .i64 0]) ?_ 2 _ rfl; refine blk_put (cs := #[.int .i64 ((rd_T61 l0_0 x17_1).f0), .int .i64 0, .int .i64 0, .int .i64 0]) ?_ 1 _ rfl; refine blk_put (cs := #[.int .i64 0, .int .i64 0, .int .i64 0, .int .i64 0]) ?_ 0 _ rfl; (with_reducible repeat (first | refine blk_drewN ?_ _ | refine blk_drew ?_ | refine blk_alloc ?_ _)); exact BK318.out⟩, ⟨by repeat (first | exact zh0 HB | refine below_set ?_ GE310.out | refine below_set ?_ GE318.out)⟩⟩
        ·rw [if_neg c17] at H
         have c17b0 : decide (0 < (wrap64 (a1 - x8_1))) = false := decide_eq_false c17
         clear c17
         replace H := Option.bind_eq_some_iff.mp H
         obtain ⟨t319, A200, H⟩ := H
         replace H : (impl_Rope_split.j1 k1 a1 x6_1 x7_1 x8_1 (wrap64 (a1 - x8_1)) l0_0 (l0_0.length : Int) x17_1 (a1 == t319) l0_0 ((rd_T61 l0_0 x17_1).f0) ((rd_T61 l0_0 x17_1).f1) ((rd_T61 l0_0 x17_1).f2) ((rd_T61 l0_0 x17_1).f3)) = some (r1, r2) := H
         have A20 := Aside0.mk A200
         clear A200
         have H' := Aside0.mk H
         clear H
         have hnb21 := NB318_310.out
         have hnc21 := NB310_318.out
         have hcz22_0 := zc0 BK318 0 rfl
         have hcz22_1 := zc0 BK318 1 rfl
         have hcz22_2 := zc0 BK318 2 rfl
         have hcz22_3 := zc0 BK318 3 rfl
         have hfz22_0 := blk_frozen BK318.out 0
         have hfz22_1 := blk_frozen BK318.out 1
         have hfz22_2 := blk_frozen BK318.out 2
         have hfz22_3 := blk_frozen BK318.out 3
         have hcz23_0 := zc0 BK310 0 rfl
         have hfz23_0 := blk_frozen BK310.out 0
         go_wp2_with (first | (go_at_call 101; (with_reducible refine (impl_Rope_length.calls k1 _ _ l0_0 t319 _ ?side1 ?side2 A20.out).mono ?_); (case side1 => exact Kd.C_below HR0_0.out (by repeat (first | exact zh0 HB | refine below_set ?_ GE310.out | refine below_set ?_ GE318.out))); (case side2 => exact HC0_0.out); rintro e w24 ⟨rfl, hb⟩; replace HO_6 := Aside0.mk (Kd.R_below (by (with_reducible repeat (first | apply Kd.R_alloc | apply Kd.R_drewN | apply Kd.R_drew)); exact (Kd.R_mono (Kd.R_far (p := ⟨gb318, 3, none⟩) (Kd.R_far (p := ⟨gb318, 2, none⟩) (Kd.R_far (p := ⟨gb318, 1, none⟩) (Kd.R_far (p := ⟨gb318, 0, none⟩) (Kd.R_mono HO_6.out (fun k_ hk => (⟨hk, hk.2⟩ : _ ∧ k_ ≠ gb318))) (fun _ hk => hk.2) (.int .i64 ((rd_T61 l0_0 x17_1).f0))) (fun _ hk => hk.2) (.int .i64 ((rd_T61 l0_0 x17_1).f1))) (fun _ hk => hk.2) (.int .i64 ((rd_T61 l0_0 x17_1).f2))) (fun _ hk => hk.2) (.int .i64 ((rd_T61 l0_0 x17_1).f3))) (fun _ h_ => h_.1))) hb); replace HO_7 := Aside0.mk (Kd.R_below (by (with_reducible repeat (first | apply Kd.R_alloc | apply Kd.R_drewN | apply Kd.R_drew)); exact (Kd.R_mono (Kd.R_far (p := ⟨gb318, 3, none⟩) (Kd.R_far (p := ⟨gb318, 2, none⟩) (Kd.R_far (p := ⟨gb318, 1, none⟩) (Kd.R_far (p := ⟨gb318, 0, none⟩) (Kd.R_mono HO_7.out (fun k_ hk => (⟨hk, hk.2⟩ : _ ∧ k_ ≠ gb318))) (fun _ hk => hk.2) (.int .i64 ((rd_T61 l0_0 x17_1).f0))) (fun _ hk => hk.2) (.int .i64 ((rd_T61 l0_0 x17_1).f1))) (fun _ hk => hk.2) (.int .i64 ((rd_T61 l0_0 x17_1).f2))) (fun _ hk => hk.2) (.int .i64 ((rd_T61 l0_0 x17_1).f3))) (fun _ h_ => h_.1))) hb); replace BK310 := Aside0.mk (blk_below (g := gb310) (o := .cells #[.slice (some ad317) l0_0.length c0_0] 32 (0, 0)) (by (with_reducible repeat (first | refine blk_drewN ?_ _ | refine blk_drew ?_ | refine blk_alloc ?_ _)); refine blk_far ?_ NB310_318.out _; refine blk_far ?_ NB310_318.out _; refine blk_far ?_ NB310_318.out _; refine blk_far ?_ NB310_318.out _; (with_reducible repeat (first | refine blk_drewN ?_ _ | refine blk_drew ?_ | refine blk_alloc ?_ _)); exact BK310.out) hb); replace BK318 := Aside0.mk (blk_below (g := gb318) (o := .cells #[.int .i64 ((rd_T61 l0_0 x17_1).f0), .int .i64 ((rd_T61 l0_0 x17_1).f1), .int .i64 ((rd_T61 l0_0 x17_1).f2), .int .i64 ((rd_T61 l0_0 x17_1).f3)] 61 (0, 0)) (by (with_reducible repeat (first | refine blk_drewN ?_ _ | refine blk_drew ?_ | refine blk_alloc ?_ _)); refine blk_put (cs := #[.int .i64 ((rd_T61 l0_0 x17_1).f0), .int .i64 ((rd_T61 l0_0 x17_1).f1), .int .i64 ((rd_T61 l0_0 x17_1).f2), .int .i64 0]) ?_ 3 _ rfl; refine blk_put (cs := #[.int .i64 ((rd_T61 l0_0 x17_1).f0), .int .i64 ((rd_T61 l0_0 x17_1).f1), .int .i64 0, .int .i64 0]) ?_ 2 _ rfl; refine blk_put (cs := #[.int .i64 ((rd_T61 l0_0 x17_1).f0), .int .i64 0, .int .i64 0, .int .i64 0]) ?_ 1 _ rfl; refine blk_put (cs := #[.int .i64 0, .int .i64 0, .int .i64 0, .int .i64 0]) ?_ 0 _ rfl; (with_reducible repeat (first | refine blk_drewN ?_ _ | refine blk_drew ?_ | refine blk_alloc ?_ _)); exact BK318.out) hb); replace HB := Aside0.mk (below_step (by repeat (first | exact zh0 HB | refine below_set ?_ GE310.out | refine below_set ?_ GE318.out)) hb); (try clear hb); (try clear hb2); (try clear hk); (try clear hi)))
         go_meet
         case rel => exact ⟨_, ((a1 == t319)), (by first | rfl | (simp; done) | (simp [*]; done)), H', ⟨by have := HK1.out; first | omega | exact Nat.le_refl _⟩, ⟨zr0 HO_6⟩, ⟨zr0 HO_7⟩, ⟨zk0 BK310⟩, ⟨zk0 BK318⟩, ⟨by repeat (first | exact zh0 HB | refine below_set ?_ GE310.out | refine below_set ?_ GE318.out)⟩⟩
       ·rw [if_neg c16] at H
        have c16b0 : (((rd_T61 l0_0 x17_1).f2) == 0) = false := beq_eq_false_iff_ne.mpr c16
        have c16b1 : (((rd_T61 l0_0 x17_1).f2) != 0) = true := bne_iff_ne.mpr c16
        (first | rw [c16b0] | (simp only [i64_w, i32_w]; rw [c16b0]) | skip)
        have H' := Aside0.mk H
        clear H
        have hnb25 := NB318_310.out
        have hnc25 := NB310_318.out
        have hcz26_0 := zc0 BK318 0 rfl
        have hcz26_1 := zc0 BK318 1 rfl
        have hcz26_2 := zc0 BK318 2 rfl
        have hcz26_3 := zc0 BK318 3 rfl
        have hfz26_0 := blk_frozen BK318.out 0
        have hfz26_1 := blk_frozen BK318.out 1
        have hfz26_2 := blk_frozen BK318.out 2
        have hfz26_3 := blk_frozen BK318.out 3
        go_wp2
        go_meet
        case rel => exact ⟨_, (false), (by first | rfl | (simp; done) | (simp [*]; done)), H', ⟨by have := HK1.out; first | omega | exact Nat.le_refl _⟩, ⟨by (with_reducible repeat (first | apply Kd.R_alloc | apply Kd.R_drewN | apply Kd.R_drew)); exact Kd.R_mono (Kd.R_far (p := ⟨gb318, 3, none⟩) (Kd.R_far (p := ⟨gb318, 2, none⟩) (Kd.R_far (p := ⟨gb318, 1, none⟩) (Kd.R_far (p := ⟨gb318, 0, none⟩) (Kd.R_mono HO_6.out (fun k_ hk => (⟨hk, hk.2⟩ : _ ∧ k_ ≠ gb318))) (fun _ hk => hk.2) (.int .i64 ((rd_T61 l0_0 x17_1).f0))) (fun _ hk => hk.2) (.int .i64 ((rd_T61 l0_0 x17_1).f1))) (fun _ hk => hk.2) (.int .i64 ((rd_T61 l0_0 x17_1).f2))) (fun _ hk => hk.2) (.int .i64 ((rd_T61 l0_0 x17_1).f3))) (fun _ hk => ⟨hk.1.1, hk.1.2⟩)⟩, ⟨by (with_reducible repeat (first | apply Kd.R_alloc | apply Kd.R_drewN | apply Kd.R_drew)); exact Kd.R_mono (Kd.R_far (p := ⟨gb318, 3, none⟩) (Kd.R_far (p := ⟨gb318, 2, none⟩) (Kd.R_far (p := ⟨gb318, 1, none⟩) (Kd.R_far (p := ⟨gb318, 0, none⟩) (Kd.R_mono HO_7.out (fun k_ hk => (⟨hk, hk.2⟩ : _ ∧ k_ ≠ gb318))) (fun _ hk => hk.2) (.int .i64 ((rd_T61 l0_0 x17_1).f0))) (fun _ hk => hk.2) (.int .i64 ((rd_T61 l0_0 x17_1).f1))) (fun _ hk => hk.2) (.int .i64 ((rd_T61 l0_0 x17_1).f2))) (fun _ hk => hk.2) (.int .i64 ((rd_T61 l0_0 x17_1).f3))) (fun _ hk => ⟨hk.1.1, hk.1.2⟩)⟩, ⟨by (with_reducible repeat (first | refine blk_drewN ?_ _ | refine blk_drew ?_ | refine blk_alloc ?_ _)); refine blk_far ?_ NB310_318.out _; refine blk_far ?_ NB310_318.out _; refine blk_far ?_ NB310_318.out _; refine blk_far ?_ NB310_318.out _; (with_reducible repeat (first | refine blk_drewN ?_ _ | refine blk_drew ?_ | refine blk_alloc ?_ _)); exact BK310.out⟩, ⟨by (with_reducible repeat (first | refine blk_drewN ?_ _ | refine blk_drew ?_ | refine blk_alloc ?_ _)); refine blk_put (cs := #[.int .i64 ((rd_T61 l0_0 x17_1).f0), .int .i64 ((rd_T61 l0_0 x17_1).f1), .int .i64 ((rd_T61 l0_0 x17_1).f2), .int .i64 0]) ?_ 3 _ rfl; refine blk_put (cs := #[.int .i64 ((rd_T61 l0_0 x17_1).f0), .int .i64 ((rd_T61 l0_0 x17_1).f1), .int .i64 0, .int .i64 0]) ?_ 2 _ rfl; refine blk_put (cs := #[.int .i64 ((rd_T61 l0_0 x17_1).f0), .int .i64 0, .int .i64 0, .int .i64 0]) ?_ 1 _ rfl; refine blk_put (cs := #[.int .i64 0, .int .i64 0, .int .i64 0, .int .i64 0]) ?_ 0 _ rfl; (with_reducible repeat (first | refine blk_drewN ?_ _ | refine blk_drew ?_ | refine blk_alloc ?_ _)); exact BK318.out⟩, ⟨by repeat (first | exact zh0 HB | refine below_set ?_ GE310.out | refine below_set ?_ GE318.out)⟩⟩
      case rest =>
       clear HC12
       try clear c1
       try clear c2
       try clear p2
       try clear p3
       try clear q3
       try clear hx3
       try clear p6
       try clear c9
       try clear c9b0
       try clear c10
       try clear c10b0
       try clear c11
       try clear c11b0
       try clear c14
       try clear c16
       try clear c16b0
       try clear c16b1
       try clear c17
       try clear c17b0
       try clear c18
       try clear c21
       try clear c25
       try clear hcz15_0
       try clear hcz15_1
       try clear hcz15_2
       try clear hcz15_3
       try clear hcz19_0
       try clear hcz19_1
       try clear hcz19_2
       try clear hcz19_3
       try clear hcz22_0
       try clear hcz22_1
       try clear hcz22_2
       try clear hcz22_3
       try clear hcz23_0
       try clear hcz26_0
       try clear hcz26_1
       try clear hcz26_2
       try clear hcz26_3
       try clear hcz8_0
       try clear hfz15_0
       try clear hfz15_1
       try clear hfz15_2
       try clear hfz15_3
       try clear hfz19_0
       try clear hfz19_1
       try clear hfz19_2
       try clear hfz19_3
       try clear hfz22_0
       try clear hfz22_1
       try clear hfz22_2
       try clear hfz22_3
       try clear hfz23_0
       try clear hfz26_0
       try clear hfz26_1
       try clear hfz26_2
       try clear hfz26_3
       try clear hfz8_0
       try clear hx317_0
       try clear hx317_1
       try clear hx317_2
       try clear hx317_3
       try clear p2
       try clear p317
       try clear q317
       obtain ⟨kq, x48_11, rfl, HA, HJ11, HO_6, HO_7, BK310, BK318, HB⟩ := hcut
       cases kq with
       | zero => exact absurd HA.out (by simp [impl_Rope_split.j1])
       | succ kj11 =>
        have H := HA.out
        clear HA
        simp only [impl_Rope_split.j1] at H
        have HC27 := Aside0.mk H
        clear H
        go_upto_if 48 with (fail)
        go_cut [48] (fun v48 wc => ∃ (kq : Nat) (x48_26 : Bool), v48 = .bool x48_26 ∧ Aside0 (impl_Rope_split.j2 kq a1 x6_1 x7_1 x8_1 (wrap64 (a1 - x8_1)) l0_0 (l0_0.length : Int) x17_1 x48_26 l0_0 ((rd_T61 l0_0 x17_1).f0) ((rd_T61 l0_0 x17_1).f1) ((rd_T61 l0_0 x17_1).f2) ((rd_T61 l0_0 x17_1).f3) = some (r1, r2)) ∧ Aside0 (kq ≤ kj11) ∧ Aside0 (Kd.R k61 61 wc w.heap.size (fun k_ => some k_ ≠ (u7 : Value).ownBlock ∧ k_ ≠ gb318) u6 x6_1) ∧ Aside0 (Kd.R k61 61 wc w.heap.size (fun k_ => some k_ ≠ (u6 : Value).ownBlock ∧ k_ ≠ gb318) u7 x7_1) ∧ Aside0 (wc.heap[gb310]? = some (.cells #[(.slice (some ad317) l0_0.length c0_0)] 32 (0, 0))) ∧ Aside0 (wc.heap[gb318]? = some (.cells #[.int .i64 ((rd_T61 l0_0 x17_1).f0), .int .i64 ((rd_T61 l0_0 x17_1).f1), .int .i64 ((rd_T61 l0_0 x17_1).f2), .int .i64 ((rd_T61 l0_0 x17_1).f3)] 61 (0, 0))) ∧ Aside0 (Below w.heap.size w wc))
        case first =>
         have H := HC27.out
         clear HC27
         by_cases c28 : x48_11 = true
         ·subst c28
          have H1 : (impl_Rope_split.j2 kj11 a1 x6_1 x7_1 x8_1 (wrap64 (a1 - x8_1)) l0_0 (l0_0.length : Int) x17_1 true l0_0 ((rd_T61 l0_0 x17_1).f0) ((rd_T61 l0_0 x17_1).f1) ((rd_T61 l0_0 x17_1).f2) ((rd_T61 l0_0 x17_1).f3)) = some (r1, r2) := by rw [if_pos rfl] at H; exact H
          clear H
          have H := H1
          clear H1
          have H' := Aside0.mk H
          clear H
          go_wp2
          go_meet
          case rel => exact ⟨_, (true), (by first | rfl | (simp; done) | (simp [*]; done)), H', ⟨by have := HK1.out; have := HJ11.out; first | omega | exact Nat.le_refl _⟩, ⟨zr0 HO_6⟩, ⟨zr0 HO_7⟩, ⟨zk0 BK310⟩, ⟨zk0 BK318⟩, ⟨by repeat (first | exact zh0 HB | refine below_set ?_ GE310.out | refine below_set ?_ GE318.out)⟩⟩
         ·replace c28 := Bool.eq_false_iff.mpr c28
          subst c28
          have H1 : (if ((rd_T61 l0_0 x17_1).f2) > 0 then (impl_Rope_split.j2 kj11 a1 x6_1 x7_1 x8_1 (wrap64 (a1 - x8_1)) l0_0 (l0_0.length : Int) x17_1 (decide ((wrap64 (a1 - x8_1)) ≥ ((rd_T61 l0_0 x17_1).f2))) l0_0 ((rd_T61 l0_0 x17_1).f0) ((rd_T61 l0_0 x17_1).f1) ((rd_T61 l0_0 x17_1).f2) ((rd_T61 l0_0 x17_1).f3)) else (impl_Rope_split.j2 kj11 a1 x6_1 x7_1 x8_1 (wrap64 (a1 - x8_1)) l0_0 (l0_0.length : Int) x17_1 false l0_0 ((rd_T61 l0_0 x17_1).f0) ((rd_T61 l0_0 x17_1).f1) ((rd_T61 l0_0 x17_1).f2) ((rd_T61 l0_0 x17_1).f3))) = some (r1, r2) := by rw [if_neg (show ¬ (false = true) by decide)] at H; exact H
          clear H
          have H := H1
          clear H1
          by_cases c29 : ((rd_T61 l0_0 x17_1).f2) > 0
          ·rw [if_pos c29] at H
           have c29b0 : decide (0 < ((rd_T61 l0_0 x17_1).f2)) = true := decide_eq_true c29
           clear c29
           (first | rw [c29b0] | (simp only [i64_w, i32_w]; rw [c29b0]) | skip)
           have H' := Aside0.mk H
           clear H
           have hnb30 := NB318_310.out
           have hnc30 := NB310_318.out
           have hcz31_0 := zc0 BK318 0 rfl
           have hcz31_1 := zc0 BK318 1 rfl
           have hcz31_2 := zc0 BK318 2 rfl
           have hcz31_3 := zc0 BK318 3 rfl
           have hfz31_0 := blk_frozen BK318.out 0
           have hfz31_1 := blk_frozen BK318.out 1
           have hfz31_2 := blk_frozen BK318.out 2
           have hfz31_3 := blk_frozen BK318.out 3
           go_wp2
           go_meet
           case rel => exact ⟨_, (decide ((wrap64 (a1 - x8_1)) ≥ ((rd_T61 l0_0 x17_1).f2))), (by first | rfl | (simp; done) | (simp [*]; done)), H', ⟨by have := HK1.out; have := HJ11.out; first | omega | exact Nat.le_refl _⟩, ⟨zr0 HO_6⟩, ⟨zr0 HO_7⟩, ⟨zk0 BK310⟩, ⟨zk0 BK318⟩, ⟨by repeat (first | exact zh0 HB | refine below_set ?_ GE310.out | refine below_set ?_ GE318.out)⟩⟩
          ·rw [if_neg c29] at H
           have c29b0 : decide (0 < ((rd_T61 l0_0 x17_1).f2)) = false := decide_eq_false c29
           clear c29
           (first | rw [c29b0] | (simp only [i64_w, i32_w]; rw [c29b0]) | skip)
           have H' := Aside0.mk H
           clear H
           have hnb32 := NB318_310.out
           have hnc32 := NB310_318.out
           have hcz33_0 := zc0 BK318 0 rfl
           have hcz33_1 := zc0 BK318 1 rfl
           have hcz33_2 := zc0 BK318 2 rfl
           have hcz33_3 := zc0 BK318 3 rfl
           have hfz33_0 := blk_frozen BK318.out 0
           have hfz33_1 := blk_frozen BK318.out 1
           have hfz33_2 := blk_frozen BK318.out 2
           have hfz33_3 := blk_frozen BK318.out 3
           go_wp2
           go_meet
           case rel => exact ⟨_, (false), (by first | rfl | (simp; done) | (simp [*]; done)), H', ⟨by have := HK1.out; have := HJ11.out; first | omega | exact Nat.le_refl _⟩, ⟨zr0 HO_6⟩, ⟨zr0 HO_7⟩, ⟨zk0 BK310⟩, ⟨zk0 BK318⟩, ⟨by repeat (first | exact zh0 HB | refine below_set ?_ GE310.out | refine below_set ?_ GE318.out)⟩⟩
        case rest =>
         clear HC27
         try clear c1
         try clear c2
         try clear p2
         try clear c3
         try clear p3
         try clear q3
         try clear hx3
         try clear p6
         try clear c9
         try clear c9b0
         try clear c10
         try clear c10b0
         try clear c11
         try clear c11b0
         try clear c14
         try clear c16
         try clear c16b0
         try clear c16b1
         try clear c17
         try clear c17b0
         try clear c18
         try clear c21
         try clear c25
         try clear c28
         try clear c29
         try clear c29b0
         try clear c30
         try clear p31
         try clear q31
         try clear hx31
         try clear c32
         try clear hcz15_0
         try clear hcz15_1
         try clear hcz15_2
         try clear hcz15_3
         try clear hcz19_0
         try clear hcz19_1
         try clear hcz19_2
         try clear hcz19_3
         try clear hcz22_0
         try clear hcz22_1
         try clear hcz22_2
         try clear hcz22_3
         try clear hcz23_0
         try clear hcz26_0
         try clear hcz26_1
         try clear hcz26_2
         try clear hcz26_3
         try clear hcz31_0
         try clear hcz31_1
         try clear hcz31_2
         try clear hcz31_3
         try clear hcz33_0
         try clear hcz33_1
         try clear hcz33_2
         try clear hcz33_3
         try clear hcz8_0
         try clear hfz15_0
         try clear hfz15_1
         try clear hfz15_2
         try clear hfz15_3
         try clear hfz19_0
         try clear hfz19_1
         try clear hfz19_2
         try clear hfz19_3
         try clear hfz22_0
         try clear hfz22_1
         try clear hfz22_2
         try clear hfz22_3
         try clear hfz23_0
         try clear hfz26_0
         try clear hfz26_1
         try clear hfz26_2
         try clear hfz26_3
         try clear hfz31_0
         try clear hfz31_1
         try clear hfz31_2
         try clear hfz31_3
         try clear hfz33_0
         try clear hfz33_1
         try clear hfz33_2
         try clear hfz33_3
         try clear hfz8_0
         try clear hx317_0
         try clear hx317_1
         try clear hx317_2
         try clear hx317_3
         try clear p2
         try clear p3
         try clear p317
         try clear p6
         try clear q3
         try clear q317
         obtain ⟨kq, x48_26, rfl, HA, HJ26, HO_6, HO_7, BK310, BK318, HB⟩ := hcut
         cases kq with
         | zero => exact absurd HA.out (by simp [impl_Rope_split.j2])
         | succ kj26 =>
          have H := HA.out
          clear HA
          simp only [impl_Rope_split.j2] at H
          by_cases c34 : x48_26 = true
          ·subst c34
           have H1 : (if x6_1.length < 4398046511104 then (impl_Rope_split.l0 kj26 a1 (x6_1 ++ [(⟨((rd_T61 l0_0 x17_1).f0), ((rd_T61 l0_0 x17_1).f1), ((rd_T61 l0_0 x17_1).f2), ((rd_T61 l0_0 x17_1).f3)⟩ : S61)]) x7_1 (wrap64 (x8_1 + ((rd_T61 l0_0 x17_1).f2))) l0_0 (l0_0.length : Int) (wrap64 (x17_1 + 1)) l0_0) else (none)) = some (r1, r2) := by rw [if_pos rfl] at H; exact H
           clear H
           have H := H1
           clear H1
           by_cases c35 : x6_1.length < 4398046511104
           ·rw [if_pos c35] at H
            have LMc35 := Aside0.mk c35
            clear c35
            obtain ⟨y320, hy320⟩ : ∃ y_ : List (S61), y_ = (x6_1 ++ [(⟨((rd_T61 l0_0 x17_1).f0), ((rd_T61 l0_0 x17_1).f1), ((rd_T61 l0_0 x17_1).f2), ((rd_T61 l0_0 x17_1).f3)⟩ : S61)]) := ⟨_, rfl⟩
            replace H : (impl_Rope_split.l0 kj26 a1 y320 x7_1 (wrap64 (x8_1 + ((rd_T61 l0_0 x17_1).f2))) l0_0 (l0_0.length : Int) (wrap64 (x17_1 + 1)) l0_0) = some (r1, r2) := by first | (rw [hy320]; with_reducible exact H) | (have H2_ := (Option.bind_some _ _).symm.trans H; rw [hy320]; with_reducible exact H2_) | (have H2_ := (Option.bind_some _ _).symm.trans H; with_reducible exact H2_) | with_reducible exact H | (rw [hy320]; exact H) | exact H
            have Ny320 := Aside0.mk hy320
            clear hy320
            have H' := Aside0.mk H
            clear H
            have hnb36 := NB318_310.out
            have hnc36 := NB310_318.out
            have hcz37_0 := zc0 BK318 0 rfl
            have hcz37_1 := zc0 BK318 1 rfl
            have hcz37_2 := zc0 BK318 2 rfl
            have hcz37_3 := zc0 BK318 3 rfl
            have hfz37_0 := blk_frozen BK318.out 0
            have hfz37_1 := blk_frozen BK318.out 1
            have hfz37_2 := blk_frozen BK318.out 2
            have hfz37_3 := blk_frozen BK318.out 3
            go_wp2_with (first | ((with_reducible refine gate_builtin (b := .append) (xs := #[.tmp 71, .tmp 73]) rfl ?_); at_builtin; refine Kd.R_append k61 (w0 := w) w.heap.size rfl (.tmp 71) (.tmp 73) 30 61 (.agg #[(.int .i64 0), (.int .i64 0), (.int .i64 0), (.int .i64 0)]) 32 rfl Try.underlying30 info61 rfl (by decide) (by omega) u6 x6_1 (⟨((rd_T61 l0_0 x17_1).f0), ((rd_T61 l0_0 x17_1).f1), ((rd_T61 l0_0 x17_1).f2), ((rd_T61 l0_0 x17_1).f3)⟩ : S61) [.int .i64 ((rd_T61 l0_0 x17_1).f0), .int .i64 ((rd_T61 l0_0 x17_1).f1), .int .i64 ((rd_T61 l0_0 x17_1).f2), .int .i64 ((rd_T61 l0_0 x17_1).f3)] (fun k_ => some k_ ≠ (u7 : Value).ownBlock ∧ k_ ≠ gb318) (fun _ => False) rfl rfl ?aP (fun _ hk => hk.elim) ?aF ?aO ?aB ?aS ?aL ?_; (case aP => exact k61_mkM _ _ _ (⟨((rd_T61 l0_0 x17_1).f0), ((rd_T61 l0_0 x17_1).f1), ((rd_T61 l0_0 x17_1).f2), ((rd_T61 l0_0 x17_1).f3)⟩ : S61)); (case aB => exact (by repeat (first | exact zh0 HB | refine below_set ?_ GE310.out | refine below_set ?_ GE318.out))); (case aF => exact (fun k_ hk => ⟨Kd.fresh' (Kd.R_lt (zr0 HO_7)) k_ hk, Kd.freshB (g := gb318) (o := .cells #[.int .i64 ((rd_T61 l0_0 x17_1).f0), .int .i64 ((rd_T61 l0_0 x17_1).f1), .int .i64 ((rd_T61 l0_0 x17_1).f2), .int .i64 ((rd_T61 l0_0 x17_1).f3)] 61 (0, 0)) (zk0 BK318) k_ hk⟩)); (case aO => exact (zr0 HO_6)); (case aS => exact (below_size (by repeat (first | exact zh0 HB | refine below_set ?_ GE310.out | refine below_set ?_ GE318.out)))); (case aL => have := LMc35.out; omega); intro v321 w38 ho hb hg hat; rw [← Ny320.out] at ho; have n0_ := Aside0.mk (Kd.R_after (ok := (fun k_ => k_ ≠ gb318)) (by (with_reducible repeat (first | apply Kd.R_alloc | apply Kd.R_drewN | apply Kd.R_drew)); exact Kd.R_mono HO_7.out (fun _ hk => ⟨hk.2, hk.1⟩)) hg hat); have n1_ := Aside0.mk (blk_grown (g := gb310) (o := .cells #[.slice (some ad317) l0_0.length c0_0] 32 (0, 0)) (zk0 BK310) hg (Kd.R_ne HO_6.out BK310.out (by decide))); have n2_ := Aside0.mk (blk_grown (g := gb318) (o := .cells #[.int .i64 ((rd_T61 l0_0 x17_1).f0), .int .i64 ((rd_T61 l0_0 x17_1).f1), .int .i64 ((rd_T61 l0_0 x17_1).f2), .int .i64 ((rd_T61 l0_0 x17_1).f3)] 61 (0, 0)) (zk0 BK318) hg (Kd.R_away HO_6.out (fun _ hk => hk.2))); have n3_ := Aside0.mk (hb); have n4_ := Aside0.mk (ho); clear HO_7; clear BK310; clear BK318; clear HB; clear HO_6; have HO_7 := n0_; have BK310 := n1_; have BK318 := n2_; have HB := n3_; have HO322 := n4_; clear n0_ n1_ n2_ n3_ n4_; clear ho hb hg hat; have hcz39_0 := zc0 BK318 0 rfl; have hcz39_1 := zc0 BK318 1 rfl; have hcz39_2 := zc0 BK318 2 rfl; have hcz39_3 := zc0 BK318 3 rfl; have hfz39_0 := blk_frozen BK318.out 0; have hfz39_1 := blk_frozen BK318.out 1; have hfz39_2 := blk_frozen BK318.out 2; have hfz39_3 := blk_frozen BK318.out 3))
            go_roundg kj26
            case measure => have := HK1.out; have := HJ11.out; have := HJ26.out; omega
            case rel => exact ⟨(y320), (x7_1), (wrap64 (x8_1 + ((rd_T61 l0_0 x17_1).f2))), (wrap64 (x17_1 + 1)), (by first | rfl | (simp; done) | (simp [*]; done)), (by first | rfl | (simp; done) | (simp [*]; done)), H', ⟨by have := HK1.out; have := HJ11.out; have := HJ26.out; omega⟩, ⟨by (with_reducible repeat (first | apply Kd.R_alloc | apply Kd.R_drewN | apply Kd.R_drew)); exact Kd.R_mono HO322.out (fun _ hk => hk.1)⟩, ⟨by (with_reducible repeat (first | apply Kd.R_alloc | apply Kd.R_drewN | apply Kd.R_drew)); exact Kd.R_mono HO_7.out (fun _ hk => hk.2)⟩, ⟨zk0 BK310⟩, ⟨by repeat (first | exact zh0 HB | refine below_set ?_ GE310.out | refine below_set ?_ GE318.out)⟩⟩
           ·rw [if_neg c35] at H
            exact absurd H (by simp)
          ·replace c34 := Bool.eq_false_iff.mpr c34
           subst c34
           have H1 : (if (wrap64 (a1 - x8_1)) ≤ 0 then (if x7_1.length < 4398046511104 then (impl_Rope_split.l0 kj26 a1 x6_1 (x7_1 ++ [(⟨((rd_T61 l0_0 x17_1).f0), ((rd_T61 l0_0 x17_1).f1), ((rd_T61 l0_0 x17_1).f2), ((rd_T61 l0_0 x17_1).f3)⟩ : S61)]) (wrap64 (x8_1 + ((rd_T61 l0_0 x17_1).f2))) l0_0 (l0_0.length : Int) (wrap64 (x17_1 + 1)) l0_0) else (none)) else ((impl_Window_part.f ((rd_T61 l0_0 x17_1).f0) ((rd_T61 l0_0 x17_1).f1) ((rd_T61 l0_0 x17_1).f2) ((rd_T61 l0_0 x17_1).f3) 0 (wrap64 (a1 - x8_1))).bind fun bt326 => (if x6_1.length < 4398046511104 then (if x7_1.length < 4398046511104 then (impl_Rope_split.l0 kj26 a1 (x6_1 ++ [(⟨bt326.1, bt326.2.1, bt326.2.2.1, bt326.2.2.2⟩ : S61)]) (x7_1 ++ [(⟨((rd_T61 l0_0 x17_1).f0), wrap64 (((rd_T61 l0_0 x17_1).f1) + (wrap64 (a1 - x8_1))), wrap64 (((rd_T61 l0_0 x17_1).f2) - (wrap64 (a1 - x8_1))), wrap64 (((rd_T61 l0_0 x17_1).f3) - (wrap64 (a1 - x8_1)))⟩ : S61)]) (wrap64 (x8_1 + ((rd_T61 l0_0 x17_1).f2))) l0_0 (l0_0.length : Int) (wrap64 (x17_1 + 1)) l0_0) else (none)) else (none)))) = some (r1, r2) := by rw [if_neg (show ¬ (false = true) by decide)] at H; exact H
           clear H
           have H := H1
           clear H1
           by_cases c40 : (wrap64 (a1 - x8_1)) ≤ 0
           ·rw [if_pos c40] at H
            have c40b0 : decide ((wrap64 (a1 - x8_1)) ≤ 0) = true := decide_eq_true c40
            clear c40
            by_cases c41 : x7_1.length < 4398046511104
            ·rw [if_pos c41] at H
             have LMc41 := Aside0.mk c41
             clear c41
             obtain ⟨y323, hy323⟩ : ∃ y_ : List (S61), y_ = (x7_1 ++ [(⟨((rd_T61 l0_0 x17_1).f0), ((rd_T61 l0_0 x17_1).f1), ((rd_T61 l0_0 x17_1).f2), ((rd_T61 l0_0 x17_1).f3)⟩ : S61)]) := ⟨_, rfl⟩
             replace H : (impl_Rope_split.l0 kj26 a1 x6_1 y323 (wrap64 (x8_1 + ((rd_T61 l0_0 x17_1).f2))) l0_0 (l0_0.length : Int) (wrap64 (x17_1 + 1)) l0_0) = some (r1, r2) := by first | (rw [hy323]; with_reducible exact H) | (have H2_ := (Option.bind_some _ _).symm.trans H; rw [hy323]; with_reducible exact H2_) | (have H2_ := (Option.bind_some _ _).symm.trans H; with_reducible exact H2_) | with_reducible exact H | (rw [hy323]; exact H) | exact H
             have Ny323 := Aside0.mk hy323
             clear hy323
             have H' := Aside0.mk H
             clear H
             have hnb42 := NB318_310.out
             have hnc42 := NB310_318.out
             have hcz43_0 := zc0 BK318 0 rfl
             have hcz43_1 := zc0 BK318 1 rfl
             have hcz43_2 := zc0 BK318 2 rfl
             have hcz43_3 := zc0 BK318 3 rfl
             have hfz43_0 := blk_frozen BK318.out 0
             have hfz43_1 := blk_frozen BK318.out 1
             have hfz43_2 := blk_frozen BK318.out 2
             have hfz43_3 := blk_frozen BK318.out 3
             go_wp2_with (first | ((with_reducible refine gate_builtin (b := .append) (xs := #[.tmp 78, .tmp 80]) rfl ?_); at_builtin; refine Kd.R_append k61 (w0 := w) w.heap.size rfl (.tmp 78) (.tmp 80) 30 61 (.agg #[(.int .i64 0), (.int .i64 0), (.int .i64 0), (.int .i64 0)]) 32 rfl Try.underlying30 info61 rfl (by decide) (by omega) u7 x7_1 (⟨((rd_T61 l0_0 x17_1).f0), ((rd_T61 l0_0 x17_1).f1), ((rd_T61 l0_0 x17_1).f2), ((rd_T61 l0_0 x17_1).f3)⟩ : S61) [.int .i64 ((rd_T61 l0_0 x17_1).f0), .int .i64 ((rd_T61 l0_0 x17_1).f1), .int .i64 ((rd_T61 l0_0 x17_1).f2), .int .i64 ((rd_T61 l0_0 x17_1).f3)] (fun k_ => some k_ ≠ (u6 : Value).ownBlock ∧ k_ ≠ gb318) (fun _ => False) rfl rfl ?aP (fun _ hk => hk.elim) ?aF ?aO ?aB ?aS ?aL ?_; (case aP => exact k61_mkM _ _ _ (⟨((rd_T61 l0_0 x17_1).f0), ((rd_T61 l0_0 x17_1).f1), ((rd_T61 l0_0 x17_1).f2), ((rd_T61 l0_0 x17_1).f3)⟩ : S61)); (case aB => exact (by repeat (first | exact zh0 HB | refine below_set ?_ GE310.out | refine below_set ?_ GE318.out))); (case aF => exact (fun k_ hk => ⟨Kd.fresh' (Kd.R_lt (zr0 HO_6)) k_ hk, Kd.freshB (g := gb318) (o := .cells #[.int .i64 ((rd_T61 l0_0 x17_1).f0), .int .i64 ((rd_T61 l0_0 x17_1).f1), .int .i64 ((rd_T61 l0_0 x17_1).f2), .int .i64 ((rd_T61 l0_0 x17_1).f3)] 61 (0, 0)) (zk0 BK318) k_ hk⟩)); (case aO => exact (zr0 HO_7)); (case aS => exact (below_size (by repeat (first | exact zh0 HB | refine below_set ?_ GE310.out | refine below_set ?_ GE318.out)))); (case aL => have := LMc41.out; omega); intro v324 w44 ho hb hg hat; rw [← Ny323.out] at ho; have n0_ := Aside0.mk (Kd.R_after (ok := (fun k_ => k_ ≠ gb318)) (by (with_reducible repeat (first | apply Kd.R_alloc | apply Kd.R_drewN | apply Kd.R_drew)); exact Kd.R_mono HO_6.out (fun _ hk => ⟨hk.2, hk.1⟩)) hg hat); have n1_ := Aside0.mk (blk_grown (g := gb310) (o := .cells #[.slice (some ad317) l0_0.length c0_0] 32 (0, 0)) (zk0 BK310) hg (Kd.R_ne HO_7.out BK310.out (by decide))); have n2_ := Aside0.mk (blk_grown (g := gb318) (o := .cells #[.int .i64 ((rd_T61 l0_0 x17_1).f0), .int .i64 ((rd_T61 l0_0 x17_1).f1), .int .i64 ((rd_T61 l0_0 x17_1).f2), .int .i64 ((rd_T61 l0_0 x17_1).f3)] 61 (0, 0)) (zk0 BK318) hg (Kd.R_away HO_7.out (fun _ hk => hk.2))); have n3_ := Aside0.mk (hb); have n4_ := Aside0.mk (ho); clear HO_6; clear BK310; clear BK318; clear HB; clear HO_7; have HO_6 := n0_; have BK310 := n1_; have BK318 := n2_; have HB := n3_; have HO325 := n4_; clear n0_ n1_ n2_ n3_ n4_; clear ho hb hg hat; have hcz45_0 := zc0 BK318 0 rfl; have hcz45_1 := zc0 BK318 1 rfl; have hcz45_2 := zc0 BK318 2 rfl; have hcz45_3 := zc0 BK318 3 rfl; have hfz45_0 := blk_frozen BK318.out 0; have hfz45_1 := blk_frozen BK318.out 1; have hfz45_2 := blk_frozen BK318.out 2; have hfz45_3 := blk_frozen BK318.out 3))
             go_roundg kj26
             case measure => have := HK1.out; have := HJ11.out; have := HJ26.out; omega
             case rel => exact ⟨(x6_1), (y323), (wrap64 (x8_1 + ((rd_T61 l0_0 x17_1).f2))), (wrap64 (x17_1 + 1)), (by first | rfl | (simp; done) | (simp [*]; done)), (by first | rfl | (simp; done) | (simp [*]; done)), H', ⟨by have := HK1.out; have := HJ11.out; have := HJ26.out; omega⟩, ⟨by (with_reducible repeat (first | apply Kd.R_alloc | apply Kd.R_drewN | apply Kd.R_drew)); exact Kd.R_mono HO_6.out (fun _ hk => hk.2)⟩, ⟨by (with_reducible repeat (first | apply Kd.R_alloc | apply Kd.R_drewN | apply Kd.R_drew)); exact Kd.R_mono HO325.out (fun _ hk => hk.1)⟩, ⟨zk0 BK310⟩, ⟨by repeat (first | exact zh0 HB | refine below_set ?_ GE310.out | refine below_set ?_ GE318.out)⟩⟩
            ·rw [if_neg c41] at H
             exact absurd H (by simp)
           ·rw [if_neg c40] at H
            have c40b0 : decide ((wrap64 (a1 - x8_1)) ≤ 0) = false := decide_eq_false c40
            clear c40
            replace H := Option.bind_eq_some_iff.mp H
            obtain ⟨⟨t326, t327, t328, t329⟩, A460, H⟩ := H
            replace H : (if x6_1.length < 4398046511104 then (if x7_1.length < 4398046511104 then (impl_Rope_split.l0 kj26 a1 (x6_1 ++ [(⟨t326, t327, t328, t329⟩ : S61)]) (x7_1 ++ [(⟨((rd_T61 l0_0 x17_1).f0), wrap64 (((rd_T61 l0_0 x17_1).f1) + (wrap64 (a1 - x8_1))), wrap64 (((rd_T61 l0_0 x17_1).f2) - (wrap64 (a1 - x8_1))), wrap64 (((rd_T61 l0_0 x17_1).f3) - (wrap64 (a1 - x8_1)))⟩ : S61)]) (wrap64 (x8_1 + ((rd_T61 l0_0 x17_1).f2))) l0_0 (l0_0.length : Int) (wrap64 (x17_1 + 1)) l0_0) else (none)) else (none)) = some (r1, r2) := H
            have A46 := Aside0.mk A460
            clear A460
            by_cases c47 : x6_1.length < 4398046511104
            ·rw [if_pos c47] at H
             have LMc47 := Aside0.mk c47
             clear c47
             obtain ⟨y330, hy330⟩ : ∃ y_ : List (S61), y_ = (x6_1 ++ [(⟨t326, t327, t328, t329⟩ : S61)]) := ⟨_, rfl⟩
             replace H : (if x7_1.length < 4398046511104 then (impl_Rope_split.l0 kj26 a1 y330 (x7_1 ++ [(⟨((rd_T61 l0_0 x17_1).f0), wrap64 (((rd_T61 l0_0 x17_1).f1) + (wrap64 (a1 - x8_1))), wrap64 (((rd_T61 l0_0 x17_1).f2) - (wrap64 (a1 - x8_1))), wrap64 (((rd_T61 l0_0 x17_1).f3) - (wrap64 (a1 - x8_1)))⟩ : S61)]) (wrap64 (x8_1 + ((rd_T61 l0_0 x17_1).f2))) l0_0 (l0_0.length : Int) (wrap64 (x17_1 + 1)) l0_0) else (none)) = some (r1, r2) := by first | (rw [hy330]; with_reducible exact H) | (have H2_ := (Option.bind_some _ _).symm.trans H; rw [hy330]; with_reducible exact H2_) | (have H2_ := (Option.bind_some _ _).symm.trans H; with_reducible exact H2_) | with_reducible exact H | (rw [hy330]; exact H) | exact H
             have Ny330 := Aside0.mk hy330
             clear hy330
             by_cases c48 : x7_1.length < 4398046511104
             ·rw [if_pos c48] at H
              have LMc48 := Aside0.mk c48
              clear c48
              obtain ⟨y333, hy333⟩ : ∃ y_ : List (S61), y_ = (x7_1 ++ [(⟨((rd_T61 l0_0 x17_1).f0), wrap64 (((rd_T61 l0_0 x17_1).f1) + (wrap64 (a1 - x8_1))), wrap64 (((rd_T61 l0_0 x17_1).f2) - (wrap64 (a1 - x8_1))), wrap64 (((rd_T61 l0_0 x17_1).f3) - (wrap64 (a1 - x8_1)))⟩ : S61)]) := ⟨_, rfl⟩
              replace H : (impl_Rope_split.l0 kj26 a1 y330 y333 (wrap64 (x8_1 + ((rd_T61 l0_0 x17_1).f2))) l0_0 (l0_0.length : Int) (wrap64 (x17_1 + 1)) l0_0) = some (r1, r2) := by first | (rw [hy333]; with_reducible exact H) | (have H2_ := (Option.bind_some _ _).symm.trans H; rw [hy333]; with_reducible exact H2_) | (have H2_ := (Option.bind_some _ _).symm.trans H; with_reducible exact H2_) | with_reducible exact H | (rw [hy333]; exact H) | exact H
              have Ny333 := Aside0.mk hy333
              clear hy333
              have H' := Aside0.mk H
              clear H
              have hnb49 := NB318_310.out
              have hnc49 := NB310_318.out
              have hcz50_0 := zc0 BK318 0 rfl
              have hcz50_1 := zc0 BK318 1 rfl
              have hcz50_2 := zc0 BK318 2 rfl
              have hcz50_3 := zc0 BK318 3 rfl
              have hfz50_0 := blk_frozen BK318.out 0
              have hfz50_1 := blk_frozen BK318.out 1
              have hfz50_2 := blk_frozen BK318.out 2
              have hfz50_3 := blk_frozen BK318.out 3
              go_wp2_with (first | ((with_reducible refine gate_callee (f := 103) rfl ?_); refine goesL_ (some 27) rfl rfl Try.func103 (by kernel_rfl) rfl #[.agg #[.int .i64 ((rd_T61 l0_0 x17_1).f0), .int .i64 ((rd_T61 l0_0 x17_1).f1), .int .i64 ((rd_T61 l0_0 x17_1).f2), .int .i64 ((rd_T61 l0_0 x17_1).f3)], .int .i64 0, .int .i64 (wrap64 (a1 - x8_1))] rfl (by (try simp only [zq1, zq2, zq3]); first | done | rfl | (simp only [List.length_drop, List.length_take]; rfl)) ?_; (with_reducible refine (impl_Window_part.calls ((rd_T61 l0_0 x17_1).f0) ((rd_T61 l0_0 x17_1).f1) ((rd_T61 l0_0 x17_1).f2) ((rd_T61 l0_0 x17_1).f3) 0 (wrap64 (a1 - x8_1)) t326 t327 t328 t329 _ A46.out).mono ?_); rintro e w51 ⟨rfl, hb⟩; refine ⟨_, rfl, ?_⟩; replace HO_6 := zrb HO_6 hb; replace HO_7 := zrb HO_7 hb; replace BK310 := zb0 BK310 hb; replace BK318 := zb0 BK318 hb; replace HB := zhs HB hb; (try clear hb); (try clear hb2); (try clear hk); (try clear hi)) | ((with_reducible refine gate_builtin (b := .append) (xs := #[.tmp 24, .tmp 28]) rfl ?_); at_builtin; refine Kd.R_append k61 (w0 := w) w.heap.size rfl (.tmp 24) (.tmp 28) 30 61 (.agg #[(.int .i64 0), (.int .i64 0), (.int .i64 0), (.int .i64 0)]) 32 rfl Try.underlying30 info61 rfl (by decide) (by omega) u6 x6_1 (⟨t326, t327, t328, t329⟩ : S61) [.int .i64 t326, .int .i64 t327, .int .i64 t328, .int .i64 t329] (fun k_ => some k_ ≠ (u7 : Value).ownBlock ∧ k_ ≠ gb318) (fun _ => False) rfl rfl ?aP (fun _ hk => hk.elim) ?aF ?aO ?aB ?aS ?aL ?_; (case aP => exact k61_mkM _ _ _ (⟨t326, t327, t328, t329⟩ : S61)); (case aB => exact (zh0 HB)); (case aF => exact (fun k_ hk => ⟨Kd.fresh' (Kd.R_lt (zr0 HO_7)) k_ hk, Kd.freshB (g := gb318) (o := .cells #[.int .i64 ((rd_T61 l0_0 x17_1).f0), .int .i64 ((rd_T61 l0_0 x17_1).f1), .int .i64 ((rd_T61 l0_0 x17_1).f2), .int .i64 ((rd_T61 l0_0 x17_1).f3)] 61 (0, 0)) (zk0 BK318) k_ hk⟩)); (case aO => exact (zr0 HO_6)); (case aS => exact (below_size (zh0 HB))); (case aL => have := LMc47.out; omega); intro v331 w52 ho hb hg hat; rw [← Ny330.out] at ho; have n0_ := Aside0.mk (Kd.R_after (ok := (fun k_ => k_ ≠ gb318)) (by (with_reducible repeat (first | apply Kd.R_alloc | apply Kd.R_drewN | apply Kd.R_drew)); exact Kd.R_mono HO_7.out (fun _ hk => ⟨hk.2, hk.1⟩)) hg hat); have n1_ := Aside0.mk (blk_grown (g := gb310) (o := .cells #[.slice (some ad317) l0_0.length c0_0] 32 (0, 0)) (zk0 BK310) hg (Kd.R_ne HO_6.out BK310.out (by decide))); have n2_ := Aside0.mk (blk_grown (g := gb318) (o := .cells #[.int .i64 ((rd_T61 l0_0 x17_1).f0), .int .i64 ((rd_T61 l0_0 x17_1).f1), .int .i64 ((rd_T61 l0_0 x17_1).f2), .int .i64 ((rd_T61 l0_0 x17_1).f3)] 61 (0, 0)) (zk0 BK318) hg (Kd.R_away HO_6.out (fun _ hk => hk.2))); have n3_ := Aside0.mk (hb); have n4_ := Aside0.mk (ho); clear HO_7; clear BK310; clear BK318; clear HB; clear HO_6; have HO_7 := n0_; have BK310 := n1_; have BK318 := n2_; have HB := n3_; have HO332 := n4_; clear n0_ n1_ n2_ n3_ n4_; clear ho hb hg hat; have hcz53_0 := zc0 BK318 0 rfl; have hcz53_1 := zc0 BK318 1 rfl; have hcz53_2 := zc0 BK318 2 rfl; have hcz53_3 := zc0 BK318 3 rfl; have hfz53_0 := blk_frozen BK318.out 0; have hfz53_1 := blk_frozen BK318.out 1; have hfz53_2 := blk_frozen BK318.out 2; have hfz53_3 := blk_frozen BK318.out 3) | ((with_reducible refine gate_builtin (b := .append) (xs := #[.tmp 30, .tmp 46]) rfl ?_); at_builtin; refine Kd.R_append k61 (w0 := w) w.heap.size rfl (.tmp 30) (.tmp 46) 30 61 (.agg #[(.int .i64 0), (.int .i64 0), (.int .i64 0), (.int .i64 0)]) 32 rfl Try.underlying30 info61 rfl (by decide) (by omega) u7 x7_1 (⟨((rd_T61 l0_0 x17_1).f0), wrap64 (((rd_T61 l0_0 x17_1).f1) + (wrap64 (a1 - x8_1))), wrap64 (((rd_T61 l0_0 x17_1).f2) - (wrap64 (a1 - x8_1))), wrap64 (((rd_T61 l0_0 x17_1).f3) - (wrap64 (a1 - x8_1)))⟩ : S61) [.int .i64 ((rd_T61 l0_0 x17_1).f0), .int .i64 (wrap64 (((rd_T61 l0_0 x17_1).f1) + (wrap64 (a1 - x8_1)))), .int .i64 (wrap64 (((rd_T61 l0_0 x17_1).f2) - (wrap64 (a1 - x8_1)))), .int .i64 (wrap64 (((rd_T61 l0_0 x17_1).f3) - (wrap64 (a1 - x8_1))))] (fun k_ => some k_ ≠ (v331 : Value).ownBlock ∧ k_ ≠ gb318) (fun _ => False) rfl rfl ?aP (fun _ hk => hk.elim) ?aF ?aO ?aB ?aS ?aL ?_; (case aP => exact k61_mkM _ _ _ (⟨((rd_T61 l0_0 x17_1).f0), wrap64 (((rd_T61 l0_0 x17_1).f1) + (wrap64 (a1 - x8_1))), wrap64 (((rd_T61 l0_0 x17_1).f2) - (wrap64 (a1 - x8_1))), wrap64 (((rd_T61 l0_0 x17_1).f3) - (wrap64 (a1 - x8_1)))⟩ : S61)); (case aB => exact (zh0 HB)); (case aF => exact (fun k_ hk => ⟨Kd.fresh' (Kd.R_lt (zr0 HO332)) k_ hk, Kd.freshB (g := gb318) (o := .cells #[.int .i64 ((rd_T61 l0_0 x17_1).f0), .int .i64 ((rd_T61 l0_0 x17_1).f1), .int .i64 ((rd_T61 l0_0 x17_1).f2), .int .i64 ((rd_T61 l0_0 x17_1).f3)] 61 (0, 0)) (zk0 BK318) k_ hk⟩)); (case aO => exact (by (with_reducible repeat (first | apply Kd.R_alloc | apply Kd.R_drewN | apply Kd.R_drew)); exact Kd.R_mono HO_7.out (fun _ hk => ⟨hk.2, hk.1⟩))); (case aS => exact (below_size (zh0 HB))); (case aL => have := LMc48.out; omega); intro v334 w54 ho hb hg hat; rw [← Ny333.out] at ho; have n0_ := Aside0.mk (blk_grown (g := gb310) (o := .cells #[.slice (some ad317) l0_0.length c0_0] 32 (0, 0)) (zk0 BK310) hg (Kd.R_ne HO_7.out BK310.out (by decide))); have n1_ := Aside0.mk (blk_grown (g := gb318) (o := .cells #[.int .i64 ((rd_T61 l0_0 x17_1).f0), .int .i64 ((rd_T61 l0_0 x17_1).f1), .int .i64 ((rd_T61 l0_0 x17_1).f2), .int .i64 ((rd_T61 l0_0 x17_1).f3)] 61 (0, 0)) (zk0 BK318) hg (Kd.R_away HO_7.out (fun _ hk => hk.1))); have n2_ := Aside0.mk (Kd.R_after (ok := (fun k_ => k_ ≠ gb318)) (by (with_reducible repeat (first | apply Kd.R_alloc | apply Kd.R_drewN | apply Kd.R_drew)); exact Kd.R_mono HO332.out (fun _ hk => ⟨hk.2, hk.1⟩)) hg hat); have n3_ := Aside0.mk (hb); have n4_ := Aside0.mk (ho); clear BK310; clear BK318; clear HO332; clear HB; clear HO_7; have BK310 := n0_; have BK318 := n1_; have HO332 := n2_; have HB := n3_; have HO335 := n4_; clear n0_ n1_ n2_ n3_ n4_; clear ho hb hg hat; have hcz55_0 := zc0 BK318 0 rfl; have hcz55_1 := zc0 BK318 1 rfl; have hcz55_2 := zc0 BK318 2 rfl; have hcz55_3 := zc0 BK318 3 rfl; have hfz55_0 := blk_frozen BK318.out 0; have hfz55_1 := blk_frozen BK318.out 1; have hfz55_2 := blk_frozen BK318.out 2; have hfz55_3 := blk_frozen BK318.out 3))
              go_roundg kj26
              case measure => have := HK1.out; have := HJ11.out; have := HJ26.out; omega
              case rel => exact ⟨(y330), (y333), (wrap64 (x8_1 + ((rd_T61 l0_0 x17_1).f2))), (wrap64 (x17_1 + 1)), (by first | rfl | (simp; done) | (simp [*]; done)), (by first | rfl | (simp; done) | (simp [*]; done)), H', ⟨by have := HK1.out; have := HJ11.out; have := HJ26.out; omega⟩, ⟨by (with_reducible repeat (first | apply Kd.R_alloc | apply Kd.R_drewN | apply Kd.R_drew)); exact Kd.R_mono HO332.out (fun _ hk => hk.2)⟩, ⟨by (with_reducible repeat (first | apply Kd.R_alloc | apply Kd.R_drewN | apply Kd.R_drew)); exact Kd.R_mono HO335.out (fun _ hk => hk.1)⟩, ⟨zk0 BK310⟩, ⟨by repeat (first | exact zh0 HB | refine below_set ?_ GE310.out | refine below_set ?_ GE318.out)⟩⟩
             ·rw [if_neg c48] at H
              exact absurd H (by simp)
            ·rw [if_neg c47] at H
             exact absurd H (by simp)
     ·rw [if_neg c11] at H
      exact absurd H (by simp)
    ·rw [if_neg c10] at H
     exact absurd H (by simp)
   ·rw [if_neg c9] at H
    have c9b0 : decide (x17_1 < (l0_0.length : Int)) = false := decide_eq_false c9
    clear c9
    simp only [Option.some.injEq, Prod.mk.injEq] at H
    obtain ⟨rfl, rfl⟩ := H
    go_wp2
    go_ret2
    exact ⟨_, _, by first | rfl | (simp <;> rfl) | (simp [*] <;> rfl), zr0 HO_6, zr0 HO_7, by repeat (first | exact zh0 HB | refine below_set ?_ GE310.out)⟩

open Go.Proofs.Ytldkbeccpheckab.Cp
/-! ### impl_Rope_isStretch: function 105 -/
def impl_Rope_isStretch.f (k : Nat) (l0_0 : List (S61)) (a1 : Int) (a2 : Int) : Option (Bool) := (impl_Rope_length.f k l0_0).bind fun t337 => ((impl_within.f a2 0 t337).bind fun t338 => (if t338 = true then ((impl_within.f a1 0 a2).bind fun t339 => (some t339)) else (some false)))
theorem impl_Rope_isStretch.mono : ∀ a0 a1 a2 k, LeO (impl_Rope_isStretch.f k a0 a1 a2) (impl_Rope_isStretch.f (k + 1) a0 a1 a2) := by
 intro a0 a1 a2 k
 unfold impl_Rope_isStretch.f
 repeat' first
   | (with_reducible exact impl_Rope_length.mono _ _)
   | (with_reducible exact LeO.refl _)
   | (with_reducible exact LeO.none _)
   | (with_reducible refine LeO.ite ?_ ?_)
   | (with_reducible refine LeO.bind ?_ (fun _ => ?_))
   | exact impl_Rope_length.mono _ _
   | exact LeO.none _
   | refine LeO.ite ?_ ?_
   | refine LeO.bind ?_ (fun _ => ?_)
set_option maxHeartbeats 8000000 in
set_option maxRecDepth 100000 in
theorem impl_Rope_isStretch.calls (k : Nat) (A0_0 : Option Addr) (c0_0 : Nat) (l0_0 : List (S61)) (a1 : Int) (a2 : Int) (r : Bool) (w : World) (hr0_0 : Kd.C k61 w A0_0 l0_0.length l0_0) (hc0_0 : l0_0.length ≤ c0_0) (h : impl_Rope_isStretch.f k l0_0 a1 a2 = some r) :
  Calls Try.prog 105 #[.agg #[.slice A0_0 l0_0.length c0_0], .int .i64 a1, .int .i64 a2] w fun e w' => e = .returned (.bool r) ∧ Below w.heap.size w w' := by
 have hu32 := Try.underlying32
 have HR0_0 := Aside0.mk hr0_0
 have HC0_0 := Aside0.mk hc0_0
 clear hr0_0 hc0_0
 have HB := Aside0.mk (Below.refl w.heap.size w)
 have H : ((impl_Rope_length.f k l0_0).bind fun t337 => ((impl_within.f a2 0 t337).bind fun t338 => (if t338 = true then ((impl_within.f a1 0 a2).bind fun t339 => (some t339)) else (some false)))) = some r := h
 clear h
 replace H := Option.bind_eq_some_iff.mp H
 obtain ⟨t337, A40, H⟩ := H
 replace H : ((impl_within.f a2 0 t337).bind fun t338 => (if t338 = true then ((impl_within.f a1 0 a2).bind fun t339 => (some t339)) else (some false))) = some r := H
 have A4 := Aside0.mk A40
 clear A40
 replace H := Option.bind_eq_some_iff.mp H
 obtain ⟨t338, A50, H⟩ := H
 replace H : (if t338 = true then ((impl_within.f a1 0 a2).bind fun t339 => (some t339)) else (some false)) = some r := H
 have A5 := Aside0.mk A50
 clear A50
 by_cases c6 : t338 = true
 ·subst c6
  have H1 : ((impl_within.f a1 0 a2).bind fun t339 => (some t339)) = some r := by rw [if_pos rfl] at H; exact H
  clear H
  have H := H1
  clear H1
  replace H := Option.bind_eq_some_iff.mp H
  obtain ⟨t339, A70, H⟩ := H
  replace H : (some t339) = some r := H
  have A7 := Aside0.mk A70
  clear A70
  obtain rfl := Option.some.inj H
  go_enter Try.func105, Try.ntmps105
  go_wp2_with (first | ((with_reducible refine gate_dst (N := 3) rfl ?_); refine box_event ?hg (N := 3) ?hd (cs := #[.slice A0_0 l0_0.length c0_0]) (t := 32) ?hr ?_; (case hd => rfl); (case hg => rfl); (case hr => first | (go_simp; done) | (go_simp; rfl)); intro gb336 hg w8 hbox hb; have BK336 := Aside0.mk (hbox); have GW336 := zge HB hg; have GE336 := zge HB hg; replace HB := zhs HB hb; clear hb hbox hg; have hcz9_0 := zc0 BK336 0 rfl; have hfz9_0 := blk_frozen BK336.out 0) | ((with_reducible refine gate_callee (f := 101) rfl ?_); refine goesL_ (some 9) rfl rfl Try.func101 (by kernel_rfl) rfl #[.agg #[.slice A0_0 l0_0.length c0_0]] rfl (by (try simp only [zq1, zq2, zq3]); first | done | rfl | (simp only [List.length_drop, List.length_take]; rfl)) ?_; (with_reducible refine (impl_Rope_length.calls k _ _ l0_0 t337 _ ?side1 ?side2 A4.out).mono ?_); (case side1 => exact Kd.C_below HR0_0.out (zh0 HB)); (case side2 => exact HC0_0.out); rintro e w10 ⟨rfl, hb⟩; refine ⟨_, rfl, ?_⟩; replace BK336 := zb0 BK336 hb; replace HB := zhs HB hb; (try clear hb)) | ((with_reducible refine gate_callee (f := 100) rfl ?_); refine goesL_ (some 10) rfl rfl Try.func100 (by kernel_rfl) rfl #[.int .i64 a2, .int .i64 0, .int .i64 t337] rfl (by (try simp only [zq1, zq2, zq3]); first | done | rfl | (simp only [List.length_drop, List.length_take]; rfl)) ?_; (with_reducible refine (impl_within.calls a2 0 t337 true _ A5.out).mono ?_); rintro e w' ⟨rfl, ⟨nd, rfl⟩⟩; refine ⟨_, rfl, ?_⟩) | (go_at_call 100; (with_reducible refine (impl_within.calls a1 0 a2 t339 _ A7.out).mono ?_); rintro e w' ⟨rfl, ⟨nd, rfl⟩⟩))
  go_ret
  exact ⟨by first | rfl | (simp <;> rfl) | (simp [*] <;> rfl), by repeat (first | exact zh0 HB | refine below_set ?_ GE336.out)⟩
 ·replace c6 := Bool.eq_false_iff.mpr c6
  subst c6
  have H1 : (some false) = some r := by rw [if_neg (show ¬ (false = true) by decide)] at H; exact H
  clear H
  have H := H1
  clear H1
  obtain rfl := Option.some.inj H
  go_enter Try.func105, Try.ntmps105
  go_wp2_with (first | ((with_reducible refine gate_dst (N := 3) rfl ?_); refine box_event ?hg (N := 3) ?hd (cs := #[.slice A0_0 l0_0.length c0_0]) (t := 32) ?hr ?_; (case hd => rfl); (case hg => rfl); (case hr => first | (go_simp; done) | (go_simp; rfl)); intro gb336 hg w11 hbox hb; have BK336 := Aside0.mk (hbox); have GW336 := zge HB hg; have GE336 := zge HB hg; replace HB := zhs HB hb; clear hb hbox hg; have hcz12_0 := zc0 BK336 0 rfl; have hfz12_0 := blk_frozen BK336.out 0) | ((with_reducible refine gate_callee (f := 101) rfl ?_); refine goesL_ (some 9) rfl rfl Try.func101 (by kernel_rfl) rfl #[.agg #[.slice A0_0 l0_0.length c0_0]] rfl (by (try simp only [zq1, zq2, zq3]); first | done | rfl | (simp only [List.length_drop, List.length_take]; rfl)) ?_; (with_reducible refine (impl_Rope_length.calls k _ _ l0_0 t337 _ ?side1 ?side2 A4.out).mono ?_); (case side1 => exact Kd.C_below HR0_0.out (zh0 HB)); (case side2 => exact HC0_0.out); rintro e w13 ⟨rfl, hb⟩; refine ⟨_, rfl, ?_⟩; replace BK336 := zb0 BK336 hb; replace HB := zhs HB hb; (try clear hb)) | ((with_reducible refine gate_callee (f := 100) rfl ?_); refine goesL_ (some 10) rfl rfl Try.func100 (by kernel_rfl) rfl #[.int .i64 a2, .int .i64 0, .int .i64 t337] rfl (by (try simp only [zq1, zq2, zq3]); first | done | rfl | (simp only [List.length_drop, List.length_take]; rfl)) ?_; (with_reducible refine (impl_within.calls a2 0 t337 false _ A5.out).mono ?_); rintro e w' ⟨rfl, ⟨nd, rfl⟩⟩; refine ⟨_, rfl, ?_⟩))
  go_ret
  exact ⟨by first | rfl | (simp <;> rfl) | (simp [*] <;> rfl), by repeat (first | exact zh0 HB | refine below_set ?_ GE336.out)⟩

open Go.Proofs.Ytldkbeccpheckab.Cp
/-! ### impl_DeleteText: function 28 -/
def impl_DeleteText.j0 : Nat → Int → Int → Bool → List (S61) → Option ((List (S61)) × Bool)
 | 0, _, _, _, _ => none
 | k + 1, x2, x3, x24, x342000 => if x24 = true then (some (([] : List (S61)), false)) else ((impl_Rope_split.f k x342000 x2).bind fun bt345 => ((impl_Rope_split.f k x342000 x3).bind fun bt351 => ((impl_joined.f k (([bt345.1, bt351.2] : List (List (S61))))).bind fun bt360 => (some (bt360.1, bt360.2)))))
def impl_DeleteText.f (k : Nat) (l0_0 : List (List Int)) (l1_0 : List (S61)) (a2 : Int) (a3 : Int) : Option ((List (S61)) × Bool) := (impl_isRope.f k l0_0 l1_0).bind fun t343 => (if t343 = true then ((impl_Rope_isStretch.f k l1_0 a2 a3).bind fun t344 => (impl_DeleteText.j0 k a2 a3 (!t344) l1_0)) else (impl_DeleteText.j0 k a2 a3 true l1_0))
theorem impl_DeleteText.mono_l : ∀ k, (∀ y0 y1 y2 y3, LeO (impl_DeleteText.j0 k y0 y1 y2 y3) (impl_DeleteText.j0 (k + 1) y0 y1 y2 y3))
 | 0 => fun _ _ _ _ r h => by simp [impl_DeleteText.j0] at h
 | k + 1 => by
  have ih0 := impl_DeleteText.mono_l k
  ·intro y0 y1 y2 y3
   unfold impl_DeleteText.j0
   repeat' first
   | (with_reducible exact ih0 _ _ _ _)
   | (with_reducible exact impl_Rope_isStretch.mono _ _ _ _)
   | (with_reducible exact impl_Rope_split.mono _ _ _)
   | (with_reducible exact impl_isRope.mono _ _ _)
   | (with_reducible exact impl_joined.mono _ _)
   | (with_reducible exact LeO.refl _)
   | (with_reducible exact LeO.none _)
   | (with_reducible refine LeO.ite ?_ ?_)
   | (with_reducible refine LeO.bind ?_ (fun _ => ?_))
   | exact ih0 _ _ _ _
   | exact impl_Rope_isStretch.mono _ _ _ _
   | exact impl_Rope_split.mono _ _ _
   | exact impl_isRope.mono _ _ _
   | exact impl_joined.mono _ _
   | exact LeO.none _
   | refine LeO.ite ?_ ?_
   | refine LeO.bind ?_ (fun _ => ?_)
theorem impl_DeleteText.mono : ∀ a0 a1 a2 a3 k, LeO (impl_DeleteText.f k a0 a1 a2 a3) (impl_DeleteText.f (k + 1) a0 a1 a2 a3) := by
 intro a0 a1 a2 a3 k
 have ih0 := impl_DeleteText.mono_l k
 unfold impl_DeleteText.f
 repeat' first
   | (with_reducible exact ih0 _ _ _ _)
   | (with_reducible exact impl_Rope_isStretch.mono _ _ _ _)
   | (with_reducible exact impl_Rope_split.mono _ _ _)
   | (with_reducible exact impl_isRope.mono _ _ _)
   | (with_reducible exact impl_joined.mono _ _)
   | (with_reducible exact LeO.refl _)
   | (with_reducible exact LeO.none _)
   | (with_reducible refine LeO.ite ?_ ?_)
   | (with_reducible refine LeO.bind ?_ (fun _ => ?_))
   | exact ih0 _ _ _ _
   | exact impl_Rope_isStretch.mono _ _ _ _
   | exact impl_Rope_split.mono _ _ _
   | exact impl_isRope.mono _ _ _
   | exact impl_joined.mono _ _
   | exact LeO.none _
   | refine LeO.ite ?_ ?_
   | refine LeO.bind ?_ (fun _ => ?_)
set_option maxHeartbeats 8000000 in
set_option maxRecDepth 100000 in
theorem impl_DeleteText.calls (k : Nat) (A0_0 : Option Addr) (c0_0 : Nat) (l0_0 : List (List Int)) (A1_0 : Option Addr) (c1_0 : Nat) (l1_0 : List (S61)) (a2 : Int) (a3 : Int) (r1 : List (S61)) (r2 : Bool) (w : World) (hr0_0 : Kd.C (Kd.slice 5 (Kd.int .u8)) w A0_0 l0_0.length l0_0) (hc0_0 : l0_0.length ≤ c0_0) (hr1_0 : Kd.C k61 w A1_0 l1_0.length l1_0) (hc1_0 : l1_0.length ≤ c1_0) (h : impl_DeleteText.f k l0_0 l1_0 a2 a3 = some (r1, r2)) :
  Calls Try.prog 28 #[.agg #[.slice A0_0 l0_0.length c0_0], .agg #[.slice A1_0 l1_0.length c1_0], .int .i64 a2, .int .i64 a3] w fun e w' => ∃ v0_ : Value, e = .returned (.tuple #[.agg #[v0_], .bool r2]) ∧ Kd.R k61 61 w' w.heap.size (fun _ => True) v0_ r1 ∧ Below w.heap.size w w' := by
 have hu35 := Try.underlying35
 have hu32 := Try.underlying32
 have HR0_0 := Aside0.mk hr0_0
 have HC0_0 := Aside0.mk hc0_0
 clear hr0_0 hc0_0
 have HR1_0 := Aside0.mk hr1_0
 have HC1_0 := Aside0.mk hc1_0
 clear hr1_0 hc1_0
 have HB := Aside0.mk (Below.refl w.heap.size w)
 have H : ((impl_isRope.f k l0_0 l1_0).bind fun t343 => (if t343 = true then ((impl_Rope_isStretch.f k l1_0 a2 a3).bind fun t344 => (impl_DeleteText.j0 k a2 a3 (!t344) l1_0)) else (impl_DeleteText.j0 k a2 a3 true l1_0))) = some (r1, r2) := h
 clear h
 have HC5 := Aside0.mk H
 clear H
 go_enter Try.func28, Try.ntmps28
 go_upto_region 1 with (first | ((with_reducible refine gate_dst (N := 4) rfl ?_); refine box_event ?hg (N := 4) ?hd (cs := #[.slice A0_0 l0_0.length c0_0]) (t := 35) ?hr ?_; (case hd => rfl); (case hg => rfl); (case hr => first | (go_simp; done) | (go_simp; rfl)); intro gb340 hg w6 hbox hb; have BK340 := Aside0.mk (hbox); have GW340 := zge HB hg; have GE340 := zge HB hg; replace HB := zhs HB hb; clear hb hbox hg) | ((with_reducible refine gate_dst (N := 5) rfl ?_); refine box_event ?hg (N := 5) ?hd (cs := #[.slice A1_0 l1_0.length c1_0]) (t := 32) ?hr ?_; (case hd => rfl); (case hg => rfl); (case hr => first | (go_simp; done) | (go_simp; rfl)); intro gb341 hg w7 hbox hb; have BK341 := Aside0.mk (hbox); have GW341 := zge HB hg; have GE341 := zge HB hg; have NB340_341 := znl BK340 hg; have NB341_340 := znr BK340 hg; replace BK340 := zb0 BK340 hb; replace HB := zhs HB hb; clear hb hbox hg) | ((with_reducible refine gate_dst (N := 8) rfl ?_); refine box_event ?hg (N := 8) ?hd (cs := #[.slice none 0 0]) (t := 32) ?hr ?_; (case hd => rfl); (case hg => rfl); (case hr => first | (go_simp; done) | (go_simp; rfl)); intro gb342 hg w8 hbox hb; have BK342 := Aside0.mk (hbox); have GW342 := zge HB hg; have GE342 := zge HB hg; have NB340_342 := znl BK340 hg; have NB342_340 := znr BK340 hg; have NB341_342 := znl BK341 hg; have NB342_341 := znr BK341 hg; replace BK340 := zb0 BK340 hb; replace BK341 := zb0 BK341 hb; replace HB := zhs HB hb; clear hb hbox hg))
 (try simp only [Act.put, zp1, zp2, zp3])
 go_cut [24] (fun v24 wc => ∃ (kq : Nat) (x24_4 : Bool), v24 = .bool x24_4 ∧ Aside0 (impl_DeleteText.j0 kq a2 a3 x24_4 l1_0 = some (r1, r2)) ∧ Aside0 (kq ≤ k) ∧ Aside0 (wc.heap[gb340]? = some (.cells #[(.slice A0_0 l0_0.length c0_0)] 35 (0, 0))) ∧ Aside0 (wc.heap[gb341]? = some (.cells #[(.slice A1_0 l1_0.length c1_0)] 32 (0, 0))) ∧ Aside0 (wc.heap[gb342]? = some (.cells #[(.slice none 0 0)] 32 (0, 0))) ∧ Aside0 (Below w.heap.size w wc))
 case first =>
  have H := HC5.out
  clear HC5
  replace H := Option.bind_eq_some_iff.mp H
  obtain ⟨t343, A90, H⟩ := H
  replace H : (if t343 = true then ((impl_Rope_isStretch.f k l1_0 a2 a3).bind fun t344 => (impl_DeleteText.j0 k a2 a3 (!t344) l1_0)) else (impl_DeleteText.j0 k a2 a3 true l1_0)) = some (r1, r2) := H
  have A9 := Aside0.mk A90
  clear A90
  by_cases c10 : t343 = true
  ·subst c10
   have H1 : ((impl_Rope_isStretch.f k l1_0 a2 a3).bind fun t344 => (impl_DeleteText.j0 k a2 a3 (!t344) l1_0)) = some (r1, r2) := by rw [if_pos rfl] at H; exact H
   clear H
   have H := H1
   clear H1
   replace H := Option.bind_eq_some_iff.mp H
   obtain ⟨t344, A110, H⟩ := H
   replace H : (impl_DeleteText.j0 k a2 a3 (!t344) l1_0) = some (r1, r2) := H
   have A11 := Aside0.mk A110
   clear A110
   have H' := Aside0.mk H
   clear H
   have hnb12 := NB340_341.out
   have hnc12 := NB341_340.out
   have hnb13 := NB340_342.out
   have hnc13 := NB342_340.out
   have hcz14_0 := zc0 BK340 0 rfl
   have hfz14_0 := blk_frozen BK340.out 0
   have hnb15 := NB341_342.out
   have hnc15 := NB342_341.out
   have hcz16_0 := zc0 BK341 0 rfl
   have hfz16_0 := blk_frozen BK341.out 0
   go_wp2_with (first | ((with_reducible refine gate_callee (f := 93) rfl ?_); refine goesL_ (some 16) rfl rfl Try.func93 (by kernel_rfl) rfl #[.agg #[.slice A0_0 l0_0.length c0_0], .agg #[.slice A1_0 l1_0.length c1_0]] rfl (by (try simp only [zq1, zq2, zq3]); first | done | rfl | (simp only [List.length_drop, List.length_take]; rfl)) ?_; (with_reducible refine (impl_isRope.calls k _ _ l0_0 _ _ l1_0 true _ ?side1 ?side2 ?side3 ?side4 A9.out).mono ?_); (case side1 => exact Kd.C_below HR0_0.out (zh0 HB)); (case side2 => exact HC0_0.out); (case side3 => exact Kd.C_below HR1_0.out (zh0 HB)); (case side4 => exact HC1_0.out); rintro e w17 ⟨rfl, hb⟩; refine ⟨_, rfl, ?_⟩; replace BK340 := zb0 BK340 hb; replace BK341 := zb0 BK341 hb; replace BK342 := zb0 BK342 hb; replace HB := zhs HB hb; (try clear hb); (try clear hb2); (try clear hk); (try clear hi); have hcz18_0 := zc0 BK341 0 rfl; have hfz18_0 := blk_frozen BK341.out 0) | (go_at_call 105; (with_reducible refine (impl_Rope_isStretch.calls k _ _ l1_0 a2 a3 t344 _ ?side1 ?side2 A11.out).mono ?_); (case side1 => exact Kd.C_below HR1_0.out (zh0 HB)); (case side2 => exact HC1_0.out); rintro e w19 ⟨rfl, hb⟩; replace BK340 := zb0 BK340 hb; replace BK341 := zb0 BK341 hb; replace BK342 := zb0 BK342 hb; replace HB := zhs HB hb; (try clear hb); (try clear hb2); (try clear hk); (try clear hi)))
   go_meet
   case rel => exact ⟨_, (!t344), (by first | rfl | (simp; done) | (simp [*]; done)), H', ⟨by first | omega | exact Nat.le_refl _⟩, ⟨zk0 BK340⟩, ⟨zk0 BK341⟩, ⟨zk0 BK342⟩, ⟨by repeat (first | exact zh0 HB | refine below_set ?_ GE340.out | refine below_set ?_ GE341.out | refine below_set ?_ GE342.out)⟩⟩
  ·replace c10 := Bool.eq_false_iff.mpr c10
   subst c10
   have H1 : (impl_DeleteText.j0 k a2 a3 true l1_0) = some (r1, r2) := by rw [if_neg (show ¬ (false = true) by decide)] at H; exact H
   clear H
   have H := H1
   clear H1
   have H' := Aside0.mk H
   clear H
   have hnb20 := NB340_341.out
   have hnc20 := NB341_340.out
   have hnb21 := NB340_342.out
   have hnc21 := NB342_340.out
   have hcz22_0 := zc0 BK340 0 rfl
   have hfz22_0 := blk_frozen BK340.out 0
   have hnb23 := NB341_342.out
   have hnc23 := NB342_341.out
   have hcz24_0 := zc0 BK341 0 rfl
   have hfz24_0 := blk_frozen BK341.out 0
   go_wp2_with (first | ((with_reducible refine gate_callee (f := 93) rfl ?_); refine goesL_ (some 16) rfl rfl Try.func93 (by kernel_rfl) rfl #[.agg #[.slice A0_0 l0_0.length c0_0], .agg #[.slice A1_0 l1_0.length c1_0]] rfl (by (try simp only [zq1, zq2, zq3]); first | done | rfl | (simp only [List.length_drop, List.length_take]; rfl)) ?_; (with_reducible refine (impl_isRope.calls k _ _ l0_0 _ _ l1_0 false _ ?side1 ?side2 ?side3 ?side4 A9.out).mono ?_); (case side1 => exact Kd.C_below HR0_0.out (zh0 HB)); (case side2 => exact HC0_0.out); (case side3 => exact Kd.C_below HR1_0.out (zh0 HB)); (case side4 => exact HC1_0.out); rintro e w25 ⟨rfl, hb⟩; refine ⟨_, rfl, ?_⟩; replace BK340 := zb0 BK340 hb; replace BK341 := zb0 BK341 hb; replace BK342 := zb0 BK342 hb; replace HB := Aside0.mk (below_step (by repeat (first | exact zh0 HB | refine below_set ?_ GE340.out | refine below_set ?_ GE341.out | refine below_set ?_ GE342.out)) hb); (try clear hb); (try clear hb2); (try clear hk); (try clear hi)))
   go_meet
   case rel => exact ⟨_, (true), (by first | rfl | (simp; done) | (simp [*]; done)), H', ⟨by first | omega | exact Nat.le_refl _⟩, ⟨zk0 BK340⟩, ⟨zk0 BK341⟩, ⟨zk0 BK342⟩, ⟨by repeat (first | exact zh0 HB | refine below_set ?_ GE340.out | refine below_set ?_ GE341.out | refine below_set ?_ GE342.out)⟩⟩
 case rest =>
  clear HC5
  try clear c1
  try clear c2
  try clear p2
  try clear c9
  try clear c10
  try clear c12
  try clear c13
  try clear c15
  try clear c20
  try clear c21
  try clear c23
  try clear hcz14_0
  try clear hcz16_0
  try clear hcz18_0
  try clear hcz22_0
  try clear hcz24_0
  try clear hfz14_0
  try clear hfz16_0
  try clear hfz18_0
  try clear hfz22_0
  try clear hfz24_0
  obtain ⟨kq, x24_4, rfl, HA, HJ4, BK340, BK341, BK342, HB⟩ := hcut
  cases kq with
  | zero => exact absurd HA.out (by simp [impl_DeleteText.j0])
  | succ kj4 =>
   have H := HA.out
   clear HA
   simp only [impl_DeleteText.j0] at H
   by_cases c26 : x24_4 = true
   ·subst c26
    have H1 : (some (([] : List (S61)), false)) = some (r1, r2) := by rw [if_pos rfl] at H; exact H
    clear H
    have H := H1
    clear H1
    simp only [Option.some.injEq, Prod.mk.injEq] at H
    obtain ⟨rfl, rfl⟩ := H
    have hnb27 := NB342_340.out
    have hnc27 := NB340_342.out
    have hnb28 := NB342_341.out
    have hnc28 := NB341_342.out
    have hcz29_0 := zc0 BK342 0 rfl
    have hfz29_0 := blk_frozen BK342.out 0
    go_wp2
    refine bodyPost_ret (results_ct rfl _ _ gb342 32 #[.slice none 0 0] (0, 0) _ rfl (by (with_reducible repeat (first | refine blk_drewN ?_ _ | refine blk_drew ?_ | refine blk_alloc ?_ _)); refine blk_put (cs := #[.slice none 0 0]) ?_ 0 _ rfl; (with_reducible repeat (first | refine blk_drewN ?_ _ | refine blk_drew ?_ | refine blk_alloc ?_ _)); exact BK342.out) Try.underlying32 rfl (by kernel_rfl)) rfl ?_
    exact ⟨_, by first | rfl | (simp <;> rfl) | (simp [*] <;> rfl), by first | exact Kd.R_nil _ _ _ _ _ | exact Kd.N_nil _ _ _ _ _ | exact Kd.V_nil _ _ _ _ _ | exact Kd.Q_nil _ _ _ _ _ | exact Kd.S_nil _ _ _ _ _, by repeat (first | exact zh0 HB | refine below_set ?_ GE340.out | refine below_set ?_ GE341.out | refine below_set ?_ GE342.out)⟩
   ·replace c26 := Bool.eq_false_iff.mpr c26
    subst c26
    have H1 : ((impl_Rope_split.f kj4 l1_0 a2).bind fun bt345 => ((impl_Rope_split.f kj4 l1_0 a3).bind fun bt351 => ((impl_joined.f kj4 (([bt345.1, bt351.2] : List (List (S61))))).bind fun bt360 => (some (bt360.1, bt360.2))))) = some (r1, r2) := by rw [if_neg (show ¬ (false = true) by decide)] at H; exact H
    clear H
    have H := H1
    clear H1
    replace H := Option.bind_eq_some_iff.mp H
    obtain ⟨⟨t345, t348⟩, A300, H⟩ := H
    replace H : ((impl_Rope_split.f kj4 l1_0 a3).bind fun bt351 => ((impl_joined.f kj4 (([t345, bt351.2] : List (List (S61))))).bind fun bt360 => (some (bt360.1, bt360.2)))) = some (r1, r2) := H
    have A30 := Aside0.mk A300
    clear A300
    replace H := Option.bind_eq_some_iff.mp H
    obtain ⟨⟨t351, t354⟩, A310, H⟩ := H
    replace H : ((impl_joined.f kj4 (([t345, t354] : List (List (S61))))).bind fun bt360 => (some (bt360.1, bt360.2))) = some (r1, r2) := H
    have A31 := Aside0.mk A310
    clear A310
    obtain ⟨y357, hy357⟩ : ∃ y_ : List (List (S61)), y_ = (([t345, t354] : List (List (S61)))) := ⟨_, rfl⟩
    replace H : ((impl_joined.f kj4 y357).bind fun bt360 => (some (bt360.1, bt360.2))) = some (r1, r2) := by first | (rw [hy357]; with_reducible exact H) | (have H2_ := (Option.bind_some _ _).symm.trans H; rw [hy357]; with_reducible exact H2_) | (have H2_ := (Option.bind_some _ _).symm.trans H; with_reducible exact H2_) | with_reducible exact H | (rw [hy357]; exact H) | exact H
    have Ny357 := Aside0.mk hy357
    clear hy357
    replace H := Option.bind_eq_some_iff.mp H
    obtain ⟨⟨t360, t363⟩, A320, H⟩ := H
    replace H : (some (t360, t363)) = some (r1, r2) := H
    have A32 := Aside0.mk A320
    clear A320
    simp only [Option.some.injEq, Prod.mk.injEq] at H
    obtain ⟨rfl, rfl⟩ := H
    have hnb33 := NB341_340.out
    have hnc33 := NB340_341.out
    have hnb34 := NB341_342.out
    have hnc34 := NB342_341.out
    have hcz35_0 := zc0 BK341 0 rfl
    have hfz35_0 := blk_frozen BK341.out 0
    go_wp2_with (first | ((with_reducible refine gate_callee (f := 102) rfl ?_); refine goesL_ (some 29) rfl rfl Try.func102 (by kernel_rfl) rfl #[.agg #[.slice A1_0 l1_0.length c1_0], .int .i64 a2] rfl (by (try simp only [zq1, zq2, zq3]); first | done | rfl | (simp only [List.length_drop, List.length_take]; rfl)) ?_; (with_reducible refine (impl_Rope_split.calls kj4 _ _ l1_0 a2 t345 t348 _ ?side1 ?side2 A30.out).mono ?_); (case side1 => exact Kd.C_below HR1_0.out (zh0 HB)); (case side2 => exact HC1_0.out); rintro e w36 ⟨v346, v349, rfl, ho0, ho1, hb⟩; refine ⟨_, rfl, ?_⟩; have HO347 := Aside0.mk (Kd.R_lower ho0 (below_size (zh0 HB))); have HO350 := Aside0.mk (Kd.R_lower ho1 (below_size (zh0 HB))); replace BK340 := zb0 BK340 hb; replace BK341 := zb0 BK341 hb; replace BK342 := zb0 BK342 hb; replace HB := zhs HB hb; (try clear hb); (try clear hb2); (try clear hk); (try clear hi); (try clear ho0); (try clear ho1); have hcz37_0 := zc0 BK341 0 rfl; have hfz37_0 := blk_frozen BK341.out 0) | ((with_reducible refine gate_callee (f := 102) rfl ?_); refine goesL_ (some 35) rfl rfl Try.func102 (by kernel_rfl) rfl #[.agg #[.slice A1_0 l1_0.length c1_0], .int .i64 a3] rfl (by (try simp only [zq1, zq2, zq3]); first | done | rfl | (simp only [List.length_drop, List.length_take]; rfl)) ?_; (with_reducible refine (impl_Rope_split.calls kj4 _ _ l1_0 a3 t351 t354 _ ?side1 ?side2 A31.out).mono ?_); (case side1 => exact Kd.C_below HR1_0.out (zh0 HB)); (case side2 => exact HC1_0.out); rintro e w38 ⟨v352, v355, rfl, ho0, ho1, hb⟩; refine ⟨_, rfl, ?_⟩; have HO353 := Aside0.mk (Kd.R_lower (Kd.R_new' (Kd.R_new' ho0 (Kd.R_lt (zr0 HO347))) (Kd.R_lt (zr0 HO350))) (below_size (zh0 HB))); have HO356 := Aside0.mk (Kd.R_lower (Kd.R_new' (Kd.R_new' ho1 (Kd.R_lt (zr0 HO347))) (Kd.R_lt (zr0 HO350))) (below_size (zh0 HB))); replace HO347 := Aside0.mk (Kd.R_mono (Kd.R_told (Kd.R_told (Kd.R_old (zr0 HO347) hb) (Kd.R_base ho0)) (Kd.R_base ho1)) (fun _ h_ => h_.1)); replace HO350 := Aside0.mk (Kd.R_mono (Kd.R_told (Kd.R_told (Kd.R_old (zr0 HO350) hb) (Kd.R_base ho0)) (Kd.R_base ho1)) (fun _ h_ => h_.1)); replace BK340 := zb0 BK340 hb; replace BK341 := zb0 BK341 hb; replace BK342 := zb0 BK342 hb; replace HB := zhs HB hb; (try clear hb); (try clear hb2); (try clear hk); (try clear hi); (try clear ho0); (try clear ho1); obtain ⟨Ao39, co39, eo39⟩ := Kd.R_slice HO347.out; subst eo39; obtain ⟨Ao40, co40, eo40⟩ := Kd.R_slice HO356.out; subst eo40) | ((with_reducible refine gate_dst (N := 40) rfl ?_); refine Kd.N_lit (Kd.slice 61 k61) _ 30 ?hg (N' := 40) ?hd (xs := ([t345, t354] : List (List (S61)))) (inner := [.slice Ao39 t345.length co39, .slice Ao40 t354.length co40]) (ok := (fun k_ => some k_ ≠ (v349 : Value).ownBlock ∧ some k_ ≠ (v352 : Value).ownBlock ∧ k_ ≠ gb340 ∧ k_ ≠ gb341 ∧ k_ ≠ gb342)) (okp := (fun k_ => some k_ ≠ (v349 : Value).ownBlock ∧ some k_ ≠ (v352 : Value).ownBlock ∧ k_ ≠ gb340 ∧ k_ ≠ gb341 ∧ k_ ≠ gb342)) ?hr ?hp (fun _ hk => hk) ((show ∀ k_, w38.heap.size ≤ k_ → (fun k_ => some k_ ≠ (v349 : Value).ownBlock ∧ some k_ ≠ (v352 : Value).ownBlock ∧ k_ ≠ gb340 ∧ k_ ≠ gb341 ∧ k_ ≠ gb342) k_ from fun k_ hk => ⟨Kd.fresh' (Kd.R_lt (zr0 HO350)) k_ hk, Kd.fresh' (Kd.R_lt (zr0 HO353)) k_ hk, Kd.freshB (g := gb340) (o := .cells #[.slice A0_0 l0_0.length c0_0] 35 (0, 0)) (zk0 BK340) k_ hk, Kd.freshB (g := gb341) (o := .cells #[.slice A1_0 l1_0.length c1_0] 32 (0, 0)) (zk0 BK341) k_ hk, Kd.freshB (g := gb342) (o := .cells #[.slice none 0 0] 32 (0, 0)) (zk0 BK342) k_ hk⟩) _ (Nat.le_refl _)) (Below.refl _ _) (Nat.le_refl _) (by simp) ?_; (case hd => rfl); (case hg => rfl); (case hr => first | (go_simp; done) | (go_simp; rfl)); (case hp => exact (Reps.one (show Kd.FK (Kd.slice 61 k61) _ _ t345 [.slice Ao39 t345.length co39] from (Kd.FK_slice_mk (Kd.R_reads' (Kd.R_mono (ok' := (fun k_ => some k_ ≠ (v349 : Value).ownBlock ∧ some k_ ≠ (v352 : Value).ownBlock ∧ k_ ≠ gb340 ∧ k_ ≠ gb341 ∧ k_ ≠ gb342)) (Kd.R_types (Kd.R_types (Kd.R_types (HO347.out) BK340.out (by decide)) BK341.out (by decide)) BK342.out (by decide)) (fun k_ hk => ⟨hk.1.1.1.1.1, ⟨hk.1.1.1.1.2, ⟨hk.1.1.2, ⟨hk.1.2, hk.2⟩⟩⟩⟩))).2.1 (Kd.R_F (Kd.R_mono (ok' := (fun k_ => some k_ ≠ (v349 : Value).ownBlock ∧ some k_ ≠ (v352 : Value).ownBlock ∧ k_ ≠ gb340 ∧ k_ ≠ gb341 ∧ k_ ≠ gb342)) (Kd.R_types (Kd.R_types (Kd.R_types (HO347.out) BK340.out (by decide)) BK341.out (by decide)) BK342.out (by decide)) (fun k_ hk => ⟨hk.1.1.1.1.1, ⟨hk.1.1.1.1.2, ⟨hk.1.1.2, ⟨hk.1.2, hk.2⟩⟩⟩⟩))))) (Reps.one (show Kd.FK (Kd.slice 61 k61) _ _ t354 [.slice Ao40 t354.length co40] from (Kd.FK_slice_mk (Kd.R_reads' (Kd.R_mono (ok' := (fun k_ => some k_ ≠ (v349 : Value).ownBlock ∧ some k_ ≠ (v352 : Value).ownBlock ∧ k_ ≠ gb340 ∧ k_ ≠ gb341 ∧ k_ ≠ gb342)) (Kd.R_types (Kd.R_types (Kd.R_types (HO356.out) BK340.out (by decide)) BK341.out (by decide)) BK342.out (by decide)) (fun k_ hk => ⟨hk.1.1.1.2, ⟨hk.1.1.1.1.1, ⟨hk.1.1.2, ⟨hk.1.2, hk.2⟩⟩⟩⟩))).2.1 (Kd.R_F (Kd.R_mono (ok' := (fun k_ => some k_ ≠ (v349 : Value).ownBlock ∧ some k_ ≠ (v352 : Value).ownBlock ∧ k_ ≠ gb340 ∧ k_ ≠ gb341 ∧ k_ ≠ gb342)) (Kd.R_types (Kd.R_types (Kd.R_types (HO356.out) BK340.out (by decide)) BK341.out (by decide)) BK342.out (by decide)) (fun k_ hk => ⟨hk.1.1.1.2, ⟨hk.1.1.1.1.1, ⟨hk.1.1.2, ⟨hk.1.2, hk.2⟩⟩⟩⟩))))) (Reps.none _ _)))); intro v358 w41 ho42 hb hg_ hnew_; clear hg_ hnew_; (first | rw [← Ny357.out] at ho42 | (simp only [Int.reduceToNat] at ho42; rw [← Ny357.out] at ho42)); have n0_ := zrb HO350 hb; have n1_ := zrb HO353 hb; have n2_ := Aside0.mk (Kd.N_lower ho42 (below_size (zh0 HB))); have n3_ := zb0 BK340 hb; have n4_ := zb0 BK341 hb; have n5_ := zb0 BK342 hb; have n6_ := zhs HB hb; clear HO350; clear HO353; clear BK340; clear BK341; clear BK342; clear HB; clear HO347; clear HO356; have HO350 := n0_; have HO353 := n1_; have HO359 := n2_; have BK340 := n3_; have BK341 := n4_; have BK342 := n5_; have HB := n6_; clear n0_ n1_ n2_ n3_ n4_ n5_ n6_; clear hb ho42; obtain ⟨Ao43, co43, eo43⟩ := Kd.N_slice HO359.out; subst eo43) | ((with_reducible refine gate_callee (f := 94) rfl ?_); refine goesL_ (some 41) rfl rfl Try.func94 (by kernel_rfl) rfl #[.slice Ao43 y357.length co43] rfl (by (try simp only [zq1, zq2, zq3]); first | done | rfl | (simp only [List.length_drop, List.length_take]; rfl)) ?_; (with_reducible refine (impl_joined.calls kj4 _ _ y357 t360 t363 _ ?side1 ?side2 A32.out).mono ?_); (case side1 => repeat (first | exact (Kd.N_reads' HO359.out).2.2 | (with_reducible refine Kd.C_alloc ?_ _) | (with_reducible refine Kd.C_drewN ?_ _) | (with_reducible refine Kd.C_drew ?_))); (case side2 => exact (Kd.N_reads' HO359.out).2.1); rintro e w44 ⟨v361, rfl, ho0, hb⟩; refine ⟨_, rfl, ?_⟩; have HO362 := Aside0.mk (Kd.R_lower (Kd.R_new' (Kd.R_new' ho0 (Kd.R_lt (zr0 HO350))) (Kd.R_lt (zr0 HO353))) (below_size (by repeat (first | exact zh0 HB | refine below_set ?_ GE340.out | refine below_set ?_ GE341.out | refine below_set ?_ GE342.out)))); replace HO350 := Aside0.mk (Kd.R_elder' (zr0 HO350) (Kd.R_base ho0) hb); replace HO353 := Aside0.mk (Kd.R_elder' (zr0 HO353) (Kd.R_base ho0) hb); replace HO359 := Aside0.mk (Kd.N_elder' (by (with_reducible repeat (first | apply Kd.N_alloc | apply Kd.N_drewN | apply Kd.N_drew)); exact HO359.out) (Kd.R_base ho0) hb); replace BK340 := zb0 BK340 hb; replace BK341 := zb0 BK341 hb; replace BK342 := zb0 BK342 hb; replace HB := Aside0.mk (below_step (by repeat (first | exact zh0 HB | refine below_set ?_ GE340.out | refine below_set ?_ GE341.out | refine below_set ?_ GE342.out)) hb); (try clear hb); (try clear hb2); (try clear hk); (try clear hi); (try clear ho0); obtain ⟨Ao45, co45, eo45⟩ := Kd.R_slice HO362.out; subst eo45; have hnb46 := NB342_340.out; have hnc46 := NB340_342.out; have hcz47_0 := zc0 BK342 0 rfl; have hfz47_0 := blk_frozen BK342.out 0))
    refine bodyPost_ret (results_ct rfl _ _ gb342 32 #[.slice Ao45 t360.length co45] (0, 0) _ rfl (by (with_reducible repeat (first | refine blk_drewN ?_ _ | refine blk_drew ?_ | refine blk_alloc ?_ _)); refine blk_put (cs := #[.slice none 0 0]) ?_ 0 _ rfl; (with_reducible repeat (first | refine blk_drewN ?_ _ | refine blk_drew ?_ | refine blk_alloc ?_ _)); exact BK342.out) Try.underlying32 rfl (by kernel_rfl)) rfl ?_
    exact ⟨_, by first | rfl | (simp <;> rfl) | (simp [*] <;> rfl), by (with_reducible repeat (first | apply Kd.R_alloc | apply Kd.R_drewN | apply Kd.R_drew)); exact Kd.R_mono (Kd.R_far (p := ⟨gb342, 0, none⟩) (Kd.R_types HO362.out BK342.out (by decide)) (fun _ hk => hk.2) (.slice Ao45 t360.length co45)) (fun _ hk => trivial), by repeat (first | exact zh0 HB | refine below_set ?_ GE340.out | refine below_set ?_ GE341.out | refine below_set ?_ GE342.out)⟩

end Go.Proofs.Ytldkbeccpheckab.PFnExactDeleteText
