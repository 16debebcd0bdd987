/- What is proved here: each Go function that is named below answers, and leaves memory, as the theorem of its name says; no condition beyond those that each theorem states. Laid by this session's own program (wip/driver.py) over the kit's print. -/
import Derived.Test.YtdojnaghcfhadacPFnExactRopeTextx0
import Derived.Test.YtdojnaghcfhadacPFnExactRopeTextx1
import Derived.Test.YtdojnaghcfhadacPFnExactRopeTextx2
import Derived.Test.YtdojnaghcfhadacPFnExactRopeTextx3
import Derived.Test.YtdojnaghcfhadacPFnExactRopeTextx4
namespace Go.Proofs.Ytdojnaghcfhadac.PFnExactRopeText
open Go.RowKit Go.Proofs.YtdojnaghcfhadacW.PrintWords Go.Proofs.YtdojnaghcfhadacW.PrintLast Go.Proofs.YtdojnaghcfhadacW.PrintMore
attribute [local go_sem] max2_int min2_int max_two min_two max_three min_three max_four min_four   -- for this text's walks alone
set_option linter.unusedVariables false
set_option linter.unusedSimpArgs false

open Go.Proofs.Ytdojnaghcfhadac.Cp
/-! ### impl_Memory_ropeText: function 96 -/
def impl_Memory_ropeText.l0 : Nat → List Int → List (S48) → Int → Int → List (List Int) → Option (List Int)
 | 0, _, _, _, _, _ => none
 | k + 1, x5, x10, x11, x12, x236000 => if x12 < x11 then (if 0 ≤ x12 then (if x12 < (x10.length : Int) then ((impl_Memory_seen.f x236000 ((rd_T48 x10 x12).f0) ((rd_T48 x10 x12).f1) ((rd_T48 x10 x12).f2) ((rd_T48 x10 x12).f3)).bind fun t242 => (if x5.length + t242.length < 140737488355328 then (impl_Memory_ropeText.l0 k (x5 ++ t242) x10 x11 (wrap64 (x12 + 1)) x236000) else (none))) else (none)) else (none)) else (some x5)
def impl_Memory_ropeText.f (k : Nat) (l0_0 : List (List Int)) (l1_0 : List (S48)) : Option (List Int) := impl_Memory_ropeText.l0 k (([] : List Int)) l1_0 (l1_0.length : Int) 0 l0_0
theorem impl_Memory_ropeText.mono_l : ∀ k, (∀ y0 y1 y2 y3 y4, LeO (impl_Memory_ropeText.l0 k y0 y1 y2 y3 y4) (impl_Memory_ropeText.l0 (k + 1) y0 y1 y2 y3 y4))
 | 0 => fun _ _ _ _ _ r h => by simp [impl_Memory_ropeText.l0] at h
 | k + 1 => by
  have ih0 := impl_Memory_ropeText.mono_l k
  ·intro y0 y1 y2 y3 y4
   unfold impl_Memory_ropeText.l0
   repeat' first
   | (with_reducible exact ih0 _ _ _ _ _)
   | (with_reducible exact LeO.refl _)
   | (with_reducible exact LeO.none _)
   | (with_reducible refine LeO.ite ?_ ?_)
   | (with_reducible refine LeO.bind ?_ (fun _ => ?_))
   | exact ih0 _ _ _ _ _
   | exact LeO.none _
   | refine LeO.ite ?_ ?_
   | refine LeO.bind ?_ (fun _ => ?_)
theorem impl_Memory_ropeText.mono : ∀ a0 a1 k, LeO (impl_Memory_ropeText.f k a0 a1) (impl_Memory_ropeText.f (k + 1) a0 a1) := by
 intro a0 a1 k
 have ih0 := impl_Memory_ropeText.mono_l k
 unfold impl_Memory_ropeText.f
 repeat' first
   | (with_reducible exact ih0 _ _ _ _ _)
   | (with_reducible exact LeO.refl _)
   | (with_reducible exact LeO.none _)
   | (with_reducible refine LeO.ite ?_ ?_)
   | (with_reducible refine LeO.bind ?_ (fun _ => ?_))
   | exact ih0 _ _ _ _ _
   | exact LeO.none _
   | refine LeO.ite ?_ ?_
   | refine LeO.bind ?_ (fun _ => ?_)
set_option maxHeartbeats 8000000 in
set_option maxRecDepth 100000 in
theorem impl_Memory_ropeText.calls (k : Nat) (A0_0 : Option Addr) (c0_0 : Nat) (l0_0 : List (List Int)) (A1_0 : Option Addr) (c1_0 : Nat) (l1_0 : List (S48)) (r : List Int) (w : World) (hr0_0 : Kd.C (Kd.slice 5 (Kd.int .u8)) w A0_0 l0_0.length l0_0) (hc0_0 : l0_0.length ≤ c0_0) (hr1_0 : Kd.C k48 w A1_0 l1_0.length l1_0) (hc1_0 : l1_0.length ≤ c1_0) (h : impl_Memory_ropeText.f k l0_0 l1_0 = some r) :
  Calls Try.prog 96 #[.agg #[.slice A0_0 l0_0.length c0_0], .agg #[.slice A1_0 l1_0.length c1_0]] w fun e w' => ∃ v0_ : Value, e = .returned (v0_) ∧ Kd.R (Kd.int .u8) 5 w' w.heap.size (fun _ => True) v0_ r ∧ Below w.heap.size w w' := by
 have hu32 := Try.underlying32
 have hu36 := Try.underlying36
 have hu48 := Try.underlying48
 have HR0_0 := Aside0.mk hr0_0
 have HC0_0 := Aside0.mk hc0_0
 clear hr0_0 hc0_0
 have HR1_0 := Aside0.mk hr1_0
 have HC1_0 := Aside0.mk hc1_0
 clear hr1_0 hc1_0
 have HB := Aside0.mk (Below.refl w.heap.size w)
 have H : (impl_Memory_ropeText.l0 k (([] : List Int)) l1_0 (l1_0.length : Int) 0 l0_0) = some r := h
 clear h
 obtain ⟨y237, hy237⟩ : ∃ y_ : List Int, y_ = (([] : List Int)) := ⟨_, rfl⟩
 replace H : (impl_Memory_ropeText.l0 k y237 l1_0 (l1_0.length : Int) 0 l0_0) = some r := by first | (rw [hy237]; with_reducible exact H) | (have H2_ := (Option.bind_some _ _).symm.trans H; rw [hy237]; with_reducible exact H2_) | (have H2_ := (Option.bind_some _ _).symm.trans H; with_reducible exact H2_) | with_reducible exact H | (rw [hy237]; exact H) | exact H
 have Ny237 := Aside0.mk hy237
 clear hy237
 have H' := Aside0.mk H
 clear H
 go_enter Try.func96, Try.ntmps96
 go_wp2_with (first | ((with_reducible refine gate_dst (N := 2) rfl ?_); refine box_event ?hg (N := 2) ?hd (cs := #[.slice A0_0 l0_0.length c0_0]) (t := 32) ?hr ?_; (case hd => rfl); (case hg => rfl); (case hr => first | (go_simp; done) | (go_simp; rfl)); intro gb235 hg w3 hbox hb; have n0_ := zhs HB hb; have n1_ := Aside0.mk (hbox); have n2_ := zge HB hg; have n3_ := zge HB hg; clear HB; have HB := n0_; have BK235 := n1_; have GW235 := n2_; have GE235 := n3_; clear n0_ n1_ n2_ n3_; clear hb hbox hg) | ((with_reducible refine gate_dst (N := 3) rfl ?_); refine box_event ?hg (N := 3) ?hd (cs := #[.slice A1_0 l1_0.length c1_0]) (t := 36) ?hr ?_; (case hd => rfl); (case hg => rfl); (case hr => first | (go_simp; done) | (go_simp; rfl)); intro gb236 hg w4 hbox hb; have n0_ := zb0 BK235 hb; have n1_ := zhs HB hb; have n2_ := Aside0.mk (hbox); have n3_ := zge HB hg; have n4_ := zge HB hg; have n5_ := znl BK235 hg; have n6_ := znr BK235 hg; clear BK235; clear HB; have BK235 := n0_; have HB := n1_; have BK236 := n2_; have GW236 := n3_; have GE236 := n4_; have NB235_236 := n5_; have NB236_235 := n6_; clear n0_ n1_ n2_ n3_ n4_ n5_ n6_; clear hb hbox hg) | ((with_reducible refine gate_dst (N := 8) rfl ?_); refine Kd.R_lit (Kd.int .u8) _ 5 ?hg (N := 8) ?hd (xs := ([] : List Int)) (inner := []) (ok := fun _ => True) (okp := fun _ => True) ?hr ?hp (fun _ hk => hk) trivial (Below.refl _ _) (Nat.le_refl _) (by simp) ?_; (case hd => rfl); (case hg => rfl); (case hr => first | (go_simp; done) | (go_simp; rfl)); (case hp => exact (Reps.none _ _)); intro v238 w5 ho6 hb hg_ hnew_; clear hg_ hnew_; (first | rw [← Ny237.out] at ho6 | (simp only [Int.reduceToNat] at ho6; rw [← Ny237.out] at ho6)); have n0_ := Aside0.mk (Kd.R_lower ho6 (below_size (zh0 HB))); have n1_ := zb0 BK235 hb; have n2_ := zb0 BK236 hb; have n3_ := zhs HB hb; clear BK235; clear BK236; clear HB; have HO239 := n0_; have BK235 := n1_; have BK236 := n2_; have HB := n3_; clear n0_ n1_ n2_ n3_; clear hb ho6; have hnb7 := NB236_235.out; have hnc7 := NB235_236.out; have hcz8_0 : w5.cell? ⟨gb236, 0, none⟩ = some (.slice A1_0 l1_0.length c1_0) := zc0 BK236 0 rfl; have hfz8_0 := blk_frozen BK236.out 0))
 go_loopg [5, 12] k (fun kq v5 v12 w' => ∃ (x5_1 : List Int) (x12_1 : Int), v12 = .int .i64 x12_1 ∧ Aside0 (impl_Memory_ropeText.l0 kq x5_1 l1_0 (l1_0.length : Int) x12_1 l0_0 = some r) ∧ Aside0 (kq ≤ k) ∧ Aside0 (Kd.R (Kd.int .u8) 5 w' w.heap.size (fun _ => True) v5 x5_1) ∧ Aside0 (w'.heap[gb235]? = some (.cells #[(.slice A0_0 l0_0.length c0_0)] 32 (0, 0))) ∧ Aside0 (w'.heap[gb236]? = some (.cells #[(.slice A1_0 l1_0.length c1_0)] 36 (0, 0))) ∧ Aside0 (Below w.heap.size w w'))
 case atStart => exact ⟨(y237), (0), (by first | rfl | (simp; done) | (simp [*]; done)), H', ⟨Nat.le_refl _⟩, ⟨zr0 HO239⟩, ⟨zk0 BK235⟩, ⟨zk0 BK236⟩, ⟨by repeat (first | (with_reducible first | exact HB.out | apply below_alloc | apply pw_below_drewN | apply below_drew1 | refine below_set ?_ GE235.out | refine below_set ?_ GE236.out) | exact HB.out)⟩⟩
 case round =>
  clear H'
  try clear c1
  try clear p2
  try clear c7
  try clear hcz8_0
  try clear hfz8_0
  obtain ⟨x5_1, x12_1, rfl, HA, HK1, HO_5, BK235, BK236, HB⟩ := hrel
  cases gk with
  | zero => exact absurd HA.out (by simp [impl_Memory_ropeText.l0])
  | succ k1 =>
   have H := HA.out
   clear HA
   simp only [impl_Memory_ropeText.l0] at H
   by_cases c9 : x12_1 < (l1_0.length : Int)
   ·rw [if_pos c9] at H
    have c9b0 : decide (x12_1 < (l1_0.length : Int)) = true := decide_eq_true c9
    clear c9
    by_cases c10 : 0 ≤ x12_1
    ·rw [if_pos c10] at H
     have c10b0 : decide (0 ≤ x12_1) = true := decide_eq_true c10
     clear c10
     by_cases c11 : x12_1 < (l1_0.length : Int)
     ·rw [if_pos c11] at H
      have c11b0 : decide (x12_1 < (l1_0.length : Int)) = true := decide_eq_true c11
      clear c11
      replace H := Option.bind_eq_some_iff.mp H
      obtain ⟨t242, A120, H⟩ := H
      replace H : (if x5_1.length + t242.length < 140737488355328 then (impl_Memory_ropeText.l0 k1 (x5_1 ++ t242) l1_0 (l1_0.length : Int) (wrap64 (x12_1 + 1)) l0_0) else (none)) = some r := H
      have A12 := Aside0.mk A120
      clear A120
      by_cases c13 : x5_1.length + t242.length < 140737488355328
      ·rw [if_pos c13] at H
       have LMc13 := Aside0.mk c13
       clear c13
       obtain ⟨y245, hy245⟩ : ∃ y_ : List Int, y_ = (x5_1 ++ t242) := ⟨_, rfl⟩
       replace H : (impl_Memory_ropeText.l0 k1 y245 l1_0 (l1_0.length : Int) (wrap64 (x12_1 + 1)) l0_0) = some r := by first | (rw [hy245]; with_reducible exact H) | (have H2_ := (Option.bind_some _ _).symm.trans H; rw [hy245]; with_reducible exact H2_) | (have H2_ := (Option.bind_some _ _).symm.trans H; with_reducible exact H2_) | with_reducible exact H | (rw [hy245]; exact H) | exact H
       have Ny245 := Aside0.mk hy245
       clear hy245
       have H' := Aside0.mk H
       clear H
       have p240 : 0 ≤ (x12_1 : Int) := of_decide_eq_true (by first | (with_reducible assumption) | assumption)
       have q240 : x12_1 < (l1_0.length : Int) := of_decide_eq_true (by first | (with_reducible assumption) | assumption)
       obtain ⟨ad240, e240, hx240_0, hx240_1, hx240_2, hx240_3⟩ := at_T48 HR1_0.out x12_1 p240 q240
       cases e240
       replace hx240_0 := (HB.out.cell (World.block_lt_of_cell? w _ hx240_0)).trans hx240_0
       replace hx240_1 := (HB.out.cell (World.block_lt_of_cell? w _ hx240_1)).trans hx240_1
       replace hx240_2 := (HB.out.cell (World.block_lt_of_cell? w _ hx240_2)).trans hx240_2
       replace hx240_3 := (HB.out.cell (World.block_lt_of_cell? w _ hx240_3)).trans hx240_3
       replace p240 := eq_true p240
       replace q240 := eq_true q240
       go_wp2_with (first | ((with_reducible refine gate_dst (N := 7) rfl ?_); refine box_event ?hg (N := 7) ?hd (cs := #[.int .i64 0, .int .i64 0, .int .i64 0, .int .i64 0]) (t := 48) ?hr ?_; (case hd => rfl); (case hg => rfl); (case hr => first | (go_simp; done) | (go_simp; rfl)); intro gb241 hg w14 hbox hb; have n0_ := zrb HO_5 hb; have n1_ := Aside0.mk (blk_below (g := gb235) (o := .cells #[.slice A0_0 l0_0.length c0_0] 32 (0, 0)) (by (with_reducible repeat (first | refine blk_drewN ?_ _ | refine blk_drew ?_ | refine blk_alloc ?_ _)); exact BK235.out) hb); have n2_ := Aside0.mk (blk_below (g := gb236) (o := .cells #[.slice (some ad240) l1_0.length c1_0] 36 (0, 0)) (by (with_reducible repeat (first | refine blk_drewN ?_ _ | refine blk_drew ?_ | refine blk_alloc ?_ _)); exact BK236.out) hb); have n3_ := zhs HB hb; have n4_ := Aside0.mk (hbox); have n5_ := zge HB hg; have n6_ := zge HB hg; have n7_ := Aside0.mk ((by rw [hg]; exact Nat.ne_of_lt (blk_lt (g := gb235) (o := .cells #[.slice A0_0 l0_0.length c0_0] 32 (0, 0)) (by (with_reducible repeat (first | refine blk_drewN ?_ _ | refine blk_drew ?_ | refine blk_alloc ?_ _)); exact BK235.out)) : gb235 ≠ gb241)); have n8_ := Aside0.mk ((by rw [hg]; exact Nat.ne_of_gt (blk_lt (g := gb235) (o := .cells #[.slice A0_0 l0_0.length c0_0] 32 (0, 0)) (by (with_reducible repeat (first | refine blk_drewN ?_ _ | refine blk_drew ?_ | refine blk_alloc ?_ _)); exact BK235.out)) : gb241 ≠ gb235)); have n9_ := Aside0.mk ((by rw [hg]; exact Nat.ne_of_lt (blk_lt (g := gb236) (o := .cells #[.slice (some ad240) l1_0.length c1_0] 36 (0, 0)) (by (with_reducible repeat (first | refine blk_drewN ?_ _ | refine blk_drew ?_ | refine blk_alloc ?_ _)); exact BK236.out)) : gb236 ≠ gb241)); have n10_ := Aside0.mk ((by rw [hg]; exact Nat.ne_of_gt (blk_lt (g := gb236) (o := .cells #[.slice (some ad240) l1_0.length c1_0] 36 (0, 0)) (by (with_reducible repeat (first | refine blk_drewN ?_ _ | refine blk_drew ?_ | refine blk_alloc ?_ _)); exact BK236.out)) : gb241 ≠ gb236)); clear HO_5; clear BK235; clear BK236; clear HB; have HO_5 := n0_; have BK235 := n1_; have BK236 := n2_; have HB := n3_; have BK241 := n4_; have GW241 := n5_; have GE241 := n6_; have NB235_241 := n7_; have NB241_235 := n8_; have NB236_241 := n9_; have NB241_236 := n10_; clear n0_ n1_ n2_ n3_ n4_ n5_ n6_ n7_ n8_ n9_ n10_; clear hb hbox hg; have hnb15 := NB241_235.out; have hnc15 := NB235_241.out; have hnb16 := NB241_236.out; have hnc16 := NB236_241.out; have hcz17_0 : w14.cell? ⟨gb241, 0, none⟩ = some (.int .i64 0) := zc0 BK241 0 rfl; have hcz17_1 : w14.cell? ⟨gb241, 1, none⟩ = some (.int .i64 0) := zc0 BK241 1 rfl; have hcz17_2 : w14.cell? ⟨gb241, 2, none⟩ = some (.int .i64 0) := zc0 BK241 2 rfl; have hcz17_3 : w14.cell? ⟨gb241, 3, none⟩ = some (.int .i64 0) := zc0 BK241 3 rfl; have hfz17_0 := blk_frozen BK241.out 0; have hfz17_1 := blk_frozen BK241.out 1; have hfz17_2 := blk_frozen BK241.out 2; have hfz17_3 := blk_frozen BK241.out 3) | ((with_reducible refine gate_store (t := 48) (p := 7) rfl ?_); refine store_event (t := 48) (p := 7) (v := ?vo_w18) (w1 := ((((w14.setCell ⟨gb241, 0, none⟩ (.int .i64 ((rd_T48 l1_0 x12_1).f0))).setCell ⟨gb241, 1, none⟩ (.int .i64 ((rd_T48 l1_0 x12_1).f1))).setCell ⟨gb241, 2, none⟩ (.int .i64 ((rd_T48 l1_0 x12_1).f2))).setCell ⟨gb241, 3, none⟩ (.int .i64 ((rd_T48 l1_0 x12_1).f3)))) ?hg ?ho ?hn ?hr ?_; (case ho => rfl); (case hg => rfl); (case hn => rfl); (case hr => first | (go_simp; done) | (go_simp; rfl)); intro w18 hw; have n0_ : Aside0 (Kd.R (Kd.int .u8) 5 w18 w.heap.size (fun _ => True) u5 x5_1) := ⟨(by rw [hw]; exact (by (with_reducible repeat (first | apply Kd.R_alloc | apply Kd.R_drewN | apply Kd.R_drew)); exact Kd.R_mono (Kd.R_far (p := ⟨gb241, 3, none⟩) (Kd.R_far (p := ⟨gb241, 2, none⟩) (Kd.R_far (p := ⟨gb241, 1, none⟩) (Kd.R_far (p := ⟨gb241, 0, none⟩) (Kd.R_types HO_5.out BK241.out (by decide)) (fun _ hk => hk.2) (.int .i64 ((rd_T48 l1_0 x12_1).f0))) (fun _ hk => hk.2) (.int .i64 ((rd_T48 l1_0 x12_1).f1))) (fun _ hk => hk.2) (.int .i64 ((rd_T48 l1_0 x12_1).f2))) (fun _ hk => hk.2) (.int .i64 ((rd_T48 l1_0 x12_1).f3))) (fun _ hk => trivial)))⟩; have n1_ : Aside0 (w18.heap[gb235]? = some (.cells #[.slice A0_0 l0_0.length c0_0] 32 (0, 0))) := ⟨(by rw [hw]; exact (by (with_reducible repeat (first | refine blk_drewN ?_ _ | refine blk_drew ?_ | refine blk_alloc ?_ _)); refine blk_far ?_ NB235_241.out _; (with_reducible repeat (first | refine blk_drewN ?_ _ | refine blk_drew ?_ | refine blk_alloc ?_ _)); refine blk_far ?_ NB235_241.out _; (with_reducible repeat (first | refine blk_drewN ?_ _ | refine blk_drew ?_ | refine blk_alloc ?_ _)); refine blk_far ?_ NB235_241.out _; (with_reducible repeat (first | refine blk_drewN ?_ _ | refine blk_drew ?_ | refine blk_alloc ?_ _)); refine blk_far ?_ NB235_241.out _; (with_reducible repeat (first | refine blk_drewN ?_ _ | refine blk_drew ?_ | refine blk_alloc ?_ _)); exact BK235.out))⟩; have n2_ : Aside0 (w18.heap[gb236]? = some (.cells #[.slice (some ad240) l1_0.length c1_0] 36 (0, 0))) := ⟨(by rw [hw]; exact (by (with_reducible repeat (first | refine blk_drewN ?_ _ | refine blk_drew ?_ | refine blk_alloc ?_ _)); refine blk_far ?_ NB236_241.out _; (with_reducible repeat (first | refine blk_drewN ?_ _ | refine blk_drew ?_ | refine blk_alloc ?_ _)); refine blk_far ?_ NB236_241.out _; (with_reducible repeat (first | refine blk_drewN ?_ _ | refine blk_drew ?_ | refine blk_alloc ?_ _)); refine blk_far ?_ NB236_241.out _; (with_reducible repeat (first | refine blk_drewN ?_ _ | refine blk_drew ?_ | refine blk_alloc ?_ _)); refine blk_far ?_ NB236_241.out _; (with_reducible repeat (first | refine blk_drewN ?_ _ | refine blk_drew ?_ | refine blk_alloc ?_ _)); exact BK236.out))⟩; have n3_ : Aside0 (w18.heap[gb241]? = some (.cells #[.int .i64 ((rd_T48 l1_0 x12_1).f0), .int .i64 ((rd_T48 l1_0 x12_1).f1), .int .i64 ((rd_T48 l1_0 x12_1).f2), .int .i64 ((rd_T48 l1_0 x12_1).f3)] 48 (0, 0))) := ⟨(by rw [hw]; exact (by (with_reducible repeat (first | refine blk_drewN ?_ _ | refine blk_drew ?_ | refine blk_alloc ?_ _)); refine blk_put (cs := #[.int .i64 ((rd_T48 l1_0 x12_1).f0), .int .i64 ((rd_T48 l1_0 x12_1).f1), .int .i64 ((rd_T48 l1_0 x12_1).f2), .int .i64 0]) ?_ 3 _ rfl; (with_reducible repeat (first | refine blk_drewN ?_ _ | refine blk_drew ?_ | refine blk_alloc ?_ _)); refine blk_put (cs := #[.int .i64 ((rd_T48 l1_0 x12_1).f0), .int .i64 ((rd_T48 l1_0 x12_1).f1), .int .i64 0, .int .i64 0]) ?_ 2 _ rfl; (with_reducible repeat (first | refine blk_drewN ?_ _ | refine blk_drew ?_ | refine blk_alloc ?_ _)); refine blk_put (cs := #[.int .i64 ((rd_T48 l1_0 x12_1).f0), .int .i64 0, .int .i64 0, .int .i64 0]) ?_ 1 _ rfl; (with_reducible repeat (first | refine blk_drewN ?_ _ | refine blk_drew ?_ | refine blk_alloc ?_ _)); refine blk_put (cs := #[.int .i64 0, .int .i64 0, .int .i64 0, .int .i64 0]) ?_ 0 _ rfl; (with_reducible repeat (first | refine blk_drewN ?_ _ | refine blk_drew ?_ | refine blk_alloc ?_ _)); exact BK241.out))⟩; have n4_ : Aside0 (Below w.heap.size w w18) := ⟨(by rw [hw]; exact (by repeat (first | (with_reducible first | exact HB.out | apply below_alloc | apply pw_below_drewN | apply below_drew1 | refine below_set ?_ GE235.out | refine below_set ?_ GE236.out | refine below_set ?_ GE241.out) | exact HB.out)))⟩; clear hw; clear HO_5; clear BK235; clear BK236; clear BK241; clear HB; have HO_5 := n0_; have BK235 := n1_; have BK236 := n2_; have BK241 := n3_; have HB := n4_; clear n0_ n1_ n2_ n3_ n4_; have hnb19 := NB235_236.out; have hnc19 := NB236_235.out; have hcz20_0 : w18.cell? ⟨gb235, 0, none⟩ = some (.slice A0_0 l0_0.length c0_0) := zc0 BK235 0 rfl; have hfz20_0 := blk_frozen BK235.out 0; have hcz21_0 : w18.cell? ⟨gb241, 0, none⟩ = some (.int .i64 ((rd_T48 l1_0 x12_1).f0)) := zc0 BK241 0 rfl; have hcz21_1 : w18.cell? ⟨gb241, 1, none⟩ = some (.int .i64 ((rd_T48 l1_0 x12_1).f1)) := zc0 BK241 1 rfl; have hcz21_2 : w18.cell? ⟨gb241, 2, none⟩ = some (.int .i64 ((rd_T48 l1_0 x12_1).f2)) := zc0 BK241 2 rfl; have hcz21_3 : w18.cell? ⟨gb241, 3, none⟩ = some (.int .i64 ((rd_T48 l1_0 x12_1).f3)) := zc0 BK241 3 rfl; have hfz21_0 := blk_frozen BK241.out 0; have hfz21_1 := blk_frozen BK241.out 1; have hfz21_2 := blk_frozen BK241.out 2; have hfz21_3 := blk_frozen BK241.out 3) | ((with_reducible refine gate_callee (f := 119) rfl ?_); refine goesL_ (some 19) rfl rfl Try.func119 (by kernel_rfl) rfl #[.agg #[.slice A0_0 l0_0.length c0_0], .agg #[.int .i64 ((rd_T48 l1_0 x12_1).f0), .int .i64 ((rd_T48 l1_0 x12_1).f1), .int .i64 ((rd_T48 l1_0 x12_1).f2), .int .i64 ((rd_T48 l1_0 x12_1).f3)]] rfl (by (try simp only [List.map_toArray, List.map_cons, List.map_nil]); first | done | rfl | (simp only [List.length_drop, List.length_take]; rfl)) ?_; (with_reducible refine (impl_Memory_seen.calls (fun k_ => k_ < w.heap.size) _ _ l0_0 ((rd_T48 l1_0 x12_1).f0) ((rd_T48 l1_0 x12_1).f1) ((rd_T48 l1_0 x12_1).f2) ((rd_T48 l1_0 x12_1).f3) t242 _ ?side1 A12.out).mono ?_); (case side1 => exact Kd.V_mk HC0_0.out (Kd.F_below (Kd.C_F (Kd.heap_slice 5 (Kd.heap_int .u8)) HR0_0.out) (zh0 HB))); rintro e w22 ⟨v243, rfl, ho0, hb⟩; refine ⟨_, rfl, ?_⟩; have n0_ := zrb HO_5 hb; have n1_ := Aside0.mk (Kd.V_lower (Kd.V_mono (ok' := fun k_ => some k_ ≠ (u5 : Value).ownBlock ∧ k_ ≠ gb235 ∧ k_ ≠ gb236 ∧ k_ ≠ gb241) ho0 (fun k_ hk_ => ⟨Or.elim hk_ (fun hs_ => fun e_ => Nat.not_le.2 hs_ (Kd.R_base HO_5.out k_ e_.symm)) (fun hn_ => (Kd.fresh' (Kd.R_lt (zr0 HO_5)) k_ hn_)), Or.elim hk_ (fun hs_ => fun e_ => Nat.not_le.2 hs_ (by rw [e_]; exact GW235.out)) (fun hn_ => (Kd.freshB (g := gb235) (o := .cells #[.slice A0_0 l0_0.length c0_0] 32 (0, 0)) (by (with_reducible repeat (first | refine blk_drewN ?_ _ | refine blk_drew ?_ | refine blk_alloc ?_ _)); exact BK235.out) k_ hn_)), Or.elim hk_ (fun hs_ => fun e_ => Nat.not_le.2 hs_ (by rw [e_]; exact GW236.out)) (fun hn_ => (Kd.freshB (g := gb236) (o := .cells #[.slice (some ad240) l1_0.length c1_0] 36 (0, 0)) (by (with_reducible repeat (first | refine blk_drewN ?_ _ | refine blk_drew ?_ | refine blk_alloc ?_ _)); exact BK236.out) k_ hn_)), Or.elim hk_ (fun hs_ => fun e_ => Nat.not_le.2 hs_ (by rw [e_]; exact GW241.out)) (fun hn_ => (Kd.freshB (g := gb241) (o := .cells #[.int .i64 ((rd_T48 l1_0 x12_1).f0), .int .i64 ((rd_T48 l1_0 x12_1).f1), .int .i64 ((rd_T48 l1_0 x12_1).f2), .int .i64 ((rd_T48 l1_0 x12_1).f3)] 48 (0, 0)) (by (with_reducible repeat (first | refine blk_drewN ?_ _ | refine blk_drew ?_ | refine blk_alloc ?_ _)); exact BK241.out) k_ hn_))⟩)) (below_size (zh0 HB))); have n2_ := Aside0.mk (blk_below (g := gb235) (o := .cells #[.slice A0_0 l0_0.length c0_0] 32 (0, 0)) (by (with_reducible repeat (first | refine blk_drewN ?_ _ | refine blk_drew ?_ | refine blk_alloc ?_ _)); exact BK235.out) hb); have n3_ := Aside0.mk (blk_below (g := gb236) (o := .cells #[.slice (some ad240) l1_0.length c1_0] 36 (0, 0)) (by (with_reducible repeat (first | refine blk_drewN ?_ _ | refine blk_drew ?_ | refine blk_alloc ?_ _)); exact BK236.out) hb); have n4_ := Aside0.mk (blk_below (g := gb241) (o := .cells #[.int .i64 ((rd_T48 l1_0 x12_1).f0), .int .i64 ((rd_T48 l1_0 x12_1).f1), .int .i64 ((rd_T48 l1_0 x12_1).f2), .int .i64 ((rd_T48 l1_0 x12_1).f3)] 48 (0, 0)) (by (with_reducible repeat (first | refine blk_drewN ?_ _ | refine blk_drew ?_ | refine blk_alloc ?_ _)); exact BK241.out) hb); have n5_ := zhs HB hb; clear HO_5; clear BK235; clear BK236; clear BK241; clear HB; have HO_5 := n0_; have HO244 := n1_; have BK235 := n2_; have BK236 := n3_; have BK241 := n4_; have HB := n5_; clear n0_ n1_ n2_ n3_ n4_ n5_; (try clear hb); (try clear hb2); (try clear hk); (try clear hi); (try clear ho0); obtain ⟨Ao24, co24, eo24⟩ := Kd.V_slice HO244.out; subst eo24) | ((with_reducible refine gate_builtin (b := .append) (xs := #[.tmp 16, .tmp 19]) rfl ?_); at_builtin; refine Kd.R_append_rows (Kd.int .u8) (w0 := w) w.heap.size rfl (.tmp 16) (.tmp 19) 74 5 (.int .u8 0) 1 rfl Try.underlying74 info5 rfl (by decide) (by omega) u5 x5_1 t242 _ _ _ (fun _ => True) (fun _ => False) rfl rfl ?aO ?aR (fun _ _ h => h) (fun _ h => h.elim) ?aF ?aB ?aS ?aL ?_; (case aR => repeat (first | exact (Kd.V_reads' HO244.out).2.2 | (with_reducible refine Kd.C_alloc ?_ _) | (with_reducible refine Kd.C_drewN ?_ _) | (with_reducible refine Kd.C_drew ?_))); (case aB => exact (zh0 HB)); (case aF => exact (fun _ _ => trivial)); (case aO => exact (zr0 HO_5)); (case aS => exact (below_size (zh0 HB))); (case aL => have := LMc13.out; omega); intro v246 w23 ho hb hg hat; rw [← Ny245.out] at ho; have n0_ := Aside0.mk (blk_grown (g := gb235) (o := .cells #[.slice A0_0 l0_0.length c0_0] 32 (0, 0)) (by (with_reducible repeat (first | refine blk_drewN ?_ _ | refine blk_drew ?_ | refine blk_alloc ?_ _)); exact BK235.out) hg (Kd.R_ne HO_5.out BK235.out (by decide))); have n1_ := Aside0.mk (blk_grown (g := gb236) (o := .cells #[.slice (some ad240) l1_0.length c1_0] 36 (0, 0)) (by (with_reducible repeat (first | refine blk_drewN ?_ _ | refine blk_drew ?_ | refine blk_alloc ?_ _)); exact BK236.out) hg (Kd.R_ne HO_5.out BK236.out (by decide))); have n2_ := Aside0.mk (blk_grown (g := gb241) (o := .cells #[.int .i64 ((rd_T48 l1_0 x12_1).f0), .int .i64 ((rd_T48 l1_0 x12_1).f1), .int .i64 ((rd_T48 l1_0 x12_1).f2), .int .i64 ((rd_T48 l1_0 x12_1).f3)] 48 (0, 0)) (by (with_reducible repeat (first | refine blk_drewN ?_ _ | refine blk_drew ?_ | refine blk_alloc ?_ _)); exact BK241.out) hg (Kd.R_ne HO_5.out BK241.out (by decide))); have n3_ := Aside0.mk (Kd.V_afterv (ok := (fun k_ => k_ ≠ gb235 ∧ k_ ≠ gb236 ∧ k_ ≠ gb241)) (by (with_reducible repeat (first | apply Kd.V_alloc | apply Kd.V_drewN | apply Kd.V_drew)); exact Kd.V_mono HO244.out (fun _ hk => ⟨⟨hk.2.1, ⟨hk.2.2.1, hk.2.2.2⟩⟩, hk.1⟩)) hg hat); have n4_ := Aside0.mk (hb); have n5_ := Aside0.mk (ho); clear BK235; clear BK236; clear BK241; clear HO244; clear HB; clear HO_5; have BK235 := n0_; have BK236 := n1_; have BK241 := n2_; have HO244 := n3_; have HB := n4_; have HO247 := n5_; clear n0_ n1_ n2_ n3_ n4_ n5_; clear ho hb hg hat))
       go_roundg k1
       case measure => have := HK1.out; omega
       case rel => exact ⟨(y245), (wrap64 (x12_1 + 1)), (by first | rfl | (simp; done) | (simp [*]; done)), H', ⟨by have := HK1.out; omega⟩, ⟨zr0 HO247⟩, ⟨zk0 BK235⟩, ⟨zk0 BK236⟩, ⟨by repeat (first | (with_reducible first | exact HB.out | apply below_alloc | apply pw_below_drewN | apply below_drew1 | refine below_set ?_ GE235.out | refine below_set ?_ GE236.out | refine below_set ?_ GE241.out) | exact HB.out)⟩⟩
      ·rw [if_neg c13] at H
       exact absurd H (by simp)
     ·rw [if_neg c11] at H
      exact absurd H (by simp)
    ·rw [if_neg c10] at H
     exact absurd H (by simp)
   ·rw [if_neg c9] at H
    have c9b0 : decide (x12_1 < (l1_0.length : Int)) = false := decide_eq_false c9
    clear c9
    obtain rfl := Option.some.inj H
    go_wp2
    go_ret
    exact ⟨_, by first | rfl | (simp [errW_none, errW_some] <;> rfl) | (simp [*, errW_none, errW_some] <;> rfl), zr0 HO_5, by repeat (first | (with_reducible first | exact HB.out | apply below_alloc | apply pw_below_drewN | apply below_drew1 | refine below_set ?_ GE235.out | refine below_set ?_ GE236.out) | exact HB.out)⟩

open Go.Proofs.Ytdojnaghcfhadac.Cp
/-! ### impl_RopeText: function 63 -/
def impl_RopeText.f (k : Nat) (l0_0 : List (List Int)) (l1_0 : List (S48)) : Option (List Int × Bool) := (impl_isRope.f k l0_0 l1_0).bind fun t250 => (if t250 = true then ((impl_Memory_ropeText.f k l0_0 l1_0).bind fun t251 => (some (t251, true))) else (some (([] : List Int), false)))
theorem impl_RopeText.mono : ∀ a0 a1 k, LeO (impl_RopeText.f k a0 a1) (impl_RopeText.f (k + 1) a0 a1) := by
 intro a0 a1 k
 unfold impl_RopeText.f
 repeat' first
   | (with_reducible exact impl_Memory_ropeText.mono _ _ _)
   | (with_reducible exact impl_isRope.mono _ _ _)
   | (with_reducible exact LeO.refl _)
   | (with_reducible exact LeO.none _)
   | (with_reducible refine LeO.ite ?_ ?_)
   | (with_reducible refine LeO.bind ?_ (fun _ => ?_))
   | exact impl_Memory_ropeText.mono _ _ _
   | exact impl_isRope.mono _ _ _
   | exact LeO.none _
   | refine LeO.ite ?_ ?_
   | refine LeO.bind ?_ (fun _ => ?_)
set_option maxHeartbeats 8000000 in
set_option maxRecDepth 100000 in
theorem impl_RopeText.calls (k : Nat) (A0_0 : Option Addr) (c0_0 : Nat) (l0_0 : List (List Int)) (A1_0 : Option Addr) (c1_0 : Nat) (l1_0 : List (S48)) (r1 : List Int) (r2 : Bool) (w : World) (hr0_0 : Kd.C (Kd.slice 5 (Kd.int .u8)) w A0_0 l0_0.length l0_0) (hc0_0 : l0_0.length ≤ c0_0) (hr1_0 : Kd.C k48 w A1_0 l1_0.length l1_0) (hc1_0 : l1_0.length ≤ c1_0) (h : impl_RopeText.f k l0_0 l1_0 = some (r1, r2)) :
  Calls Try.prog 63 #[.agg #[.slice A0_0 l0_0.length c0_0], .agg #[.slice A1_0 l1_0.length c1_0]] w fun e w' => ∃ v0_ : Value, e = .returned (.tuple #[v0_, .bool r2]) ∧ Kd.R (Kd.int .u8) 5 w' w.heap.size (fun _ => True) v0_ r1 ∧ Below w.heap.size w w' := by
 have hu32 := Try.underlying32
 have hu36 := Try.underlying36
 have HR0_0 := Aside0.mk hr0_0
 have HC0_0 := Aside0.mk hc0_0
 clear hr0_0 hc0_0
 have HR1_0 := Aside0.mk hr1_0
 have HC1_0 := Aside0.mk hc1_0
 clear hr1_0 hc1_0
 have HB := Aside0.mk (Below.refl w.heap.size w)
 have H : ((impl_isRope.f k l0_0 l1_0).bind fun t250 => (if t250 = true then ((impl_Memory_ropeText.f k l0_0 l1_0).bind fun t251 => (some (t251, true))) else (some (([] : List Int), false)))) = some (r1, r2) := h
 clear h
 replace H := Option.bind_eq_some_iff.mp H
 obtain ⟨t250, A30, H⟩ := H
 replace H : (if t250 = true then ((impl_Memory_ropeText.f k l0_0 l1_0).bind fun t251 => (some (t251, true))) else (some (([] : List Int), false))) = some (r1, r2) := H
 have A3 := Aside0.mk A30
 clear A30
 by_cases c4 : t250 = true
 ·subst c4
  have H1 : ((impl_Memory_ropeText.f k l0_0 l1_0).bind fun t251 => (some (t251, true))) = some (r1, r2) := by rw [if_pos rfl] at H; exact H
  clear H
  have H := H1
  clear H1
  replace H := Option.bind_eq_some_iff.mp H
  obtain ⟨t251, A50, H⟩ := H
  replace H : (some (t251, true)) = some (r1, r2) := H
  have A5 := Aside0.mk A50
  clear A50
  simp only [Option.some.injEq, Prod.mk.injEq] at H
  obtain ⟨rfl, rfl⟩ := H
  go_enter Try.func63, Try.ntmps63
  go_wp2_with (first | ((with_reducible refine gate_dst (N := 2) rfl ?_); refine box_event ?hg (N := 2) ?hd (cs := #[.slice A0_0 l0_0.length c0_0]) (t := 32) ?hr ?_; (case hd => rfl); (case hg => rfl); (case hr => first | (go_simp; done) | (go_simp; rfl)); intro gb248 hg w6 hbox hb; have n0_ := zhs HB hb; have n1_ := Aside0.mk (hbox); have n2_ := zge HB hg; have n3_ := zge HB hg; clear HB; have HB := n0_; have BK248 := n1_; have GW248 := n2_; have GE248 := n3_; clear n0_ n1_ n2_ n3_; clear hb hbox hg) | ((with_reducible refine gate_dst (N := 3) rfl ?_); refine box_event ?hg (N := 3) ?hd (cs := #[.slice A1_0 l1_0.length c1_0]) (t := 36) ?hr ?_; (case hd => rfl); (case hg => rfl); (case hr => first | (go_simp; done) | (go_simp; rfl)); intro gb249 hg w7 hbox hb; have n0_ := zb0 BK248 hb; have n1_ := zhs HB hb; have n2_ := Aside0.mk (hbox); have n3_ := zge HB hg; have n4_ := zge HB hg; have n5_ := znl BK248 hg; have n6_ := znr BK248 hg; clear BK248; clear HB; have BK248 := n0_; have HB := n1_; have BK249 := n2_; have GW249 := n3_; have GE249 := n4_; have NB248_249 := n5_; have NB249_248 := n6_; clear n0_ n1_ n2_ n3_ n4_ n5_ n6_; clear hb hbox hg; have hnb8 := NB248_249.out; have hnc8 := NB249_248.out; have hcz9_0 : w7.cell? ⟨gb248, 0, none⟩ = some (.slice A0_0 l0_0.length c0_0) := zc0 BK248 0 rfl; have hfz9_0 := blk_frozen BK248.out 0; have hcz10_0 : w7.cell? ⟨gb249, 0, none⟩ = some (.slice A1_0 l1_0.length c1_0) := zc0 BK249 0 rfl; have hfz10_0 := blk_frozen BK249.out 0) | ((with_reducible refine gate_callee (f := 69) rfl ?_); refine goesL_ (some 8) rfl rfl Try.func69 (by kernel_rfl) rfl #[.agg #[.slice A0_0 l0_0.length c0_0], .agg #[.slice A1_0 l1_0.length c1_0]] rfl (by (try simp only [List.map_toArray, List.map_cons, List.map_nil]); first | done | rfl | (simp only [List.length_drop, List.length_take]; rfl)) ?_; (with_reducible refine (impl_isRope.calls k _ _ l0_0 _ _ l1_0 true _ ?side1 ?side2 ?side3 ?side4 A3.out).mono ?_); (case side1 => repeat (first | exact (Kd.C_below HR0_0.out HB.out) | (with_reducible refine Kd.C_alloc ?_ _) | (with_reducible refine Kd.C_drewN ?_ _) | (with_reducible refine Kd.C_drew ?_))); (case side2 => exact HC0_0.out); (case side3 => repeat (first | exact (Kd.C_below HR1_0.out HB.out) | (with_reducible refine Kd.C_alloc ?_ _) | (with_reducible refine Kd.C_drewN ?_ _) | (with_reducible refine Kd.C_drew ?_))); (case side4 => exact HC1_0.out); rintro e w11 ⟨rfl, hb⟩; refine ⟨_, rfl, ?_⟩; have n0_ := zb0 BK248 hb; have n1_ := zb0 BK249 hb; have n2_ := zhs HB hb; clear BK248; clear BK249; clear HB; have BK248 := n0_; have BK249 := n1_; have HB := n2_; clear n0_ n1_ n2_; (try clear hb); (try clear hb2); (try clear hk); (try clear hi); have hcz12_0 : w11.cell? ⟨gb248, 0, none⟩ = some (.slice A0_0 l0_0.length c0_0) := zc0 BK248 0 rfl; have hfz12_0 := blk_frozen BK248.out 0; have hcz13_0 : w11.cell? ⟨gb249, 0, none⟩ = some (.slice A1_0 l1_0.length c1_0) := zc0 BK249 0 rfl; have hfz13_0 := blk_frozen BK249.out 0) | ((with_reducible refine gate_callee (f := 96) rfl ?_); refine goesL_ (some 12) rfl rfl Try.func96 (by kernel_rfl) rfl #[.agg #[.slice A0_0 l0_0.length c0_0], .agg #[.slice A1_0 l1_0.length c1_0]] rfl (by (try simp only [List.map_toArray, List.map_cons, List.map_nil]); first | done | rfl | (simp only [List.length_drop, List.length_take]; rfl)) ?_; (with_reducible refine (impl_Memory_ropeText.calls k _ _ l0_0 _ _ l1_0 t251 _ ?side1 ?side2 ?side3 ?side4 A5.out).mono ?_); (case side1 => repeat (first | exact (Kd.C_below HR0_0.out HB.out) | (with_reducible refine Kd.C_alloc ?_ _) | (with_reducible refine Kd.C_drewN ?_ _) | (with_reducible refine Kd.C_drew ?_))); (case side2 => exact HC0_0.out); (case side3 => repeat (first | exact (Kd.C_below HR1_0.out HB.out) | (with_reducible refine Kd.C_alloc ?_ _) | (with_reducible refine Kd.C_drewN ?_ _) | (with_reducible refine Kd.C_drew ?_))); (case side4 => exact HC1_0.out); rintro e w14 ⟨v252, rfl, ho0, hb⟩; refine ⟨_, rfl, ?_⟩; have n0_ := Aside0.mk (Kd.R_lower ho0 (below_size (zh0 HB))); have n1_ := zb0 BK248 hb; have n2_ := zb0 BK249 hb; have n3_ := zhs HB hb; clear BK248; clear BK249; clear HB; have HO253 := n0_; have BK248 := n1_; have BK249 := n2_; have HB := n3_; clear n0_ n1_ n2_ n3_; (try clear hb); (try clear hb2); (try clear hk); (try clear hi); (try clear ho0)))
  go_ret2
  exact ⟨_, by first | rfl | (simp [errW_none, errW_some] <;> rfl) | (simp [*, errW_none, errW_some] <;> rfl), zr0 HO253, by repeat (first | (with_reducible first | exact HB.out | apply below_alloc | apply pw_below_drewN | apply below_drew1 | refine below_set ?_ GE248.out | refine below_set ?_ GE249.out) | exact HB.out)⟩
 ·replace c4 := Bool.eq_false_iff.mpr c4
  subst c4
  have H1 : (some (([] : List Int), false)) = some (r1, r2) := by rw [if_neg (show ¬ (false = true) by decide)] at H; exact H
  clear H
  have H := H1
  clear H1
  simp only [Option.some.injEq, Prod.mk.injEq] at H
  obtain ⟨rfl, rfl⟩ := H
  go_enter Try.func63, Try.ntmps63
  go_wp2_with (first | ((with_reducible refine gate_dst (N := 2) rfl ?_); refine box_event ?hg (N := 2) ?hd (cs := #[.slice A0_0 l0_0.length c0_0]) (t := 32) ?hr ?_; (case hd => rfl); (case hg => rfl); (case hr => first | (go_simp; done) | (go_simp; rfl)); intro gb248 hg w15 hbox hb; have n0_ := zhs HB hb; have n1_ := Aside0.mk (hbox); have n2_ := zge HB hg; have n3_ := zge HB hg; clear HB; have HB := n0_; have BK248 := n1_; have GW248 := n2_; have GE248 := n3_; clear n0_ n1_ n2_ n3_; clear hb hbox hg) | ((with_reducible refine gate_dst (N := 3) rfl ?_); refine box_event ?hg (N := 3) ?hd (cs := #[.slice A1_0 l1_0.length c1_0]) (t := 36) ?hr ?_; (case hd => rfl); (case hg => rfl); (case hr => first | (go_simp; done) | (go_simp; rfl)); intro gb249 hg w16 hbox hb; have n0_ := zb0 BK248 hb; have n1_ := zhs HB hb; have n2_ := Aside0.mk (hbox); have n3_ := zge HB hg; have n4_ := zge HB hg; have n5_ := znl BK248 hg; have n6_ := znr BK248 hg; clear BK248; clear HB; have BK248 := n0_; have HB := n1_; have BK249 := n2_; have GW249 := n3_; have GE249 := n4_; have NB248_249 := n5_; have NB249_248 := n6_; clear n0_ n1_ n2_ n3_ n4_ n5_ n6_; clear hb hbox hg; have hnb17 := NB248_249.out; have hnc17 := NB249_248.out; have hcz18_0 : w16.cell? ⟨gb248, 0, none⟩ = some (.slice A0_0 l0_0.length c0_0) := zc0 BK248 0 rfl; have hfz18_0 := blk_frozen BK248.out 0; have hcz19_0 : w16.cell? ⟨gb249, 0, none⟩ = some (.slice A1_0 l1_0.length c1_0) := zc0 BK249 0 rfl; have hfz19_0 := blk_frozen BK249.out 0) | ((with_reducible refine gate_callee (f := 69) rfl ?_); refine goesL_ (some 8) rfl rfl Try.func69 (by kernel_rfl) rfl #[.agg #[.slice A0_0 l0_0.length c0_0], .agg #[.slice A1_0 l1_0.length c1_0]] rfl (by (try simp only [List.map_toArray, List.map_cons, List.map_nil]); first | done | rfl | (simp only [List.length_drop, List.length_take]; rfl)) ?_; (with_reducible refine (impl_isRope.calls k _ _ l0_0 _ _ l1_0 false _ ?side1 ?side2 ?side3 ?side4 A3.out).mono ?_); (case side1 => repeat (first | exact (Kd.C_below HR0_0.out HB.out) | (with_reducible refine Kd.C_alloc ?_ _) | (with_reducible refine Kd.C_drewN ?_ _) | (with_reducible refine Kd.C_drew ?_))); (case side2 => exact HC0_0.out); (case side3 => repeat (first | exact (Kd.C_below HR1_0.out HB.out) | (with_reducible refine Kd.C_alloc ?_ _) | (with_reducible refine Kd.C_drewN ?_ _) | (with_reducible refine Kd.C_drew ?_))); (case side4 => exact HC1_0.out); rintro e w20 ⟨rfl, hb⟩; refine ⟨_, rfl, ?_⟩; have n0_ := zb0 BK248 hb; have n1_ := zb0 BK249 hb; have n2_ := zhs HB hb; clear BK248; clear BK249; clear HB; have BK248 := n0_; have BK249 := n1_; have HB := n2_; clear n0_ n1_ n2_; (try clear hb); (try clear hb2); (try clear hk); (try clear hi)))
  go_ret2
  exact ⟨_, by first | rfl | (simp [errW_none, errW_some] <;> rfl) | (simp [*, errW_none, errW_some] <;> rfl), by first | exact Kd.R_nil _ _ _ _ _ | exact Kd.N_nil _ _ _ _ _ | exact Kd.V_nil _ _ _ _ _ | exact Kd.Q_nil _ _ _ _ _ | exact Kd.S_nil _ _ _ _ _, by repeat (first | (with_reducible first | exact HB.out | apply below_alloc | apply pw_below_drewN | apply below_drew1 | refine below_set ?_ GE248.out | refine below_set ?_ GE249.out) | exact HB.out)⟩

open Go.Proofs.Ytdojnaghcfhadac.Cp
/-! ### laws_markWindowS: function 42 -/
def laws_markWindowS.l0 : Nat → List (S48) → Int → Int → Option (Int × (List (S48)))
 | 0, _, _, _ => none
 | k + 1, x0, x1, x5 => if x5 < (x0.length : Int) then (if 0 ≤ x5 then ((some (x0.set (x5 : Int).toNat (⟨x1, (rd_T48 x0 x5).f1, (rd_T48 x0 x5).f2, (rd_T48 x0 x5).f3⟩ : S48) : List (S48))).bind fun y254 => ((some (y254.set (x5 : Int).toNat (⟨(rd_T48 y254 x5).f0, wrap64 (x1 + 1), (rd_T48 y254 x5).f2, (rd_T48 y254 x5).f3⟩ : S48) : List (S48))).bind fun y255 => ((some (y255.set (x5 : Int).toNat (⟨(rd_T48 y255 x5).f0, (rd_T48 y255 x5).f1, wrap64 ((wrap64 (x1 + 1)) + 1), (rd_T48 y255 x5).f3⟩ : S48) : List (S48))).bind fun y256 => (laws_markWindowS.l0 k (y256.set (x5 : Int).toNat (⟨(rd_T48 y256 x5).f0, (rd_T48 y256 x5).f1, (rd_T48 y256 x5).f2, wrap64 ((wrap64 ((wrap64 (x1 + 1)) + 1)) + 1)⟩ : S48)) (wrap64 ((wrap64 ((wrap64 ((wrap64 (x1 + 1)) + 1)) + 1)) + 1)) (wrap64 (x5 + 1)))))) else (none)) else (some (x1, x0))
def laws_markWindowS.f (k : Nat) (l0 : List (S48)) (a1 : Int) : Option (Int × (List (S48))) := laws_markWindowS.l0 k l0 a1 0
theorem laws_markWindowS.mono_l : ∀ k, (∀ y0 y1 y2, LeO (laws_markWindowS.l0 k y0 y1 y2) (laws_markWindowS.l0 (k + 1) y0 y1 y2))
 | 0 => fun _ _ _ r h => by simp [laws_markWindowS.l0] at h
 | k + 1 => by
  have ih0 := laws_markWindowS.mono_l k
  ·intro y0 y1 y2
   unfold laws_markWindowS.l0
   repeat' first
   | (with_reducible exact ih0 _ _ _)
   | (with_reducible exact LeO.refl _)
   | (with_reducible exact LeO.none _)
   | (with_reducible refine LeO.ite ?_ ?_)
   | (with_reducible refine LeO.bind ?_ (fun _ => ?_))
   | exact ih0 _ _ _
   | exact LeO.none _
   | refine LeO.ite ?_ ?_
   | refine LeO.bind ?_ (fun _ => ?_)
theorem laws_markWindowS.mono : ∀ a0 a1 k, LeO (laws_markWindowS.f k a0 a1) (laws_markWindowS.f (k + 1) a0 a1) := by
 intro a0 a1 k
 have ih0 := laws_markWindowS.mono_l k
 unfold laws_markWindowS.f
 repeat' first
   | (with_reducible exact ih0 _ _ _)
   | (with_reducible exact LeO.refl _)
   | (with_reducible exact LeO.none _)
   | (with_reducible refine LeO.ite ?_ ?_)
   | (with_reducible refine LeO.bind ?_ (fun _ => ?_))
   | exact ih0 _ _ _
   | exact LeO.none _
   | refine LeO.ite ?_ ?_
   | refine LeO.bind ?_ (fun _ => ?_)
set_option maxHeartbeats 8000000 in
set_option maxRecDepth 100000 in
theorem laws_markWindowS.calls (k : Nat) (P0_ : Nat → Prop) (u9000_ : Value) (l0 : List (S48)) (a1 : Int) (r1 : Int) (r2 : List (S48)) (w0 w : World) (hB : Below w0.heap.size w0 w) (ho0 : Kd.R k48 48 w w0.heap.size P0_ u9000_ l0) (h : laws_markWindowS.f k l0 a1 = some (r1, r2)) :
  Calls Try.prog 42 #[u9000_, .int .i64 a1] w fun e w' => e = .returned (.int .i64 r1) ∧ Kd.R k48 48 w' w0.heap.size (fun k_ => (P0_ k_ ∨ w.heap.size ≤ k_)) u9000_ r2 ∧ Below w0.heap.size w0 w' ∧ Kept w w' (fun k_ => P0_ k_) := by
 have HO0 := Aside0.mk (show Kd.R k48 48 w w0.heap.size (fun k_ => (P0_ k_ ∨ w.heap.size ≤ k_)) u9000_ l0 from Kd.R_mono ho0 (fun k_ hk => (.inl hk)))
 have HK := Aside0.mk (Kept.refl w (fun k_ => P0_ k_))
 have HW0 := Aside0.mk hB.size
 have HB := Aside0.mk hB
 clear hB
 have H : (laws_markWindowS.l0 k l0 a1 0) = some (r1, r2) := h
 clear h
 have H' := Aside0.mk H
 clear H
 go_enter Try.func42, Try.ntmps42
 go_wp2
 go_loopg [1, 5] k (fun kq v1 v5 w' => ∃ (x0_1 : List (S48)) (x1_1 : Int) (x5_1 : Int), v1 = .int .i64 x1_1 ∧ v5 = .int .i64 x5_1 ∧ Aside0 (laws_markWindowS.l0 kq x0_1 x1_1 x5_1 = some (r1, r2)) ∧ Aside0 (kq ≤ k) ∧ Aside0 (Kd.R k48 48 w' w0.heap.size (fun k_ => (P0_ k_ ∨ w.heap.size ≤ k_)) u9000_ x0_1) ∧ Aside0 (Kept w w' (fun k_ => P0_ k_)) ∧ Aside0 (Below w0.heap.size w0 w'))
 case atStart => exact ⟨(l0), (a1), (0), (by first | rfl | (simp; done) | (simp [*]; done)), (by first | rfl | (simp; done) | (simp [*]; done)), H', ⟨Nat.le_refl _⟩, ⟨zr0 HO0⟩, ⟨by repeat (first | (with_reducible first | exact HK.out | apply Kept.alloc | apply Kept.drewN | apply Kept.drew) | exact HK.out)⟩, ⟨by repeat (first | (with_reducible first | exact HB.out | apply below_alloc | apply pw_below_drewN | apply below_drew1) | exact HB.out)⟩⟩
 case round =>
  clear H'
  try clear p2
  obtain ⟨x0_1, x1_1, x5_1, rfl, rfl, HA, HK1, HO_0, HK, HB⟩ := hrel
  cases gk with
  | zero => exact absurd HA.out (by simp [laws_markWindowS.l0])
  | succ k1 =>
   have H := HA.out
   clear HA
   simp only [laws_markWindowS.l0] at H
   by_cases c3 : x5_1 < (x0_1.length : Int)
   ·rw [if_pos c3] at H
    have c3b0 : decide (x5_1 < (x0_1.length : Int)) = true := decide_eq_true c3
    clear c3
    by_cases c4 : 0 ≤ x5_1
    ·rw [if_pos c4] at H
     have c4b0 : decide (0 ≤ x5_1) = true := decide_eq_true c4
     clear c4
     obtain ⟨y254, hy254⟩ : ∃ y_ : List (S48), y_ = (x0_1.set (x5_1 : Int).toNat (⟨x1_1, (rd_T48 x0_1 x5_1).f1, (rd_T48 x0_1 x5_1).f2, (rd_T48 x0_1 x5_1).f3⟩ : S48)) := ⟨_, rfl⟩
     replace H : ((some (y254.set (x5_1 : Int).toNat (⟨(rd_T48 y254 x5_1).f0, wrap64 (x1_1 + 1), (rd_T48 y254 x5_1).f2, (rd_T48 y254 x5_1).f3⟩ : S48) : List (S48))).bind fun y255 => ((some (y255.set (x5_1 : Int).toNat (⟨(rd_T48 y255 x5_1).f0, (rd_T48 y255 x5_1).f1, wrap64 ((wrap64 (x1_1 + 1)) + 1), (rd_T48 y255 x5_1).f3⟩ : S48) : List (S48))).bind fun y256 => (laws_markWindowS.l0 k1 (y256.set (x5_1 : Int).toNat (⟨(rd_T48 y256 x5_1).f0, (rd_T48 y256 x5_1).f1, (rd_T48 y256 x5_1).f2, wrap64 ((wrap64 ((wrap64 (x1_1 + 1)) + 1)) + 1)⟩ : S48)) (wrap64 ((wrap64 ((wrap64 ((wrap64 (x1_1 + 1)) + 1)) + 1)) + 1)) (wrap64 (x5_1 + 1))))) = some (r1, r2) := by first | (rw [hy254]; with_reducible exact H) | (have H2_ := (Option.bind_some _ _).symm.trans H; rw [hy254]; with_reducible exact H2_) | (have H2_ := (Option.bind_some _ _).symm.trans H; with_reducible exact H2_) | with_reducible exact H | (rw [hy254]; exact H) | exact H
     have Ny254 := Aside0.mk hy254
     clear hy254
     obtain ⟨y255, hy255⟩ : ∃ y_ : List (S48), y_ = (y254.set (x5_1 : Int).toNat (⟨(rd_T48 y254 x5_1).f0, wrap64 (x1_1 + 1), (rd_T48 y254 x5_1).f2, (rd_T48 y254 x5_1).f3⟩ : S48)) := ⟨_, rfl⟩
     replace H : ((some (y255.set (x5_1 : Int).toNat (⟨(rd_T48 y255 x5_1).f0, (rd_T48 y255 x5_1).f1, wrap64 ((wrap64 (x1_1 + 1)) + 1), (rd_T48 y255 x5_1).f3⟩ : S48) : List (S48))).bind fun y256 => (laws_markWindowS.l0 k1 (y256.set (x5_1 : Int).toNat (⟨(rd_T48 y256 x5_1).f0, (rd_T48 y256 x5_1).f1, (rd_T48 y256 x5_1).f2, wrap64 ((wrap64 ((wrap64 (x1_1 + 1)) + 1)) + 1)⟩ : S48)) (wrap64 ((wrap64 ((wrap64 ((wrap64 (x1_1 + 1)) + 1)) + 1)) + 1)) (wrap64 (x5_1 + 1)))) = some (r1, r2) := by first | (rw [hy255]; with_reducible exact H) | (have H2_ := (Option.bind_some _ _).symm.trans H; rw [hy255]; with_reducible exact H2_) | (have H2_ := (Option.bind_some _ _).symm.trans H; with_reducible exact H2_) | with_reducible exact H | (rw [hy255]; exact H) | exact H
     have Ny255 := Aside0.mk hy255
     clear hy255
     obtain ⟨y256, hy256⟩ : ∃ y_ : List (S48), y_ = (y255.set (x5_1 : Int).toNat (⟨(rd_T48 y255 x5_1).f0, (rd_T48 y255 x5_1).f1, wrap64 ((wrap64 (x1_1 + 1)) + 1), (rd_T48 y255 x5_1).f3⟩ : S48)) := ⟨_, rfl⟩
     replace H : (laws_markWindowS.l0 k1 (y256.set (x5_1 : Int).toNat (⟨(rd_T48 y256 x5_1).f0, (rd_T48 y256 x5_1).f1, (rd_T48 y256 x5_1).f2, wrap64 ((wrap64 ((wrap64 (x1_1 + 1)) + 1)) + 1)⟩ : S48)) (wrap64 ((wrap64 ((wrap64 ((wrap64 (x1_1 + 1)) + 1)) + 1)) + 1)) (wrap64 (x5_1 + 1))) = some (r1, r2) := by first | (rw [hy256]; with_reducible exact H) | (have H2_ := (Option.bind_some _ _).symm.trans H; rw [hy256]; with_reducible exact H2_) | (have H2_ := (Option.bind_some _ _).symm.trans H; with_reducible exact H2_) | with_reducible exact H | (rw [hy256]; exact H) | exact H
     have Ny256 := Aside0.mk hy256
     clear hy256
     obtain ⟨y257, hy257⟩ : ∃ y_ : List (S48), y_ = (y256.set (x5_1 : Int).toNat (⟨(rd_T48 y256 x5_1).f0, (rd_T48 y256 x5_1).f1, (rd_T48 y256 x5_1).f2, wrap64 ((wrap64 ((wrap64 (x1_1 + 1)) + 1)) + 1)⟩ : S48)) := ⟨_, rfl⟩
     replace H : (laws_markWindowS.l0 k1 y257 (wrap64 ((wrap64 ((wrap64 ((wrap64 (x1_1 + 1)) + 1)) + 1)) + 1)) (wrap64 (x5_1 + 1))) = some (r1, r2) := by first | (rw [hy257]; with_reducible exact H) | (have H2_ := (Option.bind_some _ _).symm.trans H; rw [hy257]; with_reducible exact H2_) | (have H2_ := (Option.bind_some _ _).symm.trans H; with_reducible exact H2_) | with_reducible exact H | (rw [hy257]; exact H) | exact H
     have Ny257 := Aside0.mk hy257
     clear hy257
     have H' := Aside0.mk H
     clear H
     obtain ⟨Ao9, co9, eo9⟩ := Kd.R_slice HO_0.out
     subst eo9
     have p5 : 0 ≤ (x5_1 : Int) := of_decide_eq_true (by first | (with_reducible assumption) | assumption)
     have q5 : (x5_1 : Int) < ((x0_1.length : Int) : Int) := of_decide_eq_true (by first | (with_reducible assumption) | assumption)
     obtain ⟨go5, co5, eo5, gb5, gl5, cl5, HG5⟩ := Kd.R_form HO_0.out (by omega)
     (first | cases eo5 | (injection eo5 with ea_ en_ ec_; (first | subst ea_ | (injection ea_ with ea_; subst ea_)); subst ec_; clear en_))
     have GB5 := Aside0.mk gb5
     have GG5 := Aside0.mk HG5
     clear gb5 gl5 HG5
     have HMgo5 := Aside0.mk (show (P0_ go5 ∨ w.heap.size ≤ go5) from (HO_0.out.1 _ rfl))
     obtain ⟨ce5, hcl5, hM5, hcc5, hfr5⟩ := Kd.R_elem HO_0.out z48 (x5_1 : Int) p5 q5
     obtain rfl := k48_openM hM5
     have hx5_0 : wr.cell? ⟨go5, (x5_1 : Int).toNat * 4, none⟩ = some (.int .i64 ((rd_T48 x0_1 x5_1).f0)) := hcc5 0 _ rfl
     have hx5_1 : wr.cell? ⟨go5, (x5_1 : Int).toNat * 4 + 1, none⟩ = some (.int .i64 ((rd_T48 x0_1 x5_1).f1)) := hcc5 1 _ rfl
     have hx5_2 : wr.cell? ⟨go5, (x5_1 : Int).toNat * 4 + 2, none⟩ = some (.int .i64 ((rd_T48 x0_1 x5_1).f2)) := hcc5 2 _ rfl
     have hx5_3 : wr.cell? ⟨go5, (x5_1 : Int).toNat * 4 + 3, none⟩ = some (.int .i64 ((rd_T48 x0_1 x5_1).f3)) := hcc5 3 _ rfl
     have hf5_0 : wr.frozen? ⟨go5, (x5_1 : Int).toNat * 4, none⟩ = false := hfr5 0
     have hf5_1 : wr.frozen? ⟨go5, (x5_1 : Int).toNat * 4 + 1, none⟩ = false := hfr5 1
     have hf5_2 : wr.frozen? ⟨go5, (x5_1 : Int).toNat * 4 + 2, none⟩ = false := hfr5 2
     have hf5_3 : wr.frozen? ⟨go5, (x5_1 : Int).toNat * 4 + 3, none⟩ = false := hfr5 3
     clear hcl5 hcc5 hfr5; (try clear hM5)
     replace p5 := eq_true p5
     replace q5 := eq_true q5
     have HX10 := Aside0.mk (show Kd.R k48 48 wr w0.heap.size (fun k_ => (P0_ k_ ∨ w.heap.size ≤ k_)) (.slice (some ⟨go5, 0, none⟩) x0_1.length co9) x0_1 from (zr0 HO_0))
     obtain ⟨ce10, hcl10, hM10, hcc10, hfr10⟩ := Kd.R_elem HX10.out z48 (x5_1 : Int) (of_decide_eq_true (by first | (with_reducible assumption) | assumption)) (by have h_ : (x5_1 : Int) < ((x0_1.length : Int) : Int) := of_decide_eq_true (by first | (with_reducible assumption) | assumption); first | exact h_ | (have e_ := (Kd.R_reads' HO_0.out).1; omega) | simpa using h_)
     obtain rfl := k48_openM hM10
     have HP10 := Kd.R_seg HX10.out (x5_1 : Int) (of_decide_eq_true (by first | (with_reducible assumption) | assumption)) (by have h_ : (x5_1 : Int) < ((x0_1.length : Int) : Int) := of_decide_eq_true (by first | (with_reducible assumption) | assumption); first | exact h_ | (have e_ := (Kd.R_reads' HO_0.out).1; omega) | simpa using h_) (seg := [.int .i64 x1_1]) (j := 0) hcl10 hcc10 (show 1 ≤ 4 from by decide) (x' := (⟨x1_1, (rd_T48 x0_1 x5_1).f1, (rd_T48 x0_1 x5_1).f2, (rd_T48 x0_1 x5_1).f3⟩ : S48)) (k48_mkM _ _ _ (⟨x1_1, (rd_T48 x0_1 x5_1).f1, (rd_T48 x0_1 x5_1).f2, (rd_T48 x0_1 x5_1).f3⟩ : S48) ) (fun _ hk => hk)
     have hx10_0 := hcc10 0 _ rfl
     (try simp only [show (k48).sz = 4 from rfl, Nat.mul_one, Nat.add_zero] at hx10_0)
     have hf10_0 := hfr10 0
     (try simp only [show (k48).sz = 4 from rfl, Nat.mul_one, Nat.add_zero] at hf10_0)
     clear hcl10 hcc10 hfr10; (try clear hM10)
     go_wp2_with (first | ((with_reducible refine gate_store (t := 3) (p := 16) rfl ?_); refine store_event (t := 3) (p := 16) (v := ?vo_w11) (w1 := (wr.setCell ⟨go5, (x5_1 : Int).toNat * 4, none⟩ (.int .i64 x1_1))) ?hg ?ho ?hn ?hr ?_; (case ho => rfl); (case hg => rfl); (case hn => rfl); (case hr => first | (go_simp; done) | (go_simp; rfl)); intro w11 hw; have hg : wr.grownBy w11 (some go5) := (by rw [hw]; exact HP10.2); have hp_ : Kd.R k48 48 w11 w0.heap.size (fun k_ => (P0_ k_ ∨ w.heap.size ≤ k_)) (.slice (some ⟨go5, 0, none⟩) x0_1.length co9) y254 := (by rw [hw, Ny254.out]; exact HP10.1); clear HP10; have n0_ := Aside0.mk (hp_); have n1_ := Aside0.mk ((by rw [hw]; exact below_set (HB.out) GB5.out : Below w0.heap.size w0 w11)); have n2_ := Aside0.mk (Kept.of_grown (S := (fun k_ => P0_ k_)) hg (by repeat (first | (with_reducible first | exact HK.out | apply Kept.alloc | apply Kept.drewN | apply Kept.drew) | exact HK.out)) (fun k_ e_ => (HO_0.out.1 k_ e_))); clear HO_0; clear HB; clear HK; have HO_0 := n0_; have HB := n1_; have HK := n2_; clear n0_ n1_ n2_; clear hg hw hp_; have p6 : 0 ≤ (x5_1 : Int) := of_decide_eq_true (by first | (with_reducible assumption) | assumption); have q6 : (x5_1 : Int) < ((x0_1.length : Int) : Int) := of_decide_eq_true (by first | (with_reducible assumption) | assumption); obtain ⟨ce6, hcl6, hM6, hcc6, hfr6⟩ := Kd.R_elem HO_0.out z48 (x5_1 : Int) p6 q6; obtain rfl := k48_openM hM6; have hx6_0 : w11.cell? ⟨go5, (x5_1 : Int).toNat * 4, none⟩ = some (.int .i64 ((rd_T48 y254 x5_1).f0)) := hcc6 0 _ rfl; have hx6_1 : w11.cell? ⟨go5, (x5_1 : Int).toNat * 4 + 1, none⟩ = some (.int .i64 ((rd_T48 y254 x5_1).f1)) := hcc6 1 _ rfl; have hx6_2 : w11.cell? ⟨go5, (x5_1 : Int).toNat * 4 + 2, none⟩ = some (.int .i64 ((rd_T48 y254 x5_1).f2)) := hcc6 2 _ rfl; have hx6_3 : w11.cell? ⟨go5, (x5_1 : Int).toNat * 4 + 3, none⟩ = some (.int .i64 ((rd_T48 y254 x5_1).f3)) := hcc6 3 _ rfl; have hf6_0 : w11.frozen? ⟨go5, (x5_1 : Int).toNat * 4, none⟩ = false := hfr6 0; have hf6_1 : w11.frozen? ⟨go5, (x5_1 : Int).toNat * 4 + 1, none⟩ = false := hfr6 1; have hf6_2 : w11.frozen? ⟨go5, (x5_1 : Int).toNat * 4 + 2, none⟩ = false := hfr6 2; have hf6_3 : w11.frozen? ⟨go5, (x5_1 : Int).toNat * 4 + 3, none⟩ = false := hfr6 3; clear hcl6 hcc6 hfr6; (try clear hM6); replace p6 := eq_true p6; replace q6 := eq_true q6; have HX12 := Aside0.mk (show Kd.R k48 48 w11 w0.heap.size (fun k_ => (P0_ k_ ∨ w.heap.size ≤ k_)) (.slice (some ⟨go5, 0, none⟩) x0_1.length co9) y254 from (zr0 HO_0)); obtain ⟨ce12, hcl12, hM12, hcc12, hfr12⟩ := Kd.R_elem HX12.out z48 (x5_1 : Int) (of_decide_eq_true (by first | (with_reducible assumption) | assumption)) (by have h_ : (x5_1 : Int) < ((x0_1.length : Int) : Int) := of_decide_eq_true (by first | (with_reducible assumption) | assumption); first | exact h_ | (have e_ := (Kd.R_reads' HO_0.out).1; omega) | simpa using h_); obtain rfl := k48_openM hM12; have HP12 := Kd.R_seg HX12.out (x5_1 : Int) (of_decide_eq_true (by first | (with_reducible assumption) | assumption)) (by have h_ : (x5_1 : Int) < ((x0_1.length : Int) : Int) := of_decide_eq_true (by first | (with_reducible assumption) | assumption); first | exact h_ | (have e_ := (Kd.R_reads' HO_0.out).1; omega) | simpa using h_) (seg := [.int .i64 (wrap64 (x1_1 + 1))]) (j := 1) hcl12 hcc12 (show 2 ≤ 4 from by decide) (x' := (⟨(rd_T48 y254 x5_1).f0, wrap64 (x1_1 + 1), (rd_T48 y254 x5_1).f2, (rd_T48 y254 x5_1).f3⟩ : S48)) (k48_mkM _ _ _ (⟨(rd_T48 y254 x5_1).f0, wrap64 (x1_1 + 1), (rd_T48 y254 x5_1).f2, (rd_T48 y254 x5_1).f3⟩ : S48) ) (fun _ hk => hk); have hx12_1 := hcc12 1 _ rfl; (try simp only [show (k48).sz = 4 from rfl, Nat.mul_one, Nat.add_zero] at hx12_1); have hf12_1 := hfr12 1; (try simp only [show (k48).sz = 4 from rfl, Nat.mul_one, Nat.add_zero] at hf12_1); clear hcl12 hcc12 hfr12; (try clear hM12)) | ((with_reducible refine gate_store (t := 3) (p := 23) rfl ?_); refine store_event (t := 3) (p := 23) (v := ?vo_w13) (w1 := (w11.setCell ⟨go5, (x5_1 : Int).toNat * 4 + 1, none⟩ (.int .i64 (wrap64 (x1_1 + 1))))) ?hg ?ho ?hn ?hr ?_; (case ho => rfl); (case hg => rfl); (case hn => rfl); (case hr => first | (go_simp; done) | (go_simp; rfl)); intro w13 hw; have hg : w11.grownBy w13 (some go5) := (by rw [hw]; exact HP12.2); have hp_ : Kd.R k48 48 w13 w0.heap.size (fun k_ => (P0_ k_ ∨ w.heap.size ≤ k_)) (.slice (some ⟨go5, 0, none⟩) x0_1.length co9) y255 := (by rw [hw, Ny255.out]; exact HP12.1); clear HP12; have n0_ := Aside0.mk (hp_); have n1_ := Aside0.mk ((by rw [hw]; exact below_set (HB.out) GB5.out : Below w0.heap.size w0 w13)); have n2_ := Aside0.mk (Kept.of_grown (S := (fun k_ => P0_ k_)) hg (by repeat (first | (with_reducible first | exact HK.out | apply Kept.alloc | apply Kept.drewN | apply Kept.drew) | exact HK.out)) (fun k_ e_ => (HO_0.out.1 k_ e_))); clear HO_0; clear HB; clear HK; have HO_0 := n0_; have HB := n1_; have HK := n2_; clear n0_ n1_ n2_; clear hg hw hp_; have p7 : 0 ≤ (x5_1 : Int) := of_decide_eq_true (by first | (with_reducible assumption) | assumption); have q7 : (x5_1 : Int) < ((x0_1.length : Int) : Int) := of_decide_eq_true (by first | (with_reducible assumption) | assumption); obtain ⟨ce7, hcl7, hM7, hcc7, hfr7⟩ := Kd.R_elem HO_0.out z48 (x5_1 : Int) p7 q7; obtain rfl := k48_openM hM7; have hx7_0 : w13.cell? ⟨go5, (x5_1 : Int).toNat * 4, none⟩ = some (.int .i64 ((rd_T48 y255 x5_1).f0)) := hcc7 0 _ rfl; have hx7_1 : w13.cell? ⟨go5, (x5_1 : Int).toNat * 4 + 1, none⟩ = some (.int .i64 ((rd_T48 y255 x5_1).f1)) := hcc7 1 _ rfl; have hx7_2 : w13.cell? ⟨go5, (x5_1 : Int).toNat * 4 + 2, none⟩ = some (.int .i64 ((rd_T48 y255 x5_1).f2)) := hcc7 2 _ rfl; have hx7_3 : w13.cell? ⟨go5, (x5_1 : Int).toNat * 4 + 3, none⟩ = some (.int .i64 ((rd_T48 y255 x5_1).f3)) := hcc7 3 _ rfl; have hf7_0 : w13.frozen? ⟨go5, (x5_1 : Int).toNat * 4, none⟩ = false := hfr7 0; have hf7_1 : w13.frozen? ⟨go5, (x5_1 : Int).toNat * 4 + 1, none⟩ = false := hfr7 1; have hf7_2 : w13.frozen? ⟨go5, (x5_1 : Int).toNat * 4 + 2, none⟩ = false := hfr7 2; have hf7_3 : w13.frozen? ⟨go5, (x5_1 : Int).toNat * 4 + 3, none⟩ = false := hfr7 3; clear hcl7 hcc7 hfr7; (try clear hM7); replace p7 := eq_true p7; replace q7 := eq_true q7; have HX14 := Aside0.mk (show Kd.R k48 48 w13 w0.heap.size (fun k_ => (P0_ k_ ∨ w.heap.size ≤ k_)) (.slice (some ⟨go5, 0, none⟩) x0_1.length co9) y255 from (zr0 HO_0)); obtain ⟨ce14, hcl14, hM14, hcc14, hfr14⟩ := Kd.R_elem HX14.out z48 (x5_1 : Int) (of_decide_eq_true (by first | (with_reducible assumption) | assumption)) (by have h_ : (x5_1 : Int) < ((x0_1.length : Int) : Int) := of_decide_eq_true (by first | (with_reducible assumption) | assumption); first | exact h_ | (have e_ := (Kd.R_reads' HO_0.out).1; omega) | simpa using h_); obtain rfl := k48_openM hM14; have HP14 := Kd.R_seg HX14.out (x5_1 : Int) (of_decide_eq_true (by first | (with_reducible assumption) | assumption)) (by have h_ : (x5_1 : Int) < ((x0_1.length : Int) : Int) := of_decide_eq_true (by first | (with_reducible assumption) | assumption); first | exact h_ | (have e_ := (Kd.R_reads' HO_0.out).1; omega) | simpa using h_) (seg := [.int .i64 (wrap64 ((wrap64 (x1_1 + 1)) + 1))]) (j := 2) hcl14 hcc14 (show 3 ≤ 4 from by decide) (x' := (⟨(rd_T48 y255 x5_1).f0, (rd_T48 y255 x5_1).f1, wrap64 ((wrap64 (x1_1 + 1)) + 1), (rd_T48 y255 x5_1).f3⟩ : S48)) (k48_mkM _ _ _ (⟨(rd_T48 y255 x5_1).f0, (rd_T48 y255 x5_1).f1, wrap64 ((wrap64 (x1_1 + 1)) + 1), (rd_T48 y255 x5_1).f3⟩ : S48) ) (fun _ hk => hk); have hx14_2 := hcc14 2 _ rfl; (try simp only [show (k48).sz = 4 from rfl, Nat.mul_one, Nat.add_zero] at hx14_2); have hf14_2 := hfr14 2; (try simp only [show (k48).sz = 4 from rfl, Nat.mul_one, Nat.add_zero] at hf14_2); clear hcl14 hcc14 hfr14; (try clear hM14)) | ((with_reducible refine gate_store (t := 3) (p := 30) rfl ?_); refine store_event (t := 3) (p := 30) (v := ?vo_w15) (w1 := (w13.setCell ⟨go5, (x5_1 : Int).toNat * 4 + 2, none⟩ (.int .i64 (wrap64 ((wrap64 (x1_1 + 1)) + 1))))) ?hg ?ho ?hn ?hr ?_; (case ho => rfl); (case hg => rfl); (case hn => rfl); (case hr => first | (go_simp; done) | (go_simp; rfl)); intro w15 hw; have hg : w13.grownBy w15 (some go5) := (by rw [hw]; exact HP14.2); have hp_ : Kd.R k48 48 w15 w0.heap.size (fun k_ => (P0_ k_ ∨ w.heap.size ≤ k_)) (.slice (some ⟨go5, 0, none⟩) x0_1.length co9) y256 := (by rw [hw, Ny256.out]; exact HP14.1); clear HP14; have n0_ := Aside0.mk (hp_); have n1_ := Aside0.mk ((by rw [hw]; exact below_set (HB.out) GB5.out : Below w0.heap.size w0 w15)); have n2_ := Aside0.mk (Kept.of_grown (S := (fun k_ => P0_ k_)) hg (by repeat (first | (with_reducible first | exact HK.out | apply Kept.alloc | apply Kept.drewN | apply Kept.drew) | exact HK.out)) (fun k_ e_ => (HO_0.out.1 k_ e_))); clear HO_0; clear HB; clear HK; have HO_0 := n0_; have HB := n1_; have HK := n2_; clear n0_ n1_ n2_; clear hg hw hp_; have p8 : 0 ≤ (x5_1 : Int) := of_decide_eq_true (by first | (with_reducible assumption) | assumption); have q8 : (x5_1 : Int) < ((x0_1.length : Int) : Int) := of_decide_eq_true (by first | (with_reducible assumption) | assumption); obtain ⟨ce8, hcl8, hM8, hcc8, hfr8⟩ := Kd.R_elem HO_0.out z48 (x5_1 : Int) p8 q8; obtain rfl := k48_openM hM8; have hx8_0 : w15.cell? ⟨go5, (x5_1 : Int).toNat * 4, none⟩ = some (.int .i64 ((rd_T48 y256 x5_1).f0)) := hcc8 0 _ rfl; have hx8_1 : w15.cell? ⟨go5, (x5_1 : Int).toNat * 4 + 1, none⟩ = some (.int .i64 ((rd_T48 y256 x5_1).f1)) := hcc8 1 _ rfl; have hx8_2 : w15.cell? ⟨go5, (x5_1 : Int).toNat * 4 + 2, none⟩ = some (.int .i64 ((rd_T48 y256 x5_1).f2)) := hcc8 2 _ rfl; have hx8_3 : w15.cell? ⟨go5, (x5_1 : Int).toNat * 4 + 3, none⟩ = some (.int .i64 ((rd_T48 y256 x5_1).f3)) := hcc8 3 _ rfl; have hf8_0 : w15.frozen? ⟨go5, (x5_1 : Int).toNat * 4, none⟩ = false := hfr8 0; have hf8_1 : w15.frozen? ⟨go5, (x5_1 : Int).toNat * 4 + 1, none⟩ = false := hfr8 1; have hf8_2 : w15.frozen? ⟨go5, (x5_1 : Int).toNat * 4 + 2, none⟩ = false := hfr8 2; have hf8_3 : w15.frozen? ⟨go5, (x5_1 : Int).toNat * 4 + 3, none⟩ = false := hfr8 3; clear hcl8 hcc8 hfr8; (try clear hM8); replace p8 := eq_true p8; replace q8 := eq_true q8; have HX16 := Aside0.mk (show Kd.R k48 48 w15 w0.heap.size (fun k_ => (P0_ k_ ∨ w.heap.size ≤ k_)) (.slice (some ⟨go5, 0, none⟩) x0_1.length co9) y256 from (zr0 HO_0)); obtain ⟨ce16, hcl16, hM16, hcc16, hfr16⟩ := Kd.R_elem HX16.out z48 (x5_1 : Int) (of_decide_eq_true (by first | (with_reducible assumption) | assumption)) (by have h_ : (x5_1 : Int) < ((x0_1.length : Int) : Int) := of_decide_eq_true (by first | (with_reducible assumption) | assumption); first | exact h_ | (have e_ := (Kd.R_reads' HO_0.out).1; omega) | simpa using h_); obtain rfl := k48_openM hM16; have HP16 := Kd.R_seg HX16.out (x5_1 : Int) (of_decide_eq_true (by first | (with_reducible assumption) | assumption)) (by have h_ : (x5_1 : Int) < ((x0_1.length : Int) : Int) := of_decide_eq_true (by first | (with_reducible assumption) | assumption); first | exact h_ | (have e_ := (Kd.R_reads' HO_0.out).1; omega) | simpa using h_) (seg := [.int .i64 (wrap64 ((wrap64 ((wrap64 (x1_1 + 1)) + 1)) + 1))]) (j := 3) hcl16 hcc16 (show 4 ≤ 4 from by decide) (x' := (⟨(rd_T48 y256 x5_1).f0, (rd_T48 y256 x5_1).f1, (rd_T48 y256 x5_1).f2, wrap64 ((wrap64 ((wrap64 (x1_1 + 1)) + 1)) + 1)⟩ : S48)) (k48_mkM _ _ _ (⟨(rd_T48 y256 x5_1).f0, (rd_T48 y256 x5_1).f1, (rd_T48 y256 x5_1).f2, wrap64 ((wrap64 ((wrap64 (x1_1 + 1)) + 1)) + 1)⟩ : S48) ) (fun _ hk => hk); have hx16_3 := hcc16 3 _ rfl; (try simp only [show (k48).sz = 4 from rfl, Nat.mul_one, Nat.add_zero] at hx16_3); have hf16_3 := hfr16 3; (try simp only [show (k48).sz = 4 from rfl, Nat.mul_one, Nat.add_zero] at hf16_3); clear hcl16 hcc16 hfr16; (try clear hM16)) | ((with_reducible refine gate_store (t := 3) (p := 37) rfl ?_); refine store_event (t := 3) (p := 37) (v := ?vo_w17) (w1 := (w15.setCell ⟨go5, (x5_1 : Int).toNat * 4 + 3, none⟩ (.int .i64 (wrap64 ((wrap64 ((wrap64 (x1_1 + 1)) + 1)) + 1))))) ?hg ?ho ?hn ?hr ?_; (case ho => rfl); (case hg => rfl); (case hn => rfl); (case hr => first | (go_simp; done) | (go_simp; rfl)); intro w17 hw; have hg : w15.grownBy w17 (some go5) := (by rw [hw]; exact HP16.2); have hp_ : Kd.R k48 48 w17 w0.heap.size (fun k_ => (P0_ k_ ∨ w.heap.size ≤ k_)) (.slice (some ⟨go5, 0, none⟩) x0_1.length co9) y257 := (by rw [hw, Ny257.out]; exact HP16.1); clear HP16; have n0_ := Aside0.mk (hp_); have n1_ := Aside0.mk ((by rw [hw]; exact below_set (HB.out) GB5.out : Below w0.heap.size w0 w17)); have n2_ := Aside0.mk (Kept.of_grown (S := (fun k_ => P0_ k_)) hg (by repeat (first | (with_reducible first | exact HK.out | apply Kept.alloc | apply Kept.drewN | apply Kept.drew) | exact HK.out)) (fun k_ e_ => (HO_0.out.1 k_ e_))); clear HO_0; clear HB; clear HK; have HO_0 := n0_; have HB := n1_; have HK := n2_; clear n0_ n1_ n2_; clear hg hw hp_))
     go_roundg k1
     case measure => have := HK1.out; omega
     case rel => exact ⟨(y257), (wrap64 ((wrap64 ((wrap64 ((wrap64 (x1_1 + 1)) + 1)) + 1)) + 1)), (wrap64 (x5_1 + 1)), (by first | rfl | (simp; done) | (simp [*]; done)), (by first | rfl | (simp; done) | (simp [*]; done)), H', ⟨by have := HK1.out; omega⟩, ⟨zr0 HO_0⟩, ⟨by repeat (first | (with_reducible first | exact HK.out | apply Kept.alloc | apply Kept.drewN | apply Kept.drew) | exact HK.out)⟩, ⟨by repeat (first | (with_reducible first | exact HB.out | apply below_alloc | apply pw_below_drewN | apply below_drew1) | exact HB.out)⟩⟩
    ·rw [if_neg c4] at H
     exact absurd H (by simp)
   ·rw [if_neg c3] at H
    have c3b0 : decide (x5_1 < (x0_1.length : Int)) = false := decide_eq_false c3
    clear c3
    simp only [Option.some.injEq, Prod.mk.injEq] at H
    obtain ⟨rfl, rfl⟩ := H
    obtain ⟨Ao18, co18, eo18⟩ := Kd.R_slice HO_0.out
    subst eo18
    go_wp2
    go_ret
    exact ⟨by first | rfl | (simp [errW_none, errW_some] <;> rfl) | (simp [*, errW_none, errW_some] <;> rfl), zr0 HO_0, by repeat (first | (with_reducible first | exact HB.out | apply below_alloc | apply pw_below_drewN | apply below_drew1) | exact HB.out), by repeat (first | (with_reducible first | exact HK.out | apply Kept.alloc | apply Kept.drewN | apply Kept.drew) | exact HK.out)⟩

open Go.Proofs.Ytdojnaghcfhadac.Cp
/-! ### laws_markRope: function 64 -/
def laws_markRope.f (k : Nat) (l0_0 : List (S48)) (a1 : Int) : Option (Int × (List (S48))) := (laws_markWindowS.f k l0_0 a1).bind fun bt259 => (some (bt259.1, bt259.2))
theorem laws_markRope.mono : ∀ a0 a1 k, LeO (laws_markRope.f k a0 a1) (laws_markRope.f (k + 1) a0 a1) := by
 intro a0 a1 k
 unfold laws_markRope.f
 repeat' first
   | (with_reducible exact laws_markWindowS.mono _ _ _)
   | (with_reducible exact LeO.refl _)
   | (with_reducible exact LeO.none _)
   | (with_reducible refine LeO.ite ?_ ?_)
   | (with_reducible refine LeO.bind ?_ (fun _ => ?_))
   | exact laws_markWindowS.mono _ _ _
   | exact LeO.none _
   | refine LeO.ite ?_ ?_
   | refine LeO.bind ?_ (fun _ => ?_)
set_option maxHeartbeats 8000000 in
set_option maxRecDepth 100000 in
theorem laws_markRope.calls (k : Nat) (P0_0_ : Nat → Prop) (u9000_ : Value) (l0_0 : List (S48)) (a1 : Int) (r1 : Int) (r2 : List (S48)) (w0 w : World) (hB : Below w0.heap.size w0 w) (ho0_0 : Kd.R k48 48 w w0.heap.size P0_0_ u9000_ l0_0) (h : laws_markRope.f k l0_0 a1 = some (r1, r2)) :
  Calls Try.prog 64 #[.agg #[u9000_], .int .i64 a1] w fun e w' => e = .returned (.int .i64 r1) ∧ Kd.R k48 48 w' w0.heap.size (fun k_ => (P0_0_ k_ ∨ w.heap.size ≤ k_)) u9000_ r2 ∧ Below w0.heap.size w0 w' ∧ Kept w w' (fun k_ => P0_0_ k_) := by
 have hu36 := Try.underlying36
 have HO0_0 := Aside0.mk (show Kd.R k48 48 w w0.heap.size (fun k_ => (P0_0_ k_ ∨ w.heap.size ≤ k_)) u9000_ l0_0 from Kd.R_mono ho0_0 (fun k_ hk => (.inl hk)))
 have HK := Aside0.mk (Kept.refl w (fun k_ => P0_0_ k_))
 have HW0 := Aside0.mk hB.size
 have HB := Aside0.mk hB
 clear hB
 have H : ((laws_markWindowS.f k l0_0 a1).bind fun bt259 => (some (bt259.1, bt259.2))) = some (r1, r2) := h
 clear h
 replace H := Option.bind_eq_some_iff.mp H
 obtain ⟨⟨t259, t260⟩, A30, H⟩ := H
 replace H : (some (t259, t260)) = some (r1, r2) := H
 have A3 := Aside0.mk A30
 clear A30
 simp only [Option.some.injEq, Prod.mk.injEq] at H
 obtain ⟨rfl, rfl⟩ := H
 obtain ⟨Ao4, co4, eo4⟩ := Kd.R_slice HO0_0.out
 subst eo4
 go_enter Try.func64, Try.ntmps64
 go_wp2_with (first | ((with_reducible refine gate_dst (N := 2) rfl ?_); refine box_event ?hg (N := 2) ?hd (cs := #[.slice Ao4 l0_0.length co4]) (t := 36) ?hr ?_; (case hd => rfl); (case hg => rfl); (case hr => first | (go_simp; done) | (go_simp; rfl)); intro gb258 hg w5 hbox hb; have n0_ := zrb HO0_0 hb; have n1_ := Aside0.mk (Kept.below (S := (fun k_ => P0_0_ k_)) (by repeat (first | (with_reducible first | exact HK.out | apply Kept.alloc | apply Kept.drewN | apply Kept.drew) | exact HK.out)) hb); have n2_ := zhs HB hb; have n3_ := Aside0.mk (hbox); have n4_ := Aside0.mk ((by rw [hg]; exact (by first | exact HK.out.1 | exact (show Kept w _ (fun k_ => P0_0_ k_) from by repeat (first | (with_reducible first | exact HK.out | apply Kept.alloc | apply Kept.drewN | apply Kept.drew) | exact HK.out)).1) : w.heap.size ≤ gb258)); have n5_ := Aside0.mk ((by rw [hg]; exact (below_size (zh0 HB)) : w0.heap.size ≤ gb258)); clear HO0_0; clear HK; clear HB; have HO0_0 := n0_; have HK := n1_; have HB := n2_; have BK258 := n3_; have GW258 := n4_; have GE258 := n5_; clear n0_ n1_ n2_ n3_ n4_ n5_; clear hb hbox hg; have hcz6_0 : w5.cell? ⟨gb258, 0, none⟩ = some (.slice Ao4 l0_0.length co4) := zc0 BK258 0 rfl; have hfz6_0 := blk_frozen BK258.out 0) | ((with_reducible refine gate_callee (f := 42) rfl ?_); refine goesL_ (some 8) rfl rfl Try.func42 (by kernel_rfl) rfl #[.slice Ao4 l0_0.length co4, .int .i64 a1] rfl (by (try simp only [List.map_toArray, List.map_cons, List.map_nil]); first | done | rfl | (simp only [List.length_drop, List.length_take]; rfl)) ?_; (with_reducible refine (laws_markWindowS.calls k (fun k_ => some k_ = (.slice Ao4 l0_0.length co4 : Value).ownBlock) (.slice Ao4 l0_0.length co4) l0_0 a1 t259 t260 w0 _ ?side1 ?side2 A3.out).mono ?_); (case side1 => repeat (first | (with_reducible first | exact HB.out | apply below_alloc | apply pw_below_drewN | apply below_drew1 | refine below_set ?_ GE258.out) | exact HB.out)); (case side2 => exact Kd.R_tight rfl HO0_0.out); rintro e w7 ⟨rfl, hy0, hb, hkp⟩; refine ⟨_, rfl, ?_⟩; have n0_ := Aside0.mk (Kd.R_reok rfl hy0 (fun k_ e_ => HO0_0.out.1 k_ e_)); have n1_ := Aside0.mk (blk_kept (zk0 BK258) hkp (fun hs_ => (fun e_ => (Kd.R_ne HO0_0.out BK258.out (by decide)) e_) hs_)); have n2_ := Aside0.mk (Kept.then_ (S := (fun k_ => P0_0_ k_)) (by repeat (first | (with_reducible first | exact HK.out | apply Kept.alloc | apply Kept.drewN | apply Kept.drew | refine Kept.setCell ?_ (.inr GW258.out) _) | exact HK.out)) hkp (fun k_ hs_ => (fun e_ => (HO0_0.out.1 k_ e_.symm)) hs_)); have n3_ := Aside0.mk (hb); clear HO0_0; clear BK258; clear HK; clear HB; have HO0_0 := n0_; have BK258 := n1_; have HK := n2_; have HB := n3_; clear n0_ n1_ n2_ n3_; (try clear hb); (try clear hkp); (try clear hy0)))
 go_ret
 exact ⟨by first | rfl | (simp [errW_none, errW_some] <;> rfl) | (simp [*, errW_none, errW_some] <;> rfl), zr0 HO0_0, by repeat (first | (with_reducible first | exact HB.out | apply below_alloc | apply pw_below_drewN | apply below_drew1 | refine below_set ?_ GE258.out) | exact HB.out), by repeat (first | (with_reducible first | exact HK.out | apply Kept.alloc | apply Kept.drewN | apply Kept.drew | refine Kept.setCell ?_ (.inr GW258.out) _) | exact HK.out)⟩

open Go.Proofs.Ytdojnaghcfhadac.Cp
/-! ### laws_FnExactRopeText: function 13 -/
def laws_FnExactRopeText.f (k : Nat) (l0_0 : List (List Int)) (l1_0 : List (S42)) : Option (Bool) := (laws_szMemory.f k l0_0 1048576).bind fun t263 => (if t263 < 0 then (some true) else ((laws_szRope.f l1_0 t263).bind fun t264 => (if t264 < 0 then (some true) else ((laws_toMemory.f k l0_0).bind fun t265 => ((laws_toRope.f k l1_0).bind fun t268 => ((spec_RopeText.f k t265 t268).bind fun bt271 => ((laws_toMemory.f k l0_0).bind fun t275 => ((laws_toRope.f k l1_0).bind fun t279 => ((impl_RopeText.f k t275 t279).bind fun bt283 => ((laws_eqByteS.f k bt283.1 bt271.1).bind fun t287 => (if t287 = true then (if (bt283.2 != bt271.2) = true then (none) else ((laws_toMemory.f k l0_0).bind fun t288 => ((laws_eqMemory.f k t275 t288).bind fun t291 => (if t291 = true then ((laws_toRope.f k l1_0).bind fun t292 => ((laws_eqRope.f k t279 t292).bind fun t295 => (if t295 = true then ((laws_markMemory.f k t275 1).bind fun t296 => ((laws_markRope.f k t279 t296).bind fun bt297 => (if bt297.1 < 0 then (none) else ((laws_eqByteS.f k bt283.1 bt271.1).bind fun t299 => (if t299 = true then ((laws_markByteS.f k bt283.1 1).bind fun bt300 => ((laws_heldByteS.f k bt300.2 1).bind fun t302 => (if t302 < 0 then (none) else (if t302 = bt300.1 then ((laws_toMemory.f k l0_0).bind fun t303 => ((laws_toRope.f k l1_0).bind fun t306 => ((impl_RopeText.f k t303 t306).bind fun bt309 => ((laws_eqByteS.f k bt309.1 bt271.1).bind fun t313 => (if t313 = true then (if (bt309.2 != bt271.2) = true then (none) else ((laws_heldByteS.f k bt300.2 1).bind fun t314 => (if t314 < 0 then (none) else (if t314 = bt300.1 then (some true) else (none))))) else (none)))))) else (none))))) else (none)))))) else (none)))) else (none))))) else (none))))))))))))
theorem laws_FnExactRopeText.mono : ∀ a0 a1 k, LeO (laws_FnExactRopeText.f k a0 a1) (laws_FnExactRopeText.f (k + 1) a0 a1) := by
 intro a0 a1 k
 unfold laws_FnExactRopeText.f
 repeat' first
   | (with_reducible exact impl_RopeText.mono _ _ _)
   | (with_reducible exact laws_eqByteS.mono _ _ _)
   | (with_reducible exact laws_eqMemory.mono _ _ _)
   | (with_reducible exact laws_eqRope.mono _ _ _)
   | (with_reducible exact laws_heldByteS.mono _ _ _)
   | (with_reducible exact laws_markByteS.mono _ _ _)
   | (with_reducible exact laws_markMemory.mono _ _ _)
   | (with_reducible exact laws_markRope.mono _ _ _)
   | (with_reducible exact laws_szMemory.mono _ _ _)
   | (with_reducible exact laws_toMemory.mono _ _)
   | (with_reducible exact laws_toRope.mono _ _)
   | (with_reducible exact spec_RopeText.mono _ _ _)
   | (with_reducible exact LeO.refl _)
   | (with_reducible exact LeO.none _)
   | (with_reducible refine LeO.ite ?_ ?_)
   | (with_reducible refine LeO.bind ?_ (fun _ => ?_))
   | exact impl_RopeText.mono _ _ _
   | exact laws_eqByteS.mono _ _ _
   | exact laws_eqMemory.mono _ _ _
   | exact laws_eqRope.mono _ _ _
   | exact laws_heldByteS.mono _ _ _
   | exact laws_markByteS.mono _ _ _
   | exact laws_markMemory.mono _ _ _
   | exact laws_markRope.mono _ _ _
   | exact laws_szMemory.mono _ _ _
   | exact laws_toMemory.mono _ _
   | exact laws_toRope.mono _ _
   | exact spec_RopeText.mono _ _ _
   | exact LeO.none _
   | refine LeO.ite ?_ ?_
   | refine LeO.bind ?_ (fun _ => ?_)
def laws_FnExactRopeText.T8 : Bool × List (List Nat × List Nat) := (true, [([], []), ([0], [0]), ([], []), ([2, 1], [2]), ([1, 3, 3], [1, 3]), ([4], [4]), ([5], [5]), ([5], [5]), ([6, 4, 0, 1, 2, 3, 4, 5, 6], [6]), ([7, 8, 0, 1, 2, 3, 4, 5, 6, 7, 8], [7])])
def laws_FnExactRopeText.B8 : List Nat := [0, 1, 0, 7, 15, 31, 63, 63, 127, 511]
theorem laws_FnExactRopeText.tab8 : rtab .any (opsOf Try.f13 8) = laws_FnExactRopeText.T8 := by kernel_rfl
theorem laws_FnExactRopeText.bits8 : waitsOk laws_FnExactRopeText.T8.2 laws_FnExactRopeText.B8 = true := by kernel_rfl
def laws_FnExactRopeText.T31 : Bool × List (List Nat × List Nat) := (true, [([], []), ([0], [0]), ([], []), ([2, 1], [2]), ([1, 3, 3], [1, 3]), ([4], [4]), ([5], [5]), ([5], [5]), ([6, 4, 0, 1, 2, 3, 4, 5, 6], [6]), ([7, 8, 0, 1, 2, 3, 4, 5, 6, 7, 8], [7])])
def laws_FnExactRopeText.B31 : List Nat := [0, 1, 0, 7, 15, 31, 63, 63, 127, 511]
theorem laws_FnExactRopeText.tab31 : rtab .any (opsOf Try.f13 31) = laws_FnExactRopeText.T31 := by kernel_rfl
theorem laws_FnExactRopeText.bits31 : waitsOk laws_FnExactRopeText.T31.2 laws_FnExactRopeText.B31 = true := by kernel_rfl
set_option maxHeartbeats 8000000 in
set_option maxRecDepth 100000 in
theorem laws_FnExactRopeText.calls (k : Nat) (A0_0 : Option Addr) (c0_0 : Nat) (l0_0 : List (List Int)) (A1_0 : Option Addr) (c1_0 : Nat) (l1_0 : List (S42)) (r : Bool) (w : World) (hr0_0 : Kd.C (Kd.slice 5 (Kd.int .u8)) w A0_0 l0_0.length l0_0) (hc0_0 : l0_0.length ≤ c0_0) (hr1_0 : Kd.C k42 w A1_0 l1_0.length l1_0) (hc1_0 : l1_0.length ≤ c1_0) (h : laws_FnExactRopeText.f k l0_0 l1_0 = some r) :
  Calls Try.prog 13 #[.agg #[.slice A0_0 l0_0.length c0_0], .agg #[.slice A1_0 l1_0.length c1_0]] w fun e w' => e = .returned (.bool r) ∧ Below w.heap.size w w' := by
 have hu24 := Try.underlying24
 have hu27 := Try.underlying27
 have hu32 := Try.underlying32
 have hu36 := Try.underlying36
 have HR0_0 := Aside0.mk hr0_0
 have HC0_0 := Aside0.mk hc0_0
 clear hr0_0 hc0_0
 have HR1_0 := Aside0.mk hr1_0
 have HC1_0 := Aside0.mk hc1_0
 clear hr1_0 hc1_0
 have HB := Aside0.mk (Below.refl w.heap.size w)
 have H : ((laws_szMemory.f k l0_0 1048576).bind fun t263 => (if t263 < 0 then (some true) else ((laws_szRope.f l1_0 t263).bind fun t264 => (if t264 < 0 then (some true) else ((laws_toMemory.f k l0_0).bind fun t265 => ((laws_toRope.f k l1_0).bind fun t268 => ((spec_RopeText.f k t265 t268).bind fun bt271 => ((laws_toMemory.f k l0_0).bind fun t275 => ((laws_toRope.f k l1_0).bind fun t279 => ((impl_RopeText.f k t275 t279).bind fun bt283 => ((laws_eqByteS.f k bt283.1 bt271.1).bind fun t287 => (if t287 = true then (if (bt283.2 != bt271.2) = true then (none) else ((laws_toMemory.f k l0_0).bind fun t288 => ((laws_eqMemory.f k t275 t288).bind fun t291 => (if t291 = true then ((laws_toRope.f k l1_0).bind fun t292 => ((laws_eqRope.f k t279 t292).bind fun t295 => (if t295 = true then ((laws_markMemory.f k t275 1).bind fun t296 => ((laws_markRope.f k t279 t296).bind fun bt297 => (if bt297.1 < 0 then (none) else ((laws_eqByteS.f k bt283.1 bt271.1).bind fun t299 => (if t299 = true then ((laws_markByteS.f k bt283.1 1).bind fun bt300 => ((laws_heldByteS.f k bt300.2 1).bind fun t302 => (if t302 < 0 then (none) else (if t302 = bt300.1 then ((laws_toMemory.f k l0_0).bind fun t303 => ((laws_toRope.f k l1_0).bind fun t306 => ((impl_RopeText.f k t303 t306).bind fun bt309 => ((laws_eqByteS.f k bt309.1 bt271.1).bind fun t313 => (if t313 = true then (if (bt309.2 != bt271.2) = true then (none) else ((laws_heldByteS.f k bt300.2 1).bind fun t314 => (if t314 < 0 then (none) else (if t314 = bt300.1 then (some true) else (none))))) else (none)))))) else (none))))) else (none)))))) else (none)))) else (none))))) else (none))))))))))))) = some r := h
 clear h
 replace H := Option.bind_eq_some_iff.mp H
 obtain ⟨t263, A30, H⟩ := H
 replace H : (if t263 < 0 then (some true) else ((laws_szRope.f l1_0 t263).bind fun t264 => (if t264 < 0 then (some true) else ((laws_toMemory.f k l0_0).bind fun t265 => ((laws_toRope.f k l1_0).bind fun t268 => ((spec_RopeText.f k t265 t268).bind fun bt271 => ((laws_toMemory.f k l0_0).bind fun t275 => ((laws_toRope.f k l1_0).bind fun t279 => ((impl_RopeText.f k t275 t279).bind fun bt283 => ((laws_eqByteS.f k bt283.1 bt271.1).bind fun t287 => (if t287 = true then (if (bt283.2 != bt271.2) = true then (none) else ((laws_toMemory.f k l0_0).bind fun t288 => ((laws_eqMemory.f k t275 t288).bind fun t291 => (if t291 = true then ((laws_toRope.f k l1_0).bind fun t292 => ((laws_eqRope.f k t279 t292).bind fun t295 => (if t295 = true then ((laws_markMemory.f k t275 1).bind fun t296 => ((laws_markRope.f k t279 t296).bind fun bt297 => (if bt297.1 < 0 then (none) else ((laws_eqByteS.f k bt283.1 bt271.1).bind fun t299 => (if t299 = true then ((laws_markByteS.f k bt283.1 1).bind fun bt300 => ((laws_heldByteS.f k bt300.2 1).bind fun t302 => (if t302 < 0 then (none) else (if t302 = bt300.1 then ((laws_toMemory.f k l0_0).bind fun t303 => ((laws_toRope.f k l1_0).bind fun t306 => ((impl_RopeText.f k t303 t306).bind fun bt309 => ((laws_eqByteS.f k bt309.1 bt271.1).bind fun t313 => (if t313 = true then (if (bt309.2 != bt271.2) = true then (none) else ((laws_heldByteS.f k bt300.2 1).bind fun t314 => (if t314 < 0 then (none) else (if t314 = bt300.1 then (some true) else (none))))) else (none)))))) else (none))))) else (none)))))) else (none)))) else (none))))) else (none)))))))))))) = some r := H
 have A3 := Aside0.mk A30
 clear A30
 by_cases c4 : t263 < 0
 ·rw [if_pos c4] at H
  have c4b0 : decide (t263 < 0) = true := decide_eq_true c4
  clear c4
  obtain rfl := Option.some.inj H
  go_enter Try.func13, Try.ntmps13
  go_wp2_with (first | ((with_reducible refine gate_dst (N := 2) rfl ?_); refine box_event ?hg (N := 2) ?hd (cs := #[.slice A0_0 l0_0.length c0_0]) (t := 24) ?hr ?_; (case hd => rfl); (case hg => rfl); (case hr => first | (go_simp; done) | (go_simp; rfl)); intro gb261 hg w5 hbox hb; have n0_ := zhs HB hb; have n1_ := Aside0.mk (hbox); have n2_ := zge HB hg; have n3_ := zge HB hg; clear HB; have HB := n0_; have BK261 := n1_; have GW261 := n2_; have GE261 := n3_; clear n0_ n1_ n2_ n3_; clear hb hbox hg) | ((with_reducible refine gate_dst (N := 3) rfl ?_); refine box_event ?hg (N := 3) ?hd (cs := #[.slice A1_0 l1_0.length c1_0]) (t := 27) ?hr ?_; (case hd => rfl); (case hg => rfl); (case hr => first | (go_simp; done) | (go_simp; rfl)); intro gb262 hg w6 hbox hb; have n0_ := zb0 BK261 hb; have n1_ := zhs HB hb; have n2_ := Aside0.mk (hbox); have n3_ := zge HB hg; have n4_ := zge HB hg; have n5_ := znl BK261 hg; have n6_ := znr BK261 hg; clear BK261; clear HB; have BK261 := n0_; have HB := n1_; have BK262 := n2_; have GW262 := n3_; have GE262 := n4_; have NB261_262 := n5_; have NB262_261 := n6_; clear n0_ n1_ n2_ n3_ n4_ n5_ n6_; clear hb hbox hg; have hnb7 := NB261_262.out; have hnc7 := NB262_261.out; have hcz8_0 : w6.cell? ⟨gb261, 0, none⟩ = some (.slice A0_0 l0_0.length c0_0) := zc0 BK261 0 rfl; have hfz8_0 := blk_frozen BK261.out 0) | ((with_reducible refine gate_callee (f := 14) rfl ?_); refine goesL_ (some 19) rfl rfl Try.func14 (by kernel_rfl) rfl #[.agg #[.slice A0_0 l0_0.length c0_0], .int .i64 1048576] rfl (by (try simp only [List.map_toArray, List.map_cons, List.map_nil]); first | done | rfl | (simp only [List.length_drop, List.length_take]; rfl)) ?_; (with_reducible refine (laws_szMemory.calls k _ _ l0_0 1048576 t263 _ ?side1 ?side2 A3.out).mono ?_); (case side1 => repeat (first | exact (Kd.C_below HR0_0.out HB.out) | (with_reducible refine Kd.C_alloc ?_ _) | (with_reducible refine Kd.C_drewN ?_ _) | (with_reducible refine Kd.C_drew ?_))); (case side2 => exact HC0_0.out); rintro e w9 ⟨rfl, hb⟩; refine ⟨_, rfl, ?_⟩; have n0_ := zb0 BK261 hb; have n1_ := zb0 BK262 hb; have n2_ := zhs HB hb; clear BK261; clear BK262; clear HB; have BK261 := n0_; have BK262 := n1_; have HB := n2_; clear n0_ n1_ n2_; (try clear hb); (try clear hb2); (try clear hk); (try clear hi)))
  go_ret
  exact ⟨by first | rfl | (simp [errW_none, errW_some] <;> rfl) | (simp [*, errW_none, errW_some] <;> rfl), by repeat (first | (with_reducible first | exact HB.out | apply below_alloc | apply pw_below_drewN | apply below_drew1 | refine below_set ?_ GE261.out | refine below_set ?_ GE262.out) | exact HB.out)⟩
 ·rw [if_neg c4] at H
  have c4b0 : decide (t263 < 0) = false := decide_eq_false c4
  clear c4
  replace H := Option.bind_eq_some_iff.mp H
  obtain ⟨t264, A100, H⟩ := H
  replace H : (if t264 < 0 then (some true) else ((laws_toMemory.f k l0_0).bind fun t265 => ((laws_toRope.f k l1_0).bind fun t268 => ((spec_RopeText.f k t265 t268).bind fun bt271 => ((laws_toMemory.f k l0_0).bind fun t275 => ((laws_toRope.f k l1_0).bind fun t279 => ((impl_RopeText.f k t275 t279).bind fun bt283 => ((laws_eqByteS.f k bt283.1 bt271.1).bind fun t287 => (if t287 = true then (if (bt283.2 != bt271.2) = true then (none) else ((laws_toMemory.f k l0_0).bind fun t288 => ((laws_eqMemory.f k t275 t288).bind fun t291 => (if t291 = true then ((laws_toRope.f k l1_0).bind fun t292 => ((laws_eqRope.f k t279 t292).bind fun t295 => (if t295 = true then ((laws_markMemory.f k t275 1).bind fun t296 => ((laws_markRope.f k t279 t296).bind fun bt297 => (if bt297.1 < 0 then (none) else ((laws_eqByteS.f k bt283.1 bt271.1).bind fun t299 => (if t299 = true then ((laws_markByteS.f k bt283.1 1).bind fun bt300 => ((laws_heldByteS.f k bt300.2 1).bind fun t302 => (if t302 < 0 then (none) else (if t302 = bt300.1 then ((laws_toMemory.f k l0_0).bind fun t303 => ((laws_toRope.f k l1_0).bind fun t306 => ((impl_RopeText.f k t303 t306).bind fun bt309 => ((laws_eqByteS.f k bt309.1 bt271.1).bind fun t313 => (if t313 = true then (if (bt309.2 != bt271.2) = true then (none) else ((laws_heldByteS.f k bt300.2 1).bind fun t314 => (if t314 < 0 then (none) else (if t314 = bt300.1 then (some true) else (none))))) else (none)))))) else (none))))) else (none)))))) else (none)))) else (none))))) else (none)))))))))) = some r := H
  have A10 := Aside0.mk A100
  clear A100
  by_cases c11 : t264 < 0
  ·rw [if_pos c11] at H
   have c11b0 : decide (t264 < 0) = true := decide_eq_true c11
   clear c11
   obtain rfl := Option.some.inj H
   go_enter Try.func13, Try.ntmps13
   go_wp2_with (first | ((with_reducible refine gate_dst (N := 2) rfl ?_); refine box_event ?hg (N := 2) ?hd (cs := #[.slice A0_0 l0_0.length c0_0]) (t := 24) ?hr ?_; (case hd => rfl); (case hg => rfl); (case hr => first | (go_simp; done) | (go_simp; rfl)); intro gb261 hg w12 hbox hb; have n0_ := zhs HB hb; have n1_ := Aside0.mk (hbox); have n2_ := zge HB hg; have n3_ := zge HB hg; clear HB; have HB := n0_; have BK261 := n1_; have GW261 := n2_; have GE261 := n3_; clear n0_ n1_ n2_ n3_; clear hb hbox hg) | ((with_reducible refine gate_dst (N := 3) rfl ?_); refine box_event ?hg (N := 3) ?hd (cs := #[.slice A1_0 l1_0.length c1_0]) (t := 27) ?hr ?_; (case hd => rfl); (case hg => rfl); (case hr => first | (go_simp; done) | (go_simp; rfl)); intro gb262 hg w13 hbox hb; have n0_ := zb0 BK261 hb; have n1_ := zhs HB hb; have n2_ := Aside0.mk (hbox); have n3_ := zge HB hg; have n4_ := zge HB hg; have n5_ := znl BK261 hg; have n6_ := znr BK261 hg; clear BK261; clear HB; have BK261 := n0_; have HB := n1_; have BK262 := n2_; have GW262 := n3_; have GE262 := n4_; have NB261_262 := n5_; have NB262_261 := n6_; clear n0_ n1_ n2_ n3_ n4_ n5_ n6_; clear hb hbox hg; have hnb14 := NB261_262.out; have hnc14 := NB262_261.out; have hcz15_0 : w13.cell? ⟨gb261, 0, none⟩ = some (.slice A0_0 l0_0.length c0_0) := zc0 BK261 0 rfl; have hfz15_0 := blk_frozen BK261.out 0) | ((with_reducible refine gate_callee (f := 14) rfl ?_); refine goesL_ (some 19) rfl rfl Try.func14 (by kernel_rfl) rfl #[.agg #[.slice A0_0 l0_0.length c0_0], .int .i64 1048576] rfl (by (try simp only [List.map_toArray, List.map_cons, List.map_nil]); first | done | rfl | (simp only [List.length_drop, List.length_take]; rfl)) ?_; (with_reducible refine (laws_szMemory.calls k _ _ l0_0 1048576 t263 _ ?side1 ?side2 A3.out).mono ?_); (case side1 => repeat (first | exact (Kd.C_below HR0_0.out HB.out) | (with_reducible refine Kd.C_alloc ?_ _) | (with_reducible refine Kd.C_drewN ?_ _) | (with_reducible refine Kd.C_drew ?_))); (case side2 => exact HC0_0.out); rintro e w16 ⟨rfl, hb⟩; refine ⟨_, rfl, ?_⟩; have n0_ := zb0 BK261 hb; have n1_ := zb0 BK262 hb; have n2_ := zhs HB hb; clear BK261; clear BK262; clear HB; have BK261 := n0_; have BK262 := n1_; have HB := n2_; clear n0_ n1_ n2_; (try clear hb); (try clear hb2); (try clear hk); (try clear hi); have hcz17_0 : w16.cell? ⟨gb262, 0, none⟩ = some (.slice A1_0 l1_0.length c1_0) := zc0 BK262 0 rfl; have hfz17_0 := blk_frozen BK262.out 0) | ((with_reducible refine gate_callee (f := 15) rfl ?_); refine goesL_ (some 24) rfl rfl Try.func15 (by kernel_rfl) rfl #[.agg #[.slice A1_0 l1_0.length c1_0], .int .i64 t263] rfl (by (try simp only [List.map_toArray, List.map_cons, List.map_nil]); first | done | rfl | (simp only [List.length_drop, List.length_take]; rfl)) ?_; (with_reducible refine (laws_szRope.calls _ _ l1_0 t263 t264 _ ?side1 ?side2 A10.out).mono ?_); (case side1 => repeat (first | exact (Kd.C_below HR1_0.out HB.out) | (with_reducible refine Kd.C_alloc ?_ _) | (with_reducible refine Kd.C_drewN ?_ _) | (with_reducible refine Kd.C_drew ?_))); (case side2 => exact HC1_0.out); rintro e w18 ⟨rfl, hb⟩; refine ⟨_, rfl, ?_⟩; have n0_ := zb0 BK261 hb; have n1_ := zb0 BK262 hb; have n2_ := zhs HB hb; clear BK261; clear BK262; clear HB; have BK261 := n0_; have BK262 := n1_; have HB := n2_; clear n0_ n1_ n2_; (try clear hb); (try clear hb2); (try clear hk); (try clear hi)))
   go_ret
   exact ⟨by first | rfl | (simp [errW_none, errW_some] <;> rfl) | (simp [*, errW_none, errW_some] <;> rfl), by repeat (first | (with_reducible first | exact HB.out | apply below_alloc | apply pw_below_drewN | apply below_drew1 | refine below_set ?_ GE261.out | refine below_set ?_ GE262.out) | exact HB.out)⟩
  ·rw [if_neg c11] at H
   have c11b0 : decide (t264 < 0) = false := decide_eq_false c11
   clear c11
   replace H := Option.bind_eq_some_iff.mp H
   obtain ⟨t265, A190, H⟩ := H
   replace H : ((laws_toRope.f k l1_0).bind fun t268 => ((spec_RopeText.f k t265 t268).bind fun bt271 => ((laws_toMemory.f k l0_0).bind fun t275 => ((laws_toRope.f k l1_0).bind fun t279 => ((impl_RopeText.f k t275 t279).bind fun bt283 => ((laws_eqByteS.f k bt283.1 bt271.1).bind fun t287 => (if t287 = true then (if (bt283.2 != bt271.2) = true then (none) else ((laws_toMemory.f k l0_0).bind fun t288 => ((laws_eqMemory.f k t275 t288).bind fun t291 => (if t291 = true then ((laws_toRope.f k l1_0).bind fun t292 => ((laws_eqRope.f k t279 t292).bind fun t295 => (if t295 = true then ((laws_markMemory.f k t275 1).bind fun t296 => ((laws_markRope.f k t279 t296).bind fun bt297 => (if bt297.1 < 0 then (none) else ((laws_eqByteS.f k bt283.1 bt271.1).bind fun t299 => (if t299 = true then ((laws_markByteS.f k bt283.1 1).bind fun bt300 => ((laws_heldByteS.f k bt300.2 1).bind fun t302 => (if t302 < 0 then (none) else (if t302 = bt300.1 then ((laws_toMemory.f k l0_0).bind fun t303 => ((laws_toRope.f k l1_0).bind fun t306 => ((impl_RopeText.f k t303 t306).bind fun bt309 => ((laws_eqByteS.f k bt309.1 bt271.1).bind fun t313 => (if t313 = true then (if (bt309.2 != bt271.2) = true then (none) else ((laws_heldByteS.f k bt300.2 1).bind fun t314 => (if t314 < 0 then (none) else (if t314 = bt300.1 then (some true) else (none))))) else (none)))))) else (none))))) else (none)))))) else (none)))) else (none))))) else (none)))))))) = some r := H
   have A19 := Aside0.mk A190
   clear A190
   replace H := Option.bind_eq_some_iff.mp H
   obtain ⟨t268, A200, H⟩ := H
   replace H : ((spec_RopeText.f k t265 t268).bind fun bt271 => ((laws_toMemory.f k l0_0).bind fun t275 => ((laws_toRope.f k l1_0).bind fun t279 => ((impl_RopeText.f k t275 t279).bind fun bt283 => ((laws_eqByteS.f k bt283.1 bt271.1).bind fun t287 => (if t287 = true then (if (bt283.2 != bt271.2) = true then (none) else ((laws_toMemory.f k l0_0).bind fun t288 => ((laws_eqMemory.f k t275 t288).bind fun t291 => (if t291 = true then ((laws_toRope.f k l1_0).bind fun t292 => ((laws_eqRope.f k t279 t292).bind fun t295 => (if t295 = true then ((laws_markMemory.f k t275 1).bind fun t296 => ((laws_markRope.f k t279 t296).bind fun bt297 => (if bt297.1 < 0 then (none) else ((laws_eqByteS.f k bt283.1 bt271.1).bind fun t299 => (if t299 = true then ((laws_markByteS.f k bt283.1 1).bind fun bt300 => ((laws_heldByteS.f k bt300.2 1).bind fun t302 => (if t302 < 0 then (none) else (if t302 = bt300.1 then ((laws_toMemory.f k l0_0).bind fun t303 => ((laws_toRope.f k l1_0).bind fun t306 => ((impl_RopeText.f k t303 t306).bind fun bt309 => ((laws_eqByteS.f k bt309.1 bt271.1).bind fun t313 => (if t313 = true then (if (bt309.2 != bt271.2) = true then (none) else ((laws_heldByteS.f k bt300.2 1).bind fun t314 => (if t314 < 0 then (none) else (if t314 = bt300.1 then (some true) else (none))))) else (none)))))) else (none))))) else (none)))))) else (none)))) else (none))))) else (none))))))) = some r := H
   have A20 := Aside0.mk A200
   clear A200
   replace H := Option.bind_eq_some_iff.mp H
   obtain ⟨⟨t271, t274⟩, A210, H⟩ := H
   replace H : ((laws_toMemory.f k l0_0).bind fun t275 => ((laws_toRope.f k l1_0).bind fun t279 => ((impl_RopeText.f k t275 t279).bind fun bt283 => ((laws_eqByteS.f k bt283.1 t271).bind fun t287 => (if t287 = true then (if (bt283.2 != t274) = true then (none) else ((laws_toMemory.f k l0_0).bind fun t288 => ((laws_eqMemory.f k t275 t288).bind fun t291 => (if t291 = true then ((laws_toRope.f k l1_0).bind fun t292 => ((laws_eqRope.f k t279 t292).bind fun t295 => (if t295 = true then ((laws_markMemory.f k t275 1).bind fun t296 => ((laws_markRope.f k t279 t296).bind fun bt297 => (if bt297.1 < 0 then (none) else ((laws_eqByteS.f k bt283.1 t271).bind fun t299 => (if t299 = true then ((laws_markByteS.f k bt283.1 1).bind fun bt300 => ((laws_heldByteS.f k bt300.2 1).bind fun t302 => (if t302 < 0 then (none) else (if t302 = bt300.1 then ((laws_toMemory.f k l0_0).bind fun t303 => ((laws_toRope.f k l1_0).bind fun t306 => ((impl_RopeText.f k t303 t306).bind fun bt309 => ((laws_eqByteS.f k bt309.1 t271).bind fun t313 => (if t313 = true then (if (bt309.2 != t274) = true then (none) else ((laws_heldByteS.f k bt300.2 1).bind fun t314 => (if t314 < 0 then (none) else (if t314 = bt300.1 then (some true) else (none))))) else (none)))))) else (none))))) else (none)))))) else (none)))) else (none))))) else (none)))))) = some r := H
   have A21 := Aside0.mk A210
   clear A210
   replace H := Option.bind_eq_some_iff.mp H
   obtain ⟨t275, A220, H⟩ := H
   replace H : ((laws_toRope.f k l1_0).bind fun t279 => ((impl_RopeText.f k t275 t279).bind fun bt283 => ((laws_eqByteS.f k bt283.1 t271).bind fun t287 => (if t287 = true then (if (bt283.2 != t274) = true then (none) else ((laws_toMemory.f k l0_0).bind fun t288 => ((laws_eqMemory.f k t275 t288).bind fun t291 => (if t291 = true then ((laws_toRope.f k l1_0).bind fun t292 => ((laws_eqRope.f k t279 t292).bind fun t295 => (if t295 = true then ((laws_markMemory.f k t275 1).bind fun t296 => ((laws_markRope.f k t279 t296).bind fun bt297 => (if bt297.1 < 0 then (none) else ((laws_eqByteS.f k bt283.1 t271).bind fun t299 => (if t299 = true then ((laws_markByteS.f k bt283.1 1).bind fun bt300 => ((laws_heldByteS.f k bt300.2 1).bind fun t302 => (if t302 < 0 then (none) else (if t302 = bt300.1 then ((laws_toMemory.f k l0_0).bind fun t303 => ((laws_toRope.f k l1_0).bind fun t306 => ((impl_RopeText.f k t303 t306).bind fun bt309 => ((laws_eqByteS.f k bt309.1 t271).bind fun t313 => (if t313 = true then (if (bt309.2 != t274) = true then (none) else ((laws_heldByteS.f k bt300.2 1).bind fun t314 => (if t314 < 0 then (none) else (if t314 = bt300.1 then (some true) else (none))))) else (none)))))) else (none))))) else (none)))))) else (none)))) else (none))))) else (none))))) = some r := H
   have A22 := Aside0.mk A220
   clear A220
   replace H := Option.bind_eq_some_iff.mp H
   obtain ⟨t279, A230, H⟩ := H
   replace H : ((impl_RopeText.f k t275 t279).bind fun bt283 => ((laws_eqByteS.f k bt283.1 t271).bind fun t287 => (if t287 = true then (if (bt283.2 != t274) = true then (none) else ((laws_toMemory.f k l0_0).bind fun t288 => ((laws_eqMemory.f k t275 t288).bind fun t291 => (if t291 = true then ((laws_toRope.f k l1_0).bind fun t292 => ((laws_eqRope.f k t279 t292).bind fun t295 => (if t295 = true then ((laws_markMemory.f k t275 1).bind fun t296 => ((laws_markRope.f k t279 t296).bind fun bt297 => (if bt297.1 < 0 then (none) else ((laws_eqByteS.f k bt283.1 t271).bind fun t299 => (if t299 = true then ((laws_markByteS.f k bt283.1 1).bind fun bt300 => ((laws_heldByteS.f k bt300.2 1).bind fun t302 => (if t302 < 0 then (none) else (if t302 = bt300.1 then ((laws_toMemory.f k l0_0).bind fun t303 => ((laws_toRope.f k l1_0).bind fun t306 => ((impl_RopeText.f k t303 t306).bind fun bt309 => ((laws_eqByteS.f k bt309.1 t271).bind fun t313 => (if t313 = true then (if (bt309.2 != t274) = true then (none) else ((laws_heldByteS.f k bt300.2 1).bind fun t314 => (if t314 < 0 then (none) else (if t314 = bt300.1 then (some true) else (none))))) else (none)))))) else (none))))) else (none)))))) else (none)))) else (none))))) else (none)))) = some r := H
   have A23 := Aside0.mk A230
   clear A230
   replace H := Option.bind_eq_some_iff.mp H
   obtain ⟨⟨t283, t286⟩, A240, H⟩ := H
   replace H : ((laws_eqByteS.f k t283 t271).bind fun t287 => (if t287 = true then (if (t286 != t274) = true then (none) else ((laws_toMemory.f k l0_0).bind fun t288 => ((laws_eqMemory.f k t275 t288).bind fun t291 => (if t291 = true then ((laws_toRope.f k l1_0).bind fun t292 => ((laws_eqRope.f k t279 t292).bind fun t295 => (if t295 = true then ((laws_markMemory.f k t275 1).bind fun t296 => ((laws_markRope.f k t279 t296).bind fun bt297 => (if bt297.1 < 0 then (none) else ((laws_eqByteS.f k t283 t271).bind fun t299 => (if t299 = true then ((laws_markByteS.f k t283 1).bind fun bt300 => ((laws_heldByteS.f k bt300.2 1).bind fun t302 => (if t302 < 0 then (none) else (if t302 = bt300.1 then ((laws_toMemory.f k l0_0).bind fun t303 => ((laws_toRope.f k l1_0).bind fun t306 => ((impl_RopeText.f k t303 t306).bind fun bt309 => ((laws_eqByteS.f k bt309.1 t271).bind fun t313 => (if t313 = true then (if (bt309.2 != t274) = true then (none) else ((laws_heldByteS.f k bt300.2 1).bind fun t314 => (if t314 < 0 then (none) else (if t314 = bt300.1 then (some true) else (none))))) else (none)))))) else (none))))) else (none)))))) else (none)))) else (none))))) else (none))) = some r := H
   have A24 := Aside0.mk A240
   clear A240
   replace H := Option.bind_eq_some_iff.mp H
   obtain ⟨t287, A250, H⟩ := H
   replace H : (if t287 = true then (if (t286 != t274) = true then (none) else ((laws_toMemory.f k l0_0).bind fun t288 => ((laws_eqMemory.f k t275 t288).bind fun t291 => (if t291 = true then ((laws_toRope.f k l1_0).bind fun t292 => ((laws_eqRope.f k t279 t292).bind fun t295 => (if t295 = true then ((laws_markMemory.f k t275 1).bind fun t296 => ((laws_markRope.f k t279 t296).bind fun bt297 => (if bt297.1 < 0 then (none) else ((laws_eqByteS.f k t283 t271).bind fun t299 => (if t299 = true then ((laws_markByteS.f k t283 1).bind fun bt300 => ((laws_heldByteS.f k bt300.2 1).bind fun t302 => (if t302 < 0 then (none) else (if t302 = bt300.1 then ((laws_toMemory.f k l0_0).bind fun t303 => ((laws_toRope.f k l1_0).bind fun t306 => ((impl_RopeText.f k t303 t306).bind fun bt309 => ((laws_eqByteS.f k bt309.1 t271).bind fun t313 => (if t313 = true then (if (bt309.2 != t274) = true then (none) else ((laws_heldByteS.f k bt300.2 1).bind fun t314 => (if t314 < 0 then (none) else (if t314 = bt300.1 then (some true) else (none))))) else (none)))))) else (none))))) else (none)))))) else (none)))) else (none))))) else (none)) = some r := H
   have A25 := Aside0.mk A250
   clear A250
   by_cases c26 : t287 = true
   ·subst c26
    have H1 : (if (t286 != t274) = true then (none) else ((laws_toMemory.f k l0_0).bind fun t288 => ((laws_eqMemory.f k t275 t288).bind fun t291 => (if t291 = true then ((laws_toRope.f k l1_0).bind fun t292 => ((laws_eqRope.f k t279 t292).bind fun t295 => (if t295 = true then ((laws_markMemory.f k t275 1).bind fun t296 => ((laws_markRope.f k t279 t296).bind fun bt297 => (if bt297.1 < 0 then (none) else ((laws_eqByteS.f k t283 t271).bind fun t299 => (if t299 = true then ((laws_markByteS.f k t283 1).bind fun bt300 => ((laws_heldByteS.f k bt300.2 1).bind fun t302 => (if t302 < 0 then (none) else (if t302 = bt300.1 then ((laws_toMemory.f k l0_0).bind fun t303 => ((laws_toRope.f k l1_0).bind fun t306 => ((impl_RopeText.f k t303 t306).bind fun bt309 => ((laws_eqByteS.f k bt309.1 t271).bind fun t313 => (if t313 = true then (if (bt309.2 != t274) = true then (none) else ((laws_heldByteS.f k bt300.2 1).bind fun t314 => (if t314 < 0 then (none) else (if t314 = bt300.1 then (some true) else (none))))) else (none)))))) else (none))))) else (none)))))) else (none)))) else (none))))) = some r := by rw [if_pos rfl] at H; exact H
    clear H
    have H := H1
    clear H1
    by_cases c27 : (t286 != t274) = true
    ·rw [if_pos c27] at H
     exact absurd H (by simp)
    ·rw [if_neg c27] at H
     have c27b0 : (t286 != t274) = false := by simpa using c27
     (try (have c27b1 : decide (t286 = t274) = true := by simpa using c27))
     (try (have c27b2 : (t286 == t274) = true := by simpa using c27))
     clear c27
     replace H := Option.bind_eq_some_iff.mp H
     obtain ⟨t288, A280, H⟩ := H
     replace H : ((laws_eqMemory.f k t275 t288).bind fun t291 => (if t291 = true then ((laws_toRope.f k l1_0).bind fun t292 => ((laws_eqRope.f k t279 t292).bind fun t295 => (if t295 = true then ((laws_markMemory.f k t275 1).bind fun t296 => ((laws_markRope.f k t279 t296).bind fun bt297 => (if bt297.1 < 0 then (none) else ((laws_eqByteS.f k t283 t271).bind fun t299 => (if t299 = true then ((laws_markByteS.f k t283 1).bind fun bt300 => ((laws_heldByteS.f k bt300.2 1).bind fun t302 => (if t302 < 0 then (none) else (if t302 = bt300.1 then ((laws_toMemory.f k l0_0).bind fun t303 => ((laws_toRope.f k l1_0).bind fun t306 => ((impl_RopeText.f k t303 t306).bind fun bt309 => ((laws_eqByteS.f k bt309.1 t271).bind fun t313 => (if t313 = true then (if (bt309.2 != t274) = true then (none) else ((laws_heldByteS.f k bt300.2 1).bind fun t314 => (if t314 < 0 then (none) else (if t314 = bt300.1 then (some true) else (none))))) else (none)))))) else (none))))) else (none)))))) else (none)))) else (none))) = some r := H
     have A28 := Aside0.mk A280
     clear A280
     replace H := Option.bind_eq_some_iff.mp H
     obtain ⟨t291, A290, H⟩ := H
     replace H : (if t291 = true then ((laws_toRope.f k l1_0).bind fun t292 => ((laws_eqRope.f k t279 t292).bind fun t295 => (if t295 = true then ((laws_markMemory.f k t275 1).bind fun t296 => ((laws_markRope.f k t279 t296).bind fun bt297 => (if bt297.1 < 0 then (none) else ((laws_eqByteS.f k t283 t271).bind fun t299 => (if t299 = true then ((laws_markByteS.f k t283 1).bind fun bt300 => ((laws_heldByteS.f k bt300.2 1).bind fun t302 => (if t302 < 0 then (none) else (if t302 = bt300.1 then ((laws_toMemory.f k l0_0).bind fun t303 => ((laws_toRope.f k l1_0).bind fun t306 => ((impl_RopeText.f k t303 t306).bind fun bt309 => ((laws_eqByteS.f k bt309.1 t271).bind fun t313 => (if t313 = true then (if (bt309.2 != t274) = true then (none) else ((laws_heldByteS.f k bt300.2 1).bind fun t314 => (if t314 < 0 then (none) else (if t314 = bt300.1 then (some true) else (none))))) else (none)))))) else (none))))) else (none)))))) else (none)))) else (none)) = some r := H
     have A29 := Aside0.mk A290
     clear A290
     by_cases c30 : t291 = true
     ·subst c30
      have H1 : ((laws_toRope.f k l1_0).bind fun t292 => ((laws_eqRope.f k t279 t292).bind fun t295 => (if t295 = true then ((laws_markMemory.f k t275 1).bind fun t296 => ((laws_markRope.f k t279 t296).bind fun bt297 => (if bt297.1 < 0 then (none) else ((laws_eqByteS.f k t283 t271).bind fun t299 => (if t299 = true then ((laws_markByteS.f k t283 1).bind fun bt300 => ((laws_heldByteS.f k bt300.2 1).bind fun t302 => (if t302 < 0 then (none) else (if t302 = bt300.1 then ((laws_toMemory.f k l0_0).bind fun t303 => ((laws_toRope.f k l1_0).bind fun t306 => ((impl_RopeText.f k t303 t306).bind fun bt309 => ((laws_eqByteS.f k bt309.1 t271).bind fun t313 => (if t313 = true then (if (bt309.2 != t274) = true then (none) else ((laws_heldByteS.f k bt300.2 1).bind fun t314 => (if t314 < 0 then (none) else (if t314 = bt300.1 then (some true) else (none))))) else (none)))))) else (none))))) else (none)))))) else (none)))) = some r := by rw [if_pos rfl] at H; exact H
      clear H
      have H := H1
      clear H1
      replace H := Option.bind_eq_some_iff.mp H
      obtain ⟨t292, A310, H⟩ := H
      replace H : ((laws_eqRope.f k t279 t292).bind fun t295 => (if t295 = true then ((laws_markMemory.f k t275 1).bind fun t296 => ((laws_markRope.f k t279 t296).bind fun bt297 => (if bt297.1 < 0 then (none) else ((laws_eqByteS.f k t283 t271).bind fun t299 => (if t299 = true then ((laws_markByteS.f k t283 1).bind fun bt300 => ((laws_heldByteS.f k bt300.2 1).bind fun t302 => (if t302 < 0 then (none) else (if t302 = bt300.1 then ((laws_toMemory.f k l0_0).bind fun t303 => ((laws_toRope.f k l1_0).bind fun t306 => ((impl_RopeText.f k t303 t306).bind fun bt309 => ((laws_eqByteS.f k bt309.1 t271).bind fun t313 => (if t313 = true then (if (bt309.2 != t274) = true then (none) else ((laws_heldByteS.f k bt300.2 1).bind fun t314 => (if t314 < 0 then (none) else (if t314 = bt300.1 then (some true) else (none))))) else (none)))))) else (none))))) else (none)))))) else (none))) = some r := H
      have A31 := Aside0.mk A310
      clear A310
      replace H := Option.bind_eq_some_iff.mp H
      obtain ⟨t295, A320, H⟩ := H
      replace H : (if t295 = true then ((laws_markMemory.f k t275 1).bind fun t296 => ((laws_markRope.f k t279 t296).bind fun bt297 => (if bt297.1 < 0 then (none) else ((laws_eqByteS.f k t283 t271).bind fun t299 => (if t299 = true then ((laws_markByteS.f k t283 1).bind fun bt300 => ((laws_heldByteS.f k bt300.2 1).bind fun t302 => (if t302 < 0 then (none) else (if t302 = bt300.1 then ((laws_toMemory.f k l0_0).bind fun t303 => ((laws_toRope.f k l1_0).bind fun t306 => ((impl_RopeText.f k t303 t306).bind fun bt309 => ((laws_eqByteS.f k bt309.1 t271).bind fun t313 => (if t313 = true then (if (bt309.2 != t274) = true then (none) else ((laws_heldByteS.f k bt300.2 1).bind fun t314 => (if t314 < 0 then (none) else (if t314 = bt300.1 then (some true) else (none))))) else (none)))))) else (none))))) else (none)))))) else (none)) = some r := H
      have A32 := Aside0.mk A320
      clear A320
      by_cases c33 : t295 = true
      ·subst c33
       have H1 : ((laws_markMemory.f k t275 1).bind fun t296 => ((laws_markRope.f k t279 t296).bind fun bt297 => (if bt297.1 < 0 then (none) else ((laws_eqByteS.f k t283 t271).bind fun t299 => (if t299 = true then ((laws_markByteS.f k t283 1).bind fun bt300 => ((laws_heldByteS.f k bt300.2 1).bind fun t302 => (if t302 < 0 then (none) else (if t302 = bt300.1 then ((laws_toMemory.f k l0_0).bind fun t303 => ((laws_toRope.f k l1_0).bind fun t306 => ((impl_RopeText.f k t303 t306).bind fun bt309 => ((laws_eqByteS.f k bt309.1 t271).bind fun t313 => (if t313 = true then (if (bt309.2 != t274) = true then (none) else ((laws_heldByteS.f k bt300.2 1).bind fun t314 => (if t314 < 0 then (none) else (if t314 = bt300.1 then (some true) else (none))))) else (none)))))) else (none))))) else (none)))))) = some r := by rw [if_pos rfl] at H; exact H
       clear H
       have H := H1
       clear H1
       replace H := Option.bind_eq_some_iff.mp H
       obtain ⟨t296, A340, H⟩ := H
       replace H : ((laws_markRope.f k t279 t296).bind fun bt297 => (if bt297.1 < 0 then (none) else ((laws_eqByteS.f k t283 t271).bind fun t299 => (if t299 = true then ((laws_markByteS.f k t283 1).bind fun bt300 => ((laws_heldByteS.f k bt300.2 1).bind fun t302 => (if t302 < 0 then (none) else (if t302 = bt300.1 then ((laws_toMemory.f k l0_0).bind fun t303 => ((laws_toRope.f k l1_0).bind fun t306 => ((impl_RopeText.f k t303 t306).bind fun bt309 => ((laws_eqByteS.f k bt309.1 t271).bind fun t313 => (if t313 = true then (if (bt309.2 != t274) = true then (none) else ((laws_heldByteS.f k bt300.2 1).bind fun t314 => (if t314 < 0 then (none) else (if t314 = bt300.1 then (some true) else (none))))) else (none)))))) else (none))))) else (none))))) = some r := H
       have A34 := Aside0.mk A340
       clear A340
       replace H := Option.bind_eq_some_iff.mp H
       obtain ⟨⟨t297, t298⟩, A350, H⟩ := H
       replace H : (if t297 < 0 then (none) else ((laws_eqByteS.f k t283 t271).bind fun t299 => (if t299 = true then ((laws_markByteS.f k t283 1).bind fun bt300 => ((laws_heldByteS.f k bt300.2 1).bind fun t302 => (if t302 < 0 then (none) else (if t302 = bt300.1 then ((laws_toMemory.f k l0_0).bind fun t303 => ((laws_toRope.f k l1_0).bind fun t306 => ((impl_RopeText.f k t303 t306).bind fun bt309 => ((laws_eqByteS.f k bt309.1 t271).bind fun t313 => (if t313 = true then (if (bt309.2 != t274) = true then (none) else ((laws_heldByteS.f k bt300.2 1).bind fun t314 => (if t314 < 0 then (none) else (if t314 = bt300.1 then (some true) else (none))))) else (none)))))) else (none))))) else (none)))) = some r := H
       have A35 := Aside0.mk A350
       clear A350
       by_cases c36 : t297 < 0
       ·rw [if_pos c36] at H
        exact absurd H (by simp)
       ·rw [if_neg c36] at H
        have c36b0 : decide (t297 < 0) = false := decide_eq_false c36
        clear c36
        replace H := Option.bind_eq_some_iff.mp H
        obtain ⟨t299, A370, H⟩ := H
        replace H : (if t299 = true then ((laws_markByteS.f k t283 1).bind fun bt300 => ((laws_heldByteS.f k bt300.2 1).bind fun t302 => (if t302 < 0 then (none) else (if t302 = bt300.1 then ((laws_toMemory.f k l0_0).bind fun t303 => ((laws_toRope.f k l1_0).bind fun t306 => ((impl_RopeText.f k t303 t306).bind fun bt309 => ((laws_eqByteS.f k bt309.1 t271).bind fun t313 => (if t313 = true then (if (bt309.2 != t274) = true then (none) else ((laws_heldByteS.f k bt300.2 1).bind fun t314 => (if t314 < 0 then (none) else (if t314 = bt300.1 then (some true) else (none))))) else (none)))))) else (none))))) else (none)) = some r := H
        have A37 := Aside0.mk A370
        clear A370
        by_cases c38 : t299 = true
        ·subst c38
         have H1 : ((laws_markByteS.f k t283 1).bind fun bt300 => ((laws_heldByteS.f k bt300.2 1).bind fun t302 => (if t302 < 0 then (none) else (if t302 = bt300.1 then ((laws_toMemory.f k l0_0).bind fun t303 => ((laws_toRope.f k l1_0).bind fun t306 => ((impl_RopeText.f k t303 t306).bind fun bt309 => ((laws_eqByteS.f k bt309.1 t271).bind fun t313 => (if t313 = true then (if (bt309.2 != t274) = true then (none) else ((laws_heldByteS.f k bt300.2 1).bind fun t314 => (if t314 < 0 then (none) else (if t314 = bt300.1 then (some true) else (none))))) else (none)))))) else (none))))) = some r := by rw [if_pos rfl] at H; exact H
         clear H
         have H := H1
         clear H1
         replace H := Option.bind_eq_some_iff.mp H
         obtain ⟨⟨t300, t301⟩, A390, H⟩ := H
         replace H : ((laws_heldByteS.f k t301 1).bind fun t302 => (if t302 < 0 then (none) else (if t302 = t300 then ((laws_toMemory.f k l0_0).bind fun t303 => ((laws_toRope.f k l1_0).bind fun t306 => ((impl_RopeText.f k t303 t306).bind fun bt309 => ((laws_eqByteS.f k bt309.1 t271).bind fun t313 => (if t313 = true then (if (bt309.2 != t274) = true then (none) else ((laws_heldByteS.f k t301 1).bind fun t314 => (if t314 < 0 then (none) else (if t314 = t300 then (some true) else (none))))) else (none)))))) else (none)))) = some r := H
         have A39 := Aside0.mk A390
         clear A390
         replace H := Option.bind_eq_some_iff.mp H
         obtain ⟨t302, A400, H⟩ := H
         replace H : (if t302 < 0 then (none) else (if t302 = t300 then ((laws_toMemory.f k l0_0).bind fun t303 => ((laws_toRope.f k l1_0).bind fun t306 => ((impl_RopeText.f k t303 t306).bind fun bt309 => ((laws_eqByteS.f k bt309.1 t271).bind fun t313 => (if t313 = true then (if (bt309.2 != t274) = true then (none) else ((laws_heldByteS.f k t301 1).bind fun t314 => (if t314 < 0 then (none) else (if t314 = t300 then (some true) else (none))))) else (none)))))) else (none))) = some r := H
         have A40 := Aside0.mk A400
         clear A400
         by_cases c41 : t302 < 0
         ·rw [if_pos c41] at H
          exact absurd H (by simp)
         ·rw [if_neg c41] at H
          have c41b0 : decide (t302 < 0) = false := decide_eq_false c41
          clear c41
          by_cases c42 : t302 = t300
          ·rw [if_pos c42] at H
           have c42b0 : (t302 == t300) = true := beq_iff_eq.mpr c42
           have c42b1 : (t302 != t300) = false := bne_eq_false_iff_eq.mpr c42
           clear c42
           replace H := Option.bind_eq_some_iff.mp H
           obtain ⟨t303, A430, H⟩ := H
           replace H : ((laws_toRope.f k l1_0).bind fun t306 => ((impl_RopeText.f k t303 t306).bind fun bt309 => ((laws_eqByteS.f k bt309.1 t271).bind fun t313 => (if t313 = true then (if (bt309.2 != t274) = true then (none) else ((laws_heldByteS.f k t301 1).bind fun t314 => (if t314 < 0 then (none) else (if t314 = t300 then (some true) else (none))))) else (none))))) = some r := H
           have A43 := Aside0.mk A430
           clear A430
           replace H := Option.bind_eq_some_iff.mp H
           obtain ⟨t306, A440, H⟩ := H
           replace H : ((impl_RopeText.f k t303 t306).bind fun bt309 => ((laws_eqByteS.f k bt309.1 t271).bind fun t313 => (if t313 = true then (if (bt309.2 != t274) = true then (none) else ((laws_heldByteS.f k t301 1).bind fun t314 => (if t314 < 0 then (none) else (if t314 = t300 then (some true) else (none))))) else (none)))) = some r := H
           have A44 := Aside0.mk A440
           clear A440
           replace H := Option.bind_eq_some_iff.mp H
           obtain ⟨⟨t309, t312⟩, A450, H⟩ := H
           replace H : ((laws_eqByteS.f k t309 t271).bind fun t313 => (if t313 = true then (if (t312 != t274) = true then (none) else ((laws_heldByteS.f k t301 1).bind fun t314 => (if t314 < 0 then (none) else (if t314 = t300 then (some true) else (none))))) else (none))) = some r := H
           have A45 := Aside0.mk A450
           clear A450
           replace H := Option.bind_eq_some_iff.mp H
           obtain ⟨t313, A460, H⟩ := H
           replace H : (if t313 = true then (if (t312 != t274) = true then (none) else ((laws_heldByteS.f k t301 1).bind fun t314 => (if t314 < 0 then (none) else (if t314 = t300 then (some true) else (none))))) else (none)) = some r := H
           have A46 := Aside0.mk A460
           clear A460
           by_cases c47 : t313 = true
           ·subst c47
            have H1 : (if (t312 != t274) = true then (none) else ((laws_heldByteS.f k t301 1).bind fun t314 => (if t314 < 0 then (none) else (if t314 = t300 then (some true) else (none))))) = some r := by rw [if_pos rfl] at H; exact H
            clear H
            have H := H1
            clear H1
            by_cases c48 : (t312 != t274) = true
            ·rw [if_pos c48] at H
             exact absurd H (by simp)
            ·rw [if_neg c48] at H
             have c48b0 : (t312 != t274) = false := by simpa using c48
             (try (have c48b1 : decide (t312 = t274) = true := by simpa using c48))
             (try (have c48b2 : (t312 == t274) = true := by simpa using c48))
             clear c48
             replace H := Option.bind_eq_some_iff.mp H
             obtain ⟨t314, A490, H⟩ := H
             replace H : (if t314 < 0 then (none) else (if t314 = t300 then (some true) else (none))) = some r := H
             have A49 := Aside0.mk A490
             clear A490
             by_cases c50 : t314 < 0
             ·rw [if_pos c50] at H
              exact absurd H (by simp)
             ·rw [if_neg c50] at H
              have c50b0 : decide (t314 < 0) = false := decide_eq_false c50
              clear c50
              by_cases c51 : t314 = t300
              ·rw [if_pos c51] at H
               have c51b0 : (t314 == t300) = true := beq_iff_eq.mpr c51
               have c51b1 : (t314 != t300) = false := bne_eq_false_iff_eq.mpr c51
               clear c51
               obtain rfl := Option.some.inj H
               go_enter Try.func13, Try.ntmps13
               try go_wp2_with (first | ((with_reducible refine gate_dst (N := 2) rfl ?_); refine box_event ?hg (N := 2) ?hd (cs := #[.slice A0_0 l0_0.length c0_0]) (t := 24) ?hr ?_; (case hd => rfl); (case hg => rfl); (case hr => first | (go_simp; done) | (go_simp; rfl)); intro gb261 hg w52 hbox hb; have n0_ := zhs HB hb; have n1_ := Aside0.mk (hbox); have n2_ := zge HB hg; have n3_ := zge HB hg; clear HB; have HB := n0_; have BK261 := n1_; have GW261 := n2_; have GE261 := n3_; clear n0_ n1_ n2_ n3_; clear hb hbox hg) | ((with_reducible refine gate_dst (N := 3) rfl ?_); refine box_event ?hg (N := 3) ?hd (cs := #[.slice A1_0 l1_0.length c1_0]) (t := 27) ?hr ?_; (case hd => rfl); (case hg => rfl); (case hr => first | (go_simp; done) | (go_simp; rfl)); intro gb262 hg w53 hbox hb; have n0_ := zb0 BK261 hb; have n1_ := zhs HB hb; have n2_ := Aside0.mk (hbox); have n3_ := zge HB hg; have n4_ := zge HB hg; have n5_ := znl BK261 hg; have n6_ := znr BK261 hg; clear BK261; clear HB; have BK261 := n0_; have HB := n1_; have BK262 := n2_; have GW262 := n3_; have GE262 := n4_; have NB261_262 := n5_; have NB262_261 := n6_; clear n0_ n1_ n2_ n3_ n4_ n5_ n6_; clear hb hbox hg; have hnb54 := NB261_262.out; have hnc54 := NB262_261.out; have hcz55_0 : w53.cell? ⟨gb261, 0, none⟩ = some (.slice A0_0 l0_0.length c0_0) := zc0 BK261 0 rfl; have hfz55_0 := blk_frozen BK261.out 0) | ((with_reducible refine gate_callee (f := 14) rfl ?_); refine goesL_ (some 19) rfl rfl Try.func14 (by kernel_rfl) rfl #[.agg #[.slice A0_0 l0_0.length c0_0], .int .i64 1048576] rfl (by (try simp only [List.map_toArray, List.map_cons, List.map_nil]); first | done | rfl | (simp only [List.length_drop, List.length_take]; rfl)) ?_; (with_reducible refine (laws_szMemory.calls k _ _ l0_0 1048576 t263 _ ?side1 ?side2 A3.out).mono ?_); (case side1 => repeat (first | exact (Kd.C_below HR0_0.out HB.out) | (with_reducible refine Kd.C_alloc ?_ _) | (with_reducible refine Kd.C_drewN ?_ _) | (with_reducible refine Kd.C_drew ?_))); (case side2 => exact HC0_0.out); rintro e w56 ⟨rfl, hb⟩; refine ⟨_, rfl, ?_⟩; have n0_ := zb0 BK261 hb; have n1_ := zb0 BK262 hb; have n2_ := zhs HB hb; clear BK261; clear BK262; clear HB; have BK261 := n0_; have BK262 := n1_; have HB := n2_; clear n0_ n1_ n2_; (try clear hb); (try clear hb2); (try clear hk); (try clear hi); have hcz57_0 : w56.cell? ⟨gb262, 0, none⟩ = some (.slice A1_0 l1_0.length c1_0) := zc0 BK262 0 rfl; have hfz57_0 := blk_frozen BK262.out 0) | ((with_reducible refine gate_callee (f := 15) rfl ?_); refine goesL_ (some 24) rfl rfl Try.func15 (by kernel_rfl) rfl #[.agg #[.slice A1_0 l1_0.length c1_0], .int .i64 t263] rfl (by (try simp only [List.map_toArray, List.map_cons, List.map_nil]); first | done | rfl | (simp only [List.length_drop, List.length_take]; rfl)) ?_; (with_reducible refine (laws_szRope.calls _ _ l1_0 t263 t264 _ ?side1 ?side2 A10.out).mono ?_); (case side1 => repeat (first | exact (Kd.C_below HR1_0.out HB.out) | (with_reducible refine Kd.C_alloc ?_ _) | (with_reducible refine Kd.C_drewN ?_ _) | (with_reducible refine Kd.C_drew ?_))); (case side2 => exact HC1_0.out); rintro e w58 ⟨rfl, hb⟩; refine ⟨_, rfl, ?_⟩; have n0_ := zb0 BK261 hb; have n1_ := zb0 BK262 hb; have n2_ := zhs HB hb; clear BK261; clear BK262; clear HB; have BK261 := n0_; have BK262 := n1_; have HB := n2_; clear n0_ n1_ n2_; (try clear hb); (try clear hb2); (try clear hk); (try clear hi)))
               replace BK261 := Aside0.mk (blk_drew BK261.out)
               replace BK262 := Aside0.mk (blk_drew BK262.out)
               replace HB := Aside0.mk (below_drew1 HB.out)
               refine start_ (n := 10) (S := fun w' => w'.cell? ⟨gb261, 0, none⟩ = some (.slice A0_0 l0_0.length c0_0) ∧ w'.cell? ⟨gb262, 0, none⟩ = some (.slice A1_0 l1_0.length c1_0)) (ds := []) #[false, false, false, false, false, false, false, false, false, false] (by kernel_rfl) rfl rfl ⟨zc0 BK261 0 rfl, zc0 BK262 0 rfl⟩ (fun hHeld => ?_); refine with_tabW laws_FnExactRopeText.tab8 laws_FnExactRopeText.bits8 (fun HT_ HW_ => ?_)
               generalize w58.drew = w59 at BK261 BK262 HB hHeld ⊢
               refine take_ (i := 0) (N := some 28) (v := ?_) (a' := ?_) #[true, false, false, false, false, false, false, false, false, false] rfl rfl (take_ofW HT_.out HW_.out (by kernel_rfl)) (fun _ _ _ h => h) (Or.inl ⟨by rfl, ?_⟩) hHeld ?_ ?_
               rotate_left
               ·rintro w' ⟨s0, s1⟩
                go_simp
                with_reducible rfl
               rotate_left
               ·simp only [Act.put, zp1, zp2, zp3, i64_w, i32_w]
                rfl
               refine take_ (i := 2) (N := some 30) (v := ?_) (a' := ?_) #[true, false, true, false, false, false, false, false, false, false] rfl rfl (take_ofW HT_.out HW_.out (by kernel_rfl)) (fun _ _ _ h => h) (Or.inl ⟨by rfl, ?_⟩) hHeld ?_ ?_
               rotate_left
               ·rintro w' ⟨s0, s1⟩
                go_simp
                with_reducible rfl
               rotate_left
               ·simp only [Act.put, zp1, zp2, zp3, i64_w, i32_w]
                rfl
               refine one_ (i := 1) (N := some 29) #[true, true, true, false, false, false, false, false, false, false] rfl rfl (one_of HT_.out (by kernel_rfl)) (by decide) (fun K hK => ?_)
               refine goes_ Try.func17 (by kernel_rfl) rfl #[.agg #[.slice A0_0 l0_0.length c0_0]] (by rfl) rfl rfl (by (try simp only [List.map_toArray, List.map_cons, List.map_nil]); first | done | rfl | (simp only [List.length_drop, List.length_take]; rfl)) ?_
               with_reducible refine (laws_toMemory.calls k _ _ l0_0 t265 _ ?side1 ?side2 A19.out).mono ?_
               (case side1 => repeat (first | exact (Kd.C_below HR0_0.out HB.out) | (with_reducible refine Kd.C_alloc ?_ _) | (with_reducible refine Kd.C_drewN ?_ _) | (with_reducible refine Kd.C_drew ?_)))
               (case side2 => exact HC0_0.out)
               rintro e w60 ⟨v266, rfl, ho0, hb⟩
               refine ⟨_, rfl, ?_⟩
               have HO267 := Aside0.mk (Kd.S_lower ho0 (below_size (zh0 HB)))
               replace BK261 := zb0 BK261 hb
               replace BK262 := zb0 BK262 hb
               replace HB := zhs HB hb
               (try clear hb)
               (try clear hb2)
               (try clear hk)
               (try clear hi)
               (try clear ho0)
               refine hK.out _ _ ⟨zc0 BK261 0 rfl, zc0 BK262 0 rfl⟩ (fun hHeld => ?_)
               clear hK K
               refine norm_ (a' := ?_) ?_ ?_
               rotate_left
               ·show Act.put _ (some 29) _ = _
                simp only [Act.put, zp1, zp2, zp3, i64_w, i32_w]
                rfl
               refine one_ (i := 3) (N := some 31) #[true, true, true, true, false, false, false, false, false, false] rfl rfl (one_of HT_.out (by kernel_rfl)) (by decide) (fun K hK => ?_)
               refine goes_ Try.func18 (by kernel_rfl) rfl #[.agg #[.slice A1_0 l1_0.length c1_0]] (by rfl) rfl rfl (by (try simp only [List.map_toArray, List.map_cons, List.map_nil]); first | done | rfl | (simp only [List.length_drop, List.length_take]; rfl)) ?_
               with_reducible refine (laws_toRope.calls k _ _ l1_0 t268 _ ?side1 ?side2 A20.out).mono ?_
               (case side1 => repeat (first | exact (Kd.C_below HR1_0.out HB.out) | (with_reducible refine Kd.C_alloc ?_ _) | (with_reducible refine Kd.C_drewN ?_ _) | (with_reducible refine Kd.C_drew ?_)))
               (case side2 => exact HC1_0.out)
               rintro e w61 ⟨v269, rfl, ho0, hb⟩
               refine ⟨_, rfl, ?_⟩
               have HO270 := Aside0.mk (Kd.R_lower ho0 (below_size (zh0 HB)))
               replace HO267 := zsb HO267 hb
               replace BK261 := zb0 BK261 hb
               replace BK262 := zb0 BK262 hb
               replace HB := zhs HB hb
               (try clear hb)
               (try clear hb2)
               (try clear hk)
               (try clear hi)
               (try clear ho0)
               obtain ⟨Ao62, co62, eo62⟩ := Kd.S_slice HO267.out
               (first | subst eo62 | (injection eo62 with f1_ f2_ f3_; have f4_ := f1_.symm; have f5_ := f3_.symm; clear f1_ f2_ f3_; subst f4_; subst f5_))
               obtain ⟨Ao63, co63, eo63⟩ := Kd.R_slice HO270.out
               (first | subst eo63 | (injection eo63 with f1_ f2_ f3_; have f4_ := f1_.symm; have f5_ := f3_.symm; clear f1_ f2_ f3_; subst f4_; subst f5_))
               refine hK.out _ _ ⟨zc0 BK261 0 rfl, zc0 BK262 0 rfl⟩ (fun hHeld => ?_)
               clear hK K
               refine norm_ (a' := ?_) ?_ ?_
               rotate_left
               ·show Act.put _ (some 31) _ = _
                simp only [Act.put, zp1, zp2, zp3, i64_w, i32_w]
                rfl
               refine one_ (i := 4) (N := some 32) #[true, true, true, true, true, false, false, false, false, false] rfl rfl (one_of HT_.out (by kernel_rfl)) (by decide) (fun K hK => ?_)
               refine goes_ Try.func62 (by kernel_rfl) rfl #[.agg #[.slice Ao62 t265.length co62], .agg #[.slice Ao63 t268.length co63]] (by rfl) rfl rfl (by (try simp only [List.map_toArray, List.map_cons, List.map_nil]); first | done | rfl | (simp only [List.length_drop, List.length_take]; rfl)) ?_
               with_reducible refine (spec_RopeText.calls k _ _ t265 _ _ t268 t271 t274 _ ?side1 ?side2 ?side3 ?side4 A21.out).mono ?_
               (case side1 => repeat (first | exact (Kd.S_reads' HO267.out).2.2 | (with_reducible refine Kd.C_alloc ?_ _) | (with_reducible refine Kd.C_drewN ?_ _) | (with_reducible refine Kd.C_drew ?_)))
               (case side2 => exact (Kd.S_reads' HO267.out).2.1)
               (case side3 => repeat (first | exact (Kd.R_reads' HO270.out).2.2 | (with_reducible refine Kd.C_alloc ?_ _) | (with_reducible refine Kd.C_drewN ?_ _) | (with_reducible refine Kd.C_drew ?_)))
               (case side4 => exact (Kd.R_reads' HO270.out).2.1)
               rintro e w64 ⟨v272, rfl, ho0, hb⟩
               refine ⟨_, rfl, ?_⟩
               have HO273 := Aside0.mk (Kd.R_lower ho0 (below_size (zh0 HB)))
               replace HO267 := Aside0.mk (Kd.S_elder' (zs0 HO267) (Kd.R_base ho0) hb)
               replace HO270 := zrb HO270 hb
               replace BK261 := zb0 BK261 hb
               replace BK262 := zb0 BK262 hb
               replace HB := zhs HB hb
               (try clear hb)
               (try clear hb2)
               (try clear hk)
               (try clear hi)
               (try clear ho0)
               refine hK.out _ _ ⟨zc0 BK261 0 rfl, zc0 BK262 0 rfl⟩ (fun hHeld => ?_)
               clear hK K
               refine norm_ (a' := ?_) ?_ ?_
               rotate_left
               ·show Act.put _ (some 32) _ = _
                simp only [Act.put, zp1, zp2, zp3, i64_w, i32_w]
                rfl
               refine pure_ (i := 5) (N := some 27) (v := ?_) (a' := ?_) #[true, true, true, true, true, true, false, false, false, false] rfl rfl (any_of HT_.out (by kernel_rfl)) (fun _ _ _ h => h) (Or.inl ⟨by rfl, ?_⟩) ?_ ?_
               rotate_left
               ·intro w'
                go_simp
                with_reducible rfl
               rotate_left
               ·simp only [Act.put, zp1, zp2, zp3, i64_w, i32_w]
                rfl
               refine pure_ (i := 6) (N := some 33) (v := ?_) (a' := ?_) #[true, true, true, true, true, true, true, false, false, false] rfl rfl (any_of HT_.out (by kernel_rfl)) (fun _ _ _ h => h) (Or.inl ⟨by rfl, ?_⟩) ?_ ?_
               rotate_left
               ·intro w'
                go_simp
                with_reducible rfl
               rotate_left
               ·simp only [Act.put, zp1, zp2, zp3, i64_w, i32_w]
                rfl
               refine pure_ (i := 7) (N := some 34) (v := ?_) (a' := ?_) #[true, true, true, true, true, true, true, true, false, false] rfl rfl (any_of HT_.out (by kernel_rfl)) (fun _ _ _ h => h) (Or.inl ⟨by rfl, ?_⟩) ?_ ?_
               rotate_left
               ·intro w'
                go_simp
                with_reducible rfl
               rotate_left
               ·simp only [Act.put, zp1, zp2, zp3, i64_w, i32_w]
                rfl
               refine pure_ (i := 8) (N := some 6) (v := ?_) (a' := ?_) #[true, true, true, true, true, true, true, true, true, false] rfl rfl (any_of HT_.out (by kernel_rfl)) (fun _ _ _ h => h) (Or.inl ⟨by rfl, ?_⟩) ?_ ?_
               rotate_left
               ·intro w'
                go_simp
                with_reducible rfl
               rotate_left
               ·simp only [Act.put, zp1, zp2, zp3, i64_w, i32_w]
                rfl
               refine pure_ (i := 9) (N := some 7) (v := ?_) (a' := ?_) #[true, true, true, true, true, true, true, true, true, true] rfl rfl (any_of HT_.out (by kernel_rfl)) (fun _ _ _ h => h) (Or.inl ⟨by rfl, ?_⟩) ?_ ?_
               rotate_left
               ·intro w'
                go_simp
                with_reducible rfl
               rotate_left
               ·simp only [Act.put, zp1, zp2, zp3, i64_w, i32_w]
                rfl
               refine done_ (done_of HT_.out (by kernel_rfl)) ?_
               have hcz65_0 : w64.cell? ⟨gb261, 0, none⟩ = some (.slice A0_0 l0_0.length c0_0) := zc0 BK261 0 rfl
               have hfz65_0 := blk_frozen BK261.out 0
               try go_wp2_with (first | ((with_reducible refine gate_callee (f := 17) rfl ?_); refine goesL_ (some 36) rfl rfl Try.func17 (by kernel_rfl) rfl #[.agg #[.slice A0_0 l0_0.length c0_0]] rfl (by (try simp only [List.map_toArray, List.map_cons, List.map_nil]); first | done | rfl | (simp only [List.length_drop, List.length_take]; rfl)) ?_; (with_reducible refine (laws_toMemory.calls k _ _ l0_0 t275 _ ?side1 ?side2 A22.out).mono ?_); (case side1 => repeat (first | exact (Kd.C_below HR0_0.out HB.out) | (with_reducible refine Kd.C_alloc ?_ _) | (with_reducible refine Kd.C_drewN ?_ _) | (with_reducible refine Kd.C_drew ?_))); (case side2 => exact HC0_0.out); rintro e w66 ⟨v276, rfl, ho0, hb⟩; refine ⟨_, rfl, ?_⟩; have n0_ := Aside0.mk (Kd.S_elder' (zs0 HO267) (Kd.S_base ho0) hb); have n1_ := zrb HO270 hb; have n2_ := zrb HO273 hb; have n3_ := Aside0.mk (Kd.S_lower (Kd.S_new' (Kd.S_new' ho0 (Kd.S_lt (zs0 HO267))) (Kd.R_lt (zr0 HO273))) (below_size (zh0 HB))); have n4_ := Aside0.mk (blk_below (g := gb261) (o := .cells #[.slice A0_0 l0_0.length c0_0] 24 (0, 0)) (by (with_reducible repeat (first | refine blk_drewN ?_ _ | refine blk_drew ?_ | refine blk_alloc ?_ _)); exact BK261.out) hb); have n5_ := Aside0.mk (blk_below (g := gb262) (o := .cells #[.slice A1_0 l1_0.length c1_0] 27 (0, 0)) (by (with_reducible repeat (first | refine blk_drewN ?_ _ | refine blk_drew ?_ | refine blk_alloc ?_ _)); exact BK262.out) hb); have n6_ := zhs HB hb; clear HO267; clear HO270; clear HO273; clear BK261; clear BK262; clear HB; have HO267 := n0_; have HO270 := n1_; have HO273 := n2_; have HO277 := n3_; have BK261 := n4_; have BK262 := n5_; have HB := n6_; clear n0_ n1_ n2_ n3_ n4_ n5_ n6_; (try clear hb); (try clear hb2); (try clear hk); (try clear hi); (try clear ho0)) | ((with_reducible refine gate_dst (N := 8) rfl ?_); refine box_event ?hg (N := 8) ?hd (cs := #[.slice none 0 0]) (t := 32) ?hr ?_; (case hd => rfl); (case hg => rfl); (case hr => first | (go_simp; done) | (go_simp; rfl)); intro gb278 hg w67 hbox hb; have n0_ := zsb HO267 hb; have n1_ := zrb HO270 hb; have n2_ := zrb HO273 hb; have n3_ := zsb HO277 hb; have n4_ := Aside0.mk (blk_below (g := gb261) (o := .cells #[.slice A0_0 l0_0.length c0_0] 24 (0, 0)) (by (with_reducible repeat (first | refine blk_drewN ?_ _ | refine blk_drew ?_ | refine blk_alloc ?_ _)); exact BK261.out) hb); have n5_ := Aside0.mk (blk_below (g := gb262) (o := .cells #[.slice A1_0 l1_0.length c1_0] 27 (0, 0)) (by (with_reducible repeat (first | refine blk_drewN ?_ _ | refine blk_drew ?_ | refine blk_alloc ?_ _)); exact BK262.out) hb); have n6_ := zhs HB hb; have n7_ := Aside0.mk (hbox); have n8_ := zge HB hg; have n9_ := zge HB hg; have n10_ := Aside0.mk ((by rw [hg]; exact Nat.ne_of_lt (blk_lt (g := gb261) (o := .cells #[.slice A0_0 l0_0.length c0_0] 24 (0, 0)) (by (with_reducible repeat (first | refine blk_drewN ?_ _ | refine blk_drew ?_ | refine blk_alloc ?_ _)); exact BK261.out)) : gb261 ≠ gb278)); have n11_ := Aside0.mk ((by rw [hg]; exact Nat.ne_of_gt (blk_lt (g := gb261) (o := .cells #[.slice A0_0 l0_0.length c0_0] 24 (0, 0)) (by (with_reducible repeat (first | refine blk_drewN ?_ _ | refine blk_drew ?_ | refine blk_alloc ?_ _)); exact BK261.out)) : gb278 ≠ gb261)); have n12_ := Aside0.mk ((by rw [hg]; exact Nat.ne_of_lt (blk_lt (g := gb262) (o := .cells #[.slice A1_0 l1_0.length c1_0] 27 (0, 0)) (by (with_reducible repeat (first | refine blk_drewN ?_ _ | refine blk_drew ?_ | refine blk_alloc ?_ _)); exact BK262.out)) : gb262 ≠ gb278)); have n13_ := Aside0.mk ((by rw [hg]; exact Nat.ne_of_gt (blk_lt (g := gb262) (o := .cells #[.slice A1_0 l1_0.length c1_0] 27 (0, 0)) (by (with_reducible repeat (first | refine blk_drewN ?_ _ | refine blk_drew ?_ | refine blk_alloc ?_ _)); exact BK262.out)) : gb278 ≠ gb262)); clear HO267; clear HO270; clear HO273; clear HO277; clear BK261; clear BK262; clear HB; have HO267 := n0_; have HO270 := n1_; have HO273 := n2_; have HO277 := n3_; have BK261 := n4_; have BK262 := n5_; have HB := n6_; have BK278 := n7_; have GW278 := n8_; have GE278 := n9_; have NB261_278 := n10_; have NB278_261 := n11_; have NB262_278 := n12_; have NB278_262 := n13_; clear n0_ n1_ n2_ n3_ n4_ n5_ n6_ n7_ n8_ n9_ n10_ n11_ n12_ n13_; clear hb hbox hg; obtain ⟨Ao68, co68, eo68⟩ := Kd.S_slice HO277.out; subst eo68; have hnb69 := NB278_261.out; have hnc69 := NB261_278.out; have hnb70 := NB278_262.out; have hnc70 := NB262_278.out; have hcz71_0 : w67.cell? ⟨gb278, 0, none⟩ = some (.slice none 0 0) := zc0 BK278 0 rfl; have hfz71_0 := blk_frozen BK278.out 0; have hcz72_0 : w67.cell? ⟨gb262, 0, none⟩ = some (.slice A1_0 l1_0.length c1_0) := zc0 BK262 0 rfl; have hfz72_0 := blk_frozen BK262.out 0) | ((with_reducible refine gate_callee (f := 18) rfl ?_); refine goesL_ (some 38) rfl rfl Try.func18 (by kernel_rfl) rfl #[.agg #[.slice A1_0 l1_0.length c1_0]] rfl (by (try simp only [List.map_toArray, List.map_cons, List.map_nil]); first | done | rfl | (simp only [List.length_drop, List.length_take]; rfl)) ?_; (with_reducible refine (laws_toRope.calls k _ _ l1_0 t279 _ ?side1 ?side2 A23.out).mono ?_); (case side1 => exact Kd.C_below HR1_0.out (by repeat (first | (with_reducible first | exact HB.out | apply below_alloc | apply pw_below_drewN | apply below_drew1 | refine below_set ?_ GE261.out | refine below_set ?_ GE262.out | refine below_set ?_ GE278.out) | exact HB.out))); (case side2 => exact HC1_0.out); rintro e w73 ⟨v280, rfl, ho0, hb⟩; refine ⟨_, rfl, ?_⟩; have n0_ := Aside0.mk (Kd.S_below (by (with_reducible repeat (first | apply Kd.S_alloc | apply Kd.S_drewN | apply Kd.S_drew)); exact (Kd.S_mono (Kd.S_far (p := ⟨gb278, 0, none⟩) (Kd.S_types HO267.out BK278.out (by decide)) (fun _ hk => hk.2) (.slice Ao68 t275.length co68)) (fun _ h_ => h_.1))) hb); have n1_ := Aside0.mk (Kd.R_elder' (by (with_reducible repeat (first | apply Kd.R_alloc | apply Kd.R_drewN | apply Kd.R_drew)); exact (Kd.R_mono (Kd.R_far (p := ⟨gb278, 0, none⟩) (Kd.R_types HO270.out BK278.out (by decide)) (fun _ hk => hk.2) (.slice Ao68 t275.length co68)) (fun _ h_ => h_.1))) (Kd.R_base ho0) hb); have n2_ := Aside0.mk (Kd.R_below (by (with_reducible repeat (first | apply Kd.R_alloc | apply Kd.R_drewN | apply Kd.R_drew)); exact (Kd.R_mono (Kd.R_far (p := ⟨gb278, 0, none⟩) (Kd.R_types HO273.out BK278.out (by decide)) (fun _ hk => hk.2) (.slice Ao68 t275.length co68)) (fun _ h_ => h_.1))) hb); have n3_ := Aside0.mk (Kd.S_below (by (with_reducible repeat (first | apply Kd.S_alloc | apply Kd.S_drewN | apply Kd.S_drew)); exact (Kd.S_mono (Kd.S_far (p := ⟨gb278, 0, none⟩) (Kd.S_types HO277.out BK278.out (by decide)) (fun _ hk => hk.2) (.slice Ao68 t275.length co68)) (fun _ h_ => h_.1))) hb); have n4_ := Aside0.mk (Kd.R_lower (Kd.R_new' ho0 (Kd.R_lt (by (with_reducible repeat (first | apply Kd.R_alloc | apply Kd.R_drewN | apply Kd.R_drew)); exact (Kd.R_mono (Kd.R_far (p := ⟨gb278, 0, none⟩) (Kd.R_types HO270.out BK278.out (by decide)) (fun _ hk => hk.2) (.slice Ao68 t275.length co68)) (fun _ h_ => h_.1))))) (below_size (by repeat (first | (with_reducible first | exact HB.out | apply below_alloc | apply pw_below_drewN | apply below_drew1 | refine below_set ?_ GE261.out | refine below_set ?_ GE262.out | refine below_set ?_ GE278.out) | exact HB.out)))); have n5_ := Aside0.mk (blk_below (g := gb261) (o := .cells #[.slice A0_0 l0_0.length c0_0] 24 (0, 0)) (by (with_reducible repeat (first | refine blk_drewN ?_ _ | refine blk_drew ?_ | refine blk_alloc ?_ _)); refine blk_far ?_ NB261_278.out _; (with_reducible repeat (first | refine blk_drewN ?_ _ | refine blk_drew ?_ | refine blk_alloc ?_ _)); exact BK261.out) hb); have n6_ := Aside0.mk (blk_below (g := gb262) (o := .cells #[.slice A1_0 l1_0.length c1_0] 27 (0, 0)) (by (with_reducible repeat (first | refine blk_drewN ?_ _ | refine blk_drew ?_ | refine blk_alloc ?_ _)); refine blk_far ?_ NB262_278.out _; (with_reducible repeat (first | refine blk_drewN ?_ _ | refine blk_drew ?_ | refine blk_alloc ?_ _)); exact BK262.out) hb); have n7_ := Aside0.mk (blk_below (g := gb278) (o := .cells #[.slice Ao68 t275.length co68] 32 (0, 0)) (by (with_reducible repeat (first | refine blk_drewN ?_ _ | refine blk_drew ?_ | refine blk_alloc ?_ _)); refine blk_put (cs := #[.slice none 0 0]) ?_ 0 _ rfl; (with_reducible repeat (first | refine blk_drewN ?_ _ | refine blk_drew ?_ | refine blk_alloc ?_ _)); exact BK278.out) hb); have n8_ := Aside0.mk (below_step (by repeat (first | (with_reducible first | exact HB.out | apply below_alloc | apply pw_below_drewN | apply below_drew1 | refine below_set ?_ GE261.out | refine below_set ?_ GE262.out | refine below_set ?_ GE278.out) | exact HB.out)) hb); clear HO267; clear HO270; clear HO273; clear HO277; clear BK261; clear BK262; clear BK278; clear HB; have HO267 := n0_; have HO270 := n1_; have HO273 := n2_; have HO277 := n3_; have HO281 := n4_; have BK261 := n5_; have BK262 := n6_; have BK278 := n7_; have HB := n8_; clear n0_ n1_ n2_ n3_ n4_ n5_ n6_ n7_ n8_; (try clear hb); (try clear hb2); (try clear hk); (try clear hi); (try clear ho0)) | ((with_reducible refine gate_dst (N := 9) rfl ?_); refine box_event ?hg (N := 9) ?hd (cs := #[.slice none 0 0]) (t := 36) ?hr ?_; (case hd => rfl); (case hg => rfl); (case hr => first | (go_simp; done) | (go_simp; rfl)); intro gb282 hg w74 hbox hb; have n0_ := zsb HO267 hb; have n1_ := zrb HO270 hb; have n2_ := zrb HO273 hb; have n3_ := zsb HO277 hb; have n4_ := zrb HO281 hb; have n5_ := Aside0.mk (blk_below (g := gb261) (o := .cells #[.slice A0_0 l0_0.length c0_0] 24 (0, 0)) (by (with_reducible repeat (first | refine blk_drewN ?_ _ | refine blk_drew ?_ | refine blk_alloc ?_ _)); exact BK261.out) hb); have n6_ := Aside0.mk (blk_below (g := gb262) (o := .cells #[.slice A1_0 l1_0.length c1_0] 27 (0, 0)) (by (with_reducible repeat (first | refine blk_drewN ?_ _ | refine blk_drew ?_ | refine blk_alloc ?_ _)); exact BK262.out) hb); have n7_ := Aside0.mk (blk_below (g := gb278) (o := .cells #[.slice Ao68 t275.length co68] 32 (0, 0)) (by (with_reducible repeat (first | refine blk_drewN ?_ _ | refine blk_drew ?_ | refine blk_alloc ?_ _)); exact BK278.out) hb); have n8_ := zhs HB hb; have n9_ := Aside0.mk (hbox); have n10_ := zge HB hg; have n11_ := zge HB hg; have n12_ := Aside0.mk ((by rw [hg]; exact Nat.ne_of_lt (blk_lt (g := gb261) (o := .cells #[.slice A0_0 l0_0.length c0_0] 24 (0, 0)) (by (with_reducible repeat (first | refine blk_drewN ?_ _ | refine blk_drew ?_ | refine blk_alloc ?_ _)); exact BK261.out)) : gb261 ≠ gb282)); have n13_ := Aside0.mk ((by rw [hg]; exact Nat.ne_of_gt (blk_lt (g := gb261) (o := .cells #[.slice A0_0 l0_0.length c0_0] 24 (0, 0)) (by (with_reducible repeat (first | refine blk_drewN ?_ _ | refine blk_drew ?_ | refine blk_alloc ?_ _)); exact BK261.out)) : gb282 ≠ gb261)); have n14_ := Aside0.mk ((by rw [hg]; exact Nat.ne_of_lt (blk_lt (g := gb262) (o := .cells #[.slice A1_0 l1_0.length c1_0] 27 (0, 0)) (by (with_reducible repeat (first | refine blk_drewN ?_ _ | refine blk_drew ?_ | refine blk_alloc ?_ _)); exact BK262.out)) : gb262 ≠ gb282)); have n15_ := Aside0.mk ((by rw [hg]; exact Nat.ne_of_gt (blk_lt (g := gb262) (o := .cells #[.slice A1_0 l1_0.length c1_0] 27 (0, 0)) (by (with_reducible repeat (first | refine blk_drewN ?_ _ | refine blk_drew ?_ | refine blk_alloc ?_ _)); exact BK262.out)) : gb282 ≠ gb262)); have n16_ := Aside0.mk ((by rw [hg]; exact Nat.ne_of_lt (blk_lt (g := gb278) (o := .cells #[.slice Ao68 t275.length co68] 32 (0, 0)) (by (with_reducible repeat (first | refine blk_drewN ?_ _ | refine blk_drew ?_ | refine blk_alloc ?_ _)); exact BK278.out)) : gb278 ≠ gb282)); have n17_ := Aside0.mk ((by rw [hg]; exact Nat.ne_of_gt (blk_lt (g := gb278) (o := .cells #[.slice Ao68 t275.length co68] 32 (0, 0)) (by (with_reducible repeat (first | refine blk_drewN ?_ _ | refine blk_drew ?_ | refine blk_alloc ?_ _)); exact BK278.out)) : gb282 ≠ gb278)); clear HO267; clear HO270; clear HO273; clear HO277; clear HO281; clear BK261; clear BK262; clear BK278; clear HB; have HO267 := n0_; have HO270 := n1_; have HO273 := n2_; have HO277 := n3_; have HO281 := n4_; have BK261 := n5_; have BK262 := n6_; have BK278 := n7_; have HB := n8_; have BK282 := n9_; have GW282 := n10_; have GE282 := n11_; have NB261_282 := n12_; have NB282_261 := n13_; have NB262_282 := n14_; have NB282_262 := n15_; have NB278_282 := n16_; have NB282_278 := n17_; clear n0_ n1_ n2_ n3_ n4_ n5_ n6_ n7_ n8_ n9_ n10_ n11_ n12_ n13_ n14_ n15_ n16_ n17_; clear hb hbox hg; obtain ⟨Ao75, co75, eo75⟩ := Kd.R_slice HO281.out; subst eo75; have hnb76 := NB282_261.out; have hnc76 := NB261_282.out; have hnb77 := NB282_262.out; have hnc77 := NB262_282.out; have hnb78 := NB282_278.out; have hnc78 := NB278_282.out; have hcz79_0 : w74.cell? ⟨gb282, 0, none⟩ = some (.slice none 0 0) := zc0 BK282 0 rfl; have hfz79_0 := blk_frozen BK282.out 0; have hcz80_0 : w74.cell? ⟨gb278, 0, none⟩ = some (.slice Ao68 t275.length co68) := zc0 BK278 0 rfl; have hfz80_0 := blk_frozen BK278.out 0) | ((with_reducible refine gate_callee (f := 63) rfl ?_); refine goesL_ (some 42) rfl rfl Try.func63 (by kernel_rfl) rfl #[.agg #[.slice Ao68 t275.length co68], .agg #[.slice Ao75 t279.length co75]] rfl (by (try simp only [List.map_toArray, List.map_cons, List.map_nil]); first | done | rfl | (simp only [List.length_drop, List.length_take]; rfl)) ?_; (with_reducible refine (impl_RopeText.calls k _ _ t275 _ _ t279 t283 t286 _ ?side1 ?side2 ?side3 ?side4 A24.out).mono ?_); (case side1 => refine (Kd.S_reads' (e := 74) (base := w.heap.size) (ok := fun k_ => ((True ∧ some k_ ≠ (.slice Ao62 t265.length co62 : Value).ownBlock) ∧ some k_ ≠ (v272 : Value).ownBlock)) (n := t275.length) (c := co68) ?_).2.2; exact (by (with_reducible repeat (first | apply Kd.S_alloc | apply Kd.S_drewN | apply Kd.S_drew)); exact (Kd.S_mono (Kd.S_far (p := ⟨gb282, 0, none⟩) (Kd.S_types HO277.out BK282.out (by decide)) (fun _ hk => hk.2) (.slice Ao75 t279.length co75)) (fun _ h_ => h_.1)))); (case side2 => exact (Kd.S_reads' HO277.out).2.1); (case side3 => refine (Kd.R_reads' (e := 48) (base := w.heap.size) (ok := fun k_ => (True ∧ some k_ ≠ (.slice Ao63 t268.length co63 : Value).ownBlock)) (n := t279.length) (c := co75) ?_).2.2; exact (by (with_reducible repeat (first | apply Kd.R_alloc | apply Kd.R_drewN | apply Kd.R_drew)); exact (Kd.R_mono (Kd.R_far (p := ⟨gb282, 0, none⟩) (Kd.R_types HO281.out BK282.out (by decide)) (fun _ hk => hk.2) (.slice Ao75 t279.length co75)) (fun _ h_ => h_.1)))); (case side4 => exact (Kd.R_reads' HO281.out).2.1); rintro e w81 ⟨v284, rfl, ho0, hb⟩; refine ⟨_, rfl, ?_⟩; have n0_ := Aside0.mk (Kd.S_elder' (by (with_reducible repeat (first | apply Kd.S_alloc | apply Kd.S_drewN | apply Kd.S_drew)); exact (Kd.S_mono (Kd.S_far (p := ⟨gb282, 0, none⟩) (Kd.S_types HO267.out BK282.out (by decide)) (fun _ hk => hk.2) (.slice Ao75 t279.length co75)) (fun _ h_ => h_.1))) (Kd.R_base ho0) hb); have n1_ := Aside0.mk (Kd.R_below (by (with_reducible repeat (first | apply Kd.R_alloc | apply Kd.R_drewN | apply Kd.R_drew)); exact (Kd.R_mono (Kd.R_far (p := ⟨gb282, 0, none⟩) (Kd.R_types HO270.out BK282.out (by decide)) (fun _ hk => hk.2) (.slice Ao75 t279.length co75)) (fun _ h_ => h_.1))) hb); have n2_ := Aside0.mk (Kd.R_elder' (by (with_reducible repeat (first | apply Kd.R_alloc | apply Kd.R_drewN | apply Kd.R_drew)); exact (Kd.R_mono (Kd.R_far (p := ⟨gb282, 0, none⟩) (Kd.R_types HO273.out BK282.out (by decide)) (fun _ hk => hk.2) (.slice Ao75 t279.length co75)) (fun _ h_ => h_.1))) (Kd.R_base ho0) hb); have n3_ := Aside0.mk (Kd.S_elder' (by (with_reducible repeat (first | apply Kd.S_alloc | apply Kd.S_drewN | apply Kd.S_drew)); exact (Kd.S_mono (Kd.S_far (p := ⟨gb282, 0, none⟩) (Kd.S_types HO277.out BK282.out (by decide)) (fun _ hk => hk.2) (.slice Ao75 t279.length co75)) (fun _ h_ => h_.1))) (Kd.R_base ho0) hb); have n4_ := Aside0.mk (Kd.R_below (by (with_reducible repeat (first | apply Kd.R_alloc | apply Kd.R_drewN | apply Kd.R_drew)); exact (Kd.R_mono (Kd.R_far (p := ⟨gb282, 0, none⟩) (Kd.R_types HO281.out BK282.out (by decide)) (fun _ hk => hk.2) (.slice Ao75 t279.length co75)) (fun _ h_ => h_.1))) hb); have n5_ := Aside0.mk (Kd.R_lower (Kd.R_new' ho0 (Kd.R_lt (by (with_reducible repeat (first | apply Kd.R_alloc | apply Kd.R_drewN | apply Kd.R_drew)); exact (Kd.R_mono (Kd.R_far (p := ⟨gb282, 0, none⟩) (Kd.R_types HO273.out BK282.out (by decide)) (fun _ hk => hk.2) (.slice Ao75 t279.length co75)) (fun _ h_ => h_.1))))) (below_size (by repeat (first | (with_reducible first | exact HB.out | apply below_alloc | apply pw_below_drewN | apply below_drew1 | refine below_set ?_ GE261.out | refine below_set ?_ GE262.out | refine below_set ?_ GE278.out | refine below_set ?_ GE282.out) | exact HB.out)))); have n6_ := Aside0.mk (blk_below (g := gb261) (o := .cells #[.slice A0_0 l0_0.length c0_0] 24 (0, 0)) (by (with_reducible repeat (first | refine blk_drewN ?_ _ | refine blk_drew ?_ | refine blk_alloc ?_ _)); refine blk_far ?_ NB261_282.out _; (with_reducible repeat (first | refine blk_drewN ?_ _ | refine blk_drew ?_ | refine blk_alloc ?_ _)); exact BK261.out) hb); have n7_ := Aside0.mk (blk_below (g := gb262) (o := .cells #[.slice A1_0 l1_0.length c1_0] 27 (0, 0)) (by (with_reducible repeat (first | refine blk_drewN ?_ _ | refine blk_drew ?_ | refine blk_alloc ?_ _)); refine blk_far ?_ NB262_282.out _; (with_reducible repeat (first | refine blk_drewN ?_ _ | refine blk_drew ?_ | refine blk_alloc ?_ _)); exact BK262.out) hb); have n8_ := Aside0.mk (blk_below (g := gb278) (o := .cells #[.slice Ao68 t275.length co68] 32 (0, 0)) (by (with_reducible repeat (first | refine blk_drewN ?_ _ | refine blk_drew ?_ | refine blk_alloc ?_ _)); refine blk_far ?_ NB278_282.out _; (with_reducible repeat (first | refine blk_drewN ?_ _ | refine blk_drew ?_ | refine blk_alloc ?_ _)); exact BK278.out) hb); have n9_ := Aside0.mk (blk_below (g := gb282) (o := .cells #[.slice Ao75 t279.length co75] 36 (0, 0)) (by (with_reducible repeat (first | refine blk_drewN ?_ _ | refine blk_drew ?_ | refine blk_alloc ?_ _)); refine blk_put (cs := #[.slice none 0 0]) ?_ 0 _ rfl; (with_reducible repeat (first | refine blk_drewN ?_ _ | refine blk_drew ?_ | refine blk_alloc ?_ _)); exact BK282.out) hb); have n10_ := Aside0.mk (below_step (by repeat (first | (with_reducible first | exact HB.out | apply below_alloc | apply pw_below_drewN | apply below_drew1 | refine below_set ?_ GE261.out | refine below_set ?_ GE262.out | refine below_set ?_ GE278.out | refine below_set ?_ GE282.out) | exact HB.out)) hb); clear HO267; clear HO270; clear HO273; clear HO277; clear HO281; clear BK261; clear BK262; clear BK278; clear BK282; clear HB; have HO267 := n0_; have HO270 := n1_; have HO273 := n2_; have HO277 := n3_; have HO281 := n4_; have HO285 := n5_; have BK261 := n6_; have BK262 := n7_; have BK278 := n8_; have BK282 := n9_; have HB := n10_; clear n0_ n1_ n2_ n3_ n4_ n5_ n6_ n7_ n8_ n9_ n10_; (try clear hb); (try clear hb2); (try clear hk); (try clear hi); (try clear ho0); obtain ⟨Ao82, co82, eo82⟩ := Kd.R_slice HO285.out; subst eo82; obtain ⟨Ao83, co83, eo83⟩ := Kd.R_slice HO273.out; subst eo83) | ((with_reducible refine gate_callee (f := 49) rfl ?_); refine goesL_ (some 47) rfl rfl Try.func49 (by kernel_rfl) rfl #[.slice Ao82 t283.length co82, .slice Ao83 t271.length co83] rfl (by (try simp only [List.map_toArray, List.map_cons, List.map_nil]); first | done | rfl | (simp only [List.length_drop, List.length_take]; rfl)) ?_; (with_reducible refine (laws_eqByteS.calls k _ _ t283 _ _ t271 true _ ?side1 ?side2 ?side3 ?side4 A25.out).mono ?_); (case side1 => repeat (first | exact (Kd.R_reads' HO285.out).2.2 | (with_reducible refine Kd.C_alloc ?_ _) | (with_reducible refine Kd.C_drewN ?_ _) | (with_reducible refine Kd.C_drew ?_))); (case side2 => exact (Kd.R_reads' HO285.out).2.1); (case side3 => repeat (first | exact (Kd.R_reads' HO273.out).2.2 | (with_reducible refine Kd.C_alloc ?_ _) | (with_reducible refine Kd.C_drewN ?_ _) | (with_reducible refine Kd.C_drew ?_))); (case side4 => exact (Kd.R_reads' HO273.out).2.1); rintro e w' ⟨rfl, ⟨nd, rfl⟩⟩; refine ⟨_, rfl, ?_⟩))
               (try simp only [World.drewN_drewN]); (try (rw [drewN_self w81]; generalize hq_ : World.drewN w81 _ = w81; have n0_ : Aside0 (Kd.S (Kd.slice 5 (Kd.int .u8)) 74 w81 w.heap.size (fun k_ => some k_ ≠ (.slice Ao83 t271.length co83 : Value).ownBlock ∧ some k_ ≠ (.slice Ao68 t275.length co68 : Value).ownBlock ∧ some k_ ≠ (.slice Ao82 t283.length co82 : Value).ownBlock) (.slice Ao62 t265.length co62) t265) := ⟨by rw [← hq_]; exact (by (with_reducible repeat (first | apply Kd.S_alloc | apply Kd.S_drewN | apply Kd.S_drew)); exact Kd.S_mono HO267.out (fun _ hk => ⟨hk.1.1.2, ⟨hk.1.2, hk.2⟩⟩))⟩; have n1_ : Aside0 (Kd.R k48 48 w81 w.heap.size (fun k_ => some k_ ≠ (.slice Ao75 t279.length co75 : Value).ownBlock) (.slice Ao63 t268.length co63) t268) := ⟨by rw [← hq_]; exact (by (with_reducible repeat (first | apply Kd.R_alloc | apply Kd.R_drewN | apply Kd.R_drew)); exact Kd.R_mono HO270.out (fun _ hk => hk.2))⟩; have n2_ : Aside0 (Kd.R (Kd.int .u8) 5 w81 w.heap.size (fun k_ => some k_ ≠ (.slice Ao82 t283.length co82 : Value).ownBlock) (.slice Ao83 t271.length co83) t271) := ⟨by rw [← hq_]; exact (by (with_reducible repeat (first | apply Kd.R_alloc | apply Kd.R_drewN | apply Kd.R_drew)); exact Kd.R_mono HO273.out (fun _ hk => hk.2))⟩; have n3_ : Aside0 (Kd.S (Kd.slice 5 (Kd.int .u8)) 74 w81 w.heap.size (fun k_ => some k_ ≠ (.slice Ao62 t265.length co62 : Value).ownBlock ∧ some k_ ≠ (.slice Ao83 t271.length co83 : Value).ownBlock ∧ some k_ ≠ (.slice Ao82 t283.length co82 : Value).ownBlock) (.slice Ao68 t275.length co68) t275) := ⟨by rw [← hq_]; exact (by (with_reducible repeat (first | apply Kd.S_alloc | apply Kd.S_drewN | apply Kd.S_drew)); exact Kd.S_mono HO277.out (fun _ hk => ⟨hk.1.1.2, ⟨hk.1.2, hk.2⟩⟩))⟩; have n4_ : Aside0 (Kd.R k48 48 w81 w.heap.size (fun k_ => some k_ ≠ (.slice Ao63 t268.length co63 : Value).ownBlock) (.slice Ao75 t279.length co75) t279) := ⟨by rw [← hq_]; exact (by (with_reducible repeat (first | apply Kd.R_alloc | apply Kd.R_drewN | apply Kd.R_drew)); exact Kd.R_mono HO281.out (fun _ hk => hk.2))⟩; have n5_ : Aside0 (Kd.R (Kd.int .u8) 5 w81 w.heap.size (fun k_ => some k_ ≠ (.slice Ao83 t271.length co83 : Value).ownBlock) (.slice Ao82 t283.length co82) t283) := ⟨by rw [← hq_]; exact (by (with_reducible repeat (first | apply Kd.R_alloc | apply Kd.R_drewN | apply Kd.R_drew)); exact Kd.R_mono HO285.out (fun _ hk => hk.2))⟩; have n6_ : Aside0 (w81.heap[gb261]? = some (.cells #[.slice A0_0 l0_0.length c0_0] 24 (0, 0))) := ⟨by rw [← hq_]; exact (by (with_reducible repeat (first | refine blk_drewN ?_ _ | refine blk_drew ?_ | refine blk_alloc ?_ _)); exact BK261.out)⟩; have n7_ : Aside0 (w81.heap[gb262]? = some (.cells #[.slice A1_0 l1_0.length c1_0] 27 (0, 0))) := ⟨by rw [← hq_]; exact (by (with_reducible repeat (first | refine blk_drewN ?_ _ | refine blk_drew ?_ | refine blk_alloc ?_ _)); exact BK262.out)⟩; have n8_ : Aside0 (w81.heap[gb278]? = some (.cells #[.slice Ao68 t275.length co68] 32 (0, 0))) := ⟨by rw [← hq_]; exact (by (with_reducible repeat (first | refine blk_drewN ?_ _ | refine blk_drew ?_ | refine blk_alloc ?_ _)); exact BK278.out)⟩; have n9_ : Aside0 (w81.heap[gb282]? = some (.cells #[.slice Ao75 t279.length co75] 36 (0, 0))) := ⟨by rw [← hq_]; exact (by (with_reducible repeat (first | refine blk_drewN ?_ _ | refine blk_drew ?_ | refine blk_alloc ?_ _)); exact BK282.out)⟩; have n10_ : Aside0 (Below w.heap.size w w81) := ⟨by rw [← hq_]; exact (by repeat (first | (with_reducible first | exact HB.out | apply below_alloc | apply pw_below_drewN | apply below_drew1 | refine below_set ?_ GE261.out | refine below_set ?_ GE262.out | refine below_set ?_ GE278.out | refine below_set ?_ GE282.out) | exact HB.out))⟩; clear HO267 HO270 HO273 HO277 HO281 HO285 BK261 BK262 BK278 BK282 HB hq_; have HO267 := n0_; have HO270 := n1_; have HO273 := n2_; have HO277 := n3_; have HO281 := n4_; have HO285 := n5_; have BK261 := n6_; have BK262 := n7_; have BK278 := n8_; have BK282 := n9_; have HB := n10_; clear n0_ n1_ n2_ n3_ n4_ n5_ n6_ n7_ n8_ n9_ n10_))
               replace HO267 := Aside0.mk (Kd.S_drew HO267.out)
               replace HO270 := Aside0.mk (Kd.R_drew HO270.out)
               replace HO273 := Aside0.mk (Kd.R_drew HO273.out)
               replace HO277 := Aside0.mk (Kd.S_drew HO277.out)
               replace HO281 := Aside0.mk (Kd.R_drew HO281.out)
               replace HO285 := Aside0.mk (Kd.R_drew HO285.out)
               replace BK261 := Aside0.mk (blk_drew BK261.out)
               replace BK262 := Aside0.mk (blk_drew BK262.out)
               replace BK278 := Aside0.mk (blk_drew BK278.out)
               replace BK282 := Aside0.mk (blk_drew BK282.out)
               replace HB := Aside0.mk (below_drew1 HB.out)
               refine start_ (n := 5) (S := fun w' => w'.cell? ⟨gb278, 0, none⟩ = some (.slice Ao68 t275.length co68) ∧ w'.cell? ⟨gb261, 0, none⟩ = some (.slice A0_0 l0_0.length c0_0)) (ds := []) #[false, false, false, false, false] (by kernel_rfl) rfl rfl ⟨zc0 BK278 0 rfl, zc0 BK261 0 rfl⟩ (fun hHeld => ?_)
               generalize w81.drew = w84 at HO267 HO270 HO273 HO277 HO281 HO285 BK261 BK262 BK278 BK282 HB hHeld ⊢
               refine take_ (i := 0) (N := some 54) (v := ?_) (a' := ?_) #[true, false, false, false, false] rfl rfl (by kernel_rfl) (fun _ _ _ h => h) (Or.inl ⟨by rfl, ?_⟩) hHeld ?_ ?_
               rotate_left
               ·rintro w' ⟨s0, s1⟩
                go_simp
                with_reducible rfl
               rotate_left
               ·simp only [Act.put, zp1, zp2, zp3, i64_w, i32_w]
                rfl
               refine take_ (i := 1) (N := some 55) (v := ?_) (a' := ?_) #[true, true, false, false, false] rfl rfl (by kernel_rfl) (fun _ _ _ h => h) (Or.inl ⟨by rfl, ?_⟩) hHeld ?_ ?_
               rotate_left
               ·rintro w' ⟨s0, s1⟩
                go_simp
                with_reducible rfl
               rotate_left
               ·simp only [Act.put, zp1, zp2, zp3, i64_w, i32_w]
                rfl
               refine one_ (i := 2) (N := some 56) #[true, true, true, false, false] rfl rfl (by kernel_rfl) (by decide) (fun K hK => ?_)
               refine goes_ Try.func17 (by kernel_rfl) rfl #[.agg #[.slice A0_0 l0_0.length c0_0]] (by rfl) rfl rfl (by (try simp only [List.map_toArray, List.map_cons, List.map_nil]); first | done | rfl | (simp only [List.length_drop, List.length_take]; rfl)) ?_
               with_reducible refine (laws_toMemory.calls k _ _ l0_0 t288 _ ?side1 ?side2 A28.out).mono ?_
               (case side1 => repeat (first | exact (Kd.C_below HR0_0.out HB.out) | (with_reducible refine Kd.C_alloc ?_ _) | (with_reducible refine Kd.C_drewN ?_ _) | (with_reducible refine Kd.C_drew ?_)))
               (case side2 => exact HC0_0.out)
               rintro e w85 ⟨v289, rfl, ho0, hb⟩
               refine ⟨_, rfl, ?_⟩
               have HO290 := Aside0.mk (Kd.S_lower (Kd.S_new' (Kd.S_new' (Kd.S_new' (Kd.S_new' ho0 (Kd.S_lt (zs0 HO267))) (Kd.R_lt (zr0 HO273))) (Kd.S_lt (zs0 HO277))) (Kd.R_lt (zr0 HO285))) (below_size (zh0 HB)))
               replace HO267 := Aside0.mk (Kd.S_elder' (zs0 HO267) (Kd.S_base ho0) hb)
               replace HO270 := zrb HO270 hb
               replace HO273 := zrb HO273 hb
               replace HO277 := Aside0.mk (Kd.S_elder' (zs0 HO277) (Kd.S_base ho0) hb)
               replace HO281 := zrb HO281 hb
               replace HO285 := zrb HO285 hb
               replace BK261 := zb0 BK261 hb
               replace BK262 := zb0 BK262 hb
               replace BK278 := zb0 BK278 hb
               replace BK282 := zb0 BK282 hb
               replace HB := zhs HB hb
               (try clear hb)
               (try clear hb2)
               (try clear hk)
               (try clear hi)
               (try clear ho0)
               obtain ⟨Ao86, co86, eo86⟩ := Kd.S_slice HO290.out
               (first | subst eo86 | (injection eo86 with f1_ f2_ f3_; have f4_ := f1_.symm; have f5_ := f3_.symm; clear f1_ f2_ f3_; subst f4_; subst f5_))
               refine hK.out _ _ ⟨zc0 BK278 0 rfl, zc0 BK261 0 rfl⟩ (fun hHeld => ?_)
               clear hK K
               refine norm_ (a' := ?_) ?_ ?_
               rotate_left
               ·show Act.put _ (some 56) _ = _
                simp only [Act.put, zp1, zp2, zp3, i64_w, i32_w]
                rfl
               refine one_ (i := 3) (N := some 57) #[true, true, true, true, false] rfl rfl (by kernel_rfl) (by decide) (fun K hK => ?_)
               refine goes_ Try.func20 (by kernel_rfl) rfl #[.agg #[.slice Ao68 t275.length co68], .agg #[.slice Ao86 t288.length co86]] (by rfl) rfl rfl (by (try simp only [List.map_toArray, List.map_cons, List.map_nil]); first | done | rfl | (simp only [List.length_drop, List.length_take]; rfl)) ?_
               with_reducible refine (laws_eqMemory.calls k _ _ t275 _ _ t288 true _ ?side1 ?side2 ?side3 ?side4 A29.out).mono ?_
               (case side1 => repeat (first | exact (Kd.S_reads' HO277.out).2.2 | (with_reducible refine Kd.C_alloc ?_ _) | (with_reducible refine Kd.C_drewN ?_ _) | (with_reducible refine Kd.C_drew ?_)))
               (case side2 => exact (Kd.S_reads' HO277.out).2.1)
               (case side3 => repeat (first | exact (Kd.S_reads' HO290.out).2.2 | (with_reducible refine Kd.C_alloc ?_ _) | (with_reducible refine Kd.C_drewN ?_ _) | (with_reducible refine Kd.C_drew ?_)))
               (case side4 => exact (Kd.S_reads' HO290.out).2.1)
               rintro e w87 ⟨rfl, hb⟩
               refine ⟨_, rfl, ?_⟩
               replace HO267 := zsb HO267 hb
               replace HO270 := zrb HO270 hb
               replace HO273 := zrb HO273 hb
               replace HO277 := zsb HO277 hb
               replace HO281 := zrb HO281 hb
               replace HO285 := zrb HO285 hb
               replace HO290 := zsb HO290 hb
               replace BK261 := zb0 BK261 hb
               replace BK262 := zb0 BK262 hb
               replace BK278 := zb0 BK278 hb
               replace BK282 := zb0 BK282 hb
               replace HB := zhs HB hb
               (try clear hb)
               (try clear hb2)
               (try clear hk)
               (try clear hi)
               refine hK.out _ _ ⟨zc0 BK278 0 rfl, zc0 BK261 0 rfl⟩ (fun hHeld => ?_)
               clear hK K
               refine norm_ (a' := ?_) ?_ ?_
               rotate_left
               ·show Act.put _ (some 57) _ = _
                simp only [Act.put, zp1, zp2, zp3, i64_w, i32_w]
                rfl
               refine pure_ (i := 4) (N := some 58) (v := ?_) (a' := ?_) #[true, true, true, true, true] rfl rfl (by kernel_rfl) (fun _ _ _ h => h) (Or.inl ⟨by rfl, ?_⟩) ?_ ?_
               rotate_left
               ·intro w'
                go_simp
                with_reducible rfl
               rotate_left
               ·simp only [Act.put, zp1, zp2, zp3, i64_w, i32_w]
                rfl
               refine done_ (by kernel_rfl) ?_
               try go_wp2
               replace HO267 := Aside0.mk (Kd.S_drew HO267.out)
               replace HO270 := Aside0.mk (Kd.R_drew HO270.out)
               replace HO273 := Aside0.mk (Kd.R_drew HO273.out)
               replace HO277 := Aside0.mk (Kd.S_drew HO277.out)
               replace HO281 := Aside0.mk (Kd.R_drew HO281.out)
               replace HO285 := Aside0.mk (Kd.R_drew HO285.out)
               replace HO290 := Aside0.mk (Kd.S_drew HO290.out)
               replace BK261 := Aside0.mk (blk_drew BK261.out)
               replace BK262 := Aside0.mk (blk_drew BK262.out)
               replace BK278 := Aside0.mk (blk_drew BK278.out)
               replace BK282 := Aside0.mk (blk_drew BK282.out)
               replace HB := Aside0.mk (below_drew1 HB.out)
               refine start_ (n := 5) (S := fun w' => w'.cell? ⟨gb282, 0, none⟩ = some (.slice Ao75 t279.length co75) ∧ w'.cell? ⟨gb262, 0, none⟩ = some (.slice A1_0 l1_0.length c1_0)) (ds := []) #[false, false, false, false, false] (by kernel_rfl) rfl rfl ⟨zc0 BK282 0 rfl, zc0 BK262 0 rfl⟩ (fun hHeld => ?_)
               generalize w87.drew = w88 at HO267 HO270 HO273 HO277 HO281 HO285 HO290 BK261 BK262 BK278 BK282 HB hHeld ⊢
               refine take_ (i := 0) (N := some 59) (v := ?_) (a' := ?_) #[true, false, false, false, false] rfl rfl (by kernel_rfl) (fun _ _ _ h => h) (Or.inl ⟨by rfl, ?_⟩) hHeld ?_ ?_
               rotate_left
               ·rintro w' ⟨s0, s1⟩
                go_simp
                with_reducible rfl
               rotate_left
               ·simp only [Act.put, zp1, zp2, zp3, i64_w, i32_w]
                rfl
               refine take_ (i := 1) (N := some 60) (v := ?_) (a' := ?_) #[true, true, false, false, false] rfl rfl (by kernel_rfl) (fun _ _ _ h => h) (Or.inl ⟨by rfl, ?_⟩) hHeld ?_ ?_
               rotate_left
               ·rintro w' ⟨s0, s1⟩
                go_simp
                with_reducible rfl
               rotate_left
               ·simp only [Act.put, zp1, zp2, zp3, i64_w, i32_w]
                rfl
               refine one_ (i := 2) (N := some 61) #[true, true, true, false, false] rfl rfl (by kernel_rfl) (by decide) (fun K hK => ?_)
               refine goes_ Try.func18 (by kernel_rfl) rfl #[.agg #[.slice A1_0 l1_0.length c1_0]] (by rfl) rfl rfl (by (try simp only [List.map_toArray, List.map_cons, List.map_nil]); first | done | rfl | (simp only [List.length_drop, List.length_take]; rfl)) ?_
               with_reducible refine (laws_toRope.calls k _ _ l1_0 t292 _ ?side1 ?side2 A31.out).mono ?_
               (case side1 => repeat (first | exact (Kd.C_below HR1_0.out HB.out) | (with_reducible refine Kd.C_alloc ?_ _) | (with_reducible refine Kd.C_drewN ?_ _) | (with_reducible refine Kd.C_drew ?_)))
               (case side2 => exact HC1_0.out)
               rintro e w89 ⟨v293, rfl, ho0, hb⟩
               refine ⟨_, rfl, ?_⟩
               have HO294 := Aside0.mk (Kd.R_lower (Kd.R_new' (Kd.R_new' ho0 (Kd.R_lt (zr0 HO270))) (Kd.R_lt (zr0 HO281))) (below_size (zh0 HB)))
               replace HO267 := zsb HO267 hb
               replace HO270 := Aside0.mk (Kd.R_elder' (zr0 HO270) (Kd.R_base ho0) hb)
               replace HO273 := zrb HO273 hb
               replace HO277 := zsb HO277 hb
               replace HO281 := Aside0.mk (Kd.R_elder' (zr0 HO281) (Kd.R_base ho0) hb)
               replace HO285 := zrb HO285 hb
               replace HO290 := zsb HO290 hb
               replace BK261 := zb0 BK261 hb
               replace BK262 := zb0 BK262 hb
               replace BK278 := zb0 BK278 hb
               replace BK282 := zb0 BK282 hb
               replace HB := zhs HB hb
               (try clear hb)
               (try clear hb2)
               (try clear hk)
               (try clear hi)
               (try clear ho0)
               obtain ⟨Ao90, co90, eo90⟩ := Kd.R_slice HO294.out
               (first | subst eo90 | (injection eo90 with f1_ f2_ f3_; have f4_ := f1_.symm; have f5_ := f3_.symm; clear f1_ f2_ f3_; subst f4_; subst f5_))
               refine hK.out _ _ ⟨zc0 BK282 0 rfl, zc0 BK262 0 rfl⟩ (fun hHeld => ?_)
               clear hK K
               refine norm_ (a' := ?_) ?_ ?_
               rotate_left
               ·show Act.put _ (some 61) _ = _
                simp only [Act.put, zp1, zp2, zp3, i64_w, i32_w]
                rfl
               refine one_ (i := 3) (N := some 62) #[true, true, true, true, false] rfl rfl (by kernel_rfl) (by decide) (fun K hK => ?_)
               refine goes_ Try.func21 (by kernel_rfl) rfl #[.agg #[.slice Ao75 t279.length co75], .agg #[.slice Ao90 t292.length co90]] (by rfl) rfl rfl (by (try simp only [List.map_toArray, List.map_cons, List.map_nil]); first | done | rfl | (simp only [List.length_drop, List.length_take]; rfl)) ?_
               with_reducible refine (laws_eqRope.calls k _ _ t279 _ _ t292 true _ ?side1 ?side2 ?side3 ?side4 A32.out).mono ?_
               (case side1 => repeat (first | exact (Kd.R_reads' HO281.out).2.2 | (with_reducible refine Kd.C_alloc ?_ _) | (with_reducible refine Kd.C_drewN ?_ _) | (with_reducible refine Kd.C_drew ?_)))
               (case side2 => exact (Kd.R_reads' HO281.out).2.1)
               (case side3 => repeat (first | exact (Kd.R_reads' HO294.out).2.2 | (with_reducible refine Kd.C_alloc ?_ _) | (with_reducible refine Kd.C_drewN ?_ _) | (with_reducible refine Kd.C_drew ?_)))
               (case side4 => exact (Kd.R_reads' HO294.out).2.1)
               rintro e w91 ⟨rfl, hb⟩
               refine ⟨_, rfl, ?_⟩
               replace HO267 := zsb HO267 hb
               replace HO270 := zrb HO270 hb
               replace HO273 := zrb HO273 hb
               replace HO277 := zsb HO277 hb
               replace HO281 := zrb HO281 hb
               replace HO285 := zrb HO285 hb
               replace HO290 := zsb HO290 hb
               replace HO294 := zrb HO294 hb
               replace BK261 := zb0 BK261 hb
               replace BK262 := zb0 BK262 hb
               replace BK278 := zb0 BK278 hb
               replace BK282 := zb0 BK282 hb
               replace HB := zhs HB hb
               (try clear hb)
               (try clear hb2)
               (try clear hk)
               (try clear hi)
               refine hK.out _ _ ⟨zc0 BK282 0 rfl, zc0 BK262 0 rfl⟩ (fun hHeld => ?_)
               clear hK K
               refine norm_ (a' := ?_) ?_ ?_
               rotate_left
               ·show Act.put _ (some 62) _ = _
                simp only [Act.put, zp1, zp2, zp3, i64_w, i32_w]
                rfl
               refine pure_ (i := 4) (N := some 63) (v := ?_) (a' := ?_) #[true, true, true, true, true] rfl rfl (by kernel_rfl) (fun _ _ _ h => h) (Or.inl ⟨by rfl, ?_⟩) ?_ ?_
               rotate_left
               ·intro w'
                go_simp
                with_reducible rfl
               rotate_left
               ·simp only [Act.put, zp1, zp2, zp3, i64_w, i32_w]
                rfl
               refine done_ (by kernel_rfl) ?_
               have hcz92_0 : w91.cell? ⟨gb278, 0, none⟩ = some (.slice Ao68 t275.length co68) := zc0 BK278 0 rfl
               have hfz92_0 := blk_frozen BK278.out 0
               try go_wp2_with (first | ((with_reducible refine gate_callee (f := 50) rfl ?_); refine goesL_ (some 66) rfl rfl Try.func50 (by kernel_rfl) rfl #[.agg #[.slice Ao68 t275.length co68], .int .i64 1] rfl (by (try simp only [List.map_toArray, List.map_cons, List.map_nil]); first | done | rfl | (simp only [List.length_drop, List.length_take]; rfl)) ?_; (with_reducible refine (laws_markMemory.calls k (fun k_ => some k_ ≠ (.slice Ao62 t265.length co62 : Value).ownBlock ∧ some k_ ≠ (.slice Ao83 t271.length co83 : Value).ownBlock ∧ some k_ ≠ (.slice Ao82 t283.length co82 : Value).ownBlock ∧ some k_ ≠ (.slice Ao86 t288.length co86 : Value).ownBlock ∧ some k_ ≠ (.slice Ao63 t268.length co63 : Value).ownBlock ∧ some k_ ≠ (.slice Ao75 t279.length co75 : Value).ownBlock ∧ some k_ ≠ (.slice Ao90 t292.length co90 : Value).ownBlock ∧ k_ ≠ gb261 ∧ k_ ≠ gb262 ∧ k_ ≠ gb278 ∧ k_ ≠ gb282) (.slice Ao68 t275.length co68) t275 1 t296 w _ ?side1 ?side2 A34.out).mono ?_); (case side1 => repeat (first | (with_reducible first | exact HB.out | apply below_alloc | apply pw_below_drewN | apply below_drew1 | refine below_set ?_ GE261.out | refine below_set ?_ GE262.out | refine below_set ?_ GE278.out | refine below_set ?_ GE282.out) | exact HB.out)); (case side2 => exact (Kd.S_mono (ok' := fun k_ => some k_ ≠ (.slice Ao62 t265.length co62 : Value).ownBlock ∧ some k_ ≠ (.slice Ao83 t271.length co83 : Value).ownBlock ∧ some k_ ≠ (.slice Ao82 t283.length co82 : Value).ownBlock ∧ some k_ ≠ (.slice Ao86 t288.length co86 : Value).ownBlock ∧ some k_ ≠ (.slice Ao63 t268.length co63 : Value).ownBlock ∧ some k_ ≠ (.slice Ao75 t279.length co75 : Value).ownBlock ∧ some k_ ≠ (.slice Ao90 t292.length co90 : Value).ownBlock ∧ k_ ≠ gb261 ∧ k_ ≠ gb262 ∧ k_ ≠ gb278 ∧ k_ ≠ gb282) (Kd.S_types (Kd.S_types (Kd.S_types (Kd.S_types (Kd.S_apart' (Kd.S_apart' (Kd.S_apart' (HO277.out) (Kd.R_typed HO270.out) (by decide)) (Kd.R_typed HO281.out) (by decide)) (Kd.R_typed HO294.out) (by decide)) BK261.out (by decide)) BK262.out (by decide)) BK278.out (by decide)) BK282.out (by decide)) (fun k_ hk_ => by first | exact ⟨hk_.1.1.1.1.1.1.1.1.1.1.2, ⟨hk_.1.1.1.1.1.1.1.1.1.2, ⟨hk_.1.1.1.1.1.1.1.1.2, ⟨hk_.1.1.1.1.1.1.1.2, ⟨hk_.1.1.1.1.1.1.2, ⟨hk_.1.1.1.1.1.2, ⟨hk_.1.1.1.1.2, ⟨hk_.1.1.1.2, ⟨hk_.1.1.2, ⟨hk_.1.2, hk_.2⟩⟩⟩⟩⟩⟩⟩⟩⟩⟩ | exact ⟨hk_.1.1.1.1.1.1.1.1, ⟨hk_.1.1.1.1.1.1.1.2.1, ⟨hk_.1.1.1.1.1.1.1.2.2.1, ⟨hk_.1.1.1.1.1.1.1.2.2.2, ⟨hk_.1.1.1.1.1.1.2, ⟨hk_.1.1.1.1.1.2, ⟨hk_.1.1.1.1.2, ⟨hk_.1.1.1.2, ⟨hk_.1.1.2, ⟨hk_.1.2, hk_.2⟩⟩⟩⟩⟩⟩⟩⟩⟩⟩ | (simp only [and_assoc, true_and] at hk_ ⊢; exact hk_) | simp_all))); rintro e w93 ⟨rfl, hb, hkp⟩; refine ⟨_, rfl, ?_⟩; have n0_ := Aside0.mk (blk_kept (zk0 BK261) hkp (fun hs_ => (fun e_ => (e_.2.2.2.2.2.2.2.1) rfl) hs_)); have n1_ := Aside0.mk (blk_kept (zk0 BK262) hkp (fun hs_ => (fun e_ => (e_.2.2.2.2.2.2.2.2.1) rfl) hs_)); have n2_ := Aside0.mk (Kd.R_mono (ok' := fun k_ => some k_ ≠ (.slice Ao75 t279.length co75 : Value).ownBlock ∧ some k_ ≠ (.slice Ao90 t292.length co90 : Value).ownBlock) (Kd.R_keptB ((znest (P := fun k_ => some k_ ≠ (.slice Ao62 t265.length co62 : Value).ownBlock ∧ some k_ ≠ (.slice Ao83 t271.length co83 : Value).ownBlock ∧ some k_ ≠ (.slice Ao82 t283.length co82 : Value).ownBlock ∧ some k_ ≠ (.slice Ao86 t288.length co86 : Value).ownBlock ∧ some k_ ≠ (.slice Ao63 t268.length co63 : Value).ownBlock ∧ some k_ ≠ (.slice Ao75 t279.length co75 : Value).ownBlock ∧ some k_ ≠ (.slice Ao90 t292.length co90 : Value).ownBlock ∧ k_ ≠ gb261 ∧ k_ ≠ gb262 ∧ k_ ≠ gb278 ∧ k_ ≠ gb282) rfl HO270.out (fun k_ hs2_ => hs2_.2.2.2.2.1))) hkp (fun k_ hk_ hs_ => (hk_.2) hs_)) (fun k_ hk_ => ⟨(by first | exact hk_.1.1.1.2 | exact hk_.1.1.1 | simp_all), (by first | exact hk_.1.1.2 | exact hk_.1.1.2 | simp_all)⟩)); have n3_ := Aside0.mk (Kd.R_mono (ok' := fun k_ => some k_ ≠ (.slice Ao82 t283.length co82 : Value).ownBlock) (Kd.R_keptB ((znest (P := fun k_ => some k_ ≠ (.slice Ao62 t265.length co62 : Value).ownBlock ∧ some k_ ≠ (.slice Ao83 t271.length co83 : Value).ownBlock ∧ some k_ ≠ (.slice Ao82 t283.length co82 : Value).ownBlock ∧ some k_ ≠ (.slice Ao86 t288.length co86 : Value).ownBlock ∧ some k_ ≠ (.slice Ao63 t268.length co63 : Value).ownBlock ∧ some k_ ≠ (.slice Ao75 t279.length co75 : Value).ownBlock ∧ some k_ ≠ (.slice Ao90 t292.length co90 : Value).ownBlock ∧ k_ ≠ gb261 ∧ k_ ≠ gb262 ∧ k_ ≠ gb278 ∧ k_ ≠ gb282) rfl HO273.out (fun k_ hs2_ => hs2_.2.1))) hkp (fun k_ hk_ hs_ => (hk_.2) hs_)) (fun k_ hk_ => (by first | exact hk_.1.1.2 | exact hk_.1.1 | simp_all))); have n4_ := Aside0.mk (blk_kept (zk0 BK278) hkp (fun hs_ => (fun e_ => (e_.2.2.2.2.2.2.2.2.2.1) rfl) hs_)); have n5_ := Aside0.mk (Kd.R_mono (ok' := fun k_ => some k_ ≠ (.slice Ao63 t268.length co63 : Value).ownBlock ∧ some k_ ≠ (.slice Ao90 t292.length co90 : Value).ownBlock) (Kd.R_keptB ((znest (P := fun k_ => some k_ ≠ (.slice Ao62 t265.length co62 : Value).ownBlock ∧ some k_ ≠ (.slice Ao83 t271.length co83 : Value).ownBlock ∧ some k_ ≠ (.slice Ao82 t283.length co82 : Value).ownBlock ∧ some k_ ≠ (.slice Ao86 t288.length co86 : Value).ownBlock ∧ some k_ ≠ (.slice Ao63 t268.length co63 : Value).ownBlock ∧ some k_ ≠ (.slice Ao75 t279.length co75 : Value).ownBlock ∧ some k_ ≠ (.slice Ao90 t292.length co90 : Value).ownBlock ∧ k_ ≠ gb261 ∧ k_ ≠ gb262 ∧ k_ ≠ gb278 ∧ k_ ≠ gb282) rfl HO281.out (fun k_ hs2_ => hs2_.2.2.2.2.2.1))) hkp (fun k_ hk_ hs_ => (hk_.2) hs_)) (fun k_ hk_ => ⟨(by first | exact hk_.1.1.1.2 | exact hk_.1.1.1 | simp_all), (by first | exact hk_.1.1.2 | exact hk_.1.1.2 | simp_all)⟩)); have n6_ := Aside0.mk (blk_kept (zk0 BK282) hkp (fun hs_ => (fun e_ => (e_.2.2.2.2.2.2.2.2.2.2) rfl) hs_)); have n7_ := Aside0.mk (Kd.R_mono (ok' := fun k_ => some k_ ≠ (.slice Ao83 t271.length co83 : Value).ownBlock) (Kd.R_keptB ((znest (P := fun k_ => some k_ ≠ (.slice Ao62 t265.length co62 : Value).ownBlock ∧ some k_ ≠ (.slice Ao83 t271.length co83 : Value).ownBlock ∧ some k_ ≠ (.slice Ao82 t283.length co82 : Value).ownBlock ∧ some k_ ≠ (.slice Ao86 t288.length co86 : Value).ownBlock ∧ some k_ ≠ (.slice Ao63 t268.length co63 : Value).ownBlock ∧ some k_ ≠ (.slice Ao75 t279.length co75 : Value).ownBlock ∧ some k_ ≠ (.slice Ao90 t292.length co90 : Value).ownBlock ∧ k_ ≠ gb261 ∧ k_ ≠ gb262 ∧ k_ ≠ gb278 ∧ k_ ≠ gb282) rfl HO285.out (fun k_ hs2_ => hs2_.2.2.1))) hkp (fun k_ hk_ hs_ => (hk_.2) hs_)) (fun k_ hk_ => (by first | exact hk_.1.1.2 | exact hk_.1.1 | simp_all))); have n8_ := Aside0.mk (Kd.R_mono (ok' := fun k_ => some k_ ≠ (.slice Ao63 t268.length co63 : Value).ownBlock ∧ some k_ ≠ (.slice Ao75 t279.length co75 : Value).ownBlock) (Kd.R_keptB ((znest (P := fun k_ => some k_ ≠ (.slice Ao62 t265.length co62 : Value).ownBlock ∧ some k_ ≠ (.slice Ao83 t271.length co83 : Value).ownBlock ∧ some k_ ≠ (.slice Ao82 t283.length co82 : Value).ownBlock ∧ some k_ ≠ (.slice Ao86 t288.length co86 : Value).ownBlock ∧ some k_ ≠ (.slice Ao63 t268.length co63 : Value).ownBlock ∧ some k_ ≠ (.slice Ao75 t279.length co75 : Value).ownBlock ∧ some k_ ≠ (.slice Ao90 t292.length co90 : Value).ownBlock ∧ k_ ≠ gb261 ∧ k_ ≠ gb262 ∧ k_ ≠ gb278 ∧ k_ ≠ gb282) rfl HO294.out (fun k_ hs2_ => hs2_.2.2.2.2.2.2.1))) hkp (fun k_ hk_ hs_ => (hk_.2) hs_)) (fun k_ hk_ => ⟨(by first | exact hk_.1.1.1.2 | exact hk_.1.1.1 | simp_all), (by first | exact hk_.1.1.2 | exact hk_.1.1.2 | simp_all)⟩)); have n9_ := Aside0.mk (hb); clear BK261; clear BK262; clear HO270; clear HO273; clear BK278; clear HO281; clear BK282; clear HO285; clear HO294; clear HB; clear HO267; clear HO277; clear HO290; have BK261 := n0_; have BK262 := n1_; have HO270 := n2_; have HO273 := n3_; have BK278 := n4_; have HO281 := n5_; have BK282 := n6_; have HO285 := n7_; have HO294 := n8_; have HB := n9_; clear n0_ n1_ n2_ n3_ n4_ n5_ n6_ n7_ n8_ n9_; (try clear hb); (try clear hkp); have hcz94_0 : w93.cell? ⟨gb282, 0, none⟩ = some (.slice Ao75 t279.length co75) := zc0 BK282 0 rfl; have hfz94_0 := blk_frozen BK282.out 0) | ((with_reducible refine gate_callee (f := 64) rfl ?_); refine goesL_ (some 69) rfl rfl Try.func64 (by kernel_rfl) rfl #[.agg #[.slice Ao75 t279.length co75], .int .i64 t296] rfl (by (try simp only [List.map_toArray, List.map_cons, List.map_nil]); first | done | rfl | (simp only [List.length_drop, List.length_take]; rfl)) ?_; (with_reducible refine (laws_markRope.calls k (fun k_ => some k_ = (.slice Ao75 t279.length co75 : Value).ownBlock) (.slice Ao75 t279.length co75) t279 t296 t297 t298 w _ ?side1 ?side2 A35.out).mono ?_); (case side1 => repeat (first | (with_reducible first | exact HB.out | apply below_alloc | apply pw_below_drewN | apply below_drew1 | refine below_set ?_ GE261.out | refine below_set ?_ GE262.out | refine below_set ?_ GE278.out | refine below_set ?_ GE282.out) | exact HB.out)); (case side2 => exact Kd.R_tight rfl HO281.out); rintro e w95 ⟨rfl, hy0, hb, hkp⟩; refine ⟨_, rfl, ?_⟩; have n0_ := Aside0.mk (blk_kept (zk0 BK261) hkp (fun hs_ => (fun e_ => (Kd.R_ne HO281.out BK261.out (by decide)) e_) hs_)); have n1_ := Aside0.mk (blk_kept (zk0 BK262) hkp (fun hs_ => (fun e_ => (Kd.R_ne HO281.out BK262.out (by decide)) e_) hs_)); have n2_ := Aside0.mk (Kd.R_mono (ok' := fun k_ => some k_ ≠ (.slice Ao75 t279.length co75 : Value).ownBlock ∧ some k_ ≠ (.slice Ao90 t292.length co90 : Value).ownBlock) (Kd.R_keptB (HO270.out) hkp (fun k_ hk_ hs_ => (hk_.1) hs_)) (fun k_ hk_ => ⟨hk_.1.1, hk_.1.2⟩)); have n3_ := Aside0.mk (Kd.R_mono (ok' := fun k_ => some k_ ≠ (.slice Ao82 t283.length co82 : Value).ownBlock) (Kd.R_keptB ((Kd.R_apart' HO273.out (Kd.R_typed HO281.out) (by decide))) hkp (fun k_ hk_ hs_ => (hk_.2) hs_)) (fun k_ hk_ => hk_.1.1)); have n4_ := Aside0.mk (blk_kept (zk0 BK278) hkp (fun hs_ => (fun e_ => (Kd.R_ne HO281.out BK278.out (by decide)) e_) hs_)); have n5_ := Aside0.mk (Kd.R_reok rfl hy0 (fun k_ e_ => HO281.out.1 k_ e_)); have n6_ := Aside0.mk (blk_kept (zk0 BK282) hkp (fun hs_ => (fun e_ => (Kd.R_ne HO281.out BK282.out (by decide)) e_) hs_)); have n7_ := Aside0.mk (Kd.R_mono (ok' := fun k_ => some k_ ≠ (.slice Ao83 t271.length co83 : Value).ownBlock) (Kd.R_keptB ((Kd.R_apart' HO285.out (Kd.R_typed HO281.out) (by decide))) hkp (fun k_ hk_ hs_ => (hk_.2) hs_)) (fun k_ hk_ => hk_.1.1)); have n8_ := Aside0.mk (Kd.R_mono (ok' := fun k_ => some k_ ≠ (.slice Ao63 t268.length co63 : Value).ownBlock ∧ some k_ ≠ (.slice Ao75 t279.length co75 : Value).ownBlock) (Kd.R_keptB (HO294.out) hkp (fun k_ hk_ hs_ => (hk_.2) hs_)) (fun k_ hk_ => ⟨hk_.1.1, hk_.1.2⟩)); have n9_ := Aside0.mk (hb); clear BK261; clear BK262; clear HO270; clear HO273; clear BK278; clear HO281; clear BK282; clear HO285; clear HO294; clear HB; have BK261 := n0_; have BK262 := n1_; have HO270 := n2_; have HO273 := n3_; have BK278 := n4_; have HO281 := n5_; have BK282 := n6_; have HO285 := n7_; have HO294 := n8_; have HB := n9_; clear n0_ n1_ n2_ n3_ n4_ n5_ n6_ n7_ n8_ n9_; (try clear hb); (try clear hkp); (try clear hy0)) | (go_at_call 49; (with_reducible refine (laws_eqByteS.calls k _ _ t283 _ _ t271 true _ ?side1 ?side2 ?side3 ?side4 A37.out).mono ?_); (case side1 => repeat (first | exact (Kd.R_reads' HO285.out).2.2 | (with_reducible refine Kd.C_alloc ?_ _) | (with_reducible refine Kd.C_drewN ?_ _) | (with_reducible refine Kd.C_drew ?_))); (case side2 => exact (Kd.R_reads' HO285.out).2.1); (case side3 => repeat (first | exact (Kd.R_reads' HO273.out).2.2 | (with_reducible refine Kd.C_alloc ?_ _) | (with_reducible refine Kd.C_drewN ?_ _) | (with_reducible refine Kd.C_drew ?_))); (case side4 => exact (Kd.R_reads' HO273.out).2.1); rintro e w' ⟨rfl, ⟨nd, rfl⟩⟩) | ((with_reducible refine gate_callee (f := 51) rfl ?_); refine goesL_ (some 85) rfl rfl Try.func51 (by kernel_rfl) rfl #[.slice Ao82 t283.length co82, .int .i64 1] rfl (by (try simp only [List.map_toArray, List.map_cons, List.map_nil]); first | done | rfl | (simp only [List.length_drop, List.length_take]; rfl)) ?_; (with_reducible refine (laws_markByteS.calls k (fun k_ => some k_ = (.slice Ao82 t283.length co82 : Value).ownBlock) (.slice Ao82 t283.length co82) t283 1 t300 t301 w _ ?side1 ?side2 A39.out).mono ?_); (case side1 => repeat (first | (with_reducible first | exact HB.out | apply below_alloc | apply pw_below_drewN | apply below_drew1 | refine below_set ?_ GE261.out | refine below_set ?_ GE262.out | refine below_set ?_ GE278.out | refine below_set ?_ GE282.out) | exact HB.out)); (case side2 => exact Kd.R_tight rfl HO285.out); rintro e w96 ⟨rfl, hy0, hb, hkp⟩; refine ⟨_, rfl, ?_⟩; have n0_ := Aside0.mk (blk_kept (zk0 BK261) hkp (fun hs_ => (fun e_ => (Kd.R_ne HO285.out BK261.out (by decide)) e_) hs_)); have n1_ := Aside0.mk (blk_kept (zk0 BK262) hkp (fun hs_ => (fun e_ => (Kd.R_ne HO285.out BK262.out (by decide)) e_) hs_)); have n2_ := Aside0.mk (Kd.R_mono (ok' := fun k_ => some k_ ≠ (.slice Ao75 t279.length co75 : Value).ownBlock ∧ some k_ ≠ (.slice Ao90 t292.length co90 : Value).ownBlock) (Kd.R_keptB ((Kd.R_apart' HO270.out (Kd.R_typed HO285.out) (by decide))) hkp (fun k_ hk_ hs_ => (hk_.2) hs_)) (fun k_ hk_ => ⟨hk_.1.1.1, hk_.1.1.2⟩)); have n3_ := Aside0.mk (Kd.R_mono (ok' := fun k_ => some k_ ≠ (.slice Ao82 t283.length co82 : Value).ownBlock) (Kd.R_keptB (HO273.out) hkp (fun k_ hk_ hs_ => (hk_) hs_)) (fun k_ hk_ => hk_.1)); have n4_ := Aside0.mk (blk_kept (zk0 BK278) hkp (fun hs_ => (fun e_ => (Kd.R_ne HO285.out BK278.out (by decide)) e_) hs_)); have n5_ := Aside0.mk (Kd.R_mono (ok' := fun k_ => some k_ ≠ (.slice Ao63 t268.length co63 : Value).ownBlock ∧ some k_ ≠ (.slice Ao90 t292.length co90 : Value).ownBlock) (Kd.R_keptB ((Kd.R_apart' HO281.out (Kd.R_typed HO285.out) (by decide))) hkp (fun k_ hk_ hs_ => (hk_.2) hs_)) (fun k_ hk_ => ⟨hk_.1.1.1, hk_.1.1.2⟩)); have n6_ := Aside0.mk (blk_kept (zk0 BK282) hkp (fun hs_ => (fun e_ => (Kd.R_ne HO285.out BK282.out (by decide)) e_) hs_)); have n7_ := Aside0.mk (Kd.R_reok rfl hy0 (fun k_ e_ => HO285.out.1 k_ e_)); have n8_ := Aside0.mk (Kd.R_mono (ok' := fun k_ => some k_ ≠ (.slice Ao63 t268.length co63 : Value).ownBlock ∧ some k_ ≠ (.slice Ao75 t279.length co75 : Value).ownBlock) (Kd.R_keptB ((Kd.R_apart' HO294.out (Kd.R_typed HO285.out) (by decide))) hkp (fun k_ hk_ hs_ => (hk_.2) hs_)) (fun k_ hk_ => ⟨hk_.1.1.1, hk_.1.1.2⟩)); have n9_ := Aside0.mk (hb); clear BK261; clear BK262; clear HO270; clear HO273; clear BK278; clear HO281; clear BK282; clear HO285; clear HO294; clear HB; have BK261 := n0_; have BK262 := n1_; have HO270 := n2_; have HO273 := n3_; have BK278 := n4_; have HO281 := n5_; have BK282 := n6_; have HO285 := n7_; have HO294 := n8_; have HB := n9_; clear n0_ n1_ n2_ n3_ n4_ n5_ n6_ n7_ n8_ n9_; (try clear hb); (try clear hkp); (try clear hy0)) | ((with_reducible refine gate_callee (f := 52) rfl ?_); refine goesL_ (some 88) rfl rfl Try.func52 (by kernel_rfl) rfl #[.slice Ao82 t301.length co82, .int .i64 1] rfl (by (try simp only [List.map_toArray, List.map_cons, List.map_nil]); first | done | (rw [show t301.length = t283.length from (Kd.R_reads' HO285.out).1.symm] <;> rfl) | rfl | (simp only [List.length_drop, List.length_take]; rfl)) ?_; (with_reducible refine (laws_heldByteS.calls k _ _ t301 1 t302 _ ?side1 ?side2 A40.out).mono ?_); (case side1 => repeat (first | exact (Kd.R_reads' HO285.out).2.2 | (with_reducible refine Kd.C_alloc ?_ _) | (with_reducible refine Kd.C_drewN ?_ _) | (with_reducible refine Kd.C_drew ?_))); (case side2 => rw [show t301.length = t283.length from (Kd.R_reads' HO285.out).1.symm]; exact (Kd.R_reads' HO285.out).2.1); rintro e w' ⟨rfl, ⟨nd, rfl⟩⟩; refine ⟨_, rfl, ?_⟩))
               (try simp only [World.drewN_drewN]); (try (rw [drewN_self w96]; generalize hq_ : World.drewN w96 _ = w96; have n0_ : Aside0 (Kd.R k48 48 w96 w.heap.size (fun k_ => some k_ ≠ (.slice Ao75 t279.length co75 : Value).ownBlock ∧ some k_ ≠ (.slice Ao90 t292.length co90 : Value).ownBlock) (.slice Ao63 t268.length co63) t268) := ⟨by rw [← hq_]; exact (by (with_reducible repeat (first | apply Kd.R_alloc | apply Kd.R_drewN | apply Kd.R_drew)); exact HO270.out)⟩; have n1_ : Aside0 (Kd.R (Kd.int .u8) 5 w96 w.heap.size (fun k_ => some k_ ≠ (.slice Ao82 t283.length co82 : Value).ownBlock) (.slice Ao83 t271.length co83) t271) := ⟨by rw [← hq_]; exact (by (with_reducible repeat (first | apply Kd.R_alloc | apply Kd.R_drewN | apply Kd.R_drew)); exact HO273.out)⟩; have n2_ : Aside0 (Kd.R k48 48 w96 w.heap.size (fun k_ => some k_ ≠ (.slice Ao63 t268.length co63 : Value).ownBlock ∧ some k_ ≠ (.slice Ao90 t292.length co90 : Value).ownBlock) (.slice Ao75 t279.length co75) t298) := ⟨by rw [← hq_]; exact (by (with_reducible repeat (first | apply Kd.R_alloc | apply Kd.R_drewN | apply Kd.R_drew)); exact HO281.out)⟩; have n3_ : Aside0 (Kd.R (Kd.int .u8) 5 w96 w.heap.size (fun k_ => some k_ ≠ (.slice Ao83 t271.length co83 : Value).ownBlock) (.slice Ao82 t283.length co82) t301) := ⟨by rw [← hq_]; exact (by (with_reducible repeat (first | apply Kd.R_alloc | apply Kd.R_drewN | apply Kd.R_drew)); exact HO285.out)⟩; have n4_ : Aside0 (Kd.R k48 48 w96 w.heap.size (fun k_ => some k_ ≠ (.slice Ao63 t268.length co63 : Value).ownBlock ∧ some k_ ≠ (.slice Ao75 t279.length co75 : Value).ownBlock) (.slice Ao90 t292.length co90) t292) := ⟨by rw [← hq_]; exact (by (with_reducible repeat (first | apply Kd.R_alloc | apply Kd.R_drewN | apply Kd.R_drew)); exact HO294.out)⟩; have n5_ : Aside0 (w96.heap[gb261]? = some (.cells #[.slice A0_0 l0_0.length c0_0] 24 (0, 0))) := ⟨by rw [← hq_]; exact (by (with_reducible repeat (first | refine blk_drewN ?_ _ | refine blk_drew ?_ | refine blk_alloc ?_ _)); exact BK261.out)⟩; have n6_ : Aside0 (w96.heap[gb262]? = some (.cells #[.slice A1_0 l1_0.length c1_0] 27 (0, 0))) := ⟨by rw [← hq_]; exact (by (with_reducible repeat (first | refine blk_drewN ?_ _ | refine blk_drew ?_ | refine blk_alloc ?_ _)); exact BK262.out)⟩; have n7_ : Aside0 (w96.heap[gb278]? = some (.cells #[.slice Ao68 t275.length co68] 32 (0, 0))) := ⟨by rw [← hq_]; exact (by (with_reducible repeat (first | refine blk_drewN ?_ _ | refine blk_drew ?_ | refine blk_alloc ?_ _)); exact BK278.out)⟩; have n8_ : Aside0 (w96.heap[gb282]? = some (.cells #[.slice Ao75 t279.length co75] 36 (0, 0))) := ⟨by rw [← hq_]; exact (by (with_reducible repeat (first | refine blk_drewN ?_ _ | refine blk_drew ?_ | refine blk_alloc ?_ _)); exact BK282.out)⟩; have n9_ : Aside0 (Below w.heap.size w w96) := ⟨by rw [← hq_]; exact (by repeat (first | (with_reducible first | exact HB.out | apply below_alloc | apply pw_below_drewN | apply below_drew1 | refine below_set ?_ GE261.out | refine below_set ?_ GE262.out | refine below_set ?_ GE278.out | refine below_set ?_ GE282.out) | exact HB.out))⟩; clear HO270 HO273 HO281 HO285 HO294 BK261 BK262 BK278 BK282 HB hq_; have HO270 := n0_; have HO273 := n1_; have HO281 := n2_; have HO285 := n3_; have HO294 := n4_; have BK261 := n5_; have BK262 := n6_; have BK278 := n7_; have BK282 := n8_; have HB := n9_; clear n0_ n1_ n2_ n3_ n4_ n5_ n6_ n7_ n8_ n9_))
               replace HO270 := Aside0.mk (Kd.R_drew HO270.out)
               replace HO273 := Aside0.mk (Kd.R_drew HO273.out)
               replace HO281 := Aside0.mk (Kd.R_drew HO281.out)
               replace HO285 := Aside0.mk (Kd.R_drew HO285.out)
               replace HO294 := Aside0.mk (Kd.R_drew HO294.out)
               replace BK261 := Aside0.mk (blk_drew BK261.out)
               replace BK262 := Aside0.mk (blk_drew BK262.out)
               replace BK278 := Aside0.mk (blk_drew BK278.out)
               replace BK282 := Aside0.mk (blk_drew BK282.out)
               replace HB := Aside0.mk (below_drew1 HB.out)
               refine start_ (n := 10) (S := fun w' => w'.cell? ⟨gb261, 0, none⟩ = some (.slice A0_0 l0_0.length c0_0) ∧ w'.cell? ⟨gb262, 0, none⟩ = some (.slice A1_0 l1_0.length c1_0)) (ds := []) #[false, false, false, false, false, false, false, false, false, false] (by kernel_rfl) rfl rfl ⟨zc0 BK261 0 rfl, zc0 BK262 0 rfl⟩ (fun hHeld => ?_); refine with_tabW laws_FnExactRopeText.tab31 laws_FnExactRopeText.bits31 (fun HT_ HW_ => ?_)
               generalize w96.drew = w97 at HO270 HO273 HO281 HO285 HO294 BK261 BK262 BK278 BK282 HB hHeld ⊢
               refine take_ (i := 0) (N := some 95) (v := ?_) (a' := ?_) #[true, false, false, false, false, false, false, false, false, false] rfl rfl (take_ofW HT_.out HW_.out (by kernel_rfl)) (fun _ _ _ h => h) (Or.inl ⟨by rfl, ?_⟩) hHeld ?_ ?_
               rotate_left
               ·rintro w' ⟨s0, s1⟩
                go_simp
                with_reducible rfl
               rotate_left
               ·simp only [Act.put, zp1, zp2, zp3, i64_w, i32_w]
                rfl
               refine take_ (i := 2) (N := some 97) (v := ?_) (a' := ?_) #[true, false, true, false, false, false, false, false, false, false] rfl rfl (take_ofW HT_.out HW_.out (by kernel_rfl)) (fun _ _ _ h => h) (Or.inl ⟨by rfl, ?_⟩) hHeld ?_ ?_
               rotate_left
               ·rintro w' ⟨s0, s1⟩
                go_simp
                with_reducible rfl
               rotate_left
               ·simp only [Act.put, zp1, zp2, zp3, i64_w, i32_w]
                rfl
               refine one_ (i := 1) (N := some 96) #[true, true, true, false, false, false, false, false, false, false] rfl rfl (one_of HT_.out (by kernel_rfl)) (by decide) (fun K hK => ?_)
               refine goes_ Try.func17 (by kernel_rfl) rfl #[.agg #[.slice A0_0 l0_0.length c0_0]] (by rfl) rfl rfl (by (try simp only [List.map_toArray, List.map_cons, List.map_nil]); first | done | rfl | (simp only [List.length_drop, List.length_take]; rfl)) ?_
               with_reducible refine (laws_toMemory.calls k _ _ l0_0 t303 _ ?side1 ?side2 A43.out).mono ?_
               (case side1 => repeat (first | exact (Kd.C_below HR0_0.out HB.out) | (with_reducible refine Kd.C_alloc ?_ _) | (with_reducible refine Kd.C_drewN ?_ _) | (with_reducible refine Kd.C_drew ?_)))
               (case side2 => exact HC0_0.out)
               rintro e w98 ⟨v304, rfl, ho0, hb⟩
               refine ⟨_, rfl, ?_⟩
               have HO305 := Aside0.mk (Kd.S_lower (Kd.S_new' (Kd.S_new' ho0 (Kd.R_lt (zr0 HO273))) (Kd.R_lt (zr0 HO285))) (below_size (zh0 HB)))
               replace HO270 := zrb HO270 hb
               replace HO273 := zrb HO273 hb
               replace HO281 := zrb HO281 hb
               replace HO285 := zrb HO285 hb
               replace HO294 := zrb HO294 hb
               replace BK261 := zb0 BK261 hb
               replace BK262 := zb0 BK262 hb
               replace BK278 := zb0 BK278 hb
               replace BK282 := zb0 BK282 hb
               replace HB := zhs HB hb
               (try clear hb)
               (try clear hb2)
               (try clear hk)
               (try clear hi)
               (try clear ho0)
               refine hK.out _ _ ⟨zc0 BK261 0 rfl, zc0 BK262 0 rfl⟩ (fun hHeld => ?_)
               clear hK K
               refine norm_ (a' := ?_) ?_ ?_
               rotate_left
               ·show Act.put _ (some 96) _ = _
                simp only [Act.put, zp1, zp2, zp3, i64_w, i32_w]
                rfl
               refine one_ (i := 3) (N := some 98) #[true, true, true, true, false, false, false, false, false, false] rfl rfl (one_of HT_.out (by kernel_rfl)) (by decide) (fun K hK => ?_)
               refine goes_ Try.func18 (by kernel_rfl) rfl #[.agg #[.slice A1_0 l1_0.length c1_0]] (by rfl) rfl rfl (by (try simp only [List.map_toArray, List.map_cons, List.map_nil]); first | done | rfl | (simp only [List.length_drop, List.length_take]; rfl)) ?_
               with_reducible refine (laws_toRope.calls k _ _ l1_0 t306 _ ?side1 ?side2 A44.out).mono ?_
               (case side1 => repeat (first | exact (Kd.C_below HR1_0.out HB.out) | (with_reducible refine Kd.C_alloc ?_ _) | (with_reducible refine Kd.C_drewN ?_ _) | (with_reducible refine Kd.C_drew ?_)))
               (case side2 => exact HC1_0.out)
               rintro e w99 ⟨v307, rfl, ho0, hb⟩
               refine ⟨_, rfl, ?_⟩
               have HO308 := Aside0.mk (Kd.R_lower (Kd.R_new' (Kd.R_new' (Kd.R_new' ho0 (Kd.R_lt (zr0 HO270))) (Kd.R_lt (zr0 HO281))) (Kd.R_lt (zr0 HO294))) (below_size (zh0 HB)))
               replace HO270 := Aside0.mk (Kd.R_elder' (zr0 HO270) (Kd.R_base ho0) hb)
               replace HO273 := zrb HO273 hb
               replace HO281 := Aside0.mk (Kd.R_elder' (zr0 HO281) (Kd.R_base ho0) hb)
               replace HO285 := zrb HO285 hb
               replace HO294 := Aside0.mk (Kd.R_elder' (zr0 HO294) (Kd.R_base ho0) hb)
               replace HO305 := zsb HO305 hb
               replace BK261 := zb0 BK261 hb
               replace BK262 := zb0 BK262 hb
               replace BK278 := zb0 BK278 hb
               replace BK282 := zb0 BK282 hb
               replace HB := zhs HB hb
               (try clear hb)
               (try clear hb2)
               (try clear hk)
               (try clear hi)
               (try clear ho0)
               obtain ⟨Ao100, co100, eo100⟩ := Kd.S_slice HO305.out
               (first | subst eo100 | (injection eo100 with f1_ f2_ f3_; have f4_ := f1_.symm; have f5_ := f3_.symm; clear f1_ f2_ f3_; subst f4_; subst f5_))
               obtain ⟨Ao101, co101, eo101⟩ := Kd.R_slice HO308.out
               (first | subst eo101 | (injection eo101 with f1_ f2_ f3_; have f4_ := f1_.symm; have f5_ := f3_.symm; clear f1_ f2_ f3_; subst f4_; subst f5_))
               refine hK.out _ _ ⟨zc0 BK261 0 rfl, zc0 BK262 0 rfl⟩ (fun hHeld => ?_)
               clear hK K
               refine norm_ (a' := ?_) ?_ ?_
               rotate_left
               ·show Act.put _ (some 98) _ = _
                simp only [Act.put, zp1, zp2, zp3, i64_w, i32_w]
                rfl
               refine one_ (i := 4) (N := some 99) #[true, true, true, true, true, false, false, false, false, false] rfl rfl (one_of HT_.out (by kernel_rfl)) (by decide) (fun K hK => ?_)
               refine goes_ Try.func63 (by kernel_rfl) rfl #[.agg #[.slice Ao100 t303.length co100], .agg #[.slice Ao101 t306.length co101]] (by rfl) rfl rfl (by (try simp only [List.map_toArray, List.map_cons, List.map_nil]); first | done | rfl | (simp only [List.length_drop, List.length_take]; rfl)) ?_
               with_reducible refine (impl_RopeText.calls k _ _ t303 _ _ t306 t309 t312 _ ?side1 ?side2 ?side3 ?side4 A45.out).mono ?_
               (case side1 => repeat (first | exact (Kd.S_reads' HO305.out).2.2 | (with_reducible refine Kd.C_alloc ?_ _) | (with_reducible refine Kd.C_drewN ?_ _) | (with_reducible refine Kd.C_drew ?_)))
               (case side2 => exact (Kd.S_reads' HO305.out).2.1)
               (case side3 => repeat (first | exact (Kd.R_reads' HO308.out).2.2 | (with_reducible refine Kd.C_alloc ?_ _) | (with_reducible refine Kd.C_drewN ?_ _) | (with_reducible refine Kd.C_drew ?_)))
               (case side4 => exact (Kd.R_reads' HO308.out).2.1)
               rintro e w102 ⟨v310, rfl, ho0, hb⟩
               refine ⟨_, rfl, ?_⟩
               have HO311 := Aside0.mk (Kd.R_lower (Kd.R_new' (Kd.R_new' ho0 (Kd.R_lt (zr0 HO273))) (Kd.R_lt (zr0 HO285))) (below_size (zh0 HB)))
               replace HO270 := zrb HO270 hb
               replace HO273 := Aside0.mk (Kd.R_elder' (zr0 HO273) (Kd.R_base ho0) hb)
               replace HO281 := zrb HO281 hb
               replace HO285 := Aside0.mk (Kd.R_elder' (zr0 HO285) (Kd.R_base ho0) hb)
               replace HO294 := zrb HO294 hb
               replace HO305 := Aside0.mk (Kd.S_elder' (zs0 HO305) (Kd.R_base ho0) hb)
               replace HO308 := zrb HO308 hb
               replace BK261 := zb0 BK261 hb
               replace BK262 := zb0 BK262 hb
               replace BK278 := zb0 BK278 hb
               replace BK282 := zb0 BK282 hb
               replace HB := zhs HB hb
               (try clear hb)
               (try clear hb2)
               (try clear hk)
               (try clear hi)
               (try clear ho0)
               refine hK.out _ _ ⟨zc0 BK261 0 rfl, zc0 BK262 0 rfl⟩ (fun hHeld => ?_)
               clear hK K
               refine norm_ (a' := ?_) ?_ ?_
               rotate_left
               ·show Act.put _ (some 99) _ = _
                simp only [Act.put, zp1, zp2, zp3, i64_w, i32_w]
                rfl
               refine pure_ (i := 5) (N := some 94) (v := ?_) (a' := ?_) #[true, true, true, true, true, true, false, false, false, false] rfl rfl (any_of HT_.out (by kernel_rfl)) (fun _ _ _ h => h) (Or.inl ⟨by rfl, ?_⟩) ?_ ?_
               rotate_left
               ·intro w'
                go_simp
                with_reducible rfl
               rotate_left
               ·simp only [Act.put, zp1, zp2, zp3, i64_w, i32_w]
                rfl
               refine pure_ (i := 6) (N := some 100) (v := ?_) (a' := ?_) #[true, true, true, true, true, true, true, false, false, false] rfl rfl (any_of HT_.out (by kernel_rfl)) (fun _ _ _ h => h) (Or.inl ⟨by rfl, ?_⟩) ?_ ?_
               rotate_left
               ·intro w'
                go_simp
                with_reducible rfl
               rotate_left
               ·simp only [Act.put, zp1, zp2, zp3, i64_w, i32_w]
                rfl
               refine pure_ (i := 7) (N := some 101) (v := ?_) (a' := ?_) #[true, true, true, true, true, true, true, true, false, false] rfl rfl (any_of HT_.out (by kernel_rfl)) (fun _ _ _ h => h) (Or.inl ⟨by rfl, ?_⟩) ?_ ?_
               rotate_left
               ·intro w'
                go_simp
                with_reducible rfl
               rotate_left
               ·simp only [Act.put, zp1, zp2, zp3, i64_w, i32_w]
                rfl
               refine pure_ (i := 8) (N := some 15) (v := ?_) (a' := ?_) #[true, true, true, true, true, true, true, true, true, false] rfl rfl (any_of HT_.out (by kernel_rfl)) (fun _ _ _ h => h) (Or.inl ⟨by rfl, ?_⟩) ?_ ?_
               rotate_left
               ·intro w'
                go_simp
                with_reducible rfl
               rotate_left
               ·simp only [Act.put, zp1, zp2, zp3, i64_w, i32_w]
                rfl
               refine pure_ (i := 9) (N := some 16) (v := ?_) (a' := ?_) #[true, true, true, true, true, true, true, true, true, true] rfl rfl (any_of HT_.out (by kernel_rfl)) (fun _ _ _ h => h) (Or.inl ⟨by rfl, ?_⟩) ?_ ?_
               rotate_left
               ·intro w'
                go_simp
                with_reducible rfl
               rotate_left
               ·simp only [Act.put, zp1, zp2, zp3, i64_w, i32_w]
                rfl
               refine done_ (done_of HT_.out (by kernel_rfl)) ?_
               obtain ⟨Ao103, co103, eo103⟩ := Kd.R_slice HO311.out
               subst eo103
               try go_wp2_with (first | ((with_reducible refine gate_callee (f := 49) rfl ?_); refine goesL_ (some 104) rfl rfl Try.func49 (by kernel_rfl) rfl #[.slice Ao103 t309.length co103, .slice Ao83 t271.length co83] rfl (by (try simp only [List.map_toArray, List.map_cons, List.map_nil]); first | done | rfl | (simp only [List.length_drop, List.length_take]; rfl)) ?_; (with_reducible refine (laws_eqByteS.calls k _ _ t309 _ _ t271 true _ ?side1 ?side2 ?side3 ?side4 A46.out).mono ?_); (case side1 => repeat (first | exact (Kd.R_reads' HO311.out).2.2 | (with_reducible refine Kd.C_alloc ?_ _) | (with_reducible refine Kd.C_drewN ?_ _) | (with_reducible refine Kd.C_drew ?_))); (case side2 => exact (Kd.R_reads' HO311.out).2.1); (case side3 => repeat (first | exact (Kd.R_reads' HO273.out).2.2 | (with_reducible refine Kd.C_alloc ?_ _) | (with_reducible refine Kd.C_drewN ?_ _) | (with_reducible refine Kd.C_drew ?_))); (case side4 => exact (Kd.R_reads' HO273.out).2.1); rintro e w' ⟨rfl, ⟨nd, rfl⟩⟩; refine ⟨_, rfl, ?_⟩) | ((with_reducible refine gate_callee (f := 52) rfl ?_); refine goesL_ (some 113) rfl rfl Try.func52 (by kernel_rfl) rfl #[.slice Ao82 t301.length co82, .int .i64 1] rfl (by (try simp only [List.map_toArray, List.map_cons, List.map_nil]); first | done | (rw [show t301.length = t283.length from (Kd.R_reads' HO285.out).1.symm] <;> rfl) | rfl | (simp only [List.length_drop, List.length_take]; rfl)) ?_; (with_reducible refine (laws_heldByteS.calls k _ _ t301 1 t314 _ ?side1 ?side2 A49.out).mono ?_); (case side1 => repeat (first | exact (Kd.R_reads' HO285.out).2.2 | (with_reducible refine Kd.C_alloc ?_ _) | (with_reducible refine Kd.C_drewN ?_ _) | (with_reducible refine Kd.C_drew ?_))); (case side2 => rw [show t301.length = t283.length from (Kd.R_reads' HO285.out).1.symm]; exact (Kd.R_reads' HO285.out).2.1); rintro e w' ⟨rfl, ⟨nd, rfl⟩⟩; refine ⟨_, rfl, ?_⟩))
               go_ret
               exact ⟨by first | rfl | (simp [errW_none, errW_some] <;> rfl) | (simp [*, errW_none, errW_some] <;> rfl), by repeat (first | (with_reducible first | exact HB.out | apply below_alloc | apply pw_below_drewN | apply below_drew1 | refine below_set ?_ GE261.out | refine below_set ?_ GE262.out | refine below_set ?_ GE278.out | refine below_set ?_ GE282.out) | exact HB.out)⟩
              ·rw [if_neg c51] at H
               exact absurd H (by simp)
           ·replace c47 := Bool.eq_false_iff.mpr c47
            subst c47
            have H1 : (none) = some r := by rw [if_neg (show ¬ (false = true) by decide)] at H; exact H
            clear H
            have H := H1
            clear H1
            exact absurd H (by simp)
          ·rw [if_neg c42] at H
           exact absurd H (by simp)
        ·replace c38 := Bool.eq_false_iff.mpr c38
         subst c38
         have H1 : (none) = some r := by rw [if_neg (show ¬ (false = true) by decide)] at H; exact H
         clear H
         have H := H1
         clear H1
         exact absurd H (by simp)
      ·replace c33 := Bool.eq_false_iff.mpr c33
       subst c33
       have H1 : (none) = some r := by rw [if_neg (show ¬ (false = true) by decide)] at H; exact H
       clear H
       have H := H1
       clear H1
       exact absurd H (by simp)
     ·replace c30 := Bool.eq_false_iff.mpr c30
      subst c30
      have H1 : (none) = some r := by rw [if_neg (show ¬ (false = true) by decide)] at H; exact H
      clear H
      have H := H1
      clear H1
      exact absurd H (by simp)
   ·replace c26 := Bool.eq_false_iff.mpr c26
    subst c26
    have H1 : (none) = some r := by rw [if_neg (show ¬ (false = true) by decide)] at H; exact H
    clear H
    have H := H1
    clear H1
    exact absurd H (by simp)

end Go.Proofs.Ytdojnaghcfhadac.PFnExactRopeText
