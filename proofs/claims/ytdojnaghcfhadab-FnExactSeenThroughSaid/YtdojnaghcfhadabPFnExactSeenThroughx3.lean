/- What is proved here: each Go function that is named below answers, and leaves memory, as the theorem of its name says; no condition beyond those that each theorem states. Laid by this session's own program (wip/driver.py) over the kit's print. -/
import Derived.Test.YtdojnaghcfhadabPFnExactSeenThroughx0
import Derived.Test.YtdojnaghcfhadabPFnExactSeenThroughx2
namespace Go.Proofs.Ytdojnaghcfhadab.PFnExactSeenThrough
open Go.RowKit Go.Proofs.YtdojnaghcfhadabW.PrintWords Go.Proofs.YtdojnaghcfhadabW.PrintLast Go.Proofs.YtdojnaghcfhadabW.PrintMore
attribute [local go_sem] max2_int min2_int max_two min_two max_three min_three max_four min_four   -- for this text's walks alone
set_option linter.unusedVariables false
set_option linter.unusedSimpArgs false

open Go.Proofs.Ytdojnaghcfhadab.Cp
/-! ### spec_SeenThrough: function 46 -/
def spec_SeenThrough.j0 : Nat → Bool → List (List Int) → Int → Int → Int → Int → Int → Int → Int → Int → Int → Int → Option (Bool × Bool)
 | 0, _, _, _, _, _, _, _, _, _, _, _, _ => none
 | k + 1, x17, x176000, x176001, x176002, x176003, x176004, x176005, x176006, x177000, x177001, x177002, x177003 => if x17 = true then (some (false, false)) else ((spec_l2Slice.f x176001 x176002 x176003 x176004 0 x176005 x176005).bind fun bt179 => ((spec_l2Slice.f x176001 x176002 x176003 x176004 x176006 x176003 x176003).bind fun bt183 => ((spec_l2Overlap.f bt179.1 bt179.2.1 bt179.2.2.1 bt179.2.2.2 x177000 x177001 x177002 x177003).bind fun t189 => ((spec_l2Overlap.f bt183.1 bt183.2.1 bt183.2.2.1 bt183.2.2.2 x177000 x177001 x177002 x177003).bind fun t190 => (some (decide ((wrap64 (t189 + t190)) > 0), true))))))
def spec_SeenThrough.f (k : Nat) (l0_0 : List (List Int)) (a0_1 : Int) (a0_2 : Int) (a0_3 : Int) (a0_4 : Int) (a0_5 : Int) (a0_6 : Int) (a1_0 : Int) (a1_1 : Int) (a1_2 : Int) (a1_3 : Int) : Option (Bool × Bool) := (spec_l6Gap.f k l0_0 a0_1 a0_2 a0_3 a0_4 a0_5 a0_6).bind fun t177 => (if t177 = true then ((spec_l2Window.f k l0_0 a1_0 a1_1 a1_2 a1_3).bind fun t178 => (spec_SeenThrough.j0 k (!t178) l0_0 a0_1 a0_2 a0_3 a0_4 a0_5 a0_6 a1_0 a1_1 a1_2 a1_3)) else (spec_SeenThrough.j0 k true l0_0 a0_1 a0_2 a0_3 a0_4 a0_5 a0_6 a1_0 a1_1 a1_2 a1_3))
theorem spec_SeenThrough.mono_l : ∀ k, (∀ y0 y1 y2 y3 y4 y5 y6 y7 y8 y9 y10 y11, LeO (spec_SeenThrough.j0 k y0 y1 y2 y3 y4 y5 y6 y7 y8 y9 y10 y11) (spec_SeenThrough.j0 (k + 1) y0 y1 y2 y3 y4 y5 y6 y7 y8 y9 y10 y11))
 | 0 => fun _ _ _ _ _ _ _ _ _ _ _ _ r h => by simp [spec_SeenThrough.j0] at h
 | k + 1 => by
  have ih0 := spec_SeenThrough.mono_l k
  ·intro y0 y1 y2 y3 y4 y5 y6 y7 y8 y9 y10 y11
   unfold spec_SeenThrough.j0
   repeat' first
   | (with_reducible exact ih0 _ _ _ _ _ _ _ _ _ _ _ _)
   | (with_reducible exact spec_l2Window.mono _ _ _ _ _ _)
   | (with_reducible exact spec_l6Gap.mono _ _ _ _ _ _ _ _)
   | (with_reducible exact LeO.refl _)
   | (with_reducible exact LeO.none _)
   | (with_reducible refine LeO.ite ?_ ?_)
   | (with_reducible refine LeO.bind ?_ (fun _ => ?_))
   | exact ih0 _ _ _ _ _ _ _ _ _ _ _ _
   | exact spec_l2Window.mono _ _ _ _ _ _
   | exact spec_l6Gap.mono _ _ _ _ _ _ _ _
   | exact LeO.none _
   | refine LeO.ite ?_ ?_
   | refine LeO.bind ?_ (fun _ => ?_)
theorem spec_SeenThrough.mono : ∀ a0 a1 a2 a3 a4 a5 a6 a7 a8 a9 a10 k, LeO (spec_SeenThrough.f k a0 a1 a2 a3 a4 a5 a6 a7 a8 a9 a10) (spec_SeenThrough.f (k + 1) a0 a1 a2 a3 a4 a5 a6 a7 a8 a9 a10) := by
 intro a0 a1 a2 a3 a4 a5 a6 a7 a8 a9 a10 k
 have ih0 := spec_SeenThrough.mono_l k
 unfold spec_SeenThrough.f
 repeat' first
   | (with_reducible exact ih0 _ _ _ _ _ _ _ _ _ _ _ _)
   | (with_reducible exact spec_l2Window.mono _ _ _ _ _ _)
   | (with_reducible exact spec_l6Gap.mono _ _ _ _ _ _ _ _)
   | (with_reducible exact LeO.refl _)
   | (with_reducible exact LeO.none _)
   | (with_reducible refine LeO.ite ?_ ?_)
   | (with_reducible refine LeO.bind ?_ (fun _ => ?_))
   | exact ih0 _ _ _ _ _ _ _ _ _ _ _ _
   | exact spec_l2Window.mono _ _ _ _ _ _
   | exact spec_l6Gap.mono _ _ _ _ _ _ _ _
   | exact LeO.none _
   | refine LeO.ite ?_ ?_
   | refine LeO.bind ?_ (fun _ => ?_)
def spec_SeenThrough.T3 : Bool × List (List Nat × List Nat) := (true, [([], []), ([0], [0]), ([], []), ([2], [2]), ([], []), ([4], [4]), ([1, 3, 5], [1, 3, 5]), ([], []), ([7], [7]), ([], []), ([9], [9]), ([], []), ([11], [11]), ([12], [12]), ([], []), ([14], [14]), ([15], [15]), ([8, 10, 13, 16, 6], [8, 10, 13, 16]), ([], []), ([], []), ([18, 6, 17, 0, 1, 2, 3, 4, 5, 6, 18, 19], [6, 18]), ([19, 17, 20, 0, 1, 2, 3, 4, 5, 6, 7, 8, 9, 10, 11, 12, 13, 14, 15, 16, 17, 18, 19, 20], [17, 19])])
def spec_SeenThrough.B3 : List Nat := [0, 1, 0, 4, 0, 16, 63, 0, 128, 0, 512, 0, 2048, 6144, 0, 16384, 49152, 131071, 0, 0, 1048575, 2097151]
theorem spec_SeenThrough.tab3 : rtab .any (opsOf Try.f46 3) = spec_SeenThrough.T3 := by kernel_rfl
theorem spec_SeenThrough.bits3 : waitsOk spec_SeenThrough.T3.2 spec_SeenThrough.B3 = true := by kernel_rfl
def spec_SeenThrough.T4 : Bool × List (List Nat × List Nat) := (true, [([], []), ([], []), ([0, 1], [0, 1]), ([], []), ([], []), ([3, 4, 2], [3, 4]), ([2, 5], [2, 5]), ([6], [6]), ([7, 5, 0, 1, 2, 3, 4, 5, 6, 7], [7]), ([8, 0, 1, 2, 3, 4, 5, 6, 7, 8], [])])
def spec_SeenThrough.B4 : List Nat := [0, 0, 3, 0, 0, 31, 63, 127, 255, 511]
theorem spec_SeenThrough.tab4 : rtab .any (opsOf Try.f46 4) = spec_SeenThrough.T4 := by kernel_rfl
theorem spec_SeenThrough.bits4 : waitsOk spec_SeenThrough.T4.2 spec_SeenThrough.B4 = true := by kernel_rfl
set_option maxHeartbeats 8000000 in
set_option maxRecDepth 100000 in
theorem spec_SeenThrough.calls (k : Nat) (A0_0 : Option Addr) (c0_0 : Nat) (l0_0 : List (List Int)) (a0_1 : Int) (a0_2 : Int) (a0_3 : Int) (a0_4 : Int) (a0_5 : Int) (a0_6 : Int) (a1_0 : Int) (a1_1 : Int) (a1_2 : Int) (a1_3 : Int) (r1 : Bool) (r2 : Bool) (w : World) (hr0_0 : Kd.C (Kd.slice 5 (Kd.int .u8)) w A0_0 l0_0.length l0_0) (hc0_0 : l0_0.length ≤ c0_0) (h : spec_SeenThrough.f k l0_0 a0_1 a0_2 a0_3 a0_4 a0_5 a0_6 a1_0 a1_1 a1_2 a1_3 = some (r1, r2)) :
  Calls Try.prog 46 #[.agg #[.slice A0_0 l0_0.length c0_0, .int .i64 a0_1, .int .i64 a0_2, .int .i64 a0_3, .int .i64 a0_4, .int .i64 a0_5, .int .i64 a0_6], .agg #[.int .i64 a1_0, .int .i64 a1_1, .int .i64 a1_2, .int .i64 a1_3]] w fun e w' => e = .returned (.tuple #[.bool r1, .bool r2]) ∧ Below w.heap.size w w' := by
 have hu45 := Try.underlying45
 have hu34 := Try.underlying34
 have hu32 := Try.underlying32
 have HR0_0 := Aside0.mk hr0_0
 have HC0_0 := Aside0.mk hc0_0
 clear hr0_0 hc0_0
 have HB := Aside0.mk (Below.refl w.heap.size w)
 have H : ((spec_l6Gap.f k l0_0 a0_1 a0_2 a0_3 a0_4 a0_5 a0_6).bind fun t177 => (if t177 = true then ((spec_l2Window.f k l0_0 a1_0 a1_1 a1_2 a1_3).bind fun t178 => (spec_SeenThrough.j0 k (!t178) l0_0 a0_1 a0_2 a0_3 a0_4 a0_5 a0_6 a1_0 a1_1 a1_2 a1_3)) else (spec_SeenThrough.j0 k true l0_0 a0_1 a0_2 a0_3 a0_4 a0_5 a0_6 a1_0 a1_1 a1_2 a1_3))) = some (r1, r2) := h
 clear h
 have HC3 := Aside0.mk H
 clear H
 go_enter Try.func46, Try.ntmps46
 go_upto_region 1 with (first | ((with_reducible refine gate_dst (N := 2) rfl ?_); refine box_event ?hg (N := 2) ?hd (cs := #[.slice A0_0 l0_0.length c0_0, .int .i64 a0_1, .int .i64 a0_2, .int .i64 a0_3, .int .i64 a0_4, .int .i64 a0_5, .int .i64 a0_6]) (t := 45) ?hr ?_; (case hd => rfl); (case hg => rfl); (case hr => first | (go_simp; done) | (go_simp; rfl)); intro gb175 hg w4 hbox hb; have n0_ := zhs HB hb; have n1_ := Aside0.mk (hbox); have n2_ := zge HB hg; have n3_ := zge HB hg; clear HB; have HB := n0_; have BK175 := n1_; have GW175 := n2_; have GE175 := n3_; clear n0_ n1_ n2_ n3_; clear hb hbox hg) | ((with_reducible refine gate_dst (N := 3) rfl ?_); refine box_event ?hg (N := 3) ?hd (cs := #[.int .i64 a1_0, .int .i64 a1_1, .int .i64 a1_2, .int .i64 a1_3]) (t := 34) ?hr ?_; (case hd => rfl); (case hg => rfl); (case hr => first | (go_simp; done) | (go_simp; rfl)); intro gb176 hg w5 hbox hb; have n0_ := zb0 BK175 hb; have n1_ := zhs HB hb; have n2_ := Aside0.mk (hbox); have n3_ := zge HB hg; have n4_ := zge HB hg; have n5_ := znl BK175 hg; have n6_ := znr BK175 hg; clear BK175; clear HB; have BK175 := n0_; have HB := n1_; have BK176 := n2_; have GW176 := n3_; have GE176 := n4_; have NB175_176 := n5_; have NB176_175 := n6_; clear n0_ n1_ n2_ n3_ n4_ n5_ n6_; clear hb hbox hg))
 (try simp only [Act.put, zp1, zp2, zp3])
 go_cut [17] (fun v17 wc => ∃ (kq : Nat) (x17_2 : Bool), v17 = .bool x17_2 ∧ Aside0 (spec_SeenThrough.j0 kq x17_2 l0_0 a0_1 a0_2 a0_3 a0_4 a0_5 a0_6 a1_0 a1_1 a1_2 a1_3 = some (r1, r2)) ∧ Aside0 (kq ≤ k) ∧ Aside0 (wc.heap[gb175]? = some (.cells #[(.slice A0_0 l0_0.length c0_0), .int .i64 a0_1, .int .i64 a0_2, .int .i64 a0_3, .int .i64 a0_4, .int .i64 a0_5, .int .i64 a0_6] 45 (0, 0))) ∧ Aside0 (wc.heap[gb176]? = some (.cells #[.int .i64 a1_0, .int .i64 a1_1, .int .i64 a1_2, .int .i64 a1_3] 34 (0, 0))) ∧ Aside0 (Below w.heap.size w wc))
 case first =>
  have H := HC3.out
  clear HC3
  replace H := Option.bind_eq_some_iff.mp H
  obtain ⟨t177, A60, H⟩ := H
  replace H : (if t177 = true then ((spec_l2Window.f k l0_0 a1_0 a1_1 a1_2 a1_3).bind fun t178 => (spec_SeenThrough.j0 k (!t178) l0_0 a0_1 a0_2 a0_3 a0_4 a0_5 a0_6 a1_0 a1_1 a1_2 a1_3)) else (spec_SeenThrough.j0 k true l0_0 a0_1 a0_2 a0_3 a0_4 a0_5 a0_6 a1_0 a1_1 a1_2 a1_3)) = some (r1, r2) := H
  have A6 := Aside0.mk A60
  clear A60
  by_cases c7 : t177 = true
  ·subst c7
   have H1 : ((spec_l2Window.f k l0_0 a1_0 a1_1 a1_2 a1_3).bind fun t178 => (spec_SeenThrough.j0 k (!t178) l0_0 a0_1 a0_2 a0_3 a0_4 a0_5 a0_6 a1_0 a1_1 a1_2 a1_3)) = some (r1, r2) := by rw [if_pos rfl] at H; exact H
   clear H
   have H := H1
   clear H1
   replace H := Option.bind_eq_some_iff.mp H
   obtain ⟨t178, A80, H⟩ := H
   replace H : (spec_SeenThrough.j0 k (!t178) l0_0 a0_1 a0_2 a0_3 a0_4 a0_5 a0_6 a1_0 a1_1 a1_2 a1_3) = some (r1, r2) := H
   have A8 := Aside0.mk A80
   clear A80
   have H' := Aside0.mk H
   clear H
   have hnb9 := NB175_176.out
   have hnc9 := NB176_175.out
   have hcz10_0 : w5.cell? ⟨gb175, 0, none⟩ = some (.slice A0_0 l0_0.length c0_0) := zc0 BK175 0 rfl
   have hcz10_1 : w5.cell? ⟨gb175, 1, none⟩ = some (.int .i64 a0_1) := zc0 BK175 1 rfl
   have hcz10_2 : w5.cell? ⟨gb175, 2, none⟩ = some (.int .i64 a0_2) := zc0 BK175 2 rfl
   have hcz10_3 : w5.cell? ⟨gb175, 3, none⟩ = some (.int .i64 a0_3) := zc0 BK175 3 rfl
   have hcz10_4 : w5.cell? ⟨gb175, 4, none⟩ = some (.int .i64 a0_4) := zc0 BK175 4 rfl
   have hcz10_5 : w5.cell? ⟨gb175, 5, none⟩ = some (.int .i64 a0_5) := zc0 BK175 5 rfl
   have hcz10_6 : w5.cell? ⟨gb175, 6, none⟩ = some (.int .i64 a0_6) := zc0 BK175 6 rfl
   have hfz10_0 := blk_frozen BK175.out 0
   have hfz10_1 := blk_frozen BK175.out 1
   have hfz10_2 := blk_frozen BK175.out 2
   have hfz10_3 := blk_frozen BK175.out 3
   have hfz10_4 := blk_frozen BK175.out 4
   have hfz10_5 := blk_frozen BK175.out 5
   have hfz10_6 := blk_frozen BK175.out 6
   go_wp2_with (first | ((with_reducible refine gate_callee (f := 60) rfl ?_); refine goesL_ (some 9) rfl rfl Try.func60 (by kernel_rfl) rfl #[.agg #[.slice A0_0 l0_0.length c0_0, .int .i64 a0_1, .int .i64 a0_2, .int .i64 a0_3, .int .i64 a0_4, .int .i64 a0_5, .int .i64 a0_6]] rfl (by (try simp only [List.map_toArray, List.map_cons, List.map_nil]); first | done | rfl | (simp only [List.length_drop, List.length_take]; rfl)) ?_; (with_reducible refine (spec_l6Gap.calls k _ _ l0_0 a0_1 a0_2 a0_3 a0_4 a0_5 a0_6 true _ ?side1 ?side2 A6.out).mono ?_); (case side1 => repeat (first | exact (Kd.C_below HR0_0.out HB.out) | (with_reducible refine Kd.C_alloc ?_ _) | (with_reducible refine Kd.C_drewN ?_ _) | (with_reducible refine Kd.C_drew ?_))); (case side2 => exact HC0_0.out); rintro e w11 ⟨rfl, hb⟩; refine ⟨_, rfl, ?_⟩; have n0_ := zb0 BK175 hb; have n1_ := zb0 BK176 hb; have n2_ := zhs HB hb; clear BK175; clear BK176; clear HB; have BK175 := n0_; have BK176 := n1_; have HB := n2_; clear n0_ n1_ n2_; (try clear hb); (try clear hb2); (try clear hk); (try clear hi); have hcz12_0 : w11.cell? ⟨gb175, 0, none⟩ = some (.slice A0_0 l0_0.length c0_0) := zc0 BK175 0 rfl; have hcz12_1 : w11.cell? ⟨gb175, 1, none⟩ = some (.int .i64 a0_1) := zc0 BK175 1 rfl; have hcz12_2 : w11.cell? ⟨gb175, 2, none⟩ = some (.int .i64 a0_2) := zc0 BK175 2 rfl; have hcz12_3 : w11.cell? ⟨gb175, 3, none⟩ = some (.int .i64 a0_3) := zc0 BK175 3 rfl; have hcz12_4 : w11.cell? ⟨gb175, 4, none⟩ = some (.int .i64 a0_4) := zc0 BK175 4 rfl; have hcz12_5 : w11.cell? ⟨gb175, 5, none⟩ = some (.int .i64 a0_5) := zc0 BK175 5 rfl; have hcz12_6 : w11.cell? ⟨gb175, 6, none⟩ = some (.int .i64 a0_6) := zc0 BK175 6 rfl; have hfz12_0 := blk_frozen BK175.out 0; have hfz12_1 := blk_frozen BK175.out 1; have hfz12_2 := blk_frozen BK175.out 2; have hfz12_3 := blk_frozen BK175.out 3; have hfz12_4 := blk_frozen BK175.out 4; have hfz12_5 := blk_frozen BK175.out 5; have hfz12_6 := blk_frozen BK175.out 6; have hcz13_0 : w11.cell? ⟨gb176, 0, none⟩ = some (.int .i64 a1_0) := zc0 BK176 0 rfl; have hcz13_1 : w11.cell? ⟨gb176, 1, none⟩ = some (.int .i64 a1_1) := zc0 BK176 1 rfl; have hcz13_2 : w11.cell? ⟨gb176, 2, none⟩ = some (.int .i64 a1_2) := zc0 BK176 2 rfl; have hcz13_3 : w11.cell? ⟨gb176, 3, none⟩ = some (.int .i64 a1_3) := zc0 BK176 3 rfl; have hfz13_0 := blk_frozen BK176.out 0; have hfz13_1 := blk_frozen BK176.out 1; have hfz13_2 := blk_frozen BK176.out 2; have hfz13_3 := blk_frozen BK176.out 3) | (go_at_call 83; (with_reducible refine (spec_l2Window.calls k _ _ l0_0 a1_0 a1_1 a1_2 a1_3 t178 _ ?side1 ?side2 A8.out).mono ?_); (case side1 => repeat (first | exact (Kd.C_below HR0_0.out HB.out) | (with_reducible refine Kd.C_alloc ?_ _) | (with_reducible refine Kd.C_drewN ?_ _) | (with_reducible refine Kd.C_drew ?_))); (case side2 => exact HC0_0.out); rintro e w14 ⟨rfl, hb⟩; have n0_ := zb0 BK175 hb; have n1_ := zb0 BK176 hb; have n2_ := zhs HB hb; clear BK175; clear BK176; clear HB; have BK175 := n0_; have BK176 := n1_; have HB := n2_; clear n0_ n1_ n2_; (try clear hb); (try clear hb2); (try clear hk); (try clear hi)))
   go_meet
   case rel => exact ⟨_, (!t178), (by first | rfl | (simp; done) | (simp [*]; done)), H', ⟨by first | omega | exact Nat.le_refl _⟩, ⟨zk0 BK175⟩, ⟨zk0 BK176⟩, ⟨by repeat (first | (with_reducible first | exact HB.out | apply below_alloc | apply pw_below_drewN | apply below_drew1 | refine below_set ?_ GE175.out | refine below_set ?_ GE176.out) | exact HB.out)⟩⟩
  ·replace c7 := Bool.eq_false_iff.mpr c7
   subst c7
   have H1 : (spec_SeenThrough.j0 k true l0_0 a0_1 a0_2 a0_3 a0_4 a0_5 a0_6 a1_0 a1_1 a1_2 a1_3) = some (r1, r2) := by rw [if_neg (show ¬ (false = true) by decide)] at H; exact H
   clear H
   have H := H1
   clear H1
   have H' := Aside0.mk H
   clear H
   have hnb15 := NB175_176.out
   have hnc15 := NB176_175.out
   have hcz16_0 : w5.cell? ⟨gb175, 0, none⟩ = some (.slice A0_0 l0_0.length c0_0) := zc0 BK175 0 rfl
   have hcz16_1 : w5.cell? ⟨gb175, 1, none⟩ = some (.int .i64 a0_1) := zc0 BK175 1 rfl
   have hcz16_2 : w5.cell? ⟨gb175, 2, none⟩ = some (.int .i64 a0_2) := zc0 BK175 2 rfl
   have hcz16_3 : w5.cell? ⟨gb175, 3, none⟩ = some (.int .i64 a0_3) := zc0 BK175 3 rfl
   have hcz16_4 : w5.cell? ⟨gb175, 4, none⟩ = some (.int .i64 a0_4) := zc0 BK175 4 rfl
   have hcz16_5 : w5.cell? ⟨gb175, 5, none⟩ = some (.int .i64 a0_5) := zc0 BK175 5 rfl
   have hcz16_6 : w5.cell? ⟨gb175, 6, none⟩ = some (.int .i64 a0_6) := zc0 BK175 6 rfl
   have hfz16_0 := blk_frozen BK175.out 0
   have hfz16_1 := blk_frozen BK175.out 1
   have hfz16_2 := blk_frozen BK175.out 2
   have hfz16_3 := blk_frozen BK175.out 3
   have hfz16_4 := blk_frozen BK175.out 4
   have hfz16_5 := blk_frozen BK175.out 5
   have hfz16_6 := blk_frozen BK175.out 6
   go_wp2_with (first | ((with_reducible refine gate_callee (f := 60) rfl ?_); refine goesL_ (some 9) rfl rfl Try.func60 (by kernel_rfl) rfl #[.agg #[.slice A0_0 l0_0.length c0_0, .int .i64 a0_1, .int .i64 a0_2, .int .i64 a0_3, .int .i64 a0_4, .int .i64 a0_5, .int .i64 a0_6]] rfl (by (try simp only [List.map_toArray, List.map_cons, List.map_nil]); first | done | rfl | (simp only [List.length_drop, List.length_take]; rfl)) ?_; (with_reducible refine (spec_l6Gap.calls k _ _ l0_0 a0_1 a0_2 a0_3 a0_4 a0_5 a0_6 false _ ?side1 ?side2 A6.out).mono ?_); (case side1 => repeat (first | exact (Kd.C_below HR0_0.out HB.out) | (with_reducible refine Kd.C_alloc ?_ _) | (with_reducible refine Kd.C_drewN ?_ _) | (with_reducible refine Kd.C_drew ?_))); (case side2 => exact HC0_0.out); rintro e w17 ⟨rfl, hb⟩; refine ⟨_, rfl, ?_⟩; have n0_ := zb0 BK175 hb; have n1_ := zb0 BK176 hb; have n2_ := zhs HB hb; clear BK175; clear BK176; clear HB; have BK175 := n0_; have BK176 := n1_; have HB := n2_; clear n0_ n1_ n2_; (try clear hb); (try clear hb2); (try clear hk); (try clear hi)))
   go_meet
   case rel => exact ⟨_, (true), (by first | rfl | (simp; done) | (simp [*]; done)), H', ⟨by first | omega | exact Nat.le_refl _⟩, ⟨zk0 BK175⟩, ⟨zk0 BK176⟩, ⟨by repeat (first | (with_reducible first | exact HB.out | apply below_alloc | apply pw_below_drewN | apply below_drew1 | refine below_set ?_ GE175.out | refine below_set ?_ GE176.out) | exact HB.out)⟩⟩
 case rest =>
  clear HC3
  try clear c1
  try clear p2
  try clear c4
  try clear c6
  try clear c7
  try clear c9
  try clear c15
  try clear hcz10_0
  try clear hcz10_1
  try clear hcz10_2
  try clear hcz10_3
  try clear hcz10_4
  try clear hcz10_5
  try clear hcz10_6
  try clear hcz12_0
  try clear hcz12_1
  try clear hcz12_2
  try clear hcz12_3
  try clear hcz12_4
  try clear hcz12_5
  try clear hcz12_6
  try clear hcz13_0
  try clear hcz13_1
  try clear hcz13_2
  try clear hcz13_3
  try clear hcz16_0
  try clear hcz16_1
  try clear hcz16_2
  try clear hcz16_3
  try clear hcz16_4
  try clear hcz16_5
  try clear hcz16_6
  try clear hfz10_0
  try clear hfz10_1
  try clear hfz10_2
  try clear hfz10_3
  try clear hfz10_4
  try clear hfz10_5
  try clear hfz10_6
  try clear hfz12_0
  try clear hfz12_1
  try clear hfz12_2
  try clear hfz12_3
  try clear hfz12_4
  try clear hfz12_5
  try clear hfz12_6
  try clear hfz13_0
  try clear hfz13_1
  try clear hfz13_2
  try clear hfz13_3
  try clear hfz16_0
  try clear hfz16_1
  try clear hfz16_2
  try clear hfz16_3
  try clear hfz16_4
  try clear hfz16_5
  try clear hfz16_6
  obtain ⟨kq, x17_2, rfl, HA, HJ2, BK175, BK176, HB⟩ := hcut
  cases kq with
  | zero => exact absurd HA.out (by simp [spec_SeenThrough.j0])
  | succ kj2 =>
   have H := HA.out
   clear HA
   simp only [spec_SeenThrough.j0] at H
   by_cases c18 : x17_2 = true
   ·subst c18
    have H1 : (some (false, false)) = some (r1, r2) := by rw [if_pos rfl] at H; exact H
    clear H
    have H := H1
    clear H1
    simp only [Option.some.injEq, Prod.mk.injEq] at H
    obtain ⟨rfl, rfl⟩ := H
    go_wp2
    go_ret2
    exact ⟨by first | rfl | (simp [errW_none, errW_some] <;> rfl) | (simp [*, errW_none, errW_some] <;> rfl), by repeat (first | (with_reducible first | exact HB.out | apply below_alloc | apply pw_below_drewN | apply below_drew1 | refine below_set ?_ GE175.out | refine below_set ?_ GE176.out) | exact HB.out)⟩
   ·replace c18 := Bool.eq_false_iff.mpr c18
    subst c18
    have H1 : ((spec_l2Slice.f a0_1 a0_2 a0_3 a0_4 0 a0_5 a0_5).bind fun bt179 => ((spec_l2Slice.f a0_1 a0_2 a0_3 a0_4 a0_6 a0_3 a0_3).bind fun bt183 => ((spec_l2Overlap.f bt179.1 bt179.2.1 bt179.2.2.1 bt179.2.2.2 a1_0 a1_1 a1_2 a1_3).bind fun t189 => ((spec_l2Overlap.f bt183.1 bt183.2.1 bt183.2.2.1 bt183.2.2.2 a1_0 a1_1 a1_2 a1_3).bind fun t190 => (some (decide ((wrap64 (t189 + t190)) > 0), true)))))) = some (r1, r2) := by rw [if_neg (show ¬ (false = true) by decide)] at H; exact H
    clear H
    have H := H1
    clear H1
    replace H := Option.bind_eq_some_iff.mp H
    obtain ⟨⟨t179, t180, t181, t182⟩, A190, H⟩ := H
    replace H : ((spec_l2Slice.f a0_1 a0_2 a0_3 a0_4 a0_6 a0_3 a0_3).bind fun bt183 => ((spec_l2Overlap.f t179 t180 t181 t182 a1_0 a1_1 a1_2 a1_3).bind fun t189 => ((spec_l2Overlap.f bt183.1 bt183.2.1 bt183.2.2.1 bt183.2.2.2 a1_0 a1_1 a1_2 a1_3).bind fun t190 => (some (decide ((wrap64 (t189 + t190)) > 0), true))))) = some (r1, r2) := H
    have A19 := Aside0.mk A190
    clear A190
    replace H := Option.bind_eq_some_iff.mp H
    obtain ⟨⟨t183, t184, t185, t186⟩, A200, H⟩ := H
    replace H : ((spec_l2Overlap.f t179 t180 t181 t182 a1_0 a1_1 a1_2 a1_3).bind fun t189 => ((spec_l2Overlap.f t183 t184 t185 t186 a1_0 a1_1 a1_2 a1_3).bind fun t190 => (some (decide ((wrap64 (t189 + t190)) > 0), true)))) = some (r1, r2) := H
    have A20 := Aside0.mk A200
    clear A200
    replace H := Option.bind_eq_some_iff.mp H
    obtain ⟨t189, A210, H⟩ := H
    replace H : ((spec_l2Overlap.f t183 t184 t185 t186 a1_0 a1_1 a1_2 a1_3).bind fun t190 => (some (decide ((wrap64 (t189 + t190)) > 0), true))) = some (r1, r2) := H
    have A21 := Aside0.mk A210
    clear A210
    replace H := Option.bind_eq_some_iff.mp H
    obtain ⟨t190, A220, H⟩ := H
    replace H : (some (decide ((wrap64 (t189 + t190)) > 0), true)) = some (r1, r2) := H
    have A22 := Aside0.mk A220
    clear A220
    simp only [Option.some.injEq, Prod.mk.injEq] at H
    obtain ⟨rfl, rfl⟩ := H
    try go_wp2
    replace BK175 := Aside0.mk (blk_drew BK175.out)
    replace BK176 := Aside0.mk (blk_drew BK176.out)
    replace HB := Aside0.mk (below_drew1 HB.out)
    refine start_ (n := 22) (S := fun w' => w'.cell? ⟨gb175, 0, none⟩ = some (.slice A0_0 l0_0.length c0_0) ∧ w'.cell? ⟨gb175, 1, none⟩ = some (.int .i64 a0_1) ∧ w'.cell? ⟨gb175, 2, none⟩ = some (.int .i64 a0_2) ∧ w'.cell? ⟨gb175, 3, none⟩ = some (.int .i64 a0_3) ∧ w'.cell? ⟨gb175, 4, none⟩ = some (.int .i64 a0_4) ∧ w'.cell? ⟨gb175, 5, none⟩ = some (.int .i64 a0_5) ∧ w'.cell? ⟨gb175, 6, none⟩ = some (.int .i64 a0_6)) (ds := []) #[false, false, false, false, false, false, false, false, false, false, false, false, false, false, false, false, false, false, false, false, false, false] (by kernel_rfl) rfl rfl ⟨zc0 BK175 0 rfl, zc0 BK175 1 rfl, zc0 BK175 2 rfl, zc0 BK175 3 rfl, zc0 BK175 4 rfl, zc0 BK175 5 rfl, zc0 BK175 6 rfl⟩ (fun hHeld => ?_); refine with_tabW spec_SeenThrough.tab3 spec_SeenThrough.bits3 (fun HT_ HW_ => ?_)
    generalize wc.drew = w23 at BK175 BK176 HB hHeld ⊢
    refine pure_ (i := 0) (N := some 18) (v := ?_) (a' := ?_) #[true, false, false, false, false, false, false, false, false, false, false, false, false, false, false, false, false, false, false, false, false, false] rfl rfl (any_of HT_.out (by kernel_rfl)) (fun _ _ _ h => h) (Or.inl ⟨by rfl, ?_⟩) ?_ ?_
    rotate_left
    ·intro w'
     go_simp
     with_reducible rfl
    rotate_left
    ·simp only [Act.put, zp1, zp2, zp3, i64_w, i32_w]
     rfl
    refine pure_ (i := 2) (N := some 20) (v := ?_) (a' := ?_) #[true, false, true, false, false, false, false, false, false, false, false, false, false, false, false, false, false, false, false, false, false, false] rfl rfl (any_of HT_.out (by kernel_rfl)) (fun _ _ _ h => h) (Or.inl ⟨by rfl, ?_⟩) ?_ ?_
    rotate_left
    ·intro w'
     go_simp
     with_reducible rfl
    rotate_left
    ·simp only [Act.put, zp1, zp2, zp3, i64_w, i32_w]
     rfl
    refine pure_ (i := 4) (N := some 22) (v := ?_) (a' := ?_) #[true, false, true, false, true, false, false, false, false, false, false, false, false, false, false, false, false, false, false, false, false, false] rfl rfl (any_of HT_.out (by kernel_rfl)) (fun _ _ _ h => h) (Or.inl ⟨by rfl, ?_⟩) ?_ ?_
    rotate_left
    ·intro w'
     go_simp
     with_reducible rfl
    rotate_left
    ·simp only [Act.put, zp1, zp2, zp3, i64_w, i32_w]
     rfl
    refine pure_ (i := 7) (N := some 25) (v := ?_) (a' := ?_) #[true, false, true, false, true, false, false, true, false, false, false, false, false, false, false, false, false, false, false, false, false, false] rfl rfl (any_of HT_.out (by kernel_rfl)) (fun _ _ _ h => h) (Or.inl ⟨by rfl, ?_⟩) ?_ ?_
    rotate_left
    ·intro w'
     go_simp
     with_reducible rfl
    rotate_left
    ·simp only [Act.put, zp1, zp2, zp3, i64_w, i32_w]
     rfl
    refine pure_ (i := 9) (N := some 27) (v := ?_) (a' := ?_) #[true, false, true, false, true, false, false, true, false, true, false, false, false, false, false, false, false, false, false, false, false, false] rfl rfl (any_of HT_.out (by kernel_rfl)) (fun _ _ _ h => h) (Or.inl ⟨by rfl, ?_⟩) ?_ ?_
    rotate_left
    ·intro w'
     go_simp
     with_reducible rfl
    rotate_left
    ·simp only [Act.put, zp1, zp2, zp3, i64_w, i32_w]
     rfl
    refine pure_ (i := 11) (N := some 29) (v := ?_) (a' := ?_) #[true, false, true, false, true, false, false, true, false, true, false, true, false, false, false, false, false, false, false, false, false, false] rfl rfl (any_of HT_.out (by kernel_rfl)) (fun _ _ _ h => h) (Or.inl ⟨by rfl, ?_⟩) ?_ ?_
    rotate_left
    ·intro w'
     go_simp
     with_reducible rfl
    rotate_left
    ·simp only [Act.put, zp1, zp2, zp3, i64_w, i32_w]
     rfl
    refine pure_ (i := 12) (N := some 30) (v := ?_) (a' := ?_) #[true, false, true, false, true, false, false, true, false, true, false, true, true, false, false, false, false, false, false, false, false, false] rfl rfl (any_of HT_.out (by kernel_rfl)) (fun _ _ _ h => h) (Or.inl ⟨by rfl, ?_⟩) ?_ ?_
    rotate_left
    ·intro w'
     go_simp
     with_reducible rfl
    rotate_left
    ·simp only [Act.put, zp1, zp2, zp3, i64_w, i32_w]
     rfl
    refine pure_ (i := 14) (N := some 32) (v := ?_) (a' := ?_) #[true, false, true, false, true, false, false, true, false, true, false, true, true, false, true, false, false, false, false, false, false, false] rfl rfl (any_of HT_.out (by kernel_rfl)) (fun _ _ _ h => h) (Or.inl ⟨by rfl, ?_⟩) ?_ ?_
    rotate_left
    ·intro w'
     go_simp
     with_reducible rfl
    rotate_left
    ·simp only [Act.put, zp1, zp2, zp3, i64_w, i32_w]
     rfl
    refine pure_ (i := 15) (N := some 33) (v := ?_) (a' := ?_) #[true, false, true, false, true, false, false, true, false, true, false, true, true, false, true, true, false, false, false, false, false, false] rfl rfl (any_of HT_.out (by kernel_rfl)) (fun _ _ _ h => h) (Or.inl ⟨by rfl, ?_⟩) ?_ ?_
    rotate_left
    ·intro w'
     go_simp
     with_reducible rfl
    rotate_left
    ·simp only [Act.put, zp1, zp2, zp3, i64_w, i32_w]
     rfl
    refine take_ (i := 1) (N := some 19) (v := ?_) (a' := ?_) #[true, true, true, false, true, false, false, true, false, true, false, true, true, false, true, true, false, false, false, false, false, false] rfl rfl (take_ofW HT_.out HW_.out (by kernel_rfl)) (fun _ _ _ h => h) (Or.inl ⟨by rfl, ?_⟩) hHeld ?_ ?_
    rotate_left
    ·rintro w' ⟨s0, s1, s2, s3, s4, s5, s6⟩
     go_simp
     with_reducible rfl
    rotate_left
    ·simp only [Act.put, zp1, zp2, zp3, i64_w, i32_w]
     rfl
    refine take_ (i := 3) (N := some 21) (v := ?_) (a' := ?_) #[true, true, true, true, true, false, false, true, false, true, false, true, true, false, true, true, false, false, false, false, false, false] rfl rfl (take_ofW HT_.out HW_.out (by kernel_rfl)) (fun _ _ _ h => h) (Or.inl ⟨by rfl, ?_⟩) hHeld ?_ ?_
    rotate_left
    ·rintro w' ⟨s0, s1, s2, s3, s4, s5, s6⟩
     go_simp
     with_reducible rfl
    rotate_left
    ·simp only [Act.put, zp1, zp2, zp3, i64_w, i32_w]
     rfl
    refine take_ (i := 5) (N := some 23) (v := ?_) (a' := ?_) #[true, true, true, true, true, true, false, true, false, true, false, true, true, false, true, true, false, false, false, false, false, false] rfl rfl (take_ofW HT_.out HW_.out (by kernel_rfl)) (fun _ _ _ h => h) (Or.inl ⟨by rfl, ?_⟩) hHeld ?_ ?_
    rotate_left
    ·rintro w' ⟨s0, s1, s2, s3, s4, s5, s6⟩
     go_simp
     with_reducible rfl
    rotate_left
    ·simp only [Act.put, zp1, zp2, zp3, i64_w, i32_w]
     rfl
    refine take_ (i := 8) (N := some 26) (v := ?_) (a' := ?_) #[true, true, true, true, true, true, false, true, true, true, false, true, true, false, true, true, false, false, false, false, false, false] rfl rfl (take_ofW HT_.out HW_.out (by kernel_rfl)) (fun _ _ _ h => h) (Or.inl ⟨by rfl, ?_⟩) hHeld ?_ ?_
    rotate_left
    ·rintro w' ⟨s0, s1, s2, s3, s4, s5, s6⟩
     go_simp
     with_reducible rfl
    rotate_left
    ·simp only [Act.put, zp1, zp2, zp3, i64_w, i32_w]
     rfl
    refine take_ (i := 10) (N := some 28) (v := ?_) (a' := ?_) #[true, true, true, true, true, true, false, true, true, true, true, true, true, false, true, true, false, false, false, false, false, false] rfl rfl (take_ofW HT_.out HW_.out (by kernel_rfl)) (fun _ _ _ h => h) (Or.inl ⟨by rfl, ?_⟩) hHeld ?_ ?_
    rotate_left
    ·rintro w' ⟨s0, s1, s2, s3, s4, s5, s6⟩
     go_simp
     with_reducible rfl
    rotate_left
    ·simp only [Act.put, zp1, zp2, zp3, i64_w, i32_w]
     rfl
    refine take_ (i := 13) (N := some 31) (v := ?_) (a' := ?_) #[true, true, true, true, true, true, false, true, true, true, true, true, true, true, true, true, false, false, false, false, false, false] rfl rfl (take_ofW HT_.out HW_.out (by kernel_rfl)) (fun _ _ _ h => h) (Or.inl ⟨by rfl, ?_⟩) hHeld ?_ ?_
    rotate_left
    ·rintro w' ⟨s0, s1, s2, s3, s4, s5, s6⟩
     go_simp
     with_reducible rfl
    rotate_left
    ·simp only [Act.put, zp1, zp2, zp3, i64_w, i32_w]
     rfl
    refine take_ (i := 16) (N := some 34) (v := ?_) (a' := ?_) #[true, true, true, true, true, true, false, true, true, true, true, true, true, true, true, true, true, false, false, false, false, false] rfl rfl (take_ofW HT_.out HW_.out (by kernel_rfl)) (fun _ _ _ h => h) (Or.inl ⟨by rfl, ?_⟩) hHeld ?_ ?_
    rotate_left
    ·rintro w' ⟨s0, s1, s2, s3, s4, s5, s6⟩
     go_simp
     with_reducible rfl
    rotate_left
    ·simp only [Act.put, zp1, zp2, zp3, i64_w, i32_w]
     rfl
    refine join_ (σ := Nat × Nat) 2 #[true, true, true, true, true, true, true, true, true, true, true, true, true, true, true, true, true, true, true, true, false, false] (fun s_ => [(24, .agg #[.int .i64 t179, .int .i64 t180, .int .i64 t181, .int .i64 t182]), (35, .agg #[.int .i64 t183, .int .i64 t184, .int .i64 t185, .int .i64 t186]), (6, .pointer (some ⟨s_.1, 0, none⟩)), (7, .pointer (some ⟨s_.2, 0, none⟩))]) (fun s_ w' => (w'.cell? ⟨gb175, 0, none⟩ = some (.slice A0_0 l0_0.length c0_0) ∧ w'.cell? ⟨gb175, 1, none⟩ = some (.int .i64 a0_1) ∧ w'.cell? ⟨gb175, 2, none⟩ = some (.int .i64 a0_2) ∧ w'.cell? ⟨gb175, 3, none⟩ = some (.int .i64 a0_3) ∧ w'.cell? ⟨gb175, 4, none⟩ = some (.int .i64 a0_4) ∧ w'.cell? ⟨gb175, 5, none⟩ = some (.int .i64 a0_5) ∧ w'.cell? ⟨gb175, 6, none⟩ = some (.int .i64 a0_6)) ∧ (w'.heap[gb175]? = some (.cells #[.slice A0_0 l0_0.length c0_0, .int .i64 a0_1, .int .i64 a0_2, .int .i64 a0_3, .int .i64 a0_4, .int .i64 a0_5, .int .i64 a0_6] 45 (0, 0))) ∧ (w'.heap[gb176]? = some (.cells #[.int .i64 a1_0, .int .i64 a1_1, .int .i64 a1_2, .int .i64 a1_3] 34 (0, 0))) ∧ (w'.heap[s_.1]? = some (.cells #[.int .i64 0, .int .i64 0, .int .i64 0, .int .i64 0] 34 (0, 0))) ∧ (w'.heap[s_.2]? = some (.cells #[.int .i64 0, .int .i64 0, .int .i64 0, .int .i64 0] 34 (0, 0))) ∧ (w.heap.size ≤ s_.1) ∧ (w.heap.size ≤ s_.1) ∧ (gb175 ≠ s_.1) ∧ (s_.1 ≠ gb175) ∧ (gb176 ≠ s_.1) ∧ (s_.1 ≠ gb176) ∧ (s_.2 ≠ s_.1) ∧ (s_.1 ≠ s_.2) ∧ (w.heap.size ≤ s_.2) ∧ (w.heap.size ≤ s_.2) ∧ (gb175 ≠ s_.2) ∧ (s_.2 ≠ gb175) ∧ (gb176 ≠ s_.2) ∧ (s_.2 ≠ gb176) ∧ (Below w.heap.size w w')) ?_ ?_
    rotate_left
    ·intro hJ6_17_18_19
     refine join_ (σ := Nat) 3 #[true, true, true, true, true, true, true, true, true, true, true, true, true, true, true, true, true, true, true, false, false, false] (fun s_ => [(24, .agg #[.int .i64 t179, .int .i64 t180, .int .i64 t181, .int .i64 t182]), (35, .agg #[.int .i64 t183, .int .i64 t184, .int .i64 t185, .int .i64 t186]), (6, .pointer (some ⟨s_, 0, none⟩))]) (fun s_ w' => (w'.cell? ⟨gb175, 0, none⟩ = some (.slice A0_0 l0_0.length c0_0) ∧ w'.cell? ⟨gb175, 1, none⟩ = some (.int .i64 a0_1) ∧ w'.cell? ⟨gb175, 2, none⟩ = some (.int .i64 a0_2) ∧ w'.cell? ⟨gb175, 3, none⟩ = some (.int .i64 a0_3) ∧ w'.cell? ⟨gb175, 4, none⟩ = some (.int .i64 a0_4) ∧ w'.cell? ⟨gb175, 5, none⟩ = some (.int .i64 a0_5) ∧ w'.cell? ⟨gb175, 6, none⟩ = some (.int .i64 a0_6)) ∧ (w'.heap[gb175]? = some (.cells #[.slice A0_0 l0_0.length c0_0, .int .i64 a0_1, .int .i64 a0_2, .int .i64 a0_3, .int .i64 a0_4, .int .i64 a0_5, .int .i64 a0_6] 45 (0, 0))) ∧ (w'.heap[gb176]? = some (.cells #[.int .i64 a1_0, .int .i64 a1_1, .int .i64 a1_2, .int .i64 a1_3] 34 (0, 0))) ∧ (w'.heap[s_]? = some (.cells #[.int .i64 0, .int .i64 0, .int .i64 0, .int .i64 0] 34 (0, 0))) ∧ (w.heap.size ≤ s_) ∧ (w.heap.size ≤ s_) ∧ (gb175 ≠ s_) ∧ (s_ ≠ gb175) ∧ (gb176 ≠ s_) ∧ (s_ ≠ gb176) ∧ (Below w.heap.size w w')) ?_ ?_
     rotate_left
     ·intro hJ6_17_18
      refine join_ (σ := Nat) 3 #[true, true, true, true, true, true, true, true, true, true, true, true, true, true, true, true, true, true, false, true, false, false] (fun s_ => [(24, .agg #[.int .i64 t179, .int .i64 t180, .int .i64 t181, .int .i64 t182]), (35, .agg #[.int .i64 t183, .int .i64 t184, .int .i64 t185, .int .i64 t186]), (7, .pointer (some ⟨s_, 0, none⟩))]) (fun s_ w' => (w'.cell? ⟨gb175, 0, none⟩ = some (.slice A0_0 l0_0.length c0_0) ∧ w'.cell? ⟨gb175, 1, none⟩ = some (.int .i64 a0_1) ∧ w'.cell? ⟨gb175, 2, none⟩ = some (.int .i64 a0_2) ∧ w'.cell? ⟨gb175, 3, none⟩ = some (.int .i64 a0_3) ∧ w'.cell? ⟨gb175, 4, none⟩ = some (.int .i64 a0_4) ∧ w'.cell? ⟨gb175, 5, none⟩ = some (.int .i64 a0_5) ∧ w'.cell? ⟨gb175, 6, none⟩ = some (.int .i64 a0_6)) ∧ (w'.heap[gb175]? = some (.cells #[.slice A0_0 l0_0.length c0_0, .int .i64 a0_1, .int .i64 a0_2, .int .i64 a0_3, .int .i64 a0_4, .int .i64 a0_5, .int .i64 a0_6] 45 (0, 0))) ∧ (w'.heap[gb176]? = some (.cells #[.int .i64 a1_0, .int .i64 a1_1, .int .i64 a1_2, .int .i64 a1_3] 34 (0, 0))) ∧ (w'.heap[s_]? = some (.cells #[.int .i64 0, .int .i64 0, .int .i64 0, .int .i64 0] 34 (0, 0))) ∧ (w.heap.size ≤ s_) ∧ (w.heap.size ≤ s_) ∧ (gb175 ≠ s_) ∧ (s_ ≠ gb175) ∧ (gb176 ≠ s_) ∧ (s_ ≠ gb176) ∧ (Below w.heap.size w w')) ?_ ?_
      rotate_left
      ·intro hJ6_17_19
       refine join_ (σ := Nat × Nat) 3 #[true, true, true, true, true, true, true, true, true, true, true, true, true, true, true, true, true, false, true, true, false, false] (fun s_ => [(24, .agg #[.int .i64 t179, .int .i64 t180, .int .i64 t181, .int .i64 t182]), (6, .pointer (some ⟨s_.1, 0, none⟩)), (7, .pointer (some ⟨s_.2, 0, none⟩))]) (fun s_ w' => (w'.cell? ⟨gb175, 0, none⟩ = some (.slice A0_0 l0_0.length c0_0) ∧ w'.cell? ⟨gb175, 1, none⟩ = some (.int .i64 a0_1) ∧ w'.cell? ⟨gb175, 2, none⟩ = some (.int .i64 a0_2) ∧ w'.cell? ⟨gb175, 3, none⟩ = some (.int .i64 a0_3) ∧ w'.cell? ⟨gb175, 4, none⟩ = some (.int .i64 a0_4) ∧ w'.cell? ⟨gb175, 5, none⟩ = some (.int .i64 a0_5) ∧ w'.cell? ⟨gb175, 6, none⟩ = some (.int .i64 a0_6)) ∧ (w'.heap[gb175]? = some (.cells #[.slice A0_0 l0_0.length c0_0, .int .i64 a0_1, .int .i64 a0_2, .int .i64 a0_3, .int .i64 a0_4, .int .i64 a0_5, .int .i64 a0_6] 45 (0, 0))) ∧ (w'.heap[gb176]? = some (.cells #[.int .i64 a1_0, .int .i64 a1_1, .int .i64 a1_2, .int .i64 a1_3] 34 (0, 0))) ∧ (w'.heap[s_.1]? = some (.cells #[.int .i64 0, .int .i64 0, .int .i64 0, .int .i64 0] 34 (0, 0))) ∧ (w'.heap[s_.2]? = some (.cells #[.int .i64 0, .int .i64 0, .int .i64 0, .int .i64 0] 34 (0, 0))) ∧ (w.heap.size ≤ s_.1) ∧ (w.heap.size ≤ s_.1) ∧ (gb175 ≠ s_.1) ∧ (s_.1 ≠ gb175) ∧ (gb176 ≠ s_.1) ∧ (s_.1 ≠ gb176) ∧ (s_.2 ≠ s_.1) ∧ (s_.1 ≠ s_.2) ∧ (w.heap.size ≤ s_.2) ∧ (w.heap.size ≤ s_.2) ∧ (gb175 ≠ s_.2) ∧ (s_.2 ≠ gb175) ∧ (gb176 ≠ s_.2) ∧ (s_.2 ≠ gb176) ∧ (Below w.heap.size w w')) ?_ ?_
       rotate_left
       ·intro hJ6_18_19
        refine join_ (σ := Unit) 4 #[true, true, true, true, true, true, true, true, true, true, true, true, true, true, true, true, true, true, false, false, false, false] (fun s_ => [(24, .agg #[.int .i64 t179, .int .i64 t180, .int .i64 t181, .int .i64 t182]), (35, .agg #[.int .i64 t183, .int .i64 t184, .int .i64 t185, .int .i64 t186])]) (fun s_ w' => (w'.cell? ⟨gb175, 0, none⟩ = some (.slice A0_0 l0_0.length c0_0) ∧ w'.cell? ⟨gb175, 1, none⟩ = some (.int .i64 a0_1) ∧ w'.cell? ⟨gb175, 2, none⟩ = some (.int .i64 a0_2) ∧ w'.cell? ⟨gb175, 3, none⟩ = some (.int .i64 a0_3) ∧ w'.cell? ⟨gb175, 4, none⟩ = some (.int .i64 a0_4) ∧ w'.cell? ⟨gb175, 5, none⟩ = some (.int .i64 a0_5) ∧ w'.cell? ⟨gb175, 6, none⟩ = some (.int .i64 a0_6)) ∧ (w'.heap[gb175]? = some (.cells #[.slice A0_0 l0_0.length c0_0, .int .i64 a0_1, .int .i64 a0_2, .int .i64 a0_3, .int .i64 a0_4, .int .i64 a0_5, .int .i64 a0_6] 45 (0, 0))) ∧ (w'.heap[gb176]? = some (.cells #[.int .i64 a1_0, .int .i64 a1_1, .int .i64 a1_2, .int .i64 a1_3] 34 (0, 0))) ∧ (Below w.heap.size w w')) ?_ ?_
        rotate_left
        ·intro hJ6_17
         refine join_ (σ := Nat) 4 #[true, true, true, true, true, true, true, true, true, true, true, true, true, true, true, true, true, false, true, false, false, false] (fun s_ => [(24, .agg #[.int .i64 t179, .int .i64 t180, .int .i64 t181, .int .i64 t182]), (6, .pointer (some ⟨s_, 0, none⟩))]) (fun s_ w' => (w'.cell? ⟨gb175, 0, none⟩ = some (.slice A0_0 l0_0.length c0_0) ∧ w'.cell? ⟨gb175, 1, none⟩ = some (.int .i64 a0_1) ∧ w'.cell? ⟨gb175, 2, none⟩ = some (.int .i64 a0_2) ∧ w'.cell? ⟨gb175, 3, none⟩ = some (.int .i64 a0_3) ∧ w'.cell? ⟨gb175, 4, none⟩ = some (.int .i64 a0_4) ∧ w'.cell? ⟨gb175, 5, none⟩ = some (.int .i64 a0_5) ∧ w'.cell? ⟨gb175, 6, none⟩ = some (.int .i64 a0_6)) ∧ (w'.heap[gb175]? = some (.cells #[.slice A0_0 l0_0.length c0_0, .int .i64 a0_1, .int .i64 a0_2, .int .i64 a0_3, .int .i64 a0_4, .int .i64 a0_5, .int .i64 a0_6] 45 (0, 0))) ∧ (w'.heap[gb176]? = some (.cells #[.int .i64 a1_0, .int .i64 a1_1, .int .i64 a1_2, .int .i64 a1_3] 34 (0, 0))) ∧ (w'.heap[s_]? = some (.cells #[.int .i64 0, .int .i64 0, .int .i64 0, .int .i64 0] 34 (0, 0))) ∧ (w.heap.size ≤ s_) ∧ (w.heap.size ≤ s_) ∧ (gb175 ≠ s_) ∧ (s_ ≠ gb175) ∧ (gb176 ≠ s_) ∧ (s_ ≠ gb176) ∧ (Below w.heap.size w w')) ?_ ?_
         rotate_left
         ·intro hJ6_18
          refine join_ (σ := Nat) 4 #[true, true, true, true, true, true, true, true, true, true, true, true, true, true, true, true, true, false, false, true, false, false] (fun s_ => [(24, .agg #[.int .i64 t179, .int .i64 t180, .int .i64 t181, .int .i64 t182]), (7, .pointer (some ⟨s_, 0, none⟩))]) (fun s_ w' => (w'.cell? ⟨gb175, 0, none⟩ = some (.slice A0_0 l0_0.length c0_0) ∧ w'.cell? ⟨gb175, 1, none⟩ = some (.int .i64 a0_1) ∧ w'.cell? ⟨gb175, 2, none⟩ = some (.int .i64 a0_2) ∧ w'.cell? ⟨gb175, 3, none⟩ = some (.int .i64 a0_3) ∧ w'.cell? ⟨gb175, 4, none⟩ = some (.int .i64 a0_4) ∧ w'.cell? ⟨gb175, 5, none⟩ = some (.int .i64 a0_5) ∧ w'.cell? ⟨gb175, 6, none⟩ = some (.int .i64 a0_6)) ∧ (w'.heap[gb175]? = some (.cells #[.slice A0_0 l0_0.length c0_0, .int .i64 a0_1, .int .i64 a0_2, .int .i64 a0_3, .int .i64 a0_4, .int .i64 a0_5, .int .i64 a0_6] 45 (0, 0))) ∧ (w'.heap[gb176]? = some (.cells #[.int .i64 a1_0, .int .i64 a1_1, .int .i64 a1_2, .int .i64 a1_3] 34 (0, 0))) ∧ (w'.heap[s_]? = some (.cells #[.int .i64 0, .int .i64 0, .int .i64 0, .int .i64 0] 34 (0, 0))) ∧ (w.heap.size ≤ s_) ∧ (w.heap.size ≤ s_) ∧ (gb175 ≠ s_) ∧ (s_ ≠ gb175) ∧ (gb176 ≠ s_) ∧ (s_ ≠ gb176) ∧ (Below w.heap.size w w')) ?_ ?_
          rotate_left
          ·intro hJ6_19
           refine join_ (σ := Nat × Nat) 4 #[true, true, true, true, true, true, false, true, true, true, true, true, true, true, true, true, true, false, true, true, false, false] (fun s_ => [(6, .pointer (some ⟨s_.1, 0, none⟩)), (7, .pointer (some ⟨s_.2, 0, none⟩))]) (fun s_ w' => (w'.cell? ⟨gb175, 0, none⟩ = some (.slice A0_0 l0_0.length c0_0) ∧ w'.cell? ⟨gb175, 1, none⟩ = some (.int .i64 a0_1) ∧ w'.cell? ⟨gb175, 2, none⟩ = some (.int .i64 a0_2) ∧ w'.cell? ⟨gb175, 3, none⟩ = some (.int .i64 a0_3) ∧ w'.cell? ⟨gb175, 4, none⟩ = some (.int .i64 a0_4) ∧ w'.cell? ⟨gb175, 5, none⟩ = some (.int .i64 a0_5) ∧ w'.cell? ⟨gb175, 6, none⟩ = some (.int .i64 a0_6)) ∧ (w'.heap[gb175]? = some (.cells #[.slice A0_0 l0_0.length c0_0, .int .i64 a0_1, .int .i64 a0_2, .int .i64 a0_3, .int .i64 a0_4, .int .i64 a0_5, .int .i64 a0_6] 45 (0, 0))) ∧ (w'.heap[gb176]? = some (.cells #[.int .i64 a1_0, .int .i64 a1_1, .int .i64 a1_2, .int .i64 a1_3] 34 (0, 0))) ∧ (w'.heap[s_.1]? = some (.cells #[.int .i64 0, .int .i64 0, .int .i64 0, .int .i64 0] 34 (0, 0))) ∧ (w'.heap[s_.2]? = some (.cells #[.int .i64 0, .int .i64 0, .int .i64 0, .int .i64 0] 34 (0, 0))) ∧ (w.heap.size ≤ s_.1) ∧ (w.heap.size ≤ s_.1) ∧ (gb175 ≠ s_.1) ∧ (s_.1 ≠ gb175) ∧ (gb176 ≠ s_.1) ∧ (s_.1 ≠ gb176) ∧ (s_.2 ≠ s_.1) ∧ (s_.1 ≠ s_.2) ∧ (w.heap.size ≤ s_.2) ∧ (w.heap.size ≤ s_.2) ∧ (gb175 ≠ s_.2) ∧ (s_.2 ≠ gb175) ∧ (gb176 ≠ s_.2) ∧ (s_.2 ≠ gb176) ∧ (Below w.heap.size w w')) ?_ ?_
           rotate_left
           ·intro hJ18_19
            refine join_ (σ := Unit) 5 #[true, true, true, true, true, true, true, true, true, true, true, true, true, true, true, true, true, false, false, false, false, false] (fun s_ => [(24, .agg #[.int .i64 t179, .int .i64 t180, .int .i64 t181, .int .i64 t182])]) (fun s_ w' => (w'.cell? ⟨gb175, 0, none⟩ = some (.slice A0_0 l0_0.length c0_0) ∧ w'.cell? ⟨gb175, 1, none⟩ = some (.int .i64 a0_1) ∧ w'.cell? ⟨gb175, 2, none⟩ = some (.int .i64 a0_2) ∧ w'.cell? ⟨gb175, 3, none⟩ = some (.int .i64 a0_3) ∧ w'.cell? ⟨gb175, 4, none⟩ = some (.int .i64 a0_4) ∧ w'.cell? ⟨gb175, 5, none⟩ = some (.int .i64 a0_5) ∧ w'.cell? ⟨gb175, 6, none⟩ = some (.int .i64 a0_6)) ∧ (w'.heap[gb175]? = some (.cells #[.slice A0_0 l0_0.length c0_0, .int .i64 a0_1, .int .i64 a0_2, .int .i64 a0_3, .int .i64 a0_4, .int .i64 a0_5, .int .i64 a0_6] 45 (0, 0))) ∧ (w'.heap[gb176]? = some (.cells #[.int .i64 a1_0, .int .i64 a1_1, .int .i64 a1_2, .int .i64 a1_3] 34 (0, 0))) ∧ (Below w.heap.size w w')) ?_ ?_
            rotate_left
            ·intro hJ6
             refine join_ (σ := Nat) 5 #[true, true, true, true, true, true, false, true, true, true, true, true, true, true, true, true, true, false, true, false, false, false] (fun s_ => [(6, .pointer (some ⟨s_, 0, none⟩))]) (fun s_ w' => (w'.cell? ⟨gb175, 0, none⟩ = some (.slice A0_0 l0_0.length c0_0) ∧ w'.cell? ⟨gb175, 1, none⟩ = some (.int .i64 a0_1) ∧ w'.cell? ⟨gb175, 2, none⟩ = some (.int .i64 a0_2) ∧ w'.cell? ⟨gb175, 3, none⟩ = some (.int .i64 a0_3) ∧ w'.cell? ⟨gb175, 4, none⟩ = some (.int .i64 a0_4) ∧ w'.cell? ⟨gb175, 5, none⟩ = some (.int .i64 a0_5) ∧ w'.cell? ⟨gb175, 6, none⟩ = some (.int .i64 a0_6)) ∧ (w'.heap[gb175]? = some (.cells #[.slice A0_0 l0_0.length c0_0, .int .i64 a0_1, .int .i64 a0_2, .int .i64 a0_3, .int .i64 a0_4, .int .i64 a0_5, .int .i64 a0_6] 45 (0, 0))) ∧ (w'.heap[gb176]? = some (.cells #[.int .i64 a1_0, .int .i64 a1_1, .int .i64 a1_2, .int .i64 a1_3] 34 (0, 0))) ∧ (w'.heap[s_]? = some (.cells #[.int .i64 0, .int .i64 0, .int .i64 0, .int .i64 0] 34 (0, 0))) ∧ (w.heap.size ≤ s_) ∧ (w.heap.size ≤ s_) ∧ (gb175 ≠ s_) ∧ (s_ ≠ gb175) ∧ (gb176 ≠ s_) ∧ (s_ ≠ gb176) ∧ (Below w.heap.size w w')) ?_ ?_
             rotate_left
             ·intro hJ18
              refine join_ (σ := Nat) 5 #[true, true, true, true, true, true, false, true, true, true, true, true, true, true, true, true, true, false, false, true, false, false] (fun s_ => [(7, .pointer (some ⟨s_, 0, none⟩))]) (fun s_ w' => (w'.cell? ⟨gb175, 0, none⟩ = some (.slice A0_0 l0_0.length c0_0) ∧ w'.cell? ⟨gb175, 1, none⟩ = some (.int .i64 a0_1) ∧ w'.cell? ⟨gb175, 2, none⟩ = some (.int .i64 a0_2) ∧ w'.cell? ⟨gb175, 3, none⟩ = some (.int .i64 a0_3) ∧ w'.cell? ⟨gb175, 4, none⟩ = some (.int .i64 a0_4) ∧ w'.cell? ⟨gb175, 5, none⟩ = some (.int .i64 a0_5) ∧ w'.cell? ⟨gb175, 6, none⟩ = some (.int .i64 a0_6)) ∧ (w'.heap[gb175]? = some (.cells #[.slice A0_0 l0_0.length c0_0, .int .i64 a0_1, .int .i64 a0_2, .int .i64 a0_3, .int .i64 a0_4, .int .i64 a0_5, .int .i64 a0_6] 45 (0, 0))) ∧ (w'.heap[gb176]? = some (.cells #[.int .i64 a1_0, .int .i64 a1_1, .int .i64 a1_2, .int .i64 a1_3] 34 (0, 0))) ∧ (w'.heap[s_]? = some (.cells #[.int .i64 0, .int .i64 0, .int .i64 0, .int .i64 0] 34 (0, 0))) ∧ (w.heap.size ≤ s_) ∧ (w.heap.size ≤ s_) ∧ (gb175 ≠ s_) ∧ (s_ ≠ gb175) ∧ (gb176 ≠ s_) ∧ (s_ ≠ gb176) ∧ (Below w.heap.size w w')) ?_ ?_
              rotate_left
              ·intro hJ19
               refine three_ (i := 6) (j := 18) (k := 19) (Ni := some 24) (Nj := some 6) (Nk := some 7) #[true, true, true, true, true, true, true, true, true, true, true, true, true, true, true, true, true, false, false, false, false, false] #[true, true, true, true, true, true, false, true, true, true, true, true, true, true, true, true, true, false, true, false, false, false] #[true, true, true, true, true, true, false, true, true, true, true, true, true, true, true, true, true, false, false, true, false, false] rfl rfl rfl rfl rfl rfl (three_of HT_.out (by kernel_rfl)) (by decide) (by decide) (by decide) (fun K hK => ?_) (fun K hK => ?_) (fun K hK => ?_)
               ·skip
                refine goes_ Try.func70 (by kernel_rfl) rfl #[.agg #[.int .i64 a0_1, .int .i64 a0_2, .int .i64 a0_3, .int .i64 a0_4], .int .i64 0, .int .i64 a0_5, .int .i64 a0_5] (by rfl) rfl rfl (by (try simp only [List.map_toArray, List.map_cons, List.map_nil]); first | done | rfl | (simp only [List.length_drop, List.length_take]; rfl)) ?_
                with_reducible refine (spec_l2Slice.calls a0_1 a0_2 a0_3 a0_4 0 a0_5 a0_5 t179 t180 t181 t182 _ A19.out).mono ?_
                rintro e w24 ⟨rfl, hb⟩
                refine ⟨_, rfl, ?_⟩
                replace BK175 := zb0 BK175 hb
                replace BK176 := zb0 BK176 hb
                replace HB := zhs HB hb
                (try clear hb)
                (try clear hb2)
                (try clear hk)
                (try clear hi)
                refine hK.out _ _ ⟨zc0 BK175 0 rfl, zc0 BK175 1 rfl, zc0 BK175 2 rfl, zc0 BK175 3 rfl, zc0 BK175 4 rfl, zc0 BK175 5 rfl, zc0 BK175 6 rfl⟩ (fun hHeld => ?_)
                clear hK K
                refine norm_ (a' := ?_) ?_ ?_
                rotate_left
                ·show Act.put _ (some 24) _ = _
                 simp only [Act.put, zp1, zp2, zp3, i64_w, i32_w]
                 rfl
                exact norm_ (by simp only [putAll, Act.put, zp1, zp2, zp3]; first | done | rfl) (hJ6 () _ ⟨hHeld, (zk0 BK175), (zk0 BK176), (zh0 HB)⟩)
               ·skip
                refine box_step ?hg (N := 6) ?hd (cs := #[.int .i64 0, .int .i64 0, .int .i64 0, .int .i64 0]) (t := 34) ?hr ?_; (case hd => rfl); (case hg => rfl); (case hr => first | (go_simp; done) | (go_simp; rfl))
                intro gb187 hg w24 hbox hb
                have BK187 := Aside0.mk (hbox)
                have GW187 := zge HB hg
                have GE187 := zge HB hg
                have NB175_187 := znl BK175 hg
                have NB187_175 := znr BK175 hg
                have NB176_187 := znl BK176 hg
                have NB187_176 := znr BK176 hg
                replace BK175 := zb0 BK175 hb
                replace BK176 := zb0 BK176 hb
                replace HB := zhs HB hb
                clear hb hbox hg
                refine hK.out _ _ ⟨zc0 BK175 0 rfl, zc0 BK175 1 rfl, zc0 BK175 2 rfl, zc0 BK175 3 rfl, zc0 BK175 4 rfl, zc0 BK175 5 rfl, zc0 BK175 6 rfl⟩ (fun hHeld => ?_)
                clear hK K
                refine norm_ (a' := ?_) ?_ ?_
                rotate_left
                ·show Act.put _ (some 6) _ = _
                 simp only [Act.put, zp1, zp2, zp3, i64_w, i32_w]
                 rfl
                exact norm_ (by simp only [putAll, Act.put, zp1, zp2, zp3]; first | done | rfl) (hJ18 (gb187) _ ⟨hHeld, (zk0 BK175), (zk0 BK176), (zk0 BK187), GW187.out, GE187.out, NB175_187.out, NB187_175.out, NB176_187.out, NB187_176.out, (zh0 HB)⟩)
               ·skip
                refine box_step ?hg (N := 7) ?hd (cs := #[.int .i64 0, .int .i64 0, .int .i64 0, .int .i64 0]) (t := 34) ?hr ?_; (case hd => rfl); (case hg => rfl); (case hr => first | (go_simp; done) | (go_simp; rfl))
                intro gb188 hg w24 hbox hb
                have BK188 := Aside0.mk (hbox)
                have GW188 := zge HB hg
                have GE188 := zge HB hg
                have NB175_188 := znl BK175 hg
                have NB188_175 := znr BK175 hg
                have NB176_188 := znl BK176 hg
                have NB188_176 := znr BK176 hg
                replace BK175 := zb0 BK175 hb
                replace BK176 := zb0 BK176 hb
                replace HB := zhs HB hb
                clear hb hbox hg
                refine hK.out _ _ ⟨zc0 BK175 0 rfl, zc0 BK175 1 rfl, zc0 BK175 2 rfl, zc0 BK175 3 rfl, zc0 BK175 4 rfl, zc0 BK175 5 rfl, zc0 BK175 6 rfl⟩ (fun hHeld => ?_)
                clear hK K
                refine norm_ (a' := ?_) ?_ ?_
                rotate_left
                ·show Act.put _ (some 7) _ = _
                 simp only [Act.put, zp1, zp2, zp3, i64_w, i32_w]
                 rfl
                exact norm_ (by simp only [putAll, Act.put, zp1, zp2, zp3]; first | done | rfl) (hJ19 (gb188) _ ⟨hHeld, (zk0 BK175), (zk0 BK176), (zk0 BK188), GW188.out, GE188.out, NB175_188.out, NB188_175.out, NB176_188.out, NB188_176.out, (zh0 HB)⟩)
              ·skip
               rintro gb188 w25 ⟨hS_, h0_, h1_, h2_, h3_, h4_, h5_, h6_, h7_, h8_, h9_⟩
               try dsimp only at hS_ h0_ h1_ h2_ h3_ h4_ h5_ h6_ h7_ h8_ h9_
               have BK188 := Aside0.mk h2_
               have GW188 := Aside0.mk h3_
               have GE188 := Aside0.mk h4_
               have NB175_188 := Aside0.mk h5_
               have NB188_175 := Aside0.mk h6_
               have NB176_188 := Aside0.mk h7_
               have NB188_176 := Aside0.mk h8_
               replace BK175 := Aside0.mk h0_
               replace BK176 := Aside0.mk h1_
               replace HB := Aside0.mk h9_
               clear h0_ h1_ h2_ h3_ h4_ h5_ h6_ h7_ h8_ h9_
               have hHeld := hS_
               refine norm_ (a' := ?_) ?_ ?_
               rotate_left
               ·simp only [putAll, Act.put, zp1, zp2, zp3]
                rfl
               refine two_ (i := 6) (j := 18) (Ni := some 24) (Nj := some 6) #[true, true, true, true, true, true, true, true, true, true, true, true, true, true, true, true, true, false, false, true, false, false] #[true, true, true, true, true, true, false, true, true, true, true, true, true, true, true, true, true, false, true, true, false, false] rfl rfl rfl rfl (two_of HT_.out (by kernel_rfl)) (by decide) (by decide) (fun K hK => ?_) (fun K hK => ?_)
               ·skip
                refine goes_ Try.func70 (by kernel_rfl) rfl #[.agg #[.int .i64 a0_1, .int .i64 a0_2, .int .i64 a0_3, .int .i64 a0_4], .int .i64 0, .int .i64 a0_5, .int .i64 a0_5] (by rfl) rfl rfl (by (try simp only [List.map_toArray, List.map_cons, List.map_nil]); first | done | rfl | (simp only [List.length_drop, List.length_take]; rfl)) ?_
                with_reducible refine (spec_l2Slice.calls a0_1 a0_2 a0_3 a0_4 0 a0_5 a0_5 t179 t180 t181 t182 _ A19.out).mono ?_
                rintro e w26 ⟨rfl, hb⟩
                refine ⟨_, rfl, ?_⟩
                replace BK175 := zb0 BK175 hb
                replace BK176 := zb0 BK176 hb
                replace BK188 := zb0 BK188 hb
                replace HB := zhs HB hb
                (try clear hb)
                (try clear hb2)
                (try clear hk)
                (try clear hi)
                refine hK.out _ _ ⟨zc0 BK175 0 rfl, zc0 BK175 1 rfl, zc0 BK175 2 rfl, zc0 BK175 3 rfl, zc0 BK175 4 rfl, zc0 BK175 5 rfl, zc0 BK175 6 rfl⟩ (fun hHeld => ?_)
                clear hK K
                refine norm_ (a' := ?_) ?_ ?_
                rotate_left
                ·show Act.put _ (some 24) _ = _
                 simp only [Act.put, zp1, zp2, zp3, i64_w, i32_w]
                 rfl
                exact norm_ (by simp only [putAll, Act.put, zp1, zp2, zp3]; first | done | rfl) (hJ6_19 (gb188) _ ⟨hHeld, (zk0 BK175), (zk0 BK176), (zk0 BK188), GW188.out, GE188.out, NB175_188.out, NB188_175.out, NB176_188.out, NB188_176.out, (zh0 HB)⟩)
               ·skip
                refine box_step ?hg (N := 6) ?hd (cs := #[.int .i64 0, .int .i64 0, .int .i64 0, .int .i64 0]) (t := 34) ?hr ?_; (case hd => rfl); (case hg => rfl); (case hr => first | (go_simp; done) | (go_simp; rfl))
                intro gb187 hg w26 hbox hb
                have BK187 := Aside0.mk (hbox)
                have GW187 := zge HB hg
                have GE187 := zge HB hg
                have NB175_187 := znl BK175 hg
                have NB187_175 := znr BK175 hg
                have NB176_187 := znl BK176 hg
                have NB187_176 := znr BK176 hg
                have NB188_187 := znl BK188 hg
                have NB187_188 := znr BK188 hg
                replace BK175 := zb0 BK175 hb
                replace BK176 := zb0 BK176 hb
                replace BK188 := zb0 BK188 hb
                replace HB := zhs HB hb
                clear hb hbox hg
                refine hK.out _ _ ⟨zc0 BK175 0 rfl, zc0 BK175 1 rfl, zc0 BK175 2 rfl, zc0 BK175 3 rfl, zc0 BK175 4 rfl, zc0 BK175 5 rfl, zc0 BK175 6 rfl⟩ (fun hHeld => ?_)
                clear hK K
                refine norm_ (a' := ?_) ?_ ?_
                rotate_left
                ·show Act.put _ (some 6) _ = _
                 simp only [Act.put, zp1, zp2, zp3, i64_w, i32_w]
                 rfl
                exact norm_ (by simp only [putAll, Act.put, zp1, zp2, zp3]; first | done | rfl) (hJ18_19 (gb187, gb188) _ ⟨hHeld, (zk0 BK175), (zk0 BK176), (zk0 BK187), (zk0 BK188), GW187.out, GE187.out, NB175_187.out, NB187_175.out, NB176_187.out, NB187_176.out, NB188_187.out, NB187_188.out, GW188.out, GE188.out, NB175_188.out, NB188_175.out, NB176_188.out, NB188_176.out, (zh0 HB)⟩)
             ·skip
              rintro gb187 w25 ⟨hS_, h0_, h1_, h2_, h3_, h4_, h5_, h6_, h7_, h8_, h9_⟩
              try dsimp only at hS_ h0_ h1_ h2_ h3_ h4_ h5_ h6_ h7_ h8_ h9_
              have BK187 := Aside0.mk h2_
              have GW187 := Aside0.mk h3_
              have GE187 := Aside0.mk h4_
              have NB175_187 := Aside0.mk h5_
              have NB187_175 := Aside0.mk h6_
              have NB176_187 := Aside0.mk h7_
              have NB187_176 := Aside0.mk h8_
              replace BK175 := Aside0.mk h0_
              replace BK176 := Aside0.mk h1_
              replace HB := Aside0.mk h9_
              clear h0_ h1_ h2_ h3_ h4_ h5_ h6_ h7_ h8_ h9_
              have hHeld := hS_
              refine norm_ (a' := ?_) ?_ ?_
              rotate_left
              ·simp only [putAll, Act.put, zp1, zp2, zp3]
               rfl
              refine two_ (i := 6) (j := 19) (Ni := some 24) (Nj := some 7) #[true, true, true, true, true, true, true, true, true, true, true, true, true, true, true, true, true, false, true, false, false, false] #[true, true, true, true, true, true, false, true, true, true, true, true, true, true, true, true, true, false, true, true, false, false] rfl rfl rfl rfl (two_of HT_.out (by kernel_rfl)) (by decide) (by decide) (fun K hK => ?_) (fun K hK => ?_)
              ·skip
               refine goes_ Try.func70 (by kernel_rfl) rfl #[.agg #[.int .i64 a0_1, .int .i64 a0_2, .int .i64 a0_3, .int .i64 a0_4], .int .i64 0, .int .i64 a0_5, .int .i64 a0_5] (by rfl) rfl rfl (by (try simp only [List.map_toArray, List.map_cons, List.map_nil]); first | done | rfl | (simp only [List.length_drop, List.length_take]; rfl)) ?_
               with_reducible refine (spec_l2Slice.calls a0_1 a0_2 a0_3 a0_4 0 a0_5 a0_5 t179 t180 t181 t182 _ A19.out).mono ?_
               rintro e w26 ⟨rfl, hb⟩
               refine ⟨_, rfl, ?_⟩
               replace BK175 := zb0 BK175 hb
               replace BK176 := zb0 BK176 hb
               replace BK187 := zb0 BK187 hb
               replace HB := zhs HB hb
               (try clear hb)
               (try clear hb2)
               (try clear hk)
               (try clear hi)
               refine hK.out _ _ ⟨zc0 BK175 0 rfl, zc0 BK175 1 rfl, zc0 BK175 2 rfl, zc0 BK175 3 rfl, zc0 BK175 4 rfl, zc0 BK175 5 rfl, zc0 BK175 6 rfl⟩ (fun hHeld => ?_)
               clear hK K
               refine norm_ (a' := ?_) ?_ ?_
               rotate_left
               ·show Act.put _ (some 24) _ = _
                simp only [Act.put, zp1, zp2, zp3, i64_w, i32_w]
                rfl
               exact norm_ (by simp only [putAll, Act.put, zp1, zp2, zp3]; first | done | rfl) (hJ6_18 (gb187) _ ⟨hHeld, (zk0 BK175), (zk0 BK176), (zk0 BK187), GW187.out, GE187.out, NB175_187.out, NB187_175.out, NB176_187.out, NB187_176.out, (zh0 HB)⟩)
              ·skip
               refine box_step ?hg (N := 7) ?hd (cs := #[.int .i64 0, .int .i64 0, .int .i64 0, .int .i64 0]) (t := 34) ?hr ?_; (case hd => rfl); (case hg => rfl); (case hr => first | (go_simp; done) | (go_simp; rfl))
               intro gb188 hg w26 hbox hb
               have BK188 := Aside0.mk (hbox)
               have GW188 := zge HB hg
               have GE188 := zge HB hg
               have NB175_188 := znl BK175 hg
               have NB188_175 := znr BK175 hg
               have NB176_188 := znl BK176 hg
               have NB188_176 := znr BK176 hg
               have NB187_188 := znl BK187 hg
               have NB188_187 := znr BK187 hg
               replace BK175 := zb0 BK175 hb
               replace BK176 := zb0 BK176 hb
               replace BK187 := zb0 BK187 hb
               replace HB := zhs HB hb
               clear hb hbox hg
               refine hK.out _ _ ⟨zc0 BK175 0 rfl, zc0 BK175 1 rfl, zc0 BK175 2 rfl, zc0 BK175 3 rfl, zc0 BK175 4 rfl, zc0 BK175 5 rfl, zc0 BK175 6 rfl⟩ (fun hHeld => ?_)
               clear hK K
               refine norm_ (a' := ?_) ?_ ?_
               rotate_left
               ·show Act.put _ (some 7) _ = _
                simp only [Act.put, zp1, zp2, zp3, i64_w, i32_w]
                rfl
               exact norm_ (by simp only [putAll, Act.put, zp1, zp2, zp3]; first | done | rfl) (hJ18_19 (gb187, gb188) _ ⟨hHeld, (zk0 BK175), (zk0 BK176), (zk0 BK187), (zk0 BK188), GW187.out, GE187.out, NB175_187.out, NB187_175.out, NB176_187.out, NB187_176.out, NB188_187.out, NB187_188.out, GW188.out, GE188.out, NB175_188.out, NB188_175.out, NB176_188.out, NB188_176.out, (zh0 HB)⟩)
            ·skip
             rintro _ w25 ⟨hS_, h0_, h1_, h2_⟩
             try dsimp only at hS_ h0_ h1_ h2_
             replace BK175 := Aside0.mk h0_
             replace BK176 := Aside0.mk h1_
             replace HB := Aside0.mk h2_
             clear h0_ h1_ h2_
             have hHeld := hS_
             refine norm_ (a' := ?_) ?_ ?_
             rotate_left
             ·simp only [putAll, Act.put, zp1, zp2, zp3]
              rfl
             refine three_ (i := 17) (j := 18) (k := 19) (Ni := some 35) (Nj := some 6) (Nk := some 7) #[true, true, true, true, true, true, true, true, true, true, true, true, true, true, true, true, true, true, false, false, false, false] #[true, true, true, true, true, true, true, true, true, true, true, true, true, true, true, true, true, false, true, false, false, false] #[true, true, true, true, true, true, true, true, true, true, true, true, true, true, true, true, true, false, false, true, false, false] rfl rfl rfl rfl rfl rfl (three_of HT_.out (by kernel_rfl)) (by decide) (by decide) (by decide) (fun K hK => ?_) (fun K hK => ?_) (fun K hK => ?_)
             ·skip
              refine goes_ Try.func70 (by kernel_rfl) rfl #[.agg #[.int .i64 a0_1, .int .i64 a0_2, .int .i64 a0_3, .int .i64 a0_4], .int .i64 a0_6, .int .i64 a0_3, .int .i64 a0_3] (by rfl) rfl rfl (by (try simp only [List.map_toArray, List.map_cons, List.map_nil]); first | done | rfl | (simp only [List.length_drop, List.length_take]; rfl)) ?_
              with_reducible refine (spec_l2Slice.calls a0_1 a0_2 a0_3 a0_4 a0_6 a0_3 a0_3 t183 t184 t185 t186 _ A20.out).mono ?_
              rintro e w26 ⟨rfl, hb⟩
              refine ⟨_, rfl, ?_⟩
              replace BK175 := zb0 BK175 hb
              replace BK176 := zb0 BK176 hb
              replace HB := zhs HB hb
              (try clear hb)
              (try clear hb2)
              (try clear hk)
              (try clear hi)
              refine hK.out _ _ ⟨zc0 BK175 0 rfl, zc0 BK175 1 rfl, zc0 BK175 2 rfl, zc0 BK175 3 rfl, zc0 BK175 4 rfl, zc0 BK175 5 rfl, zc0 BK175 6 rfl⟩ (fun hHeld => ?_)
              clear hK K
              refine norm_ (a' := ?_) ?_ ?_
              rotate_left
              ·show Act.put _ (some 35) _ = _
               simp only [Act.put, zp1, zp2, zp3, i64_w, i32_w]
               rfl
              exact norm_ (by simp only [putAll, Act.put, zp1, zp2, zp3]; first | done | rfl) (hJ6_17 () _ ⟨hHeld, (zk0 BK175), (zk0 BK176), (zh0 HB)⟩)
             ·skip
              refine box_step ?hg (N := 6) ?hd (cs := #[.int .i64 0, .int .i64 0, .int .i64 0, .int .i64 0]) (t := 34) ?hr ?_; (case hd => rfl); (case hg => rfl); (case hr => first | (go_simp; done) | (go_simp; rfl))
              intro gb187 hg w26 hbox hb
              have BK187 := Aside0.mk (hbox)
              have GW187 := zge HB hg
              have GE187 := zge HB hg
              have NB175_187 := znl BK175 hg
              have NB187_175 := znr BK175 hg
              have NB176_187 := znl BK176 hg
              have NB187_176 := znr BK176 hg
              replace BK175 := zb0 BK175 hb
              replace BK176 := zb0 BK176 hb
              replace HB := zhs HB hb
              clear hb hbox hg
              refine hK.out _ _ ⟨zc0 BK175 0 rfl, zc0 BK175 1 rfl, zc0 BK175 2 rfl, zc0 BK175 3 rfl, zc0 BK175 4 rfl, zc0 BK175 5 rfl, zc0 BK175 6 rfl⟩ (fun hHeld => ?_)
              clear hK K
              refine norm_ (a' := ?_) ?_ ?_
              rotate_left
              ·show Act.put _ (some 6) _ = _
               simp only [Act.put, zp1, zp2, zp3, i64_w, i32_w]
               rfl
              exact norm_ (by simp only [putAll, Act.put, zp1, zp2, zp3]; first | done | rfl) (hJ6_18 (gb187) _ ⟨hHeld, (zk0 BK175), (zk0 BK176), (zk0 BK187), GW187.out, GE187.out, NB175_187.out, NB187_175.out, NB176_187.out, NB187_176.out, (zh0 HB)⟩)
             ·skip
              refine box_step ?hg (N := 7) ?hd (cs := #[.int .i64 0, .int .i64 0, .int .i64 0, .int .i64 0]) (t := 34) ?hr ?_; (case hd => rfl); (case hg => rfl); (case hr => first | (go_simp; done) | (go_simp; rfl))
              intro gb188 hg w26 hbox hb
              have BK188 := Aside0.mk (hbox)
              have GW188 := zge HB hg
              have GE188 := zge HB hg
              have NB175_188 := znl BK175 hg
              have NB188_175 := znr BK175 hg
              have NB176_188 := znl BK176 hg
              have NB188_176 := znr BK176 hg
              replace BK175 := zb0 BK175 hb
              replace BK176 := zb0 BK176 hb
              replace HB := zhs HB hb
              clear hb hbox hg
              refine hK.out _ _ ⟨zc0 BK175 0 rfl, zc0 BK175 1 rfl, zc0 BK175 2 rfl, zc0 BK175 3 rfl, zc0 BK175 4 rfl, zc0 BK175 5 rfl, zc0 BK175 6 rfl⟩ (fun hHeld => ?_)
              clear hK K
              refine norm_ (a' := ?_) ?_ ?_
              rotate_left
              ·show Act.put _ (some 7) _ = _
               simp only [Act.put, zp1, zp2, zp3, i64_w, i32_w]
               rfl
              exact norm_ (by simp only [putAll, Act.put, zp1, zp2, zp3]; first | done | rfl) (hJ6_19 (gb188) _ ⟨hHeld, (zk0 BK175), (zk0 BK176), (zk0 BK188), GW188.out, GE188.out, NB175_188.out, NB188_175.out, NB176_188.out, NB188_176.out, (zh0 HB)⟩)
           ·skip
            rintro ⟨gb187, gb188⟩ w26 ⟨hS_, h0_, h1_, h2_, h3_, h4_, h5_, h6_, h7_, h8_, h9_, h10_, h11_, h12_, h13_, h14_, h15_, h16_, h17_, h18_⟩
            try dsimp only at hS_ h0_ h1_ h2_ h3_ h4_ h5_ h6_ h7_ h8_ h9_ h10_ h11_ h12_ h13_ h14_ h15_ h16_ h17_ h18_
            have BK187 := Aside0.mk h2_
            have BK188 := Aside0.mk h3_
            have GW187 := Aside0.mk h4_
            have GE187 := Aside0.mk h5_
            have NB175_187 := Aside0.mk h6_
            have NB187_175 := Aside0.mk h7_
            have NB176_187 := Aside0.mk h8_
            have NB187_176 := Aside0.mk h9_
            have NB188_187 := Aside0.mk h10_
            have NB187_188 := Aside0.mk h11_
            have GW188 := Aside0.mk h12_
            have GE188 := Aside0.mk h13_
            have NB175_188 := Aside0.mk h14_
            have NB188_175 := Aside0.mk h15_
            have NB176_188 := Aside0.mk h16_
            have NB188_176 := Aside0.mk h17_
            replace BK175 := Aside0.mk h0_
            replace BK176 := Aside0.mk h1_
            replace HB := Aside0.mk h18_
            clear h0_ h1_ h2_ h3_ h4_ h5_ h6_ h7_ h8_ h9_ h10_ h11_ h12_ h13_ h14_ h15_ h16_ h17_ h18_
            have hHeld := hS_
            refine norm_ (a' := ?_) ?_ ?_
            rotate_left
            ·simp only [putAll, Act.put, zp1, zp2, zp3]
             rfl
            refine one_ (i := 6) (N := some 24) #[true, true, true, true, true, true, true, true, true, true, true, true, true, true, true, true, true, false, true, true, false, false] rfl rfl (one_of HT_.out (by kernel_rfl)) (by decide) (fun K hK => ?_)
            refine goes_ Try.func70 (by kernel_rfl) rfl #[.agg #[.int .i64 a0_1, .int .i64 a0_2, .int .i64 a0_3, .int .i64 a0_4], .int .i64 0, .int .i64 a0_5, .int .i64 a0_5] (by rfl) rfl rfl (by (try simp only [List.map_toArray, List.map_cons, List.map_nil]); first | done | rfl | (simp only [List.length_drop, List.length_take]; rfl)) ?_
            with_reducible refine (spec_l2Slice.calls a0_1 a0_2 a0_3 a0_4 0 a0_5 a0_5 t179 t180 t181 t182 _ A19.out).mono ?_
            rintro e w27 ⟨rfl, hb⟩
            refine ⟨_, rfl, ?_⟩
            replace BK175 := zb0 BK175 hb
            replace BK176 := zb0 BK176 hb
            replace BK187 := zb0 BK187 hb
            replace BK188 := zb0 BK188 hb
            replace HB := zhs HB hb
            (try clear hb)
            (try clear hb2)
            (try clear hk)
            (try clear hi)
            refine hK.out _ _ ⟨zc0 BK175 0 rfl, zc0 BK175 1 rfl, zc0 BK175 2 rfl, zc0 BK175 3 rfl, zc0 BK175 4 rfl, zc0 BK175 5 rfl, zc0 BK175 6 rfl⟩ (fun hHeld => ?_)
            clear hK K
            refine norm_ (a' := ?_) ?_ ?_
            rotate_left
            ·show Act.put _ (some 24) _ = _
             simp only [Act.put, zp1, zp2, zp3, i64_w, i32_w]
             rfl
            exact norm_ (by simp only [putAll, Act.put, zp1, zp2, zp3]; first | done | rfl) (hJ6_18_19 (gb187, gb188) _ ⟨hHeld, (zk0 BK175), (zk0 BK176), (zk0 BK187), (zk0 BK188), GW187.out, GE187.out, NB175_187.out, NB187_175.out, NB176_187.out, NB187_176.out, NB188_187.out, NB187_188.out, GW188.out, GE188.out, NB175_188.out, NB188_175.out, NB176_188.out, NB188_176.out, (zh0 HB)⟩)
          ·skip
           rintro gb188 w26 ⟨hS_, h0_, h1_, h2_, h3_, h4_, h5_, h6_, h7_, h8_, h9_⟩
           try dsimp only at hS_ h0_ h1_ h2_ h3_ h4_ h5_ h6_ h7_ h8_ h9_
           have BK188 := Aside0.mk h2_
           have GW188 := Aside0.mk h3_
           have GE188 := Aside0.mk h4_
           have NB175_188 := Aside0.mk h5_
           have NB188_175 := Aside0.mk h6_
           have NB176_188 := Aside0.mk h7_
           have NB188_176 := Aside0.mk h8_
           replace BK175 := Aside0.mk h0_
           replace BK176 := Aside0.mk h1_
           replace HB := Aside0.mk h9_
           clear h0_ h1_ h2_ h3_ h4_ h5_ h6_ h7_ h8_ h9_
           have hHeld := hS_
           refine norm_ (a' := ?_) ?_ ?_
           rotate_left
           ·simp only [putAll, Act.put, zp1, zp2, zp3]
            rfl
           refine two_ (i := 17) (j := 18) (Ni := some 35) (Nj := some 6) #[true, true, true, true, true, true, true, true, true, true, true, true, true, true, true, true, true, true, false, true, false, false] #[true, true, true, true, true, true, true, true, true, true, true, true, true, true, true, true, true, false, true, true, false, false] rfl rfl rfl rfl (two_of HT_.out (by kernel_rfl)) (by decide) (by decide) (fun K hK => ?_) (fun K hK => ?_)
           ·skip
            refine goes_ Try.func70 (by kernel_rfl) rfl #[.agg #[.int .i64 a0_1, .int .i64 a0_2, .int .i64 a0_3, .int .i64 a0_4], .int .i64 a0_6, .int .i64 a0_3, .int .i64 a0_3] (by rfl) rfl rfl (by (try simp only [List.map_toArray, List.map_cons, List.map_nil]); first | done | rfl | (simp only [List.length_drop, List.length_take]; rfl)) ?_
            with_reducible refine (spec_l2Slice.calls a0_1 a0_2 a0_3 a0_4 a0_6 a0_3 a0_3 t183 t184 t185 t186 _ A20.out).mono ?_
            rintro e w27 ⟨rfl, hb⟩
            refine ⟨_, rfl, ?_⟩
            replace BK175 := zb0 BK175 hb
            replace BK176 := zb0 BK176 hb
            replace BK188 := zb0 BK188 hb
            replace HB := zhs HB hb
            (try clear hb)
            (try clear hb2)
            (try clear hk)
            (try clear hi)
            refine hK.out _ _ ⟨zc0 BK175 0 rfl, zc0 BK175 1 rfl, zc0 BK175 2 rfl, zc0 BK175 3 rfl, zc0 BK175 4 rfl, zc0 BK175 5 rfl, zc0 BK175 6 rfl⟩ (fun hHeld => ?_)
            clear hK K
            refine norm_ (a' := ?_) ?_ ?_
            rotate_left
            ·show Act.put _ (some 35) _ = _
             simp only [Act.put, zp1, zp2, zp3, i64_w, i32_w]
             rfl
            exact norm_ (by simp only [putAll, Act.put, zp1, zp2, zp3]; first | done | rfl) (hJ6_17_19 (gb188) _ ⟨hHeld, (zk0 BK175), (zk0 BK176), (zk0 BK188), GW188.out, GE188.out, NB175_188.out, NB188_175.out, NB176_188.out, NB188_176.out, (zh0 HB)⟩)
           ·skip
            refine box_step ?hg (N := 6) ?hd (cs := #[.int .i64 0, .int .i64 0, .int .i64 0, .int .i64 0]) (t := 34) ?hr ?_; (case hd => rfl); (case hg => rfl); (case hr => first | (go_simp; done) | (go_simp; rfl))
            intro gb187 hg w27 hbox hb
            have BK187 := Aside0.mk (hbox)
            have GW187 := zge HB hg
            have GE187 := zge HB hg
            have NB175_187 := znl BK175 hg
            have NB187_175 := znr BK175 hg
            have NB176_187 := znl BK176 hg
            have NB187_176 := znr BK176 hg
            have NB188_187 := znl BK188 hg
            have NB187_188 := znr BK188 hg
            replace BK175 := zb0 BK175 hb
            replace BK176 := zb0 BK176 hb
            replace BK188 := zb0 BK188 hb
            replace HB := zhs HB hb
            clear hb hbox hg
            refine hK.out _ _ ⟨zc0 BK175 0 rfl, zc0 BK175 1 rfl, zc0 BK175 2 rfl, zc0 BK175 3 rfl, zc0 BK175 4 rfl, zc0 BK175 5 rfl, zc0 BK175 6 rfl⟩ (fun hHeld => ?_)
            clear hK K
            refine norm_ (a' := ?_) ?_ ?_
            rotate_left
            ·show Act.put _ (some 6) _ = _
             simp only [Act.put, zp1, zp2, zp3, i64_w, i32_w]
             rfl
            exact norm_ (by simp only [putAll, Act.put, zp1, zp2, zp3]; first | done | rfl) (hJ6_18_19 (gb187, gb188) _ ⟨hHeld, (zk0 BK175), (zk0 BK176), (zk0 BK187), (zk0 BK188), GW187.out, GE187.out, NB175_187.out, NB187_175.out, NB176_187.out, NB187_176.out, NB188_187.out, NB187_188.out, GW188.out, GE188.out, NB175_188.out, NB188_175.out, NB176_188.out, NB188_176.out, (zh0 HB)⟩)
         ·skip
          rintro gb187 w26 ⟨hS_, h0_, h1_, h2_, h3_, h4_, h5_, h6_, h7_, h8_, h9_⟩
          try dsimp only at hS_ h0_ h1_ h2_ h3_ h4_ h5_ h6_ h7_ h8_ h9_
          have BK187 := Aside0.mk h2_
          have GW187 := Aside0.mk h3_
          have GE187 := Aside0.mk h4_
          have NB175_187 := Aside0.mk h5_
          have NB187_175 := Aside0.mk h6_
          have NB176_187 := Aside0.mk h7_
          have NB187_176 := Aside0.mk h8_
          replace BK175 := Aside0.mk h0_
          replace BK176 := Aside0.mk h1_
          replace HB := Aside0.mk h9_
          clear h0_ h1_ h2_ h3_ h4_ h5_ h6_ h7_ h8_ h9_
          have hHeld := hS_
          refine norm_ (a' := ?_) ?_ ?_
          rotate_left
          ·simp only [putAll, Act.put, zp1, zp2, zp3]
           rfl
          refine two_ (i := 17) (j := 19) (Ni := some 35) (Nj := some 7) #[true, true, true, true, true, true, true, true, true, true, true, true, true, true, true, true, true, true, true, false, false, false] #[true, true, true, true, true, true, true, true, true, true, true, true, true, true, true, true, true, false, true, true, false, false] rfl rfl rfl rfl (two_of HT_.out (by kernel_rfl)) (by decide) (by decide) (fun K hK => ?_) (fun K hK => ?_)
          ·skip
           refine goes_ Try.func70 (by kernel_rfl) rfl #[.agg #[.int .i64 a0_1, .int .i64 a0_2, .int .i64 a0_3, .int .i64 a0_4], .int .i64 a0_6, .int .i64 a0_3, .int .i64 a0_3] (by rfl) rfl rfl (by (try simp only [List.map_toArray, List.map_cons, List.map_nil]); first | done | rfl | (simp only [List.length_drop, List.length_take]; rfl)) ?_
           with_reducible refine (spec_l2Slice.calls a0_1 a0_2 a0_3 a0_4 a0_6 a0_3 a0_3 t183 t184 t185 t186 _ A20.out).mono ?_
           rintro e w27 ⟨rfl, hb⟩
           refine ⟨_, rfl, ?_⟩
           replace BK175 := zb0 BK175 hb
           replace BK176 := zb0 BK176 hb
           replace BK187 := zb0 BK187 hb
           replace HB := zhs HB hb
           (try clear hb)
           (try clear hb2)
           (try clear hk)
           (try clear hi)
           refine hK.out _ _ ⟨zc0 BK175 0 rfl, zc0 BK175 1 rfl, zc0 BK175 2 rfl, zc0 BK175 3 rfl, zc0 BK175 4 rfl, zc0 BK175 5 rfl, zc0 BK175 6 rfl⟩ (fun hHeld => ?_)
           clear hK K
           refine norm_ (a' := ?_) ?_ ?_
           rotate_left
           ·show Act.put _ (some 35) _ = _
            simp only [Act.put, zp1, zp2, zp3, i64_w, i32_w]
            rfl
           exact norm_ (by simp only [putAll, Act.put, zp1, zp2, zp3]; first | done | rfl) (hJ6_17_18 (gb187) _ ⟨hHeld, (zk0 BK175), (zk0 BK176), (zk0 BK187), GW187.out, GE187.out, NB175_187.out, NB187_175.out, NB176_187.out, NB187_176.out, (zh0 HB)⟩)
          ·skip
           refine box_step ?hg (N := 7) ?hd (cs := #[.int .i64 0, .int .i64 0, .int .i64 0, .int .i64 0]) (t := 34) ?hr ?_; (case hd => rfl); (case hg => rfl); (case hr => first | (go_simp; done) | (go_simp; rfl))
           intro gb188 hg w27 hbox hb
           have BK188 := Aside0.mk (hbox)
           have GW188 := zge HB hg
           have GE188 := zge HB hg
           have NB175_188 := znl BK175 hg
           have NB188_175 := znr BK175 hg
           have NB176_188 := znl BK176 hg
           have NB188_176 := znr BK176 hg
           have NB187_188 := znl BK187 hg
           have NB188_187 := znr BK187 hg
           replace BK175 := zb0 BK175 hb
           replace BK176 := zb0 BK176 hb
           replace BK187 := zb0 BK187 hb
           replace HB := zhs HB hb
           clear hb hbox hg
           refine hK.out _ _ ⟨zc0 BK175 0 rfl, zc0 BK175 1 rfl, zc0 BK175 2 rfl, zc0 BK175 3 rfl, zc0 BK175 4 rfl, zc0 BK175 5 rfl, zc0 BK175 6 rfl⟩ (fun hHeld => ?_)
           clear hK K
           refine norm_ (a' := ?_) ?_ ?_
           rotate_left
           ·show Act.put _ (some 7) _ = _
            simp only [Act.put, zp1, zp2, zp3, i64_w, i32_w]
            rfl
           exact norm_ (by simp only [putAll, Act.put, zp1, zp2, zp3]; first | done | rfl) (hJ6_18_19 (gb187, gb188) _ ⟨hHeld, (zk0 BK175), (zk0 BK176), (zk0 BK187), (zk0 BK188), GW187.out, GE187.out, NB175_187.out, NB187_175.out, NB176_187.out, NB187_176.out, NB188_187.out, NB187_188.out, GW188.out, GE188.out, NB175_188.out, NB188_175.out, NB176_188.out, NB188_176.out, (zh0 HB)⟩)
        ·skip
         rintro _ w26 ⟨hS_, h0_, h1_, h2_⟩
         try dsimp only at hS_ h0_ h1_ h2_
         replace BK175 := Aside0.mk h0_
         replace BK176 := Aside0.mk h1_
         replace HB := Aside0.mk h2_
         clear h0_ h1_ h2_
         have hHeld := hS_
         refine norm_ (a' := ?_) ?_ ?_
         rotate_left
         ·simp only [putAll, Act.put, zp1, zp2, zp3]
          rfl
         refine two_ (i := 18) (j := 19) (Ni := some 6) (Nj := some 7) #[true, true, true, true, true, true, true, true, true, true, true, true, true, true, true, true, true, true, true, false, false, false] #[true, true, true, true, true, true, true, true, true, true, true, true, true, true, true, true, true, true, false, true, false, false] rfl rfl rfl rfl (two_of HT_.out (by kernel_rfl)) (by decide) (by decide) (fun K hK => ?_) (fun K hK => ?_)
         ·skip
          refine box_step ?hg (N := 6) ?hd (cs := #[.int .i64 0, .int .i64 0, .int .i64 0, .int .i64 0]) (t := 34) ?hr ?_; (case hd => rfl); (case hg => rfl); (case hr => first | (go_simp; done) | (go_simp; rfl))
          intro gb187 hg w27 hbox hb
          have BK187 := Aside0.mk (hbox)
          have GW187 := zge HB hg
          have GE187 := zge HB hg
          have NB175_187 := znl BK175 hg
          have NB187_175 := znr BK175 hg
          have NB176_187 := znl BK176 hg
          have NB187_176 := znr BK176 hg
          replace BK175 := zb0 BK175 hb
          replace BK176 := zb0 BK176 hb
          replace HB := zhs HB hb
          clear hb hbox hg
          refine hK.out _ _ ⟨zc0 BK175 0 rfl, zc0 BK175 1 rfl, zc0 BK175 2 rfl, zc0 BK175 3 rfl, zc0 BK175 4 rfl, zc0 BK175 5 rfl, zc0 BK175 6 rfl⟩ (fun hHeld => ?_)
          clear hK K
          refine norm_ (a' := ?_) ?_ ?_
          rotate_left
          ·show Act.put _ (some 6) _ = _
           simp only [Act.put, zp1, zp2, zp3, i64_w, i32_w]
           rfl
          exact norm_ (by simp only [putAll, Act.put, zp1, zp2, zp3]; first | done | rfl) (hJ6_17_18 (gb187) _ ⟨hHeld, (zk0 BK175), (zk0 BK176), (zk0 BK187), GW187.out, GE187.out, NB175_187.out, NB187_175.out, NB176_187.out, NB187_176.out, (zh0 HB)⟩)
         ·skip
          refine box_step ?hg (N := 7) ?hd (cs := #[.int .i64 0, .int .i64 0, .int .i64 0, .int .i64 0]) (t := 34) ?hr ?_; (case hd => rfl); (case hg => rfl); (case hr => first | (go_simp; done) | (go_simp; rfl))
          intro gb188 hg w27 hbox hb
          have BK188 := Aside0.mk (hbox)
          have GW188 := zge HB hg
          have GE188 := zge HB hg
          have NB175_188 := znl BK175 hg
          have NB188_175 := znr BK175 hg
          have NB176_188 := znl BK176 hg
          have NB188_176 := znr BK176 hg
          replace BK175 := zb0 BK175 hb
          replace BK176 := zb0 BK176 hb
          replace HB := zhs HB hb
          clear hb hbox hg
          refine hK.out _ _ ⟨zc0 BK175 0 rfl, zc0 BK175 1 rfl, zc0 BK175 2 rfl, zc0 BK175 3 rfl, zc0 BK175 4 rfl, zc0 BK175 5 rfl, zc0 BK175 6 rfl⟩ (fun hHeld => ?_)
          clear hK K
          refine norm_ (a' := ?_) ?_ ?_
          rotate_left
          ·show Act.put _ (some 7) _ = _
           simp only [Act.put, zp1, zp2, zp3, i64_w, i32_w]
           rfl
          exact norm_ (by simp only [putAll, Act.put, zp1, zp2, zp3]; first | done | rfl) (hJ6_17_19 (gb188) _ ⟨hHeld, (zk0 BK175), (zk0 BK176), (zk0 BK188), GW188.out, GE188.out, NB175_188.out, NB188_175.out, NB176_188.out, NB188_176.out, (zh0 HB)⟩)
       ·skip
        rintro ⟨gb187, gb188⟩ w27 ⟨hS_, h0_, h1_, h2_, h3_, h4_, h5_, h6_, h7_, h8_, h9_, h10_, h11_, h12_, h13_, h14_, h15_, h16_, h17_, h18_⟩
        try dsimp only at hS_ h0_ h1_ h2_ h3_ h4_ h5_ h6_ h7_ h8_ h9_ h10_ h11_ h12_ h13_ h14_ h15_ h16_ h17_ h18_
        have BK187 := Aside0.mk h2_
        have BK188 := Aside0.mk h3_
        have GW187 := Aside0.mk h4_
        have GE187 := Aside0.mk h5_
        have NB175_187 := Aside0.mk h6_
        have NB187_175 := Aside0.mk h7_
        have NB176_187 := Aside0.mk h8_
        have NB187_176 := Aside0.mk h9_
        have NB188_187 := Aside0.mk h10_
        have NB187_188 := Aside0.mk h11_
        have GW188 := Aside0.mk h12_
        have GE188 := Aside0.mk h13_
        have NB175_188 := Aside0.mk h14_
        have NB188_175 := Aside0.mk h15_
        have NB176_188 := Aside0.mk h16_
        have NB188_176 := Aside0.mk h17_
        replace BK175 := Aside0.mk h0_
        replace BK176 := Aside0.mk h1_
        replace HB := Aside0.mk h18_
        clear h0_ h1_ h2_ h3_ h4_ h5_ h6_ h7_ h8_ h9_ h10_ h11_ h12_ h13_ h14_ h15_ h16_ h17_ h18_
        have hHeld := hS_
        refine norm_ (a' := ?_) ?_ ?_
        rotate_left
        ·simp only [putAll, Act.put, zp1, zp2, zp3]
         rfl
        refine one_ (i := 17) (N := some 35) #[true, true, true, true, true, true, true, true, true, true, true, true, true, true, true, true, true, true, true, true, false, false] rfl rfl (one_of HT_.out (by kernel_rfl)) (by decide) (fun K hK => ?_)
        refine goes_ Try.func70 (by kernel_rfl) rfl #[.agg #[.int .i64 a0_1, .int .i64 a0_2, .int .i64 a0_3, .int .i64 a0_4], .int .i64 a0_6, .int .i64 a0_3, .int .i64 a0_3] (by rfl) rfl rfl (by (try simp only [List.map_toArray, List.map_cons, List.map_nil]); first | done | rfl | (simp only [List.length_drop, List.length_take]; rfl)) ?_
        with_reducible refine (spec_l2Slice.calls a0_1 a0_2 a0_3 a0_4 a0_6 a0_3 a0_3 t183 t184 t185 t186 _ A20.out).mono ?_
        rintro e w28 ⟨rfl, hb⟩
        refine ⟨_, rfl, ?_⟩
        replace BK175 := zb0 BK175 hb
        replace BK176 := zb0 BK176 hb
        replace BK187 := zb0 BK187 hb
        replace BK188 := zb0 BK188 hb
        replace HB := zhs HB hb
        (try clear hb)
        (try clear hb2)
        (try clear hk)
        (try clear hi)
        refine hK.out _ _ ⟨zc0 BK175 0 rfl, zc0 BK175 1 rfl, zc0 BK175 2 rfl, zc0 BK175 3 rfl, zc0 BK175 4 rfl, zc0 BK175 5 rfl, zc0 BK175 6 rfl⟩ (fun hHeld => ?_)
        clear hK K
        refine norm_ (a' := ?_) ?_ ?_
        rotate_left
        ·show Act.put _ (some 35) _ = _
         simp only [Act.put, zp1, zp2, zp3, i64_w, i32_w]
         rfl
        exact norm_ (by simp only [putAll, Act.put, zp1, zp2, zp3]; first | done | rfl) (hJ6_17_18_19 (gb187, gb188) _ ⟨hHeld, (zk0 BK175), (zk0 BK176), (zk0 BK187), (zk0 BK188), GW187.out, GE187.out, NB175_187.out, NB187_175.out, NB176_187.out, NB187_176.out, NB188_187.out, NB187_188.out, GW188.out, GE188.out, NB175_188.out, NB188_175.out, NB176_188.out, NB188_176.out, (zh0 HB)⟩)
      ·skip
       rintro gb188 w27 ⟨hS_, h0_, h1_, h2_, h3_, h4_, h5_, h6_, h7_, h8_, h9_⟩
       try dsimp only at hS_ h0_ h1_ h2_ h3_ h4_ h5_ h6_ h7_ h8_ h9_
       have BK188 := Aside0.mk h2_
       have GW188 := Aside0.mk h3_
       have GE188 := Aside0.mk h4_
       have NB175_188 := Aside0.mk h5_
       have NB188_175 := Aside0.mk h6_
       have NB176_188 := Aside0.mk h7_
       have NB188_176 := Aside0.mk h8_
       replace BK175 := Aside0.mk h0_
       replace BK176 := Aside0.mk h1_
       replace HB := Aside0.mk h9_
       clear h0_ h1_ h2_ h3_ h4_ h5_ h6_ h7_ h8_ h9_
       have hHeld := hS_
       refine norm_ (a' := ?_) ?_ ?_
       rotate_left
       ·simp only [putAll, Act.put, zp1, zp2, zp3]
        rfl
       refine one_ (i := 18) (N := some 6) #[true, true, true, true, true, true, true, true, true, true, true, true, true, true, true, true, true, true, true, true, false, false] rfl rfl (one_of HT_.out (by kernel_rfl)) (by decide) (fun K hK => ?_)
       refine box_step ?hg (N := 6) ?hd (cs := #[.int .i64 0, .int .i64 0, .int .i64 0, .int .i64 0]) (t := 34) ?hr ?_; (case hd => rfl); (case hg => rfl); (case hr => first | (go_simp; done) | (go_simp; rfl))
       intro gb187 hg w28 hbox hb
       have BK187 := Aside0.mk (hbox)
       have GW187 := zge HB hg
       have GE187 := zge HB hg
       have NB175_187 := znl BK175 hg
       have NB187_175 := znr BK175 hg
       have NB176_187 := znl BK176 hg
       have NB187_176 := znr BK176 hg
       have NB188_187 := znl BK188 hg
       have NB187_188 := znr BK188 hg
       replace BK175 := zb0 BK175 hb
       replace BK176 := zb0 BK176 hb
       replace BK188 := zb0 BK188 hb
       replace HB := zhs HB hb
       clear hb hbox hg
       refine hK.out _ _ ⟨zc0 BK175 0 rfl, zc0 BK175 1 rfl, zc0 BK175 2 rfl, zc0 BK175 3 rfl, zc0 BK175 4 rfl, zc0 BK175 5 rfl, zc0 BK175 6 rfl⟩ (fun hHeld => ?_)
       clear hK K
       refine norm_ (a' := ?_) ?_ ?_
       rotate_left
       ·show Act.put _ (some 6) _ = _
        simp only [Act.put, zp1, zp2, zp3, i64_w, i32_w]
        rfl
       exact norm_ (by simp only [putAll, Act.put, zp1, zp2, zp3]; first | done | rfl) (hJ6_17_18_19 (gb187, gb188) _ ⟨hHeld, (zk0 BK175), (zk0 BK176), (zk0 BK187), (zk0 BK188), GW187.out, GE187.out, NB175_187.out, NB187_175.out, NB176_187.out, NB187_176.out, NB188_187.out, NB187_188.out, GW188.out, GE188.out, NB175_188.out, NB188_175.out, NB176_188.out, NB188_176.out, (zh0 HB)⟩)
     ·skip
      rintro gb187 w27 ⟨hS_, h0_, h1_, h2_, h3_, h4_, h5_, h6_, h7_, h8_, h9_⟩
      try dsimp only at hS_ h0_ h1_ h2_ h3_ h4_ h5_ h6_ h7_ h8_ h9_
      have BK187 := Aside0.mk h2_
      have GW187 := Aside0.mk h3_
      have GE187 := Aside0.mk h4_
      have NB175_187 := Aside0.mk h5_
      have NB187_175 := Aside0.mk h6_
      have NB176_187 := Aside0.mk h7_
      have NB187_176 := Aside0.mk h8_
      replace BK175 := Aside0.mk h0_
      replace BK176 := Aside0.mk h1_
      replace HB := Aside0.mk h9_
      clear h0_ h1_ h2_ h3_ h4_ h5_ h6_ h7_ h8_ h9_
      have hHeld := hS_
      refine norm_ (a' := ?_) ?_ ?_
      rotate_left
      ·simp only [putAll, Act.put, zp1, zp2, zp3]
       rfl
      refine one_ (i := 19) (N := some 7) #[true, true, true, true, true, true, true, true, true, true, true, true, true, true, true, true, true, true, true, true, false, false] rfl rfl (one_of HT_.out (by kernel_rfl)) (by decide) (fun K hK => ?_)
      refine box_step ?hg (N := 7) ?hd (cs := #[.int .i64 0, .int .i64 0, .int .i64 0, .int .i64 0]) (t := 34) ?hr ?_; (case hd => rfl); (case hg => rfl); (case hr => first | (go_simp; done) | (go_simp; rfl))
      intro gb188 hg w28 hbox hb
      have BK188 := Aside0.mk (hbox)
      have GW188 := zge HB hg
      have GE188 := zge HB hg
      have NB175_188 := znl BK175 hg
      have NB188_175 := znr BK175 hg
      have NB176_188 := znl BK176 hg
      have NB188_176 := znr BK176 hg
      have NB187_188 := znl BK187 hg
      have NB188_187 := znr BK187 hg
      replace BK175 := zb0 BK175 hb
      replace BK176 := zb0 BK176 hb
      replace BK187 := zb0 BK187 hb
      replace HB := zhs HB hb
      clear hb hbox hg
      refine hK.out _ _ ⟨zc0 BK175 0 rfl, zc0 BK175 1 rfl, zc0 BK175 2 rfl, zc0 BK175 3 rfl, zc0 BK175 4 rfl, zc0 BK175 5 rfl, zc0 BK175 6 rfl⟩ (fun hHeld => ?_)
      clear hK K
      refine norm_ (a' := ?_) ?_ ?_
      rotate_left
      ·show Act.put _ (some 7) _ = _
       simp only [Act.put, zp1, zp2, zp3, i64_w, i32_w]
       rfl
      exact norm_ (by simp only [putAll, Act.put, zp1, zp2, zp3]; first | done | rfl) (hJ6_17_18_19 (gb187, gb188) _ ⟨hHeld, (zk0 BK175), (zk0 BK176), (zk0 BK187), (zk0 BK188), GW187.out, GE187.out, NB175_187.out, NB187_175.out, NB176_187.out, NB187_176.out, NB188_187.out, NB187_188.out, GW188.out, GE188.out, NB175_188.out, NB188_175.out, NB176_188.out, NB188_176.out, (zh0 HB)⟩)
    rintro ⟨gb187, gb188⟩ w28 ⟨hS_, h0_, h1_, h2_, h3_, h4_, h5_, h6_, h7_, h8_, h9_, h10_, h11_, h12_, h13_, h14_, h15_, h16_, h17_, h18_⟩
    try dsimp only at hS_ h0_ h1_ h2_ h3_ h4_ h5_ h6_ h7_ h8_ h9_ h10_ h11_ h12_ h13_ h14_ h15_ h16_ h17_ h18_
    have BK187 := Aside0.mk h2_
    have BK188 := Aside0.mk h3_
    have GW187 := Aside0.mk h4_
    have GE187 := Aside0.mk h5_
    have NB175_187 := Aside0.mk h6_
    have NB187_175 := Aside0.mk h7_
    have NB176_187 := Aside0.mk h8_
    have NB187_176 := Aside0.mk h9_
    have NB188_187 := Aside0.mk h10_
    have NB187_188 := Aside0.mk h11_
    have GW188 := Aside0.mk h12_
    have GE188 := Aside0.mk h13_
    have NB175_188 := Aside0.mk h14_
    have NB188_175 := Aside0.mk h15_
    have NB176_188 := Aside0.mk h16_
    have NB188_176 := Aside0.mk h17_
    replace BK175 := Aside0.mk h0_
    replace BK176 := Aside0.mk h1_
    replace HB := Aside0.mk h18_
    clear h0_ h1_ h2_ h3_ h4_ h5_ h6_ h7_ h8_ h9_ h10_ h11_ h12_ h13_ h14_ h15_ h16_ h17_ h18_
    have hHeld := hS_
    refine norm_ (a' := ?_) ?_ ?_
    rotate_left
    ·simp only [putAll, Act.put, zp1, zp2, zp3]
     rfl
    refine one_ (i := 20) (N := none) #[true, true, true, true, true, true, true, true, true, true, true, true, true, true, true, true, true, true, true, true, true, false] rfl rfl (one_of HT_.out (by kernel_rfl)) (by decide) (fun K hK => ?_)
    have hs29 : w28.cell? ⟨gb187, 0, none⟩ = some (.int .i64 0) := zc0 BK187 0 rfl
    have hfs29 := blk_frozen BK187.out 0
    have hns29_0 := NB175_187.out
    have hns29_1 := NB176_187.out
    have hns29_3 := NB188_187.out
    have hms29_0 := NB187_175.out
    have hms29_1 := NB187_176.out
    have hms29_3 := NB187_188.out
    have hs30 : w28.cell? ⟨gb187, 1, none⟩ = some (.int .i64 0) := zc0 BK187 1 rfl
    have hfs30 := blk_frozen BK187.out 1
    have hns30_0 := NB175_187.out
    have hns30_1 := NB176_187.out
    have hns30_3 := NB188_187.out
    have hms30_0 := NB187_175.out
    have hms30_1 := NB187_176.out
    have hms30_3 := NB187_188.out
    have hs31 : w28.cell? ⟨gb187, 2, none⟩ = some (.int .i64 0) := zc0 BK187 2 rfl
    have hfs31 := blk_frozen BK187.out 2
    have hns31_0 := NB175_187.out
    have hns31_1 := NB176_187.out
    have hns31_3 := NB188_187.out
    have hms31_0 := NB187_175.out
    have hms31_1 := NB187_176.out
    have hms31_3 := NB187_188.out
    have hs32 : w28.cell? ⟨gb187, 3, none⟩ = some (.int .i64 0) := zc0 BK187 3 rfl
    have hfs32 := blk_frozen BK187.out 3
    have hns32_0 := NB175_187.out
    have hns32_1 := NB176_187.out
    have hns32_3 := NB188_187.out
    have hms32_0 := NB187_175.out
    have hms32_1 := NB187_176.out
    have hms32_3 := NB187_188.out
    refine skip_ (w1 := ?_) (by rfl) rfl ?_ ?_
    rotate_left
    ·go_simp
     rfl
    refine hK.out _ _ ⟨((cell_far (p := ⟨gb187, _, none⟩) NB175_187.out _).trans (((cell_far (p := ⟨gb187, _, none⟩) NB175_187.out _).trans (((cell_far (p := ⟨gb187, _, none⟩) NB175_187.out _).trans (((cell_far (p := ⟨gb187, _, none⟩) NB175_187.out _).trans (hHeld.1)))))))), ((cell_far (p := ⟨gb187, _, none⟩) NB175_187.out _).trans (((cell_far (p := ⟨gb187, _, none⟩) NB175_187.out _).trans (((cell_far (p := ⟨gb187, _, none⟩) NB175_187.out _).trans (((cell_far (p := ⟨gb187, _, none⟩) NB175_187.out _).trans (hHeld.2.1)))))))), ((cell_far (p := ⟨gb187, _, none⟩) NB175_187.out _).trans (((cell_far (p := ⟨gb187, _, none⟩) NB175_187.out _).trans (((cell_far (p := ⟨gb187, _, none⟩) NB175_187.out _).trans (((cell_far (p := ⟨gb187, _, none⟩) NB175_187.out _).trans (hHeld.2.2.1)))))))), ((cell_far (p := ⟨gb187, _, none⟩) NB175_187.out _).trans (((cell_far (p := ⟨gb187, _, none⟩) NB175_187.out _).trans (((cell_far (p := ⟨gb187, _, none⟩) NB175_187.out _).trans (((cell_far (p := ⟨gb187, _, none⟩) NB175_187.out _).trans (hHeld.2.2.2.1)))))))), ((cell_far (p := ⟨gb187, _, none⟩) NB175_187.out _).trans (((cell_far (p := ⟨gb187, _, none⟩) NB175_187.out _).trans (((cell_far (p := ⟨gb187, _, none⟩) NB175_187.out _).trans (((cell_far (p := ⟨gb187, _, none⟩) NB175_187.out _).trans (hHeld.2.2.2.2.1)))))))), ((cell_far (p := ⟨gb187, _, none⟩) NB175_187.out _).trans (((cell_far (p := ⟨gb187, _, none⟩) NB175_187.out _).trans (((cell_far (p := ⟨gb187, _, none⟩) NB175_187.out _).trans (((cell_far (p := ⟨gb187, _, none⟩) NB175_187.out _).trans (hHeld.2.2.2.2.2.1)))))))), ((cell_far (p := ⟨gb187, _, none⟩) NB175_187.out _).trans (((cell_far (p := ⟨gb187, _, none⟩) NB175_187.out _).trans (((cell_far (p := ⟨gb187, _, none⟩) NB175_187.out _).trans (((cell_far (p := ⟨gb187, _, none⟩) NB175_187.out _).trans (hHeld.2.2.2.2.2.2))))))))⟩ (fun hHeld => ?_)
    clear hK K
    refine one_ (i := 21) (N := none) #[true, true, true, true, true, true, true, true, true, true, true, true, true, true, true, true, true, true, true, true, true, true] rfl rfl (one_of HT_.out (by kernel_rfl)) (by decide) (fun K hK => ?_)
    have hs33 : w28.cell? ⟨gb188, 0, none⟩ = some (.int .i64 0) := zc0 BK188 0 rfl
    have hfs33 := blk_frozen BK188.out 0
    have hns33_0 := NB175_188.out
    have hns33_1 := NB176_188.out
    have hns33_2 := NB187_188.out
    have hms33_0 := NB188_175.out
    have hms33_1 := NB188_176.out
    have hms33_2 := NB188_187.out
    have hs34 : w28.cell? ⟨gb188, 1, none⟩ = some (.int .i64 0) := zc0 BK188 1 rfl
    have hfs34 := blk_frozen BK188.out 1
    have hns34_0 := NB175_188.out
    have hns34_1 := NB176_188.out
    have hns34_2 := NB187_188.out
    have hms34_0 := NB188_175.out
    have hms34_1 := NB188_176.out
    have hms34_2 := NB188_187.out
    have hs35 : w28.cell? ⟨gb188, 2, none⟩ = some (.int .i64 0) := zc0 BK188 2 rfl
    have hfs35 := blk_frozen BK188.out 2
    have hns35_0 := NB175_188.out
    have hns35_1 := NB176_188.out
    have hns35_2 := NB187_188.out
    have hms35_0 := NB188_175.out
    have hms35_1 := NB188_176.out
    have hms35_2 := NB188_187.out
    have hs36 : w28.cell? ⟨gb188, 3, none⟩ = some (.int .i64 0) := zc0 BK188 3 rfl
    have hfs36 := blk_frozen BK188.out 3
    have hns36_0 := NB175_188.out
    have hns36_1 := NB176_188.out
    have hns36_2 := NB187_188.out
    have hms36_0 := NB188_175.out
    have hms36_1 := NB188_176.out
    have hms36_2 := NB188_187.out
    refine skip_ (w1 := ?_) (by rfl) rfl ?_ ?_
    rotate_left
    ·go_simp
     rfl
    refine hK.out _ _ ⟨((cell_far (p := ⟨gb188, _, none⟩) NB175_188.out _).trans (((cell_far (p := ⟨gb188, _, none⟩) NB175_188.out _).trans (((cell_far (p := ⟨gb188, _, none⟩) NB175_188.out _).trans (((cell_far (p := ⟨gb188, _, none⟩) NB175_188.out _).trans (hHeld.1)))))))), ((cell_far (p := ⟨gb188, _, none⟩) NB175_188.out _).trans (((cell_far (p := ⟨gb188, _, none⟩) NB175_188.out _).trans (((cell_far (p := ⟨gb188, _, none⟩) NB175_188.out _).trans (((cell_far (p := ⟨gb188, _, none⟩) NB175_188.out _).trans (hHeld.2.1)))))))), ((cell_far (p := ⟨gb188, _, none⟩) NB175_188.out _).trans (((cell_far (p := ⟨gb188, _, none⟩) NB175_188.out _).trans (((cell_far (p := ⟨gb188, _, none⟩) NB175_188.out _).trans (((cell_far (p := ⟨gb188, _, none⟩) NB175_188.out _).trans (hHeld.2.2.1)))))))), ((cell_far (p := ⟨gb188, _, none⟩) NB175_188.out _).trans (((cell_far (p := ⟨gb188, _, none⟩) NB175_188.out _).trans (((cell_far (p := ⟨gb188, _, none⟩) NB175_188.out _).trans (((cell_far (p := ⟨gb188, _, none⟩) NB175_188.out _).trans (hHeld.2.2.2.1)))))))), ((cell_far (p := ⟨gb188, _, none⟩) NB175_188.out _).trans (((cell_far (p := ⟨gb188, _, none⟩) NB175_188.out _).trans (((cell_far (p := ⟨gb188, _, none⟩) NB175_188.out _).trans (((cell_far (p := ⟨gb188, _, none⟩) NB175_188.out _).trans (hHeld.2.2.2.2.1)))))))), ((cell_far (p := ⟨gb188, _, none⟩) NB175_188.out _).trans (((cell_far (p := ⟨gb188, _, none⟩) NB175_188.out _).trans (((cell_far (p := ⟨gb188, _, none⟩) NB175_188.out _).trans (((cell_far (p := ⟨gb188, _, none⟩) NB175_188.out _).trans (hHeld.2.2.2.2.2.1)))))))), ((cell_far (p := ⟨gb188, _, none⟩) NB175_188.out _).trans (((cell_far (p := ⟨gb188, _, none⟩) NB175_188.out _).trans (((cell_far (p := ⟨gb188, _, none⟩) NB175_188.out _).trans (((cell_far (p := ⟨gb188, _, none⟩) NB175_188.out _).trans (hHeld.2.2.2.2.2.2))))))))⟩ (fun hHeld => ?_)
    clear hK K
    refine done_ (done_of HT_.out (by kernel_rfl)) ?_
    try go_wp2
    have n0_ : Aside0 (((((((((w28.setCell ⟨gb187, 0, none⟩ (.int .i64 t179)).setCell ⟨gb187, 1, none⟩ (.int .i64 t180)).setCell ⟨gb187, 2, none⟩ (.int .i64 t181)).setCell ⟨gb187, 3, none⟩ (.int .i64 t182)).setCell ⟨gb188, 0, none⟩ (.int .i64 t183)).setCell ⟨gb188, 1, none⟩ (.int .i64 t184)).setCell ⟨gb188, 2, none⟩ (.int .i64 t185)).setCell ⟨gb188, 3, none⟩ (.int .i64 t186)).heap[gb175]? = some (.cells #[.slice A0_0 l0_0.length c0_0, .int .i64 a0_1, .int .i64 a0_2, .int .i64 a0_3, .int .i64 a0_4, .int .i64 a0_5, .int .i64 a0_6] 45 (0, 0))) := ⟨by (with_reducible repeat (first | refine blk_drewN ?_ _ | refine blk_drew ?_ | refine blk_alloc ?_ _)); refine blk_far ?_ NB175_188.out _; (with_reducible repeat (first | refine blk_drewN ?_ _ | refine blk_drew ?_ | refine blk_alloc ?_ _)); refine blk_far ?_ NB175_188.out _; (with_reducible repeat (first | refine blk_drewN ?_ _ | refine blk_drew ?_ | refine blk_alloc ?_ _)); refine blk_far ?_ NB175_188.out _; (with_reducible repeat (first | refine blk_drewN ?_ _ | refine blk_drew ?_ | refine blk_alloc ?_ _)); refine blk_far ?_ NB175_188.out _; (with_reducible repeat (first | refine blk_drewN ?_ _ | refine blk_drew ?_ | refine blk_alloc ?_ _)); refine blk_far ?_ NB175_187.out _; (with_reducible repeat (first | refine blk_drewN ?_ _ | refine blk_drew ?_ | refine blk_alloc ?_ _)); refine blk_far ?_ NB175_187.out _; (with_reducible repeat (first | refine blk_drewN ?_ _ | refine blk_drew ?_ | refine blk_alloc ?_ _)); refine blk_far ?_ NB175_187.out _; (with_reducible repeat (first | refine blk_drewN ?_ _ | refine blk_drew ?_ | refine blk_alloc ?_ _)); refine blk_far ?_ NB175_187.out _; (with_reducible repeat (first | refine blk_drewN ?_ _ | refine blk_drew ?_ | refine blk_alloc ?_ _)); exact BK175.out⟩
    have n1_ : Aside0 (((((((((w28.setCell ⟨gb187, 0, none⟩ (.int .i64 t179)).setCell ⟨gb187, 1, none⟩ (.int .i64 t180)).setCell ⟨gb187, 2, none⟩ (.int .i64 t181)).setCell ⟨gb187, 3, none⟩ (.int .i64 t182)).setCell ⟨gb188, 0, none⟩ (.int .i64 t183)).setCell ⟨gb188, 1, none⟩ (.int .i64 t184)).setCell ⟨gb188, 2, none⟩ (.int .i64 t185)).setCell ⟨gb188, 3, none⟩ (.int .i64 t186)).heap[gb176]? = some (.cells #[.int .i64 a1_0, .int .i64 a1_1, .int .i64 a1_2, .int .i64 a1_3] 34 (0, 0))) := ⟨by (with_reducible repeat (first | refine blk_drewN ?_ _ | refine blk_drew ?_ | refine blk_alloc ?_ _)); refine blk_far ?_ NB176_188.out _; (with_reducible repeat (first | refine blk_drewN ?_ _ | refine blk_drew ?_ | refine blk_alloc ?_ _)); refine blk_far ?_ NB176_188.out _; (with_reducible repeat (first | refine blk_drewN ?_ _ | refine blk_drew ?_ | refine blk_alloc ?_ _)); refine blk_far ?_ NB176_188.out _; (with_reducible repeat (first | refine blk_drewN ?_ _ | refine blk_drew ?_ | refine blk_alloc ?_ _)); refine blk_far ?_ NB176_188.out _; (with_reducible repeat (first | refine blk_drewN ?_ _ | refine blk_drew ?_ | refine blk_alloc ?_ _)); refine blk_far ?_ NB176_187.out _; (with_reducible repeat (first | refine blk_drewN ?_ _ | refine blk_drew ?_ | refine blk_alloc ?_ _)); refine blk_far ?_ NB176_187.out _; (with_reducible repeat (first | refine blk_drewN ?_ _ | refine blk_drew ?_ | refine blk_alloc ?_ _)); refine blk_far ?_ NB176_187.out _; (with_reducible repeat (first | refine blk_drewN ?_ _ | refine blk_drew ?_ | refine blk_alloc ?_ _)); refine blk_far ?_ NB176_187.out _; (with_reducible repeat (first | refine blk_drewN ?_ _ | refine blk_drew ?_ | refine blk_alloc ?_ _)); exact BK176.out⟩
    have n2_ : Aside0 (((((((((w28.setCell ⟨gb187, 0, none⟩ (.int .i64 t179)).setCell ⟨gb187, 1, none⟩ (.int .i64 t180)).setCell ⟨gb187, 2, none⟩ (.int .i64 t181)).setCell ⟨gb187, 3, none⟩ (.int .i64 t182)).setCell ⟨gb188, 0, none⟩ (.int .i64 t183)).setCell ⟨gb188, 1, none⟩ (.int .i64 t184)).setCell ⟨gb188, 2, none⟩ (.int .i64 t185)).setCell ⟨gb188, 3, none⟩ (.int .i64 t186)).heap[gb187]? = some (.cells #[.int .i64 t179, .int .i64 t180, .int .i64 t181, .int .i64 t182] 34 (0, 0))) := ⟨by (with_reducible repeat (first | refine blk_drewN ?_ _ | refine blk_drew ?_ | refine blk_alloc ?_ _)); refine blk_far ?_ NB187_188.out _; (with_reducible repeat (first | refine blk_drewN ?_ _ | refine blk_drew ?_ | refine blk_alloc ?_ _)); refine blk_far ?_ NB187_188.out _; (with_reducible repeat (first | refine blk_drewN ?_ _ | refine blk_drew ?_ | refine blk_alloc ?_ _)); refine blk_far ?_ NB187_188.out _; (with_reducible repeat (first | refine blk_drewN ?_ _ | refine blk_drew ?_ | refine blk_alloc ?_ _)); refine blk_far ?_ NB187_188.out _; (with_reducible repeat (first | refine blk_drewN ?_ _ | refine blk_drew ?_ | refine blk_alloc ?_ _)); refine blk_put (cs := #[.int .i64 t179, .int .i64 t180, .int .i64 t181, .int .i64 0]) ?_ 3 _ rfl; (with_reducible repeat (first | refine blk_drewN ?_ _ | refine blk_drew ?_ | refine blk_alloc ?_ _)); refine blk_put (cs := #[.int .i64 t179, .int .i64 t180, .int .i64 0, .int .i64 0]) ?_ 2 _ rfl; (with_reducible repeat (first | refine blk_drewN ?_ _ | refine blk_drew ?_ | refine blk_alloc ?_ _)); refine blk_put (cs := #[.int .i64 t179, .int .i64 0, .int .i64 0, .int .i64 0]) ?_ 1 _ rfl; (with_reducible repeat (first | refine blk_drewN ?_ _ | refine blk_drew ?_ | refine blk_alloc ?_ _)); refine blk_put (cs := #[.int .i64 0, .int .i64 0, .int .i64 0, .int .i64 0]) ?_ 0 _ rfl; (with_reducible repeat (first | refine blk_drewN ?_ _ | refine blk_drew ?_ | refine blk_alloc ?_ _)); exact BK187.out⟩
    have n3_ : Aside0 (((((((((w28.setCell ⟨gb187, 0, none⟩ (.int .i64 t179)).setCell ⟨gb187, 1, none⟩ (.int .i64 t180)).setCell ⟨gb187, 2, none⟩ (.int .i64 t181)).setCell ⟨gb187, 3, none⟩ (.int .i64 t182)).setCell ⟨gb188, 0, none⟩ (.int .i64 t183)).setCell ⟨gb188, 1, none⟩ (.int .i64 t184)).setCell ⟨gb188, 2, none⟩ (.int .i64 t185)).setCell ⟨gb188, 3, none⟩ (.int .i64 t186)).heap[gb188]? = some (.cells #[.int .i64 t183, .int .i64 t184, .int .i64 t185, .int .i64 t186] 34 (0, 0))) := ⟨by (with_reducible repeat (first | refine blk_drewN ?_ _ | refine blk_drew ?_ | refine blk_alloc ?_ _)); refine blk_put (cs := #[.int .i64 t183, .int .i64 t184, .int .i64 t185, .int .i64 0]) ?_ 3 _ rfl; (with_reducible repeat (first | refine blk_drewN ?_ _ | refine blk_drew ?_ | refine blk_alloc ?_ _)); refine blk_put (cs := #[.int .i64 t183, .int .i64 t184, .int .i64 0, .int .i64 0]) ?_ 2 _ rfl; (with_reducible repeat (first | refine blk_drewN ?_ _ | refine blk_drew ?_ | refine blk_alloc ?_ _)); refine blk_put (cs := #[.int .i64 t183, .int .i64 0, .int .i64 0, .int .i64 0]) ?_ 1 _ rfl; (with_reducible repeat (first | refine blk_drewN ?_ _ | refine blk_drew ?_ | refine blk_alloc ?_ _)); refine blk_put (cs := #[.int .i64 0, .int .i64 0, .int .i64 0, .int .i64 0]) ?_ 0 _ rfl; (with_reducible repeat (first | refine blk_drewN ?_ _ | refine blk_drew ?_ | refine blk_alloc ?_ _)); refine blk_far ?_ NB188_187.out _; (with_reducible repeat (first | refine blk_drewN ?_ _ | refine blk_drew ?_ | refine blk_alloc ?_ _)); refine blk_far ?_ NB188_187.out _; (with_reducible repeat (first | refine blk_drewN ?_ _ | refine blk_drew ?_ | refine blk_alloc ?_ _)); refine blk_far ?_ NB188_187.out _; (with_reducible repeat (first | refine blk_drewN ?_ _ | refine blk_drew ?_ | refine blk_alloc ?_ _)); refine blk_far ?_ NB188_187.out _; (with_reducible repeat (first | refine blk_drewN ?_ _ | refine blk_drew ?_ | refine blk_alloc ?_ _)); exact BK188.out⟩
    have n4_ : Aside0 (Below w.heap.size w ((((((((w28.setCell ⟨gb187, 0, none⟩ (.int .i64 t179)).setCell ⟨gb187, 1, none⟩ (.int .i64 t180)).setCell ⟨gb187, 2, none⟩ (.int .i64 t181)).setCell ⟨gb187, 3, none⟩ (.int .i64 t182)).setCell ⟨gb188, 0, none⟩ (.int .i64 t183)).setCell ⟨gb188, 1, none⟩ (.int .i64 t184)).setCell ⟨gb188, 2, none⟩ (.int .i64 t185)).setCell ⟨gb188, 3, none⟩ (.int .i64 t186))) := ⟨by repeat (first | (with_reducible first | exact HB.out | apply below_alloc | apply pw_below_drewN | apply below_drew1 | refine below_set ?_ GE175.out | refine below_set ?_ GE176.out | refine below_set ?_ GE187.out | refine below_set ?_ GE188.out) | exact HB.out)⟩
    (try clear BK175)
    (try clear BK176)
    (try clear BK187)
    (try clear BK188)
    (try clear HB)
    generalize ((((((((w28.setCell ⟨gb187, 0, none⟩ (.int .i64 t179)).setCell ⟨gb187, 1, none⟩ (.int .i64 t180)).setCell ⟨gb187, 2, none⟩ (.int .i64 t181)).setCell ⟨gb187, 3, none⟩ (.int .i64 t182)).setCell ⟨gb188, 0, none⟩ (.int .i64 t183)).setCell ⟨gb188, 1, none⟩ (.int .i64 t184)).setCell ⟨gb188, 2, none⟩ (.int .i64 t185)).setCell ⟨gb188, 3, none⟩ (.int .i64 t186)) = w37 at n0_ n1_ n2_ n3_ n4_ ⊢
    have BK175 := n0_
    have BK176 := n1_
    have BK187 := n2_
    have BK188 := n3_
    have HB := n4_
    clear n0_ n1_ n2_ n3_ n4_
    replace BK175 := Aside0.mk (blk_drew BK175.out)
    replace BK176 := Aside0.mk (blk_drew BK176.out)
    replace BK187 := Aside0.mk (blk_drew BK187.out)
    replace BK188 := Aside0.mk (blk_drew BK188.out)
    replace HB := Aside0.mk (below_drew1 HB.out)
    refine start_ (n := 10) (S := fun w' => w'.cell? ⟨gb187, 0, none⟩ = some (.int .i64 t179) ∧ w'.cell? ⟨gb187, 1, none⟩ = some (.int .i64 t180) ∧ w'.cell? ⟨gb187, 2, none⟩ = some (.int .i64 t181) ∧ w'.cell? ⟨gb187, 3, none⟩ = some (.int .i64 t182) ∧ w'.cell? ⟨gb176, 0, none⟩ = some (.int .i64 a1_0) ∧ w'.cell? ⟨gb176, 1, none⟩ = some (.int .i64 a1_1) ∧ w'.cell? ⟨gb176, 2, none⟩ = some (.int .i64 a1_2) ∧ w'.cell? ⟨gb176, 3, none⟩ = some (.int .i64 a1_3) ∧ w'.cell? ⟨gb188, 0, none⟩ = some (.int .i64 t183) ∧ w'.cell? ⟨gb188, 1, none⟩ = some (.int .i64 t184) ∧ w'.cell? ⟨gb188, 2, none⟩ = some (.int .i64 t185) ∧ w'.cell? ⟨gb188, 3, none⟩ = some (.int .i64 t186)) (ds := []) #[false, false, false, false, false, false, false, false, false, false] (by kernel_rfl) rfl rfl ⟨zc0 BK187 0 rfl, zc0 BK187 1 rfl, zc0 BK187 2 rfl, zc0 BK187 3 rfl, zc0 BK176 0 rfl, zc0 BK176 1 rfl, zc0 BK176 2 rfl, zc0 BK176 3 rfl, zc0 BK188 0 rfl, zc0 BK188 1 rfl, zc0 BK188 2 rfl, zc0 BK188 3 rfl⟩ (fun hHeld => ?_); refine with_tabW spec_SeenThrough.tab4 spec_SeenThrough.bits4 (fun HT_ HW_ => ?_)
    generalize w37.drew = w38 at BK175 BK176 BK187 BK188 HB hHeld ⊢
    refine take_ (i := 0) (N := some 36) (v := ?_) (a' := ?_) #[true, false, false, false, false, false, false, false, false, false] rfl rfl (take_ofW HT_.out HW_.out (by kernel_rfl)) (fun _ _ _ h => h) (Or.inl ⟨by rfl, ?_⟩) hHeld ?_ ?_
    rotate_left
    ·rintro w' ⟨s0, s1, s2, s3, s4, s5, s6, s7, s8, s9, s10, s11⟩
     go_simp
     with_reducible rfl
    rotate_left
    ·simp only [Act.put, zp1, zp2, zp3, i64_w, i32_w]
     rfl
    refine take_ (i := 1) (N := some 37) (v := ?_) (a' := ?_) #[true, true, false, false, false, false, false, false, false, false] rfl rfl (take_ofW HT_.out HW_.out (by kernel_rfl)) (fun _ _ _ h => h) (Or.inl ⟨by rfl, ?_⟩) hHeld ?_ ?_
    rotate_left
    ·rintro w' ⟨s0, s1, s2, s3, s4, s5, s6, s7, s8, s9, s10, s11⟩
     go_simp
     with_reducible rfl
    rotate_left
    ·simp only [Act.put, zp1, zp2, zp3, i64_w, i32_w]
     rfl
    refine take_ (i := 3) (N := some 39) (v := ?_) (a' := ?_) #[true, true, false, true, false, false, false, false, false, false] rfl rfl (take_ofW HT_.out HW_.out (by kernel_rfl)) (fun _ _ _ h => h) (Or.inl ⟨by rfl, ?_⟩) hHeld ?_ ?_
    rotate_left
    ·rintro w' ⟨s0, s1, s2, s3, s4, s5, s6, s7, s8, s9, s10, s11⟩
     go_simp
     with_reducible rfl
    rotate_left
    ·simp only [Act.put, zp1, zp2, zp3, i64_w, i32_w]
     rfl
    refine take_ (i := 4) (N := some 40) (v := ?_) (a' := ?_) #[true, true, false, true, true, false, false, false, false, false] rfl rfl (take_ofW HT_.out HW_.out (by kernel_rfl)) (fun _ _ _ h => h) (Or.inl ⟨by rfl, ?_⟩) hHeld ?_ ?_
    rotate_left
    ·rintro w' ⟨s0, s1, s2, s3, s4, s5, s6, s7, s8, s9, s10, s11⟩
     go_simp
     with_reducible rfl
    rotate_left
    ·simp only [Act.put, zp1, zp2, zp3, i64_w, i32_w]
     rfl
    refine one_ (i := 2) (N := some 38) #[true, true, true, true, true, false, false, false, false, false] rfl rfl (one_of HT_.out (by kernel_rfl)) (by decide) (fun K hK => ?_)
    refine goes_ Try.func84 (by kernel_rfl) rfl #[.agg #[.int .i64 t179, .int .i64 t180, .int .i64 t181, .int .i64 t182], .agg #[.int .i64 a1_0, .int .i64 a1_1, .int .i64 a1_2, .int .i64 a1_3]] (by rfl) rfl rfl (by (try simp only [List.map_toArray, List.map_cons, List.map_nil]); first | done | rfl | (simp only [List.length_drop, List.length_take]; rfl)) ?_
    with_reducible refine (spec_l2Overlap.calls t179 t180 t181 t182 a1_0 a1_1 a1_2 a1_3 t189 _ A21.out).mono ?_
    rintro e w39 ⟨rfl, hb⟩
    refine ⟨_, rfl, ?_⟩
    replace BK175 := zb0 BK175 hb
    replace BK176 := zb0 BK176 hb
    replace BK187 := zb0 BK187 hb
    replace BK188 := zb0 BK188 hb
    replace HB := zhs HB hb
    (try clear hb)
    (try clear hb2)
    (try clear hk)
    (try clear hi)
    refine hK.out _ _ ⟨zc0 BK187 0 rfl, zc0 BK187 1 rfl, zc0 BK187 2 rfl, zc0 BK187 3 rfl, zc0 BK176 0 rfl, zc0 BK176 1 rfl, zc0 BK176 2 rfl, zc0 BK176 3 rfl, zc0 BK188 0 rfl, zc0 BK188 1 rfl, zc0 BK188 2 rfl, zc0 BK188 3 rfl⟩ (fun hHeld => ?_)
    clear hK K
    refine norm_ (a' := ?_) ?_ ?_
    rotate_left
    ·show Act.put _ (some 38) _ = _
     simp only [Act.put, zp1, zp2, zp3, i64_w, i32_w]
     rfl
    refine one_ (i := 5) (N := some 41) #[true, true, true, true, true, true, false, false, false, false] rfl rfl (one_of HT_.out (by kernel_rfl)) (by decide) (fun K hK => ?_)
    refine goes_ Try.func84 (by kernel_rfl) rfl #[.agg #[.int .i64 t183, .int .i64 t184, .int .i64 t185, .int .i64 t186], .agg #[.int .i64 a1_0, .int .i64 a1_1, .int .i64 a1_2, .int .i64 a1_3]] (by rfl) rfl rfl (by (try simp only [List.map_toArray, List.map_cons, List.map_nil]); first | done | rfl | (simp only [List.length_drop, List.length_take]; rfl)) ?_
    with_reducible refine (spec_l2Overlap.calls t183 t184 t185 t186 a1_0 a1_1 a1_2 a1_3 t190 _ A22.out).mono ?_
    rintro e w40 ⟨rfl, hb⟩
    refine ⟨_, rfl, ?_⟩
    replace BK175 := zb0 BK175 hb
    replace BK176 := zb0 BK176 hb
    replace BK187 := zb0 BK187 hb
    replace BK188 := zb0 BK188 hb
    replace HB := zhs HB hb
    (try clear hb)
    (try clear hb2)
    (try clear hk)
    (try clear hi)
    refine hK.out _ _ ⟨zc0 BK187 0 rfl, zc0 BK187 1 rfl, zc0 BK187 2 rfl, zc0 BK187 3 rfl, zc0 BK176 0 rfl, zc0 BK176 1 rfl, zc0 BK176 2 rfl, zc0 BK176 3 rfl, zc0 BK188 0 rfl, zc0 BK188 1 rfl, zc0 BK188 2 rfl, zc0 BK188 3 rfl⟩ (fun hHeld => ?_)
    clear hK K
    refine norm_ (a' := ?_) ?_ ?_
    rotate_left
    ·show Act.put _ (some 41) _ = _
     simp only [Act.put, zp1, zp2, zp3, i64_w, i32_w]
     rfl
    refine pure_ (i := 6) (N := some 42) (v := ?_) (a' := ?_) #[true, true, true, true, true, true, true, false, false, false] rfl rfl (any_of HT_.out (by kernel_rfl)) (fun _ _ _ h => h) (Or.inl ⟨by rfl, ?_⟩) ?_ ?_
    rotate_left
    ·intro w'
     go_simp
     with_reducible rfl
    rotate_left
    ·simp only [Act.put, zp1, zp2, zp3, i64_w, i32_w]
     rfl
    refine pure_ (i := 7) (N := some 43) (v := ?_) (a' := ?_) #[true, true, true, true, true, true, true, true, false, false] rfl rfl (any_of HT_.out (by kernel_rfl)) (fun _ _ _ h => h) (Or.inl ⟨by rfl, ?_⟩) ?_ ?_
    rotate_left
    ·intro w'
     go_simp
     with_reducible rfl
    rotate_left
    ·simp only [Act.put, zp1, zp2, zp3, i64_w, i32_w]
     rfl
    refine pure_ (i := 8) (N := some 4) (v := ?_) (a' := ?_) #[true, true, true, true, true, true, true, true, true, false] rfl rfl (any_of HT_.out (by kernel_rfl)) (fun _ _ _ h => h) (Or.inl ⟨by rfl, ?_⟩) ?_ ?_
    rotate_left
    ·intro w'
     go_simp
     with_reducible rfl
    rotate_left
    ·simp only [Act.put, zp1, zp2, zp3, i64_w, i32_w]
     rfl
    refine pure_ (i := 9) (N := some 5) (v := ?_) (a' := ?_) #[true, true, true, true, true, true, true, true, true, true] rfl rfl (any_of HT_.out (by kernel_rfl)) (fun _ _ _ h => h) (Or.inl ⟨by rfl, ?_⟩) ?_ ?_
    rotate_left
    ·intro w'
     go_simp
     with_reducible rfl
    rotate_left
    ·simp only [Act.put, zp1, zp2, zp3, i64_w, i32_w]
     rfl
    refine done_ (done_of HT_.out (by kernel_rfl)) ?_
    try go_wp2
    go_ret2
    exact ⟨by first | rfl | (simp [errW_none, errW_some] <;> rfl) | (simp [*, errW_none, errW_some] <;> rfl), by repeat (first | (with_reducible first | exact HB.out | apply below_alloc | apply pw_below_drewN | apply below_drew1 | refine below_set ?_ GE175.out | refine below_set ?_ GE176.out | refine below_set ?_ GE187.out | refine below_set ?_ GE188.out) | exact HB.out)⟩

open Go.Proofs.Ytdojnaghcfhadab.Cp
/-! ### impl_within: function 62 -/
def impl_within.f (a0 : Int) (a1 : Int) (a2 : Int) : Option (Bool) := if a0 ≥ a1 then (some (decide (a0 ≤ a2))) else (some false)
set_option maxHeartbeats 8000000 in
set_option maxRecDepth 100000 in
theorem impl_within.calls (a0 : Int) (a1 : Int) (a2 : Int) (r : Bool) (w : World) (h : impl_within.f a0 a1 a2 = some r) :
  Calls Try.prog 62 #[.int .i64 a0, .int .i64 a1, .int .i64 a2] w fun e w' => e = .returned (.bool r) ∧ Drawn0 w w' := by
 have H : (if a0 ≥ a1 then (some (decide (a0 ≤ a2))) else (some false)) = some r := h
 clear h
 by_cases c4 : a0 ≥ a1
 ·rw [if_pos c4] at H
  have c4b0 : decide (a1 ≤ a0) = true := decide_eq_true c4
  clear c4
  obtain rfl := Option.some.inj H
  go_enter Try.func62, Try.ntmps62
  go_wp2
  go_ret
  exact ⟨by first | rfl | (simp; done) | (simp [*]; done), by repeat (first | exact Drawn0.refl _ | apply Drawn0.step)⟩
 ·rw [if_neg c4] at H
  have c4b0 : decide (a1 ≤ a0) = false := decide_eq_false c4
  clear c4
  obtain rfl := Option.some.inj H
  go_enter Try.func62, Try.ntmps62
  go_wp2
  go_ret
  exact ⟨by first | rfl | (simp; done) | (simp [*]; done), by repeat (first | exact Drawn0.refl _ | apply Drawn0.step)⟩

open Go.Proofs.Ytdojnaghcfhadab.Cp
/-! ### impl_IsMemory: function 76 -/
def impl_IsMemory.l0 : Nat → List (List Int) → Int → Int → List (List Int) → Option (Bool)
 | 0, _, _, _, _ => none
 | k + 1, x6, x7, x8, x192000 => if x8 < x7 then (if 0 ≤ x8 then (if x8 < (x6.length : Int) then ((impl_within.f ((rd_L1 x6 x8).length : Int) 1 64).bind fun t193 => (if t193 = true then (impl_IsMemory.l0 k x6 x7 (wrap64 (x8 + 1)) x192000) else (some false))) else (none)) else (none)) else (some (decide ((x192000.length : Int) ≤ 16)))
def impl_IsMemory.f (k : Nat) (l0_0 : List (List Int)) : Option (Bool) := impl_IsMemory.l0 k l0_0 (l0_0.length : Int) 0 l0_0
theorem impl_IsMemory.mono_l : ∀ k, (∀ y0 y1 y2 y3, LeO (impl_IsMemory.l0 k y0 y1 y2 y3) (impl_IsMemory.l0 (k + 1) y0 y1 y2 y3))
 | 0 => fun _ _ _ _ r h => by simp [impl_IsMemory.l0] at h
 | k + 1 => by
  have ih0 := impl_IsMemory.mono_l k
  ·intro y0 y1 y2 y3
   unfold impl_IsMemory.l0
   repeat' first
   | (with_reducible exact ih0 _ _ _ _)
   | (with_reducible exact LeO.refl _)
   | (with_reducible exact LeO.none _)
   | (with_reducible refine LeO.ite ?_ ?_)
   | (with_reducible refine LeO.bind ?_ (fun _ => ?_))
   | exact ih0 _ _ _ _
   | exact LeO.none _
   | refine LeO.ite ?_ ?_
   | refine LeO.bind ?_ (fun _ => ?_)
theorem impl_IsMemory.mono : ∀ a0 k, LeO (impl_IsMemory.f k a0) (impl_IsMemory.f (k + 1) a0) := by
 intro a0 k
 have ih0 := impl_IsMemory.mono_l k
 unfold impl_IsMemory.f
 repeat' first
   | (with_reducible exact ih0 _ _ _ _)
   | (with_reducible exact LeO.refl _)
   | (with_reducible exact LeO.none _)
   | (with_reducible refine LeO.ite ?_ ?_)
   | (with_reducible refine LeO.bind ?_ (fun _ => ?_))
   | exact ih0 _ _ _ _
   | exact LeO.none _
   | refine LeO.ite ?_ ?_
   | refine LeO.bind ?_ (fun _ => ?_)
set_option maxHeartbeats 8000000 in
set_option maxRecDepth 100000 in
theorem impl_IsMemory.calls (k : Nat) (A0_0 : Option Addr) (c0_0 : Nat) (l0_0 : List (List Int)) (r : Bool) (w : World) (hr0_0 : Kd.C (Kd.slice 5 (Kd.int .u8)) w A0_0 l0_0.length l0_0) (hc0_0 : l0_0.length ≤ c0_0) (h : impl_IsMemory.f k l0_0 = some r) :
  Calls Try.prog 76 #[.agg #[.slice A0_0 l0_0.length c0_0]] w fun e w' => e = .returned (.bool r) ∧ Below w.heap.size w w' := by
 have hu32 := Try.underlying32
 have HR0_0 := Aside0.mk hr0_0
 have HC0_0 := Aside0.mk hc0_0
 clear hr0_0 hc0_0
 have HB := Aside0.mk (Below.refl w.heap.size w)
 have H : (impl_IsMemory.l0 k l0_0 (l0_0.length : Int) 0 l0_0) = some r := h
 clear h
 have H' := Aside0.mk H
 clear H
 go_enter Try.func76, Try.ntmps76
 go_wp2_with (first | ((with_reducible refine gate_dst (N := 1) rfl ?_); refine box_event ?hg (N := 1) ?hd (cs := #[.slice A0_0 l0_0.length c0_0]) (t := 32) ?hr ?_; (case hd => rfl); (case hg => rfl); (case hr => first | (go_simp; done) | (go_simp; rfl)); intro gb191 hg w2 hbox hb; have n0_ := zhs HB hb; have n1_ := Aside0.mk (hbox); have n2_ := zge HB hg; have n3_ := zge HB hg; clear HB; have HB := n0_; have BK191 := n1_; have GW191 := n2_; have GE191 := n3_; clear n0_ n1_ n2_ n3_; clear hb hbox hg; have hcz3_0 : w2.cell? ⟨gb191, 0, none⟩ = some (.slice A0_0 l0_0.length c0_0) := zc0 BK191 0 rfl; have hfz3_0 := blk_frozen BK191.out 0))
 go_loopg [8] k (fun kq v8 w' => ∃ (x8_1 : Int), v8 = .int .i64 x8_1 ∧ Aside0 (impl_IsMemory.l0 kq l0_0 (l0_0.length : Int) x8_1 l0_0 = some r) ∧ Aside0 (kq ≤ k) ∧ Aside0 (w'.heap[gb191]? = some (.cells #[(.slice A0_0 l0_0.length c0_0)] 32 (0, 0))) ∧ Aside0 (Below w.heap.size w w'))
 case atStart => exact ⟨(0), (by first | rfl | (simp; done) | (simp [*]; done)), H', ⟨Nat.le_refl _⟩, ⟨zk0 BK191⟩, ⟨by repeat (first | (with_reducible first | exact HB.out | apply below_alloc | apply pw_below_drewN | apply below_drew1 | refine below_set ?_ GE191.out) | exact HB.out)⟩⟩
 case round =>
  clear H'
  try clear p2
  try clear hcz3_0
  try clear hfz3_0
  obtain ⟨x8_1, rfl, HA, HK1, BK191, HB⟩ := hrel
  cases gk with
  | zero => exact absurd HA.out (by simp [impl_IsMemory.l0])
  | succ k1 =>
   have H := HA.out
   clear HA
   simp only [impl_IsMemory.l0] at H
   by_cases c4 : x8_1 < (l0_0.length : Int)
   ·rw [if_pos c4] at H
    have c4b0 : decide (x8_1 < (l0_0.length : Int)) = true := decide_eq_true c4
    clear c4
    by_cases c5 : 0 ≤ x8_1
    ·rw [if_pos c5] at H
     have c5b0 : decide (0 ≤ x8_1) = true := decide_eq_true c5
     clear c5
     by_cases c6 : x8_1 < (l0_0.length : Int)
     ·rw [if_pos c6] at H
      have c6b0 : decide (x8_1 < (l0_0.length : Int)) = true := decide_eq_true c6
      clear c6
      replace H := Option.bind_eq_some_iff.mp H
      obtain ⟨t193, A70, H⟩ := H
      replace H : (if t193 = true then (impl_IsMemory.l0 k1 l0_0 (l0_0.length : Int) (wrap64 (x8_1 + 1)) l0_0) else (some false)) = some r := H
      have A7 := Aside0.mk A70
      clear A70
      by_cases c8 : t193 = true
      ·subst c8
       have H1 : (impl_IsMemory.l0 k1 l0_0 (l0_0.length : Int) (wrap64 (x8_1 + 1)) l0_0) = some r := by rw [if_pos rfl] at H; exact H
       clear H
       have H := H1
       clear H1
       have H' := Aside0.mk H
       clear H
       have p192 : 0 ≤ (x8_1 : Int) := of_decide_eq_true (by first | (with_reducible assumption) | assumption)
       have q192 : x8_1 < (l0_0.length : Int) := of_decide_eq_true (by first | (with_reducible assumption) | assumption)
       obtain ⟨ad192, A192_0, c192_0, e192, hx192_0, hl192_0, hi192_0⟩ := at_L1 HR0_0.out x8_1 p192 q192
       cases e192
       replace hx192_0 := (HB.out.cell (World.block_lt_of_cell? w _ hx192_0)).trans hx192_0
       have HR192_0 := Aside0.mk hi192_0
       have HC192_0 := Aside0.mk hl192_0
       clear hi192_0 hl192_0
       replace p192 := eq_true p192
       replace q192 := eq_true q192
       go_wp2_with (first | ((with_reducible refine gate_callee (f := 62) rfl ?_); refine goesL_ (some 14) rfl rfl Try.func62 (by kernel_rfl) rfl #[.int .i64 ((rd_L1 l0_0 x8_1).length : Int), .int .i64 1, .int .i64 64] rfl (by (try simp only [List.map_toArray, List.map_cons, List.map_nil]); first | done | rfl | (simp only [List.length_drop, List.length_take]; rfl)) ?_; (with_reducible refine (impl_within.calls ((rd_L1 l0_0 x8_1).length : Int) 1 64 true _ A7.out).mono ?_); rintro e w' ⟨rfl, ⟨nd, rfl⟩⟩; refine ⟨_, rfl, ?_⟩))
       go_roundg k1
       case measure => have := HK1.out; omega
       case rel => exact ⟨(wrap64 (x8_1 + 1)), (by first | rfl | (simp; done) | (simp [*]; done)), H', ⟨by have := HK1.out; omega⟩, ⟨zk0 BK191⟩, ⟨by repeat (first | (with_reducible first | exact HB.out | apply below_alloc | apply pw_below_drewN | apply below_drew1 | refine below_set ?_ GE191.out) | exact HB.out)⟩⟩
      ·replace c8 := Bool.eq_false_iff.mpr c8
       subst c8
       have H1 : (some false) = some r := by rw [if_neg (show ¬ (false = true) by decide)] at H; exact H
       clear H
       have H := H1
       clear H1
       obtain rfl := Option.some.inj H
       have p192 : 0 ≤ (x8_1 : Int) := of_decide_eq_true (by first | (with_reducible assumption) | assumption)
       have q192 : x8_1 < (l0_0.length : Int) := of_decide_eq_true (by first | (with_reducible assumption) | assumption)
       obtain ⟨ad192, A192_0, c192_0, e192, hx192_0, hl192_0, hi192_0⟩ := at_L1 HR0_0.out x8_1 p192 q192
       cases e192
       replace hx192_0 := (HB.out.cell (World.block_lt_of_cell? w _ hx192_0)).trans hx192_0
       have HR192_0 := Aside0.mk hi192_0
       have HC192_0 := Aside0.mk hl192_0
       clear hi192_0 hl192_0
       replace p192 := eq_true p192
       replace q192 := eq_true q192
       go_wp2_with (first | ((with_reducible refine gate_callee (f := 62) rfl ?_); refine goesL_ (some 14) rfl rfl Try.func62 (by kernel_rfl) rfl #[.int .i64 ((rd_L1 l0_0 x8_1).length : Int), .int .i64 1, .int .i64 64] rfl (by (try simp only [List.map_toArray, List.map_cons, List.map_nil]); first | done | rfl | (simp only [List.length_drop, List.length_take]; rfl)) ?_; (with_reducible refine (impl_within.calls ((rd_L1 l0_0 x8_1).length : Int) 1 64 false _ A7.out).mono ?_); rintro e w' ⟨rfl, ⟨nd, rfl⟩⟩; refine ⟨_, rfl, ?_⟩))
       go_ret
       exact ⟨by first | rfl | (simp [errW_none, errW_some] <;> rfl) | (simp [*, errW_none, errW_some] <;> rfl), by repeat (first | (with_reducible first | exact HB.out | apply below_alloc | apply pw_below_drewN | apply below_drew1 | refine below_set ?_ GE191.out) | exact HB.out)⟩
     ·rw [if_neg c6] at H
      exact absurd H (by simp)
    ·rw [if_neg c5] at H
     exact absurd H (by simp)
   ·rw [if_neg c4] at H
    have c4b0 : decide (x8_1 < (l0_0.length : Int)) = false := decide_eq_false c4
    clear c4
    obtain rfl := Option.some.inj H
    have hcz9_0 : wr.cell? ⟨gb191, 0, none⟩ = some (.slice A0_0 l0_0.length c0_0) := zc0 BK191 0 rfl
    have hfz9_0 := blk_frozen BK191.out 0
    go_wp2
    go_ret
    exact ⟨by first | rfl | (simp [errW_none, errW_some] <;> rfl) | (simp [*, errW_none, errW_some] <;> rfl), by repeat (first | (with_reducible first | exact HB.out | apply below_alloc | apply pw_below_drewN | apply below_drew1 | refine below_set ?_ GE191.out) | exact HB.out)⟩

open Go.Proofs.Ytdojnaghcfhadab.Cp
/-! ### impl_Memory_hasArray: function 97 -/
def impl_Memory_hasArray.f (l0_0 : List (List Int)) (a1 : Int) : Option (Bool) := (impl_within.f a1 0 (wrap64 ((l0_0.length : Int) - 1))).bind fun t195 => (some t195)
set_option maxHeartbeats 8000000 in
set_option maxRecDepth 100000 in
theorem impl_Memory_hasArray.calls (A0_0 : Option Addr) (c0_0 : Nat) (l0_0 : List (List Int)) (a1 : Int) (r : Bool) (w : World) (hr0_0 : Kd.C (Kd.slice 5 (Kd.int .u8)) w A0_0 l0_0.length l0_0) (hc0_0 : l0_0.length ≤ c0_0) (h : impl_Memory_hasArray.f l0_0 a1 = some r) :
  Calls Try.prog 97 #[.agg #[.slice A0_0 l0_0.length c0_0], .int .i64 a1] w fun e w' => e = .returned (.bool r) ∧ Below w.heap.size w w' := by
 have hu32 := Try.underlying32
 have HR0_0 := Aside0.mk hr0_0
 have HC0_0 := Aside0.mk hc0_0
 clear hr0_0 hc0_0
 have HB := Aside0.mk (Below.refl w.heap.size w)
 have H : ((impl_within.f a1 0 (wrap64 ((l0_0.length : Int) - 1))).bind fun t195 => (some t195)) = some r := h
 clear h
 replace H := Option.bind_eq_some_iff.mp H
 obtain ⟨t195, A30, H⟩ := H
 replace H : (some t195) = some r := H
 have A3 := Aside0.mk A30
 clear A30
 obtain rfl := Option.some.inj H
 go_enter Try.func97, Try.ntmps97
 go_wp2_with (first | ((with_reducible refine gate_dst (N := 2) rfl ?_); refine box_event ?hg (N := 2) ?hd (cs := #[.slice A0_0 l0_0.length c0_0]) (t := 32) ?hr ?_; (case hd => rfl); (case hg => rfl); (case hr => first | (go_simp; done) | (go_simp; rfl)); intro gb194 hg w4 hbox hb; have n0_ := zhs HB hb; have n1_ := Aside0.mk (hbox); have n2_ := zge HB hg; have n3_ := zge HB hg; clear HB; have HB := n0_; have BK194 := n1_; have GW194 := n2_; have GE194 := n3_; clear n0_ n1_ n2_ n3_; clear hb hbox hg; have hcz5_0 : w4.cell? ⟨gb194, 0, none⟩ = some (.slice A0_0 l0_0.length c0_0) := zc0 BK194 0 rfl; have hfz5_0 := blk_frozen BK194.out 0) | ((with_reducible refine gate_callee (f := 62) rfl ?_); refine goesL_ (some 10) rfl rfl Try.func62 (by kernel_rfl) rfl #[.int .i64 a1, .int .i64 0, .int .i64 (wrap64 ((l0_0.length : Int) - 1))] rfl (by (try simp only [List.map_toArray, List.map_cons, List.map_nil]); first | done | rfl | (simp only [List.length_drop, List.length_take]; rfl)) ?_; (with_reducible refine (impl_within.calls a1 0 (wrap64 ((l0_0.length : Int) - 1)) t195 _ A3.out).mono ?_); rintro e w' ⟨rfl, ⟨nd, rfl⟩⟩; refine ⟨_, rfl, ?_⟩))
 go_ret
 exact ⟨by first | rfl | (simp [errW_none, errW_some] <;> rfl) | (simp [*, errW_none, errW_some] <;> rfl), by repeat (first | (with_reducible first | exact HB.out | apply below_alloc | apply pw_below_drewN | apply below_drew1 | refine below_set ?_ GE194.out) | exact HB.out)⟩

end Go.Proofs.Ytdojnaghcfhadab.PFnExactSeenThrough
