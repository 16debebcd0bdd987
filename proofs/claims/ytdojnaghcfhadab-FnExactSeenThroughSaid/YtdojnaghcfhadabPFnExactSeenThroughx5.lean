/- What is proved here: each Go function that is named below answers, and leaves memory, as the theorem of its name says; no condition beyond those that each theorem states. Laid by this session's own program (wip/driver.py) over the kit's print. -/
import Derived.Test.YtdojnaghcfhadabPFnExactSeenThroughx0
import Derived.Test.YtdojnaghcfhadabPFnExactSeenThroughx1
import Derived.Test.YtdojnaghcfhadabPFnExactSeenThroughx3
import Derived.Test.YtdojnaghcfhadabPFnExactSeenThroughx4
namespace Go.Proofs.Ytdojnaghcfhadab.PFnExactSeenThrough
open Go.RowKit Go.Proofs.YtdojnaghcfhadabW.PrintWords Go.Proofs.YtdojnaghcfhadabW.PrintLast Go.Proofs.YtdojnaghcfhadabW.PrintMore
attribute [local go_sem] max2_int min2_int max_two min_two max_three min_three max_four min_four   -- for this text's walks alone
set_option linter.unusedVariables false
set_option linter.unusedSimpArgs false

open Go.Proofs.Ytdojnaghcfhadab.Cp
/-! ### impl_SeenThrough: function 48 -/
def impl_SeenThrough.j0 : Nat → Bool → List (List Int) → Int → Int → Int → Int → Int → Int → Int → Int → Int → Int → Option (Bool × Bool)
 | 0, _, _, _, _, _, _, _, _, _, _, _, _ => none
 | k + 1, x15, x219000, x219001, x219002, x219003, x219004, x219005, x219006, x220000, x220001, x220002, x220003 => if x15 = true then (some (false, false)) else ((impl_Window_part.f x219001 x219002 x219003 x219004 0 x219005).bind fun bt222 => ((impl_areShared.f bt222.1 bt222.2.1 bt222.2.2.1 bt222.2.2.2 x220000 x220001 x220002 x220003).bind fun t226 => (if t226 = true then (some (true, true)) else ((impl_Window_part.f x219001 x219002 x219003 x219004 x219006 (wrap64 (x219003 - x219006))).bind fun bt227 => ((impl_areShared.f bt227.1 bt227.2.1 bt227.2.2.1 bt227.2.2.2 x220000 x220001 x220002 x220003).bind fun t231 => (some (t231, true)))))))
def impl_SeenThrough.f (k : Nat) (l0_0 : List (List Int)) (a0_1 : Int) (a0_2 : Int) (a0_3 : Int) (a0_4 : Int) (a0_5 : Int) (a0_6 : Int) (a1_0 : Int) (a1_1 : Int) (a1_2 : Int) (a1_3 : Int) : Option (Bool × Bool) := (impl_IsGap.f k l0_0 a0_1 a0_2 a0_3 a0_4 a0_5 a0_6).bind fun t220 => (if t220 = true then ((impl_Memory_hasWindow.f l0_0 a1_0 a1_1 a1_2 a1_3).bind fun t221 => (impl_SeenThrough.j0 k (!t221) l0_0 a0_1 a0_2 a0_3 a0_4 a0_5 a0_6 a1_0 a1_1 a1_2 a1_3)) else (impl_SeenThrough.j0 k true l0_0 a0_1 a0_2 a0_3 a0_4 a0_5 a0_6 a1_0 a1_1 a1_2 a1_3))
theorem impl_SeenThrough.mono_l : ∀ k, (∀ y0 y1 y2 y3 y4 y5 y6 y7 y8 y9 y10 y11, LeO (impl_SeenThrough.j0 k y0 y1 y2 y3 y4 y5 y6 y7 y8 y9 y10 y11) (impl_SeenThrough.j0 (k + 1) y0 y1 y2 y3 y4 y5 y6 y7 y8 y9 y10 y11))
 | 0 => fun _ _ _ _ _ _ _ _ _ _ _ _ r h => by simp [impl_SeenThrough.j0] at h
 | k + 1 => by
  have ih0 := impl_SeenThrough.mono_l k
  ·intro y0 y1 y2 y3 y4 y5 y6 y7 y8 y9 y10 y11
   unfold impl_SeenThrough.j0
   repeat' first
   | (with_reducible exact ih0 _ _ _ _ _ _ _ _ _ _ _ _)
   | (with_reducible exact impl_IsGap.mono _ _ _ _ _ _ _ _)
   | (with_reducible exact LeO.refl _)
   | (with_reducible exact LeO.none _)
   | (with_reducible refine LeO.ite ?_ ?_)
   | (with_reducible refine LeO.bind ?_ (fun _ => ?_))
   | exact ih0 _ _ _ _ _ _ _ _ _ _ _ _
   | exact impl_IsGap.mono _ _ _ _ _ _ _ _
   | exact LeO.none _
   | refine LeO.ite ?_ ?_
   | refine LeO.bind ?_ (fun _ => ?_)
theorem impl_SeenThrough.mono : ∀ a0 a1 a2 a3 a4 a5 a6 a7 a8 a9 a10 k, LeO (impl_SeenThrough.f k a0 a1 a2 a3 a4 a5 a6 a7 a8 a9 a10) (impl_SeenThrough.f (k + 1) a0 a1 a2 a3 a4 a5 a6 a7 a8 a9 a10) := by
 intro a0 a1 a2 a3 a4 a5 a6 a7 a8 a9 a10 k
 have ih0 := impl_SeenThrough.mono_l k
 unfold impl_SeenThrough.f
 repeat' first
   | (with_reducible exact ih0 _ _ _ _ _ _ _ _ _ _ _ _)
   | (with_reducible exact impl_IsGap.mono _ _ _ _ _ _ _ _)
   | (with_reducible exact LeO.refl _)
   | (with_reducible exact LeO.none _)
   | (with_reducible refine LeO.ite ?_ ?_)
   | (with_reducible refine LeO.bind ?_ (fun _ => ?_))
   | exact ih0 _ _ _ _ _ _ _ _ _ _ _ _
   | exact impl_IsGap.mono _ _ _ _ _ _ _ _
   | exact LeO.none _
   | refine LeO.ite ?_ ?_
   | refine LeO.bind ?_ (fun _ => ?_)
def impl_SeenThrough.T3 : Bool × List (List Nat × List Nat) := (true, [([], []), ([0], [0]), ([], []), ([2], [2]), ([1, 3], [1, 3]), ([], []), ([4, 5, 4], [4, 5]), ([6, 6], [6]), ([7], [7]), ([8, 7], [7, 8]), ([7], [7]), ([10, 7], [7, 10]), ([7], [7]), ([12, 7], [7, 12]), ([13, 7], [7, 13]), ([7], [7]), ([15, 7], [7, 15]), ([14, 16, 7], [7, 14, 16]), ([9, 11, 17, 7, 7], [7, 9, 11, 17]), ([7], [7]), ([18, 19, 18, 7], [7, 18, 19]), ([7, 20], [7, 20]), ([21, 20, 0, 1, 2, 3, 4, 5, 6, 7, 8, 9, 10, 11, 12, 13, 14, 15, 16, 17, 18, 19, 20, 21], [21]), ([22, 0, 1, 2, 3, 4, 5, 6, 7, 8, 9, 10, 11, 12, 13, 14, 15, 16, 17, 18, 19, 20, 21, 22], [])])
def impl_SeenThrough.B3 : List Nat := [0, 1, 0, 4, 15, 0, 63, 127, 255, 511, 255, 1279, 255, 4351, 12543, 255, 33023, 127231, 262143, 255, 1048575, 2097151, 4194303, 8388607]
theorem impl_SeenThrough.tab3 : rtab .any (opsOf Try.f48 3) = impl_SeenThrough.T3 := by kernel_rfl
theorem impl_SeenThrough.bits3 : waitsOk impl_SeenThrough.T3.2 impl_SeenThrough.B3 = true := by kernel_rfl
set_option maxHeartbeats 8000000 in
set_option maxRecDepth 100000 in
theorem impl_SeenThrough.calls (k : Nat) (A0_0 : Option Addr) (c0_0 : Nat) (l0_0 : List (List Int)) (a0_1 : Int) (a0_2 : Int) (a0_3 : Int) (a0_4 : Int) (a0_5 : Int) (a0_6 : Int) (a1_0 : Int) (a1_1 : Int) (a1_2 : Int) (a1_3 : Int) (r1 : Bool) (r2 : Bool) (w : World) (hr0_0 : Kd.C (Kd.slice 5 (Kd.int .u8)) w A0_0 l0_0.length l0_0) (hc0_0 : l0_0.length ≤ c0_0) (h : impl_SeenThrough.f k l0_0 a0_1 a0_2 a0_3 a0_4 a0_5 a0_6 a1_0 a1_1 a1_2 a1_3 = some (r1, r2)) :
  Calls Try.prog 48 #[.agg #[.slice A0_0 l0_0.length c0_0, .int .i64 a0_1, .int .i64 a0_2, .int .i64 a0_3, .int .i64 a0_4, .int .i64 a0_5, .int .i64 a0_6], .agg #[.int .i64 a1_0, .int .i64 a1_1, .int .i64 a1_2, .int .i64 a1_3]] w fun e w' => e = .returned (.tuple #[.bool r1, .bool r2]) ∧ Below w.heap.size w w' := by
 have hu45 := Try.underlying45
 have hu34 := Try.underlying34
 have hu32 := Try.underlying32
 have HR0_0 := Aside0.mk hr0_0
 have HC0_0 := Aside0.mk hc0_0
 clear hr0_0 hc0_0
 have HB := Aside0.mk (Below.refl w.heap.size w)
 have H : ((impl_IsGap.f k l0_0 a0_1 a0_2 a0_3 a0_4 a0_5 a0_6).bind fun t220 => (if t220 = true then ((impl_Memory_hasWindow.f l0_0 a1_0 a1_1 a1_2 a1_3).bind fun t221 => (impl_SeenThrough.j0 k (!t221) l0_0 a0_1 a0_2 a0_3 a0_4 a0_5 a0_6 a1_0 a1_1 a1_2 a1_3)) else (impl_SeenThrough.j0 k true l0_0 a0_1 a0_2 a0_3 a0_4 a0_5 a0_6 a1_0 a1_1 a1_2 a1_3))) = some (r1, r2) := h
 clear h
 have HC3 := Aside0.mk H
 clear H
 go_enter Try.func48, Try.ntmps48
 go_upto_region 1 with (first | ((with_reducible refine gate_dst (N := 2) rfl ?_); refine box_event ?hg (N := 2) ?hd (cs := #[.slice A0_0 l0_0.length c0_0, .int .i64 a0_1, .int .i64 a0_2, .int .i64 a0_3, .int .i64 a0_4, .int .i64 a0_5, .int .i64 a0_6]) (t := 45) ?hr ?_; (case hd => rfl); (case hg => rfl); (case hr => first | (go_simp; done) | (go_simp; rfl)); intro gb218 hg w4 hbox hb; have n0_ := zhs HB hb; have n1_ := Aside0.mk (hbox); have n2_ := zge HB hg; have n3_ := zge HB hg; clear HB; have HB := n0_; have BK218 := n1_; have GW218 := n2_; have GE218 := n3_; clear n0_ n1_ n2_ n3_; clear hb hbox hg) | ((with_reducible refine gate_dst (N := 3) rfl ?_); refine box_event ?hg (N := 3) ?hd (cs := #[.int .i64 a1_0, .int .i64 a1_1, .int .i64 a1_2, .int .i64 a1_3]) (t := 34) ?hr ?_; (case hd => rfl); (case hg => rfl); (case hr => first | (go_simp; done) | (go_simp; rfl)); intro gb219 hg w5 hbox hb; have n0_ := zb0 BK218 hb; have n1_ := zhs HB hb; have n2_ := Aside0.mk (hbox); have n3_ := zge HB hg; have n4_ := zge HB hg; have n5_ := znl BK218 hg; have n6_ := znr BK218 hg; clear BK218; clear HB; have BK218 := n0_; have HB := n1_; have BK219 := n2_; have GW219 := n3_; have GE219 := n4_; have NB218_219 := n5_; have NB219_218 := n6_; clear n0_ n1_ n2_ n3_ n4_ n5_ n6_; clear hb hbox hg))
 (try simp only [Act.put, zp1, zp2, zp3])
 go_cut [15] (fun v15 wc => ∃ (kq : Nat) (x15_2 : Bool), v15 = .bool x15_2 ∧ Aside0 (impl_SeenThrough.j0 kq x15_2 l0_0 a0_1 a0_2 a0_3 a0_4 a0_5 a0_6 a1_0 a1_1 a1_2 a1_3 = some (r1, r2)) ∧ Aside0 (kq ≤ k) ∧ Aside0 (wc.heap[gb218]? = some (.cells #[(.slice A0_0 l0_0.length c0_0), .int .i64 a0_1, .int .i64 a0_2, .int .i64 a0_3, .int .i64 a0_4, .int .i64 a0_5, .int .i64 a0_6] 45 (0, 0))) ∧ Aside0 (wc.heap[gb219]? = some (.cells #[.int .i64 a1_0, .int .i64 a1_1, .int .i64 a1_2, .int .i64 a1_3] 34 (0, 0))) ∧ Aside0 (Below w.heap.size w wc))
 case first =>
  have H := HC3.out
  clear HC3
  replace H := Option.bind_eq_some_iff.mp H
  obtain ⟨t220, A60, H⟩ := H
  replace H : (if t220 = true then ((impl_Memory_hasWindow.f l0_0 a1_0 a1_1 a1_2 a1_3).bind fun t221 => (impl_SeenThrough.j0 k (!t221) l0_0 a0_1 a0_2 a0_3 a0_4 a0_5 a0_6 a1_0 a1_1 a1_2 a1_3)) else (impl_SeenThrough.j0 k true l0_0 a0_1 a0_2 a0_3 a0_4 a0_5 a0_6 a1_0 a1_1 a1_2 a1_3)) = some (r1, r2) := H
  have A6 := Aside0.mk A60
  clear A60
  by_cases c7 : t220 = true
  ·subst c7
   have H1 : ((impl_Memory_hasWindow.f l0_0 a1_0 a1_1 a1_2 a1_3).bind fun t221 => (impl_SeenThrough.j0 k (!t221) l0_0 a0_1 a0_2 a0_3 a0_4 a0_5 a0_6 a1_0 a1_1 a1_2 a1_3)) = some (r1, r2) := by rw [if_pos rfl] at H; exact H
   clear H
   have H := H1
   clear H1
   replace H := Option.bind_eq_some_iff.mp H
   obtain ⟨t221, A80, H⟩ := H
   replace H : (impl_SeenThrough.j0 k (!t221) l0_0 a0_1 a0_2 a0_3 a0_4 a0_5 a0_6 a1_0 a1_1 a1_2 a1_3) = some (r1, r2) := H
   have A8 := Aside0.mk A80
   clear A80
   have H' := Aside0.mk H
   clear H
   have hnb9 := NB218_219.out
   have hnc9 := NB219_218.out
   have hcz10_0 : w5.cell? ⟨gb218, 0, none⟩ = some (.slice A0_0 l0_0.length c0_0) := zc0 BK218 0 rfl
   have hcz10_1 : w5.cell? ⟨gb218, 1, none⟩ = some (.int .i64 a0_1) := zc0 BK218 1 rfl
   have hcz10_2 : w5.cell? ⟨gb218, 2, none⟩ = some (.int .i64 a0_2) := zc0 BK218 2 rfl
   have hcz10_3 : w5.cell? ⟨gb218, 3, none⟩ = some (.int .i64 a0_3) := zc0 BK218 3 rfl
   have hcz10_4 : w5.cell? ⟨gb218, 4, none⟩ = some (.int .i64 a0_4) := zc0 BK218 4 rfl
   have hcz10_5 : w5.cell? ⟨gb218, 5, none⟩ = some (.int .i64 a0_5) := zc0 BK218 5 rfl
   have hcz10_6 : w5.cell? ⟨gb218, 6, none⟩ = some (.int .i64 a0_6) := zc0 BK218 6 rfl
   have hfz10_0 := blk_frozen BK218.out 0
   have hfz10_1 := blk_frozen BK218.out 1
   have hfz10_2 := blk_frozen BK218.out 2
   have hfz10_3 := blk_frozen BK218.out 3
   have hfz10_4 := blk_frozen BK218.out 4
   have hfz10_5 := blk_frozen BK218.out 5
   have hfz10_6 := blk_frozen BK218.out 6
   go_wp2_with (first | ((with_reducible refine gate_callee (f := 25) rfl ?_); refine goesL_ (some 7) rfl rfl Try.func25 (by kernel_rfl) rfl #[.agg #[.slice A0_0 l0_0.length c0_0, .int .i64 a0_1, .int .i64 a0_2, .int .i64 a0_3, .int .i64 a0_4, .int .i64 a0_5, .int .i64 a0_6]] rfl (by (try simp only [List.map_toArray, List.map_cons, List.map_nil]); first | done | rfl | (simp only [List.length_drop, List.length_take]; rfl)) ?_; (with_reducible refine (impl_IsGap.calls k _ _ l0_0 a0_1 a0_2 a0_3 a0_4 a0_5 a0_6 true _ ?side1 ?side2 A6.out).mono ?_); (case side1 => repeat (first | exact (Kd.C_below HR0_0.out HB.out) | (with_reducible refine Kd.C_alloc ?_ _) | (with_reducible refine Kd.C_drewN ?_ _) | (with_reducible refine Kd.C_drew ?_))); (case side2 => exact HC0_0.out); rintro e w11 ⟨rfl, hb⟩; refine ⟨_, rfl, ?_⟩; have n0_ := zb0 BK218 hb; have n1_ := zb0 BK219 hb; have n2_ := zhs HB hb; clear BK218; clear BK219; clear HB; have BK218 := n0_; have BK219 := n1_; have HB := n2_; clear n0_ n1_ n2_; (try clear hb); (try clear hb2); (try clear hk); (try clear hi); have hcz12_0 : w11.cell? ⟨gb218, 0, none⟩ = some (.slice A0_0 l0_0.length c0_0) := zc0 BK218 0 rfl; have hcz12_1 : w11.cell? ⟨gb218, 1, none⟩ = some (.int .i64 a0_1) := zc0 BK218 1 rfl; have hcz12_2 : w11.cell? ⟨gb218, 2, none⟩ = some (.int .i64 a0_2) := zc0 BK218 2 rfl; have hcz12_3 : w11.cell? ⟨gb218, 3, none⟩ = some (.int .i64 a0_3) := zc0 BK218 3 rfl; have hcz12_4 : w11.cell? ⟨gb218, 4, none⟩ = some (.int .i64 a0_4) := zc0 BK218 4 rfl; have hcz12_5 : w11.cell? ⟨gb218, 5, none⟩ = some (.int .i64 a0_5) := zc0 BK218 5 rfl; have hcz12_6 : w11.cell? ⟨gb218, 6, none⟩ = some (.int .i64 a0_6) := zc0 BK218 6 rfl; have hfz12_0 := blk_frozen BK218.out 0; have hfz12_1 := blk_frozen BK218.out 1; have hfz12_2 := blk_frozen BK218.out 2; have hfz12_3 := blk_frozen BK218.out 3; have hfz12_4 := blk_frozen BK218.out 4; have hfz12_5 := blk_frozen BK218.out 5; have hfz12_6 := blk_frozen BK218.out 6; have hcz13_0 : w11.cell? ⟨gb219, 0, none⟩ = some (.int .i64 a1_0) := zc0 BK219 0 rfl; have hcz13_1 : w11.cell? ⟨gb219, 1, none⟩ = some (.int .i64 a1_1) := zc0 BK219 1 rfl; have hcz13_2 : w11.cell? ⟨gb219, 2, none⟩ = some (.int .i64 a1_2) := zc0 BK219 2 rfl; have hcz13_3 : w11.cell? ⟨gb219, 3, none⟩ = some (.int .i64 a1_3) := zc0 BK219 3 rfl; have hfz13_0 := blk_frozen BK219.out 0; have hfz13_1 := blk_frozen BK219.out 1; have hfz13_2 := blk_frozen BK219.out 2; have hfz13_3 := blk_frozen BK219.out 3) | (go_at_call 85; (with_reducible refine (impl_Memory_hasWindow.calls _ _ l0_0 a1_0 a1_1 a1_2 a1_3 t221 _ ?side1 ?side2 A8.out).mono ?_); (case side1 => repeat (first | exact (Kd.C_below HR0_0.out HB.out) | (with_reducible refine Kd.C_alloc ?_ _) | (with_reducible refine Kd.C_drewN ?_ _) | (with_reducible refine Kd.C_drew ?_))); (case side2 => exact HC0_0.out); rintro e w14 ⟨rfl, hb⟩; have n0_ := zb0 BK218 hb; have n1_ := zb0 BK219 hb; have n2_ := zhs HB hb; clear BK218; clear BK219; clear HB; have BK218 := n0_; have BK219 := n1_; have HB := n2_; clear n0_ n1_ n2_; (try clear hb); (try clear hb2); (try clear hk); (try clear hi)))
   go_meet
   case rel => exact ⟨_, (!t221), (by first | rfl | (simp; done) | (simp [*]; done)), H', ⟨by first | omega | exact Nat.le_refl _⟩, ⟨zk0 BK218⟩, ⟨zk0 BK219⟩, ⟨by repeat (first | (with_reducible first | exact HB.out | apply below_alloc | apply pw_below_drewN | apply below_drew1 | refine below_set ?_ GE218.out | refine below_set ?_ GE219.out) | exact HB.out)⟩⟩
  ·replace c7 := Bool.eq_false_iff.mpr c7
   subst c7
   have H1 : (impl_SeenThrough.j0 k true l0_0 a0_1 a0_2 a0_3 a0_4 a0_5 a0_6 a1_0 a1_1 a1_2 a1_3) = some (r1, r2) := by rw [if_neg (show ¬ (false = true) by decide)] at H; exact H
   clear H
   have H := H1
   clear H1
   have H' := Aside0.mk H
   clear H
   have hnb15 := NB218_219.out
   have hnc15 := NB219_218.out
   have hcz16_0 : w5.cell? ⟨gb218, 0, none⟩ = some (.slice A0_0 l0_0.length c0_0) := zc0 BK218 0 rfl
   have hcz16_1 : w5.cell? ⟨gb218, 1, none⟩ = some (.int .i64 a0_1) := zc0 BK218 1 rfl
   have hcz16_2 : w5.cell? ⟨gb218, 2, none⟩ = some (.int .i64 a0_2) := zc0 BK218 2 rfl
   have hcz16_3 : w5.cell? ⟨gb218, 3, none⟩ = some (.int .i64 a0_3) := zc0 BK218 3 rfl
   have hcz16_4 : w5.cell? ⟨gb218, 4, none⟩ = some (.int .i64 a0_4) := zc0 BK218 4 rfl
   have hcz16_5 : w5.cell? ⟨gb218, 5, none⟩ = some (.int .i64 a0_5) := zc0 BK218 5 rfl
   have hcz16_6 : w5.cell? ⟨gb218, 6, none⟩ = some (.int .i64 a0_6) := zc0 BK218 6 rfl
   have hfz16_0 := blk_frozen BK218.out 0
   have hfz16_1 := blk_frozen BK218.out 1
   have hfz16_2 := blk_frozen BK218.out 2
   have hfz16_3 := blk_frozen BK218.out 3
   have hfz16_4 := blk_frozen BK218.out 4
   have hfz16_5 := blk_frozen BK218.out 5
   have hfz16_6 := blk_frozen BK218.out 6
   go_wp2_with (first | ((with_reducible refine gate_callee (f := 25) rfl ?_); refine goesL_ (some 7) rfl rfl Try.func25 (by kernel_rfl) rfl #[.agg #[.slice A0_0 l0_0.length c0_0, .int .i64 a0_1, .int .i64 a0_2, .int .i64 a0_3, .int .i64 a0_4, .int .i64 a0_5, .int .i64 a0_6]] rfl (by (try simp only [List.map_toArray, List.map_cons, List.map_nil]); first | done | rfl | (simp only [List.length_drop, List.length_take]; rfl)) ?_; (with_reducible refine (impl_IsGap.calls k _ _ l0_0 a0_1 a0_2 a0_3 a0_4 a0_5 a0_6 false _ ?side1 ?side2 A6.out).mono ?_); (case side1 => repeat (first | exact (Kd.C_below HR0_0.out HB.out) | (with_reducible refine Kd.C_alloc ?_ _) | (with_reducible refine Kd.C_drewN ?_ _) | (with_reducible refine Kd.C_drew ?_))); (case side2 => exact HC0_0.out); rintro e w17 ⟨rfl, hb⟩; refine ⟨_, rfl, ?_⟩; have n0_ := zb0 BK218 hb; have n1_ := zb0 BK219 hb; have n2_ := zhs HB hb; clear BK218; clear BK219; clear HB; have BK218 := n0_; have BK219 := n1_; have HB := n2_; clear n0_ n1_ n2_; (try clear hb); (try clear hb2); (try clear hk); (try clear hi)))
   go_meet
   case rel => exact ⟨_, (true), (by first | rfl | (simp; done) | (simp [*]; done)), H', ⟨by first | omega | exact Nat.le_refl _⟩, ⟨zk0 BK218⟩, ⟨zk0 BK219⟩, ⟨by repeat (first | (with_reducible first | exact HB.out | apply below_alloc | apply pw_below_drewN | apply below_drew1 | refine below_set ?_ GE218.out | refine below_set ?_ GE219.out) | exact HB.out)⟩⟩
 case rest =>
  clear HC3
  try clear c1
  try clear c2
  try clear p2
  try clear c4
  try clear c7
  try clear c9
  try clear c15
  try clear hcz10_0
  try clear hcz10_1
  try clear hcz10_2
  try clear hcz10_3
  try clear hcz10_4
  try clear hcz10_5
  try clear hcz10_6
  try clear hcz12_0
  try clear hcz12_1
  try clear hcz12_2
  try clear hcz12_3
  try clear hcz12_4
  try clear hcz12_5
  try clear hcz12_6
  try clear hcz13_0
  try clear hcz13_1
  try clear hcz13_2
  try clear hcz13_3
  try clear hcz16_0
  try clear hcz16_1
  try clear hcz16_2
  try clear hcz16_3
  try clear hcz16_4
  try clear hcz16_5
  try clear hcz16_6
  try clear hfz10_0
  try clear hfz10_1
  try clear hfz10_2
  try clear hfz10_3
  try clear hfz10_4
  try clear hfz10_5
  try clear hfz10_6
  try clear hfz12_0
  try clear hfz12_1
  try clear hfz12_2
  try clear hfz12_3
  try clear hfz12_4
  try clear hfz12_5
  try clear hfz12_6
  try clear hfz13_0
  try clear hfz13_1
  try clear hfz13_2
  try clear hfz13_3
  try clear hfz16_0
  try clear hfz16_1
  try clear hfz16_2
  try clear hfz16_3
  try clear hfz16_4
  try clear hfz16_5
  try clear hfz16_6
  obtain ⟨kq, x15_2, rfl, HA, HJ2, BK218, BK219, HB⟩ := hcut
  cases kq with
  | zero => exact absurd HA.out (by simp [impl_SeenThrough.j0])
  | succ kj2 =>
   have H := HA.out
   clear HA
   simp only [impl_SeenThrough.j0] at H
   by_cases c18 : x15_2 = true
   ·subst c18
    have H1 : (some (false, false)) = some (r1, r2) := by rw [if_pos rfl] at H; exact H
    clear H
    have H := H1
    clear H1
    simp only [Option.some.injEq, Prod.mk.injEq] at H
    obtain ⟨rfl, rfl⟩ := H
    go_wp2
    go_ret2
    exact ⟨by first | rfl | (simp [errW_none, errW_some] <;> rfl) | (simp [*, errW_none, errW_some] <;> rfl), by repeat (first | (with_reducible first | exact HB.out | apply below_alloc | apply pw_below_drewN | apply below_drew1 | refine below_set ?_ GE218.out | refine below_set ?_ GE219.out) | exact HB.out)⟩
   ·replace c18 := Bool.eq_false_iff.mpr c18
    subst c18
    have H1 : ((impl_Window_part.f a0_1 a0_2 a0_3 a0_4 0 a0_5).bind fun bt222 => ((impl_areShared.f bt222.1 bt222.2.1 bt222.2.2.1 bt222.2.2.2 a1_0 a1_1 a1_2 a1_3).bind fun t226 => (if t226 = true then (some (true, true)) else ((impl_Window_part.f a0_1 a0_2 a0_3 a0_4 a0_6 (wrap64 (a0_3 - a0_6))).bind fun bt227 => ((impl_areShared.f bt227.1 bt227.2.1 bt227.2.2.1 bt227.2.2.2 a1_0 a1_1 a1_2 a1_3).bind fun t231 => (some (t231, true))))))) = some (r1, r2) := by rw [if_neg (show ¬ (false = true) by decide)] at H; exact H
    clear H
    have H := H1
    clear H1
    replace H := Option.bind_eq_some_iff.mp H
    obtain ⟨⟨t222, t223, t224, t225⟩, A190, H⟩ := H
    replace H : ((impl_areShared.f t222 t223 t224 t225 a1_0 a1_1 a1_2 a1_3).bind fun t226 => (if t226 = true then (some (true, true)) else ((impl_Window_part.f a0_1 a0_2 a0_3 a0_4 a0_6 (wrap64 (a0_3 - a0_6))).bind fun bt227 => ((impl_areShared.f bt227.1 bt227.2.1 bt227.2.2.1 bt227.2.2.2 a1_0 a1_1 a1_2 a1_3).bind fun t231 => (some (t231, true)))))) = some (r1, r2) := H
    have A19 := Aside0.mk A190
    clear A190
    replace H := Option.bind_eq_some_iff.mp H
    obtain ⟨t226, A200, H⟩ := H
    replace H : (if t226 = true then (some (true, true)) else ((impl_Window_part.f a0_1 a0_2 a0_3 a0_4 a0_6 (wrap64 (a0_3 - a0_6))).bind fun bt227 => ((impl_areShared.f bt227.1 bt227.2.1 bt227.2.2.1 bt227.2.2.2 a1_0 a1_1 a1_2 a1_3).bind fun t231 => (some (t231, true))))) = some (r1, r2) := H
    have A20 := Aside0.mk A200
    clear A200
    by_cases c21 : t226 = true
    ·subst c21
     have H1 : (some (true, true)) = some (r1, r2) := by rw [if_pos rfl] at H; exact H
     clear H
     have H := H1
     clear H1
     simp only [Option.some.injEq, Prod.mk.injEq] at H
     obtain ⟨rfl, rfl⟩ := H
     try go_wp2
     replace BK218 := Aside0.mk (blk_drew BK218.out)
     replace BK219 := Aside0.mk (blk_drew BK219.out)
     replace HB := Aside0.mk (below_drew1 HB.out)
     refine start_ (n := 24) (S := fun w' => w'.cell? ⟨gb218, 0, none⟩ = some (.slice A0_0 l0_0.length c0_0) ∧ w'.cell? ⟨gb218, 1, none⟩ = some (.int .i64 a0_1) ∧ w'.cell? ⟨gb218, 2, none⟩ = some (.int .i64 a0_2) ∧ w'.cell? ⟨gb218, 3, none⟩ = some (.int .i64 a0_3) ∧ w'.cell? ⟨gb218, 4, none⟩ = some (.int .i64 a0_4) ∧ w'.cell? ⟨gb218, 5, none⟩ = some (.int .i64 a0_5) ∧ w'.cell? ⟨gb218, 6, none⟩ = some (.int .i64 a0_6) ∧ w'.cell? ⟨gb219, 0, none⟩ = some (.int .i64 a1_0) ∧ w'.cell? ⟨gb219, 1, none⟩ = some (.int .i64 a1_1) ∧ w'.cell? ⟨gb219, 2, none⟩ = some (.int .i64 a1_2) ∧ w'.cell? ⟨gb219, 3, none⟩ = some (.int .i64 a1_3)) (ds := []) #[false, false, false, false, false, false, false, false, false, false, false, false, false, false, false, false, false, false, false, false, false, false, false, false] (by kernel_rfl) rfl rfl ⟨zc0 BK218 0 rfl, zc0 BK218 1 rfl, zc0 BK218 2 rfl, zc0 BK218 3 rfl, zc0 BK218 4 rfl, zc0 BK218 5 rfl, zc0 BK218 6 rfl, zc0 BK219 0 rfl, zc0 BK219 1 rfl, zc0 BK219 2 rfl, zc0 BK219 3 rfl⟩ (fun hHeld => ?_); refine with_tabW impl_SeenThrough.tab3 impl_SeenThrough.bits3 (fun HT_ HW_ => ?_)
     generalize wc.drew = w22 at BK218 BK219 HB hHeld ⊢
     refine pure_ (i := 0) (N := some 16) (v := ?_) (a' := ?_) #[true, false, false, false, false, false, false, false, false, false, false, false, false, false, false, false, false, false, false, false, false, false, false, false] rfl rfl (any_of HT_.out (by kernel_rfl)) (fun _ _ _ h => h) (Or.inl ⟨by rfl, ?_⟩) ?_ ?_
     rotate_left
     ·intro w'
      go_simp
      with_reducible rfl
     rotate_left
     ·simp only [Act.put, zp1, zp2, zp3, i64_w, i32_w]
      rfl
     refine pure_ (i := 2) (N := some 18) (v := ?_) (a' := ?_) #[true, false, true, false, false, false, false, false, false, false, false, false, false, false, false, false, false, false, false, false, false, false, false, false] rfl rfl (any_of HT_.out (by kernel_rfl)) (fun _ _ _ h => h) (Or.inl ⟨by rfl, ?_⟩) ?_ ?_
     rotate_left
     ·intro w'
      go_simp
      with_reducible rfl
     rotate_left
     ·simp only [Act.put, zp1, zp2, zp3, i64_w, i32_w]
      rfl
     refine take_ (i := 1) (N := some 17) (v := ?_) (a' := ?_) #[true, true, true, false, false, false, false, false, false, false, false, false, false, false, false, false, false, false, false, false, false, false, false, false] rfl rfl (take_ofW HT_.out HW_.out (by kernel_rfl)) (fun _ _ _ h => h) (Or.inl ⟨by rfl, ?_⟩) hHeld ?_ ?_
     rotate_left
     ·rintro w' ⟨s0, s1, s2, s3, s4, s5, s6, s7, s8, s9, s10⟩
      go_simp
      with_reducible rfl
     rotate_left
     ·simp only [Act.put, zp1, zp2, zp3, i64_w, i32_w]
      rfl
     refine take_ (i := 3) (N := some 19) (v := ?_) (a' := ?_) #[true, true, true, true, false, false, false, false, false, false, false, false, false, false, false, false, false, false, false, false, false, false, false, false] rfl rfl (take_ofW HT_.out HW_.out (by kernel_rfl)) (fun _ _ _ h => h) (Or.inl ⟨by rfl, ?_⟩) hHeld ?_ ?_
     rotate_left
     ·rintro w' ⟨s0, s1, s2, s3, s4, s5, s6, s7, s8, s9, s10⟩
      go_simp
      with_reducible rfl
     rotate_left
     ·simp only [Act.put, zp1, zp2, zp3, i64_w, i32_w]
      rfl
     refine take_ (i := 5) (N := some 21) (v := ?_) (a' := ?_) #[true, true, true, true, false, true, false, false, false, false, false, false, false, false, false, false, false, false, false, false, false, false, false, false] rfl rfl (take_ofW HT_.out HW_.out (by kernel_rfl)) (fun _ _ _ h => h) (Or.inl ⟨by rfl, ?_⟩) hHeld ?_ ?_
     rotate_left
     ·rintro w' ⟨s0, s1, s2, s3, s4, s5, s6, s7, s8, s9, s10⟩
      go_simp
      with_reducible rfl
     rotate_left
     ·simp only [Act.put, zp1, zp2, zp3, i64_w, i32_w]
      rfl
     refine one_ (i := 4) (N := some 20) #[true, true, true, true, true, true, false, false, false, false, false, false, false, false, false, false, false, false, false, false, false, false, false, false] rfl rfl (one_of HT_.out (by kernel_rfl)) (by decide) (fun K hK => ?_)
     refine goes_ Try.func71 (by kernel_rfl) rfl #[.agg #[.int .i64 a0_1, .int .i64 a0_2, .int .i64 a0_3, .int .i64 a0_4], .int .i64 0, .int .i64 a0_5] (by rfl) rfl rfl (by (try simp only [List.map_toArray, List.map_cons, List.map_nil]); first | done | rfl | (simp only [List.length_drop, List.length_take]; rfl)) ?_
     with_reducible refine (impl_Window_part.calls a0_1 a0_2 a0_3 a0_4 0 a0_5 t222 t223 t224 t225 _ A19.out).mono ?_
     rintro e w23 ⟨rfl, hb⟩
     refine ⟨_, rfl, ?_⟩
     replace BK218 := zb0 BK218 hb
     replace BK219 := zb0 BK219 hb
     replace HB := zhs HB hb
     (try clear hb)
     (try clear hb2)
     (try clear hk)
     (try clear hi)
     refine hK.out _ _ ⟨zc0 BK218 0 rfl, zc0 BK218 1 rfl, zc0 BK218 2 rfl, zc0 BK218 3 rfl, zc0 BK218 4 rfl, zc0 BK218 5 rfl, zc0 BK218 6 rfl, zc0 BK219 0 rfl, zc0 BK219 1 rfl, zc0 BK219 2 rfl, zc0 BK219 3 rfl⟩ (fun hHeld => ?_)
     clear hK K
     refine norm_ (a' := ?_) ?_ ?_
     rotate_left
     ·show Act.put _ (some 20) _ = _
      simp only [Act.put, zp1, zp2, zp3, i64_w, i32_w]
      rfl
     refine one_ (i := 6) (N := some 22) #[true, true, true, true, true, true, true, false, false, false, false, false, false, false, false, false, false, false, false, false, false, false, false, false] rfl rfl (one_of HT_.out (by kernel_rfl)) (by decide) (fun K hK => ?_)
     refine goes_ Try.func86 (by kernel_rfl) rfl #[.agg #[.int .i64 t222, .int .i64 t223, .int .i64 t224, .int .i64 t225], .agg #[.int .i64 a1_0, .int .i64 a1_1, .int .i64 a1_2, .int .i64 a1_3]] (by rfl) rfl rfl (by (try simp only [List.map_toArray, List.map_cons, List.map_nil]); first | done | rfl | (simp only [List.length_drop, List.length_take]; rfl)) ?_
     with_reducible refine (impl_areShared.calls t222 t223 t224 t225 a1_0 a1_1 a1_2 a1_3 true _ A20.out).mono ?_
     rintro e w24 ⟨rfl, hb⟩
     refine ⟨_, rfl, ?_⟩
     replace BK218 := zb0 BK218 hb
     replace BK219 := zb0 BK219 hb
     replace HB := zhs HB hb
     (try clear hb)
     (try clear hb2)
     (try clear hk)
     (try clear hi)
     refine hK.out _ _ ⟨zc0 BK218 0 rfl, zc0 BK218 1 rfl, zc0 BK218 2 rfl, zc0 BK218 3 rfl, zc0 BK218 4 rfl, zc0 BK218 5 rfl, zc0 BK218 6 rfl, zc0 BK219 0 rfl, zc0 BK219 1 rfl, zc0 BK219 2 rfl, zc0 BK219 3 rfl⟩ (fun hHeld => ?_)
     clear hK K
     refine norm_ (a' := ?_) ?_ ?_
     rotate_left
     ·show Act.put _ (some 22) _ = _
      simp only [Act.put, zp1, zp2, zp3, i64_w, i32_w]
      rfl
     refine pure_ (i := 7) (N := some 23) (v := ?_) (a' := ?_) #[true, true, true, true, true, true, true, true, false, false, false, false, false, false, false, false, false, false, false, false, false, false, false, false] rfl rfl (any_of HT_.out (by kernel_rfl)) (fun _ _ _ h => h) (Or.inl ⟨by rfl, ?_⟩) ?_ ?_
     rotate_left
     ·intro w'
      go_simp
      with_reducible rfl
     rotate_left
     ·simp only [Act.put, zp1, zp2, zp3, i64_w, i32_w]
      rfl
     refine pure_ (i := 8) (N := some 24) (v := undef) (a' := ?_) #[true, true, true, true, true, true, true, true, true, false, false, false, false, false, false, false, false, false, false, false, false, false, false, false] rfl rfl (any_of HT_.out (by kernel_rfl)) (fun _ _ _ h => h) (Or.inr ⟨by rfl, rfl⟩) ?_ ?_
     rotate_left
     ·simp only [Act.put, zp1, zp2, zp3, i64_w, i32_w]
      rfl
     refine pure_ (i := 9) (N := some 25) (v := undef) (a' := ?_) #[true, true, true, true, true, true, true, true, true, true, false, false, false, false, false, false, false, false, false, false, false, false, false, false] rfl rfl (any_of HT_.out (by kernel_rfl)) (fun _ _ _ h => h) (Or.inr ⟨by rfl, rfl⟩) ?_ ?_
     rotate_left
     ·simp only [Act.put, zp1, zp2, zp3, i64_w, i32_w]
      rfl
     refine pure_ (i := 10) (N := some 26) (v := undef) (a' := ?_) #[true, true, true, true, true, true, true, true, true, true, true, false, false, false, false, false, false, false, false, false, false, false, false, false] rfl rfl (any_of HT_.out (by kernel_rfl)) (fun _ _ _ h => h) (Or.inr ⟨by rfl, rfl⟩) ?_ ?_
     rotate_left
     ·simp only [Act.put, zp1, zp2, zp3, i64_w, i32_w]
      rfl
     refine pure_ (i := 11) (N := some 27) (v := undef) (a' := ?_) #[true, true, true, true, true, true, true, true, true, true, true, true, false, false, false, false, false, false, false, false, false, false, false, false] rfl rfl (any_of HT_.out (by kernel_rfl)) (fun _ _ _ h => h) (Or.inr ⟨by rfl, rfl⟩) ?_ ?_
     rotate_left
     ·simp only [Act.put, zp1, zp2, zp3, i64_w, i32_w]
      rfl
     refine pure_ (i := 12) (N := some 28) (v := undef) (a' := ?_) #[true, true, true, true, true, true, true, true, true, true, true, true, true, false, false, false, false, false, false, false, false, false, false, false] rfl rfl (any_of HT_.out (by kernel_rfl)) (fun _ _ _ h => h) (Or.inr ⟨by rfl, rfl⟩) ?_ ?_
     rotate_left
     ·simp only [Act.put, zp1, zp2, zp3, i64_w, i32_w]
      rfl
     refine pure_ (i := 13) (N := some 29) (v := undef) (a' := ?_) #[true, true, true, true, true, true, true, true, true, true, true, true, true, true, false, false, false, false, false, false, false, false, false, false] rfl rfl (any_of HT_.out (by kernel_rfl)) (fun _ _ _ h => h) (Or.inr ⟨by rfl, rfl⟩) ?_ ?_
     rotate_left
     ·simp only [Act.put, zp1, zp2, zp3, i64_w, i32_w]
      rfl
     refine pure_ (i := 14) (N := some 30) (v := undef) (a' := ?_) #[true, true, true, true, true, true, true, true, true, true, true, true, true, true, true, false, false, false, false, false, false, false, false, false] rfl rfl (any_of HT_.out (by kernel_rfl)) (fun _ _ _ h => h) (Or.inr ⟨by rfl, rfl⟩) ?_ ?_
     rotate_left
     ·simp only [Act.put, zp1, zp2, zp3, i64_w, i32_w]
      rfl
     refine pure_ (i := 15) (N := some 31) (v := undef) (a' := ?_) #[true, true, true, true, true, true, true, true, true, true, true, true, true, true, true, true, false, false, false, false, false, false, false, false] rfl rfl (any_of HT_.out (by kernel_rfl)) (fun _ _ _ h => h) (Or.inr ⟨by rfl, rfl⟩) ?_ ?_
     rotate_left
     ·simp only [Act.put, zp1, zp2, zp3, i64_w, i32_w]
      rfl
     refine pure_ (i := 16) (N := some 32) (v := undef) (a' := ?_) #[true, true, true, true, true, true, true, true, true, true, true, true, true, true, true, true, true, false, false, false, false, false, false, false] rfl rfl (any_of HT_.out (by kernel_rfl)) (fun _ _ _ h => h) (Or.inr ⟨by rfl, rfl⟩) ?_ ?_
     rotate_left
     ·simp only [Act.put, zp1, zp2, zp3, i64_w, i32_w]
      rfl
     refine pure_ (i := 17) (N := some 33) (v := undef) (a' := ?_) #[true, true, true, true, true, true, true, true, true, true, true, true, true, true, true, true, true, true, false, false, false, false, false, false] rfl rfl (any_of HT_.out (by kernel_rfl)) (fun _ _ _ h => h) (Or.inr ⟨by rfl, rfl⟩) ?_ ?_
     rotate_left
     ·simp only [Act.put, zp1, zp2, zp3, i64_w, i32_w]
      rfl
     refine pure_ (i := 18) (N := some 34) (v := undef) (a' := ?_) #[true, true, true, true, true, true, true, true, true, true, true, true, true, true, true, true, true, true, true, false, false, false, false, false] rfl rfl (any_of HT_.out (by kernel_rfl)) (fun _ _ _ h => h) (Or.inr ⟨by rfl, rfl⟩) ?_ ?_
     rotate_left
     ·simp only [Act.put, zp1, zp2, zp3, i64_w, i32_w]
      rfl
     refine pure_ (i := 19) (N := some 35) (v := undef) (a' := ?_) #[true, true, true, true, true, true, true, true, true, true, true, true, true, true, true, true, true, true, true, true, false, false, false, false] rfl rfl (any_of HT_.out (by kernel_rfl)) (fun _ _ _ h => h) (Or.inr ⟨by rfl, rfl⟩) ?_ ?_
     rotate_left
     ·simp only [Act.put, zp1, zp2, zp3, i64_w, i32_w]
      rfl
     refine pure_ (i := 20) (N := some 36) (v := undef) (a' := ?_) #[true, true, true, true, true, true, true, true, true, true, true, true, true, true, true, true, true, true, true, true, true, false, false, false] rfl rfl (any_of HT_.out (by kernel_rfl)) (fun _ _ _ h => h) (Or.inr ⟨by rfl, rfl⟩) ?_ ?_
     rotate_left
     ·simp only [Act.put, zp1, zp2, zp3, i64_w, i32_w]
      rfl
     refine pure_ (i := 21) (N := some 37) (v := ?_) (a' := ?_) #[true, true, true, true, true, true, true, true, true, true, true, true, true, true, true, true, true, true, true, true, true, true, false, false] rfl rfl (any_of HT_.out (by kernel_rfl)) (fun _ _ _ h => h) (Or.inl ⟨by rfl, ?_⟩) ?_ ?_
     rotate_left
     ·intro w'
      go_simp
      with_reducible rfl
     rotate_left
     ·simp only [Act.put, zp1, zp2, zp3, i64_w, i32_w]
      rfl
     refine pure_ (i := 22) (N := some 4) (v := ?_) (a' := ?_) #[true, true, true, true, true, true, true, true, true, true, true, true, true, true, true, true, true, true, true, true, true, true, true, false] rfl rfl (any_of HT_.out (by kernel_rfl)) (fun _ _ _ h => h) (Or.inl ⟨by rfl, ?_⟩) ?_ ?_
     rotate_left
     ·intro w'
      go_simp
      with_reducible rfl
     rotate_left
     ·simp only [Act.put, zp1, zp2, zp3, i64_w, i32_w]
      rfl
     refine pure_ (i := 23) (N := some 5) (v := ?_) (a' := ?_) #[true, true, true, true, true, true, true, true, true, true, true, true, true, true, true, true, true, true, true, true, true, true, true, true] rfl rfl (any_of HT_.out (by kernel_rfl)) (fun _ _ _ h => h) (Or.inl ⟨by rfl, ?_⟩) ?_ ?_
     rotate_left
     ·intro w'
      go_simp
      with_reducible rfl
     rotate_left
     ·simp only [Act.put, zp1, zp2, zp3, i64_w, i32_w]
      rfl
     refine done_ (done_of HT_.out (by kernel_rfl)) ?_
     try go_wp2
     go_ret2
     exact ⟨by first | rfl | (simp [errW_none, errW_some] <;> rfl) | (simp [*, errW_none, errW_some] <;> rfl), by repeat (first | (with_reducible first | exact HB.out | apply below_alloc | apply pw_below_drewN | apply below_drew1 | refine below_set ?_ GE218.out | refine below_set ?_ GE219.out) | exact HB.out)⟩
    ·replace c21 := Bool.eq_false_iff.mpr c21
     subst c21
     have H1 : ((impl_Window_part.f a0_1 a0_2 a0_3 a0_4 a0_6 (wrap64 (a0_3 - a0_6))).bind fun bt227 => ((impl_areShared.f bt227.1 bt227.2.1 bt227.2.2.1 bt227.2.2.2 a1_0 a1_1 a1_2 a1_3).bind fun t231 => (some (t231, true)))) = some (r1, r2) := by rw [if_neg (show ¬ (false = true) by decide)] at H; exact H
     clear H
     have H := H1
     clear H1
     replace H := Option.bind_eq_some_iff.mp H
     obtain ⟨⟨t227, t228, t229, t230⟩, A250, H⟩ := H
     replace H : ((impl_areShared.f t227 t228 t229 t230 a1_0 a1_1 a1_2 a1_3).bind fun t231 => (some (t231, true))) = some (r1, r2) := H
     have A25 := Aside0.mk A250
     clear A250
     replace H := Option.bind_eq_some_iff.mp H
     obtain ⟨t231, A260, H⟩ := H
     replace H : (some (t231, true)) = some (r1, r2) := H
     have A26 := Aside0.mk A260
     clear A260
     simp only [Option.some.injEq, Prod.mk.injEq] at H
     obtain ⟨rfl, rfl⟩ := H
     try go_wp2
     replace BK218 := Aside0.mk (blk_drew BK218.out)
     replace BK219 := Aside0.mk (blk_drew BK219.out)
     replace HB := Aside0.mk (below_drew1 HB.out)
     refine start_ (n := 24) (S := fun w' => w'.cell? ⟨gb218, 0, none⟩ = some (.slice A0_0 l0_0.length c0_0) ∧ w'.cell? ⟨gb218, 1, none⟩ = some (.int .i64 a0_1) ∧ w'.cell? ⟨gb218, 2, none⟩ = some (.int .i64 a0_2) ∧ w'.cell? ⟨gb218, 3, none⟩ = some (.int .i64 a0_3) ∧ w'.cell? ⟨gb218, 4, none⟩ = some (.int .i64 a0_4) ∧ w'.cell? ⟨gb218, 5, none⟩ = some (.int .i64 a0_5) ∧ w'.cell? ⟨gb218, 6, none⟩ = some (.int .i64 a0_6) ∧ w'.cell? ⟨gb219, 0, none⟩ = some (.int .i64 a1_0) ∧ w'.cell? ⟨gb219, 1, none⟩ = some (.int .i64 a1_1) ∧ w'.cell? ⟨gb219, 2, none⟩ = some (.int .i64 a1_2) ∧ w'.cell? ⟨gb219, 3, none⟩ = some (.int .i64 a1_3)) (ds := []) #[false, false, false, false, false, false, false, false, false, false, false, false, false, false, false, false, false, false, false, false, false, false, false, false] (by kernel_rfl) rfl rfl ⟨zc0 BK218 0 rfl, zc0 BK218 1 rfl, zc0 BK218 2 rfl, zc0 BK218 3 rfl, zc0 BK218 4 rfl, zc0 BK218 5 rfl, zc0 BK218 6 rfl, zc0 BK219 0 rfl, zc0 BK219 1 rfl, zc0 BK219 2 rfl, zc0 BK219 3 rfl⟩ (fun hHeld => ?_); refine with_tabW impl_SeenThrough.tab3 impl_SeenThrough.bits3 (fun HT_ HW_ => ?_)
     generalize wc.drew = w27 at BK218 BK219 HB hHeld ⊢
     refine pure_ (i := 0) (N := some 16) (v := ?_) (a' := ?_) #[true, false, false, false, false, false, false, false, false, false, false, false, false, false, false, false, false, false, false, false, false, false, false, false] rfl rfl (any_of HT_.out (by kernel_rfl)) (fun _ _ _ h => h) (Or.inl ⟨by rfl, ?_⟩) ?_ ?_
     rotate_left
     ·intro w'
      go_simp
      with_reducible rfl
     rotate_left
     ·simp only [Act.put, zp1, zp2, zp3, i64_w, i32_w]
      rfl
     refine pure_ (i := 2) (N := some 18) (v := ?_) (a' := ?_) #[true, false, true, false, false, false, false, false, false, false, false, false, false, false, false, false, false, false, false, false, false, false, false, false] rfl rfl (any_of HT_.out (by kernel_rfl)) (fun _ _ _ h => h) (Or.inl ⟨by rfl, ?_⟩) ?_ ?_
     rotate_left
     ·intro w'
      go_simp
      with_reducible rfl
     rotate_left
     ·simp only [Act.put, zp1, zp2, zp3, i64_w, i32_w]
      rfl
     refine take_ (i := 1) (N := some 17) (v := ?_) (a' := ?_) #[true, true, true, false, false, false, false, false, false, false, false, false, false, false, false, false, false, false, false, false, false, false, false, false] rfl rfl (take_ofW HT_.out HW_.out (by kernel_rfl)) (fun _ _ _ h => h) (Or.inl ⟨by rfl, ?_⟩) hHeld ?_ ?_
     rotate_left
     ·rintro w' ⟨s0, s1, s2, s3, s4, s5, s6, s7, s8, s9, s10⟩
      go_simp
      with_reducible rfl
     rotate_left
     ·simp only [Act.put, zp1, zp2, zp3, i64_w, i32_w]
      rfl
     refine take_ (i := 3) (N := some 19) (v := ?_) (a' := ?_) #[true, true, true, true, false, false, false, false, false, false, false, false, false, false, false, false, false, false, false, false, false, false, false, false] rfl rfl (take_ofW HT_.out HW_.out (by kernel_rfl)) (fun _ _ _ h => h) (Or.inl ⟨by rfl, ?_⟩) hHeld ?_ ?_
     rotate_left
     ·rintro w' ⟨s0, s1, s2, s3, s4, s5, s6, s7, s8, s9, s10⟩
      go_simp
      with_reducible rfl
     rotate_left
     ·simp only [Act.put, zp1, zp2, zp3, i64_w, i32_w]
      rfl
     refine take_ (i := 5) (N := some 21) (v := ?_) (a' := ?_) #[true, true, true, true, false, true, false, false, false, false, false, false, false, false, false, false, false, false, false, false, false, false, false, false] rfl rfl (take_ofW HT_.out HW_.out (by kernel_rfl)) (fun _ _ _ h => h) (Or.inl ⟨by rfl, ?_⟩) hHeld ?_ ?_
     rotate_left
     ·rintro w' ⟨s0, s1, s2, s3, s4, s5, s6, s7, s8, s9, s10⟩
      go_simp
      with_reducible rfl
     rotate_left
     ·simp only [Act.put, zp1, zp2, zp3, i64_w, i32_w]
      rfl
     refine one_ (i := 4) (N := some 20) #[true, true, true, true, true, true, false, false, false, false, false, false, false, false, false, false, false, false, false, false, false, false, false, false] rfl rfl (one_of HT_.out (by kernel_rfl)) (by decide) (fun K hK => ?_)
     refine goes_ Try.func71 (by kernel_rfl) rfl #[.agg #[.int .i64 a0_1, .int .i64 a0_2, .int .i64 a0_3, .int .i64 a0_4], .int .i64 0, .int .i64 a0_5] (by rfl) rfl rfl (by (try simp only [List.map_toArray, List.map_cons, List.map_nil]); first | done | rfl | (simp only [List.length_drop, List.length_take]; rfl)) ?_
     with_reducible refine (impl_Window_part.calls a0_1 a0_2 a0_3 a0_4 0 a0_5 t222 t223 t224 t225 _ A19.out).mono ?_
     rintro e w28 ⟨rfl, hb⟩
     refine ⟨_, rfl, ?_⟩
     replace BK218 := zb0 BK218 hb
     replace BK219 := zb0 BK219 hb
     replace HB := zhs HB hb
     (try clear hb)
     (try clear hb2)
     (try clear hk)
     (try clear hi)
     refine hK.out _ _ ⟨zc0 BK218 0 rfl, zc0 BK218 1 rfl, zc0 BK218 2 rfl, zc0 BK218 3 rfl, zc0 BK218 4 rfl, zc0 BK218 5 rfl, zc0 BK218 6 rfl, zc0 BK219 0 rfl, zc0 BK219 1 rfl, zc0 BK219 2 rfl, zc0 BK219 3 rfl⟩ (fun hHeld => ?_)
     clear hK K
     refine norm_ (a' := ?_) ?_ ?_
     rotate_left
     ·show Act.put _ (some 20) _ = _
      simp only [Act.put, zp1, zp2, zp3, i64_w, i32_w]
      rfl
     refine one_ (i := 6) (N := some 22) #[true, true, true, true, true, true, true, false, false, false, false, false, false, false, false, false, false, false, false, false, false, false, false, false] rfl rfl (one_of HT_.out (by kernel_rfl)) (by decide) (fun K hK => ?_)
     refine goes_ Try.func86 (by kernel_rfl) rfl #[.agg #[.int .i64 t222, .int .i64 t223, .int .i64 t224, .int .i64 t225], .agg #[.int .i64 a1_0, .int .i64 a1_1, .int .i64 a1_2, .int .i64 a1_3]] (by rfl) rfl rfl (by (try simp only [List.map_toArray, List.map_cons, List.map_nil]); first | done | rfl | (simp only [List.length_drop, List.length_take]; rfl)) ?_
     with_reducible refine (impl_areShared.calls t222 t223 t224 t225 a1_0 a1_1 a1_2 a1_3 false _ A20.out).mono ?_
     rintro e w29 ⟨rfl, hb⟩
     refine ⟨_, rfl, ?_⟩
     replace BK218 := zb0 BK218 hb
     replace BK219 := zb0 BK219 hb
     replace HB := zhs HB hb
     (try clear hb)
     (try clear hb2)
     (try clear hk)
     (try clear hi)
     refine hK.out _ _ ⟨zc0 BK218 0 rfl, zc0 BK218 1 rfl, zc0 BK218 2 rfl, zc0 BK218 3 rfl, zc0 BK218 4 rfl, zc0 BK218 5 rfl, zc0 BK218 6 rfl, zc0 BK219 0 rfl, zc0 BK219 1 rfl, zc0 BK219 2 rfl, zc0 BK219 3 rfl⟩ (fun hHeld => ?_)
     clear hK K
     refine norm_ (a' := ?_) ?_ ?_
     rotate_left
     ·show Act.put _ (some 22) _ = _
      simp only [Act.put, zp1, zp2, zp3, i64_w, i32_w]
      rfl
     refine pure_ (i := 7) (N := some 23) (v := ?_) (a' := ?_) #[true, true, true, true, true, true, true, true, false, false, false, false, false, false, false, false, false, false, false, false, false, false, false, false] rfl rfl (any_of HT_.out (by kernel_rfl)) (fun _ _ _ h => h) (Or.inl ⟨by rfl, ?_⟩) ?_ ?_
     rotate_left
     ·intro w'
      go_simp
      with_reducible rfl
     rotate_left
     ·simp only [Act.put, zp1, zp2, zp3, i64_w, i32_w]
      rfl
     refine pure_ (i := 8) (N := some 24) (v := ?_) (a' := ?_) #[true, true, true, true, true, true, true, true, true, false, false, false, false, false, false, false, false, false, false, false, false, false, false, false] rfl rfl (any_of HT_.out (by kernel_rfl)) (fun _ _ _ h => h) (Or.inl ⟨by rfl, ?_⟩) ?_ ?_
     rotate_left
     ·intro w'
      go_simp
      with_reducible rfl
     rotate_left
     ·simp only [Act.put, zp1, zp2, zp3, i64_w, i32_w]
      rfl
     refine pure_ (i := 10) (N := some 26) (v := ?_) (a' := ?_) #[true, true, true, true, true, true, true, true, true, false, true, false, false, false, false, false, false, false, false, false, false, false, false, false] rfl rfl (any_of HT_.out (by kernel_rfl)) (fun _ _ _ h => h) (Or.inl ⟨by rfl, ?_⟩) ?_ ?_
     rotate_left
     ·intro w'
      go_simp
      with_reducible rfl
     rotate_left
     ·simp only [Act.put, zp1, zp2, zp3, i64_w, i32_w]
      rfl
     refine pure_ (i := 12) (N := some 28) (v := ?_) (a' := ?_) #[true, true, true, true, true, true, true, true, true, false, true, false, true, false, false, false, false, false, false, false, false, false, false, false] rfl rfl (any_of HT_.out (by kernel_rfl)) (fun _ _ _ h => h) (Or.inl ⟨by rfl, ?_⟩) ?_ ?_
     rotate_left
     ·intro w'
      go_simp
      with_reducible rfl
     rotate_left
     ·simp only [Act.put, zp1, zp2, zp3, i64_w, i32_w]
      rfl
     refine pure_ (i := 13) (N := some 29) (v := ?_) (a' := ?_) #[true, true, true, true, true, true, true, true, true, false, true, false, true, true, false, false, false, false, false, false, false, false, false, false] rfl rfl (any_of HT_.out (by kernel_rfl)) (fun _ _ _ h => h) (Or.inl ⟨by rfl, ?_⟩) ?_ ?_
     rotate_left
     ·intro w'
      go_simp
      with_reducible rfl
     rotate_left
     ·simp only [Act.put, zp1, zp2, zp3, i64_w, i32_w]
      rfl
     refine pure_ (i := 15) (N := some 31) (v := ?_) (a' := ?_) #[true, true, true, true, true, true, true, true, true, false, true, false, true, true, false, true, false, false, false, false, false, false, false, false] rfl rfl (any_of HT_.out (by kernel_rfl)) (fun _ _ _ h => h) (Or.inl ⟨by rfl, ?_⟩) ?_ ?_
     rotate_left
     ·intro w'
      go_simp
      with_reducible rfl
     rotate_left
     ·simp only [Act.put, zp1, zp2, zp3, i64_w, i32_w]
      rfl
     refine take_ (i := 9) (N := some 25) (v := ?_) (a' := ?_) #[true, true, true, true, true, true, true, true, true, true, true, false, true, true, false, true, false, false, false, false, false, false, false, false] rfl rfl (take_ofW HT_.out HW_.out (by kernel_rfl)) (fun _ _ _ h => h) (Or.inl ⟨by rfl, ?_⟩) hHeld ?_ ?_
     rotate_left
     ·rintro w' ⟨s0, s1, s2, s3, s4, s5, s6, s7, s8, s9, s10⟩
      go_simp
      with_reducible rfl
     rotate_left
     ·simp only [Act.put, zp1, zp2, zp3, i64_w, i32_w]
      rfl
     refine take_ (i := 11) (N := some 27) (v := ?_) (a' := ?_) #[true, true, true, true, true, true, true, true, true, true, true, true, true, true, false, true, false, false, false, false, false, false, false, false] rfl rfl (take_ofW HT_.out HW_.out (by kernel_rfl)) (fun _ _ _ h => h) (Or.inl ⟨by rfl, ?_⟩) hHeld ?_ ?_
     rotate_left
     ·rintro w' ⟨s0, s1, s2, s3, s4, s5, s6, s7, s8, s9, s10⟩
      go_simp
      with_reducible rfl
     rotate_left
     ·simp only [Act.put, zp1, zp2, zp3, i64_w, i32_w]
      rfl
     refine take_ (i := 14) (N := some 30) (v := ?_) (a' := ?_) #[true, true, true, true, true, true, true, true, true, true, true, true, true, true, true, true, false, false, false, false, false, false, false, false] rfl rfl (take_ofW HT_.out HW_.out (by kernel_rfl)) (fun _ _ _ h => h) (Or.inl ⟨by rfl, ?_⟩) hHeld ?_ ?_
     rotate_left
     ·rintro w' ⟨s0, s1, s2, s3, s4, s5, s6, s7, s8, s9, s10⟩
      go_simp
      with_reducible rfl
     rotate_left
     ·simp only [Act.put, zp1, zp2, zp3, i64_w, i32_w]
      rfl
     refine take_ (i := 16) (N := some 32) (v := ?_) (a' := ?_) #[true, true, true, true, true, true, true, true, true, true, true, true, true, true, true, true, true, false, false, false, false, false, false, false] rfl rfl (take_ofW HT_.out HW_.out (by kernel_rfl)) (fun _ _ _ h => h) (Or.inl ⟨by rfl, ?_⟩) hHeld ?_ ?_
     rotate_left
     ·rintro w' ⟨s0, s1, s2, s3, s4, s5, s6, s7, s8, s9, s10⟩
      go_simp
      with_reducible rfl
     rotate_left
     ·simp only [Act.put, zp1, zp2, zp3, i64_w, i32_w]
      rfl
     refine pure_ (i := 17) (N := some 33) (v := ?_) (a' := ?_) #[true, true, true, true, true, true, true, true, true, true, true, true, true, true, true, true, true, true, false, false, false, false, false, false] rfl rfl (any_of HT_.out (by kernel_rfl)) (fun _ _ _ h => h) (Or.inl ⟨by rfl, ?_⟩) ?_ ?_
     rotate_left
     ·intro w'
      go_simp
      with_reducible rfl
     rotate_left
     ·simp only [Act.put, zp1, zp2, zp3, i64_w, i32_w]
      rfl
     refine take_ (i := 19) (N := some 35) (v := ?_) (a' := ?_) #[true, true, true, true, true, true, true, true, true, true, true, true, true, true, true, true, true, true, false, true, false, false, false, false] rfl rfl (take_ofW HT_.out HW_.out (by kernel_rfl)) (fun _ _ _ h => h) (Or.inl ⟨by rfl, ?_⟩) hHeld ?_ ?_
     rotate_left
     ·rintro w' ⟨s0, s1, s2, s3, s4, s5, s6, s7, s8, s9, s10⟩
      go_simp
      with_reducible rfl
     rotate_left
     ·simp only [Act.put, zp1, zp2, zp3, i64_w, i32_w]
      rfl
     refine one_ (i := 18) (N := some 34) #[true, true, true, true, true, true, true, true, true, true, true, true, true, true, true, true, true, true, true, true, false, false, false, false] rfl rfl (one_of HT_.out (by kernel_rfl)) (by decide) (fun K hK => ?_)
     refine goes_ Try.func71 (by kernel_rfl) rfl #[.agg #[.int .i64 a0_1, .int .i64 a0_2, .int .i64 a0_3, .int .i64 a0_4], .int .i64 a0_6, .int .i64 (wrap64 (a0_3 - a0_6))] (by rfl) rfl rfl (by (try simp only [List.map_toArray, List.map_cons, List.map_nil]); first | done | rfl | (simp only [List.length_drop, List.length_take]; rfl)) ?_
     with_reducible refine (impl_Window_part.calls a0_1 a0_2 a0_3 a0_4 a0_6 (wrap64 (a0_3 - a0_6)) t227 t228 t229 t230 _ A25.out).mono ?_
     rintro e w30 ⟨rfl, hb⟩
     refine ⟨_, rfl, ?_⟩
     replace BK218 := zb0 BK218 hb
     replace BK219 := zb0 BK219 hb
     replace HB := zhs HB hb
     (try clear hb)
     (try clear hb2)
     (try clear hk)
     (try clear hi)
     refine hK.out _ _ ⟨zc0 BK218 0 rfl, zc0 BK218 1 rfl, zc0 BK218 2 rfl, zc0 BK218 3 rfl, zc0 BK218 4 rfl, zc0 BK218 5 rfl, zc0 BK218 6 rfl, zc0 BK219 0 rfl, zc0 BK219 1 rfl, zc0 BK219 2 rfl, zc0 BK219 3 rfl⟩ (fun hHeld => ?_)
     clear hK K
     refine norm_ (a' := ?_) ?_ ?_
     rotate_left
     ·show Act.put _ (some 34) _ = _
      simp only [Act.put, zp1, zp2, zp3, i64_w, i32_w]
      rfl
     refine one_ (i := 20) (N := some 36) #[true, true, true, true, true, true, true, true, true, true, true, true, true, true, true, true, true, true, true, true, true, false, false, false] rfl rfl (one_of HT_.out (by kernel_rfl)) (by decide) (fun K hK => ?_)
     refine goes_ Try.func86 (by kernel_rfl) rfl #[.agg #[.int .i64 t227, .int .i64 t228, .int .i64 t229, .int .i64 t230], .agg #[.int .i64 a1_0, .int .i64 a1_1, .int .i64 a1_2, .int .i64 a1_3]] (by rfl) rfl rfl (by (try simp only [List.map_toArray, List.map_cons, List.map_nil]); first | done | rfl | (simp only [List.length_drop, List.length_take]; rfl)) ?_
     with_reducible refine (impl_areShared.calls t227 t228 t229 t230 a1_0 a1_1 a1_2 a1_3 t231 _ A26.out).mono ?_
     rintro e w31 ⟨rfl, hb⟩
     refine ⟨_, rfl, ?_⟩
     replace BK218 := zb0 BK218 hb
     replace BK219 := zb0 BK219 hb
     replace HB := zhs HB hb
     (try clear hb)
     (try clear hb2)
     (try clear hk)
     (try clear hi)
     refine hK.out _ _ ⟨zc0 BK218 0 rfl, zc0 BK218 1 rfl, zc0 BK218 2 rfl, zc0 BK218 3 rfl, zc0 BK218 4 rfl, zc0 BK218 5 rfl, zc0 BK218 6 rfl, zc0 BK219 0 rfl, zc0 BK219 1 rfl, zc0 BK219 2 rfl, zc0 BK219 3 rfl⟩ (fun hHeld => ?_)
     clear hK K
     refine norm_ (a' := ?_) ?_ ?_
     rotate_left
     ·show Act.put _ (some 36) _ = _
      simp only [Act.put, zp1, zp2, zp3, i64_w, i32_w]
      rfl
     refine pure_ (i := 21) (N := some 37) (v := ?_) (a' := ?_) #[true, true, true, true, true, true, true, true, true, true, true, true, true, true, true, true, true, true, true, true, true, true, false, false] rfl rfl (any_of HT_.out (by kernel_rfl)) (fun _ _ _ h => h) (Or.inl ⟨by rfl, ?_⟩) ?_ ?_
     rotate_left
     ·intro w'
      go_simp
      with_reducible rfl
     rotate_left
     ·simp only [Act.put, zp1, zp2, zp3, i64_w, i32_w]
      rfl
     refine pure_ (i := 22) (N := some 4) (v := ?_) (a' := ?_) #[true, true, true, true, true, true, true, true, true, true, true, true, true, true, true, true, true, true, true, true, true, true, true, false] rfl rfl (any_of HT_.out (by kernel_rfl)) (fun _ _ _ h => h) (Or.inl ⟨by rfl, ?_⟩) ?_ ?_
     rotate_left
     ·intro w'
      go_simp
      with_reducible rfl
     rotate_left
     ·simp only [Act.put, zp1, zp2, zp3, i64_w, i32_w]
      rfl
     refine pure_ (i := 23) (N := some 5) (v := ?_) (a' := ?_) #[true, true, true, true, true, true, true, true, true, true, true, true, true, true, true, true, true, true, true, true, true, true, true, true] rfl rfl (any_of HT_.out (by kernel_rfl)) (fun _ _ _ h => h) (Or.inl ⟨by rfl, ?_⟩) ?_ ?_
     rotate_left
     ·intro w'
      go_simp
      with_reducible rfl
     rotate_left
     ·simp only [Act.put, zp1, zp2, zp3, i64_w, i32_w]
      rfl
     refine done_ (done_of HT_.out (by kernel_rfl)) ?_
     try go_wp2
     go_ret2
     exact ⟨by first | rfl | (simp [errW_none, errW_some] <;> rfl) | (simp [*, errW_none, errW_some] <;> rfl), by repeat (first | (with_reducible first | exact HB.out | apply below_alloc | apply pw_below_drewN | apply below_drew1 | refine below_set ?_ GE218.out | refine below_set ?_ GE219.out) | exact HB.out)⟩

open Go.Proofs.Ytdojnaghcfhadab.Cp
/-! ### laws_FnExactSeenThrough: function 12 -/
def laws_FnExactSeenThrough.f (k : Nat) (l0_0 : List (List Int)) (a0_1 : Int) (a0_2 : Int) (a0_3 : Int) (a0_4 : Int) (a0_5 : Int) (a0_6 : Int) (a1_0 : Int) (a1_1 : Int) (a1_2 : Int) (a1_3 : Int) : Option (Bool) := (laws_szGap.f k l0_0 a0_1 a0_2 a0_3 a0_4 a0_5 a0_6 1048576).bind fun t234 => (if t234 < 0 then (some true) else ((laws_toGap.f k l0_0 a0_1 a0_2 a0_3 a0_4 a0_5 a0_6).bind fun bt235 => ((laws_toWindow.f a1_0 a1_1 a1_2 a1_3).bind fun bt244 => ((spec_SeenThrough.f k bt235.1 bt235.2.1 bt235.2.2.1 bt235.2.2.2.1 bt235.2.2.2.2.1 bt235.2.2.2.2.2.1 bt235.2.2.2.2.2.2 bt244.1 bt244.2.1 bt244.2.2.1 bt244.2.2.2).bind fun bt248 => ((laws_toGap.f k l0_0 a0_1 a0_2 a0_3 a0_4 a0_5 a0_6).bind fun bt250 => ((laws_toWindow.f a1_0 a1_1 a1_2 a1_3).bind fun bt260 => ((impl_SeenThrough.f k bt250.1 bt250.2.1 bt250.2.2.1 bt250.2.2.2.1 bt250.2.2.2.2.1 bt250.2.2.2.2.2.1 bt250.2.2.2.2.2.2 bt260.1 bt260.2.1 bt260.2.2.1 bt260.2.2.2).bind fun bt264 => (if (bt264.1 != bt248.1) = true then (none) else (if (bt264.2 != bt248.2) = true then (none) else ((laws_toGap.f k l0_0 a0_1 a0_2 a0_3 a0_4 a0_5 a0_6).bind fun bt266 => ((laws_eqGap.f k bt250.1 bt250.2.1 bt250.2.2.1 bt250.2.2.2.1 bt250.2.2.2.2.1 bt250.2.2.2.2.2.1 bt250.2.2.2.2.2.2 bt266.1 bt266.2.1 bt266.2.2.1 bt266.2.2.2.1 bt266.2.2.2.2.1 bt266.2.2.2.2.2.1 bt266.2.2.2.2.2.2).bind fun t275 => (if t275 = true then (some true) else (none)))))))))))))
theorem laws_FnExactSeenThrough.mono : ∀ a0 a1 a2 a3 a4 a5 a6 a7 a8 a9 a10 k, LeO (laws_FnExactSeenThrough.f k a0 a1 a2 a3 a4 a5 a6 a7 a8 a9 a10) (laws_FnExactSeenThrough.f (k + 1) a0 a1 a2 a3 a4 a5 a6 a7 a8 a9 a10) := by
 intro a0 a1 a2 a3 a4 a5 a6 a7 a8 a9 a10 k
 unfold laws_FnExactSeenThrough.f
 repeat' first
   | (with_reducible exact impl_SeenThrough.mono _ _ _ _ _ _ _ _ _ _ _ _)
   | (with_reducible exact laws_eqGap.mono _ _ _ _ _ _ _ _ _ _ _ _ _ _ _)
   | (with_reducible exact laws_szGap.mono _ _ _ _ _ _ _ _ _)
   | (with_reducible exact laws_toGap.mono _ _ _ _ _ _ _ _)
   | (with_reducible exact spec_SeenThrough.mono _ _ _ _ _ _ _ _ _ _ _ _)
   | (with_reducible exact LeO.refl _)
   | (with_reducible exact LeO.none _)
   | (with_reducible refine LeO.ite ?_ ?_)
   | (with_reducible refine LeO.bind ?_ (fun _ => ?_))
   | exact impl_SeenThrough.mono _ _ _ _ _ _ _ _ _ _ _ _
   | exact laws_eqGap.mono _ _ _ _ _ _ _ _ _ _ _ _ _ _ _
   | exact laws_szGap.mono _ _ _ _ _ _ _ _ _
   | exact laws_toGap.mono _ _ _ _ _ _ _ _
   | exact spec_SeenThrough.mono _ _ _ _ _ _ _ _ _ _ _ _
   | exact LeO.none _
   | refine LeO.ite ?_ ?_
   | refine LeO.bind ?_ (fun _ => ?_)
def laws_FnExactSeenThrough.T5 : Bool × List (List Nat × List Nat) := (true, [([], []), ([0], [0]), ([], []), ([2, 1], [2]), ([1, 3, 3], [1, 3]), ([4], [4]), ([5], [5]), ([5], [5]), ([6, 4, 0, 1, 2, 3, 4, 5, 6], [6]), ([7, 8, 0, 1, 2, 3, 4, 5, 6, 7, 8], [7])])
def laws_FnExactSeenThrough.B5 : List Nat := [0, 1, 0, 7, 15, 31, 63, 63, 127, 511]
theorem laws_FnExactSeenThrough.tab5 : rtab .any (opsOf Try.f12 5) = laws_FnExactSeenThrough.T5 := by kernel_rfl
theorem laws_FnExactSeenThrough.bits5 : waitsOk laws_FnExactSeenThrough.T5.2 laws_FnExactSeenThrough.B5 = true := by kernel_rfl
def laws_FnExactSeenThrough.T7 : Bool × List (List Nat × List Nat) := (true, [([], []), ([], []), ([1], [1]), ([0, 2, 2], [0, 2]), ([3], [3]), ([4], [4]), ([4], [4]), ([5, 3, 0, 1, 2, 3, 4, 5], [5]), ([6, 7, 0, 1, 2, 3, 4, 5, 6, 7], [6])])
def laws_FnExactSeenThrough.B7 : List Nat := [0, 0, 2, 7, 15, 31, 31, 63, 255]
theorem laws_FnExactSeenThrough.tab7 : rtab .any (opsOf Try.f12 7) = laws_FnExactSeenThrough.T7 := by kernel_rfl
theorem laws_FnExactSeenThrough.bits7 : waitsOk laws_FnExactSeenThrough.T7.2 laws_FnExactSeenThrough.B7 = true := by kernel_rfl
set_option maxHeartbeats 8000000 in
set_option maxRecDepth 100000 in
theorem laws_FnExactSeenThrough.calls (k : Nat) (A0_0 : Option Addr) (c0_0 : Nat) (l0_0 : List (List Int)) (a0_1 : Int) (a0_2 : Int) (a0_3 : Int) (a0_4 : Int) (a0_5 : Int) (a0_6 : Int) (a1_0 : Int) (a1_1 : Int) (a1_2 : Int) (a1_3 : Int) (r : Bool) (w : World) (hr0_0 : Kd.C (Kd.slice 5 (Kd.int .u8)) w A0_0 l0_0.length l0_0) (hc0_0 : l0_0.length ≤ c0_0) (h : laws_FnExactSeenThrough.f k l0_0 a0_1 a0_2 a0_3 a0_4 a0_5 a0_6 a1_0 a1_1 a1_2 a1_3 = some r) :
  Calls Try.prog 12 #[.agg #[.slice A0_0 l0_0.length c0_0, .int .i64 a0_1, .int .i64 a0_2, .int .i64 a0_3, .int .i64 a0_4, .int .i64 a0_5, .int .i64 a0_6], .agg #[.int .i64 a1_0, .int .i64 a1_1, .int .i64 a1_2, .int .i64 a1_3]] w fun e w' => e = .returned (.bool r) ∧ Below w.heap.size w w' := by
 have hu41 := Try.underlying41
 have hu26 := Try.underlying26
 have hu45 := Try.underlying45
 have HR0_0 := Aside0.mk hr0_0
 have HC0_0 := Aside0.mk hc0_0
 clear hr0_0 hc0_0
 have HB := Aside0.mk (Below.refl w.heap.size w)
 have H : ((laws_szGap.f k l0_0 a0_1 a0_2 a0_3 a0_4 a0_5 a0_6 1048576).bind fun t234 => (if t234 < 0 then (some true) else ((laws_toGap.f k l0_0 a0_1 a0_2 a0_3 a0_4 a0_5 a0_6).bind fun bt235 => ((laws_toWindow.f a1_0 a1_1 a1_2 a1_3).bind fun bt244 => ((spec_SeenThrough.f k bt235.1 bt235.2.1 bt235.2.2.1 bt235.2.2.2.1 bt235.2.2.2.2.1 bt235.2.2.2.2.2.1 bt235.2.2.2.2.2.2 bt244.1 bt244.2.1 bt244.2.2.1 bt244.2.2.2).bind fun bt248 => ((laws_toGap.f k l0_0 a0_1 a0_2 a0_3 a0_4 a0_5 a0_6).bind fun bt250 => ((laws_toWindow.f a1_0 a1_1 a1_2 a1_3).bind fun bt260 => ((impl_SeenThrough.f k bt250.1 bt250.2.1 bt250.2.2.1 bt250.2.2.2.1 bt250.2.2.2.2.1 bt250.2.2.2.2.2.1 bt250.2.2.2.2.2.2 bt260.1 bt260.2.1 bt260.2.2.1 bt260.2.2.2).bind fun bt264 => (if (bt264.1 != bt248.1) = true then (none) else (if (bt264.2 != bt248.2) = true then (none) else ((laws_toGap.f k l0_0 a0_1 a0_2 a0_3 a0_4 a0_5 a0_6).bind fun bt266 => ((laws_eqGap.f k bt250.1 bt250.2.1 bt250.2.2.1 bt250.2.2.2.1 bt250.2.2.2.2.1 bt250.2.2.2.2.2.1 bt250.2.2.2.2.2.2 bt266.1 bt266.2.1 bt266.2.2.1 bt266.2.2.2.1 bt266.2.2.2.2.1 bt266.2.2.2.2.2.1 bt266.2.2.2.2.2.2).bind fun t275 => (if t275 = true then (some true) else (none)))))))))))))) = some r := h
 clear h
 replace H := Option.bind_eq_some_iff.mp H
 obtain ⟨t234, A30, H⟩ := H
 replace H : (if t234 < 0 then (some true) else ((laws_toGap.f k l0_0 a0_1 a0_2 a0_3 a0_4 a0_5 a0_6).bind fun bt235 => ((laws_toWindow.f a1_0 a1_1 a1_2 a1_3).bind fun bt244 => ((spec_SeenThrough.f k bt235.1 bt235.2.1 bt235.2.2.1 bt235.2.2.2.1 bt235.2.2.2.2.1 bt235.2.2.2.2.2.1 bt235.2.2.2.2.2.2 bt244.1 bt244.2.1 bt244.2.2.1 bt244.2.2.2).bind fun bt248 => ((laws_toGap.f k l0_0 a0_1 a0_2 a0_3 a0_4 a0_5 a0_6).bind fun bt250 => ((laws_toWindow.f a1_0 a1_1 a1_2 a1_3).bind fun bt260 => ((impl_SeenThrough.f k bt250.1 bt250.2.1 bt250.2.2.1 bt250.2.2.2.1 bt250.2.2.2.2.1 bt250.2.2.2.2.2.1 bt250.2.2.2.2.2.2 bt260.1 bt260.2.1 bt260.2.2.1 bt260.2.2.2).bind fun bt264 => (if (bt264.1 != bt248.1) = true then (none) else (if (bt264.2 != bt248.2) = true then (none) else ((laws_toGap.f k l0_0 a0_1 a0_2 a0_3 a0_4 a0_5 a0_6).bind fun bt266 => ((laws_eqGap.f k bt250.1 bt250.2.1 bt250.2.2.1 bt250.2.2.2.1 bt250.2.2.2.2.1 bt250.2.2.2.2.2.1 bt250.2.2.2.2.2.2 bt266.1 bt266.2.1 bt266.2.2.1 bt266.2.2.2.1 bt266.2.2.2.2.1 bt266.2.2.2.2.2.1 bt266.2.2.2.2.2.2).bind fun t275 => (if t275 = true then (some true) else (none))))))))))))) = some r := H
 have A3 := Aside0.mk A30
 clear A30
 by_cases c4 : t234 < 0
 ·rw [if_pos c4] at H
  have c4b0 : decide (t234 < 0) = true := decide_eq_true c4
  clear c4
  obtain rfl := Option.some.inj H
  go_enter Try.func12, Try.ntmps12
  go_wp2_with (first | ((with_reducible refine gate_dst (N := 2) rfl ?_); refine box_event ?hg (N := 2) ?hd (cs := #[.slice A0_0 l0_0.length c0_0, .int .i64 a0_1, .int .i64 a0_2, .int .i64 a0_3, .int .i64 a0_4, .int .i64 a0_5, .int .i64 a0_6]) (t := 41) ?hr ?_; (case hd => rfl); (case hg => rfl); (case hr => first | (go_simp; done) | (go_simp; rfl)); intro gb232 hg w5 hbox hb; have n0_ := zhs HB hb; have n1_ := Aside0.mk (hbox); have n2_ := zge HB hg; have n3_ := zge HB hg; clear HB; have HB := n0_; have BK232 := n1_; have GW232 := n2_; have GE232 := n3_; clear n0_ n1_ n2_ n3_; clear hb hbox hg) | ((with_reducible refine gate_dst (N := 3) rfl ?_); refine box_event ?hg (N := 3) ?hd (cs := #[.int .i64 a1_0, .int .i64 a1_1, .int .i64 a1_2, .int .i64 a1_3]) (t := 26) ?hr ?_; (case hd => rfl); (case hg => rfl); (case hr => first | (go_simp; done) | (go_simp; rfl)); intro gb233 hg w6 hbox hb; have n0_ := zb0 BK232 hb; have n1_ := zhs HB hb; have n2_ := Aside0.mk (hbox); have n3_ := zge HB hg; have n4_ := zge HB hg; have n5_ := znl BK232 hg; have n6_ := znr BK232 hg; clear BK232; clear HB; have BK232 := n0_; have HB := n1_; have BK233 := n2_; have GW233 := n3_; have GE233 := n4_; have NB232_233 := n5_; have NB233_232 := n6_; clear n0_ n1_ n2_ n3_ n4_ n5_ n6_; clear hb hbox hg; have hnb7 := NB232_233.out; have hnc7 := NB233_232.out; have hcz8_0 : w6.cell? ⟨gb232, 0, none⟩ = some (.slice A0_0 l0_0.length c0_0) := zc0 BK232 0 rfl; have hcz8_1 : w6.cell? ⟨gb232, 1, none⟩ = some (.int .i64 a0_1) := zc0 BK232 1 rfl; have hcz8_2 : w6.cell? ⟨gb232, 2, none⟩ = some (.int .i64 a0_2) := zc0 BK232 2 rfl; have hcz8_3 : w6.cell? ⟨gb232, 3, none⟩ = some (.int .i64 a0_3) := zc0 BK232 3 rfl; have hcz8_4 : w6.cell? ⟨gb232, 4, none⟩ = some (.int .i64 a0_4) := zc0 BK232 4 rfl; have hcz8_5 : w6.cell? ⟨gb232, 5, none⟩ = some (.int .i64 a0_5) := zc0 BK232 5 rfl; have hcz8_6 : w6.cell? ⟨gb232, 6, none⟩ = some (.int .i64 a0_6) := zc0 BK232 6 rfl; have hfz8_0 := blk_frozen BK232.out 0; have hfz8_1 := blk_frozen BK232.out 1; have hfz8_2 := blk_frozen BK232.out 2; have hfz8_3 := blk_frozen BK232.out 3; have hfz8_4 := blk_frozen BK232.out 4; have hfz8_5 := blk_frozen BK232.out 5; have hfz8_6 := blk_frozen BK232.out 6) | ((with_reducible refine gate_callee (f := 22) rfl ?_); refine goesL_ (some 13) rfl rfl Try.func22 (by kernel_rfl) rfl #[.agg #[.slice A0_0 l0_0.length c0_0, .int .i64 a0_1, .int .i64 a0_2, .int .i64 a0_3, .int .i64 a0_4, .int .i64 a0_5, .int .i64 a0_6], .int .i64 1048576] rfl (by (try simp only [List.map_toArray, List.map_cons, List.map_nil]); first | done | rfl | (simp only [List.length_drop, List.length_take]; rfl)) ?_; (with_reducible refine (laws_szGap.calls k _ _ l0_0 a0_1 a0_2 a0_3 a0_4 a0_5 a0_6 1048576 t234 _ ?side1 ?side2 A3.out).mono ?_); (case side1 => repeat (first | exact (Kd.C_below HR0_0.out HB.out) | (with_reducible refine Kd.C_alloc ?_ _) | (with_reducible refine Kd.C_drewN ?_ _) | (with_reducible refine Kd.C_drew ?_))); (case side2 => exact HC0_0.out); rintro e w9 ⟨rfl, hb⟩; refine ⟨_, rfl, ?_⟩; have n0_ := zb0 BK232 hb; have n1_ := zb0 BK233 hb; have n2_ := zhs HB hb; clear BK232; clear BK233; clear HB; have BK232 := n0_; have BK233 := n1_; have HB := n2_; clear n0_ n1_ n2_; (try clear hb); (try clear hb2); (try clear hk); (try clear hi)))
  go_ret
  exact ⟨by first | rfl | (simp [errW_none, errW_some] <;> rfl) | (simp [*, errW_none, errW_some] <;> rfl), by repeat (first | (with_reducible first | exact HB.out | apply below_alloc | apply pw_below_drewN | apply below_drew1 | refine below_set ?_ GE232.out | refine below_set ?_ GE233.out) | exact HB.out)⟩
 ·rw [if_neg c4] at H
  have c4b0 : decide (t234 < 0) = false := decide_eq_false c4
  clear c4
  replace H := Option.bind_eq_some_iff.mp H
  obtain ⟨⟨t235, t238, t239, t240, t241, t242, t243⟩, A100, H⟩ := H
  replace H : ((laws_toWindow.f a1_0 a1_1 a1_2 a1_3).bind fun bt244 => ((spec_SeenThrough.f k t235 t238 t239 t240 t241 t242 t243 bt244.1 bt244.2.1 bt244.2.2.1 bt244.2.2.2).bind fun bt248 => ((laws_toGap.f k l0_0 a0_1 a0_2 a0_3 a0_4 a0_5 a0_6).bind fun bt250 => ((laws_toWindow.f a1_0 a1_1 a1_2 a1_3).bind fun bt260 => ((impl_SeenThrough.f k bt250.1 bt250.2.1 bt250.2.2.1 bt250.2.2.2.1 bt250.2.2.2.2.1 bt250.2.2.2.2.2.1 bt250.2.2.2.2.2.2 bt260.1 bt260.2.1 bt260.2.2.1 bt260.2.2.2).bind fun bt264 => (if (bt264.1 != bt248.1) = true then (none) else (if (bt264.2 != bt248.2) = true then (none) else ((laws_toGap.f k l0_0 a0_1 a0_2 a0_3 a0_4 a0_5 a0_6).bind fun bt266 => ((laws_eqGap.f k bt250.1 bt250.2.1 bt250.2.2.1 bt250.2.2.2.1 bt250.2.2.2.2.1 bt250.2.2.2.2.2.1 bt250.2.2.2.2.2.2 bt266.1 bt266.2.1 bt266.2.2.1 bt266.2.2.2.1 bt266.2.2.2.2.1 bt266.2.2.2.2.2.1 bt266.2.2.2.2.2.2).bind fun t275 => (if t275 = true then (some true) else (none))))))))))) = some r := H
  have A10 := Aside0.mk A100
  clear A100
  replace H := Option.bind_eq_some_iff.mp H
  obtain ⟨⟨t244, t245, t246, t247⟩, A110, H⟩ := H
  replace H : ((spec_SeenThrough.f k t235 t238 t239 t240 t241 t242 t243 t244 t245 t246 t247).bind fun bt248 => ((laws_toGap.f k l0_0 a0_1 a0_2 a0_3 a0_4 a0_5 a0_6).bind fun bt250 => ((laws_toWindow.f a1_0 a1_1 a1_2 a1_3).bind fun bt260 => ((impl_SeenThrough.f k bt250.1 bt250.2.1 bt250.2.2.1 bt250.2.2.2.1 bt250.2.2.2.2.1 bt250.2.2.2.2.2.1 bt250.2.2.2.2.2.2 bt260.1 bt260.2.1 bt260.2.2.1 bt260.2.2.2).bind fun bt264 => (if (bt264.1 != bt248.1) = true then (none) else (if (bt264.2 != bt248.2) = true then (none) else ((laws_toGap.f k l0_0 a0_1 a0_2 a0_3 a0_4 a0_5 a0_6).bind fun bt266 => ((laws_eqGap.f k bt250.1 bt250.2.1 bt250.2.2.1 bt250.2.2.2.1 bt250.2.2.2.2.1 bt250.2.2.2.2.2.1 bt250.2.2.2.2.2.2 bt266.1 bt266.2.1 bt266.2.2.1 bt266.2.2.2.1 bt266.2.2.2.2.1 bt266.2.2.2.2.2.1 bt266.2.2.2.2.2.2).bind fun t275 => (if t275 = true then (some true) else (none)))))))))) = some r := H
  have A11 := Aside0.mk A110
  clear A110
  replace H := Option.bind_eq_some_iff.mp H
  obtain ⟨⟨t248, t249⟩, A120, H⟩ := H
  replace H : ((laws_toGap.f k l0_0 a0_1 a0_2 a0_3 a0_4 a0_5 a0_6).bind fun bt250 => ((laws_toWindow.f a1_0 a1_1 a1_2 a1_3).bind fun bt260 => ((impl_SeenThrough.f k bt250.1 bt250.2.1 bt250.2.2.1 bt250.2.2.2.1 bt250.2.2.2.2.1 bt250.2.2.2.2.2.1 bt250.2.2.2.2.2.2 bt260.1 bt260.2.1 bt260.2.2.1 bt260.2.2.2).bind fun bt264 => (if (bt264.1 != t248) = true then (none) else (if (bt264.2 != t249) = true then (none) else ((laws_toGap.f k l0_0 a0_1 a0_2 a0_3 a0_4 a0_5 a0_6).bind fun bt266 => ((laws_eqGap.f k bt250.1 bt250.2.1 bt250.2.2.1 bt250.2.2.2.1 bt250.2.2.2.2.1 bt250.2.2.2.2.2.1 bt250.2.2.2.2.2.2 bt266.1 bt266.2.1 bt266.2.2.1 bt266.2.2.2.1 bt266.2.2.2.2.1 bt266.2.2.2.2.2.1 bt266.2.2.2.2.2.2).bind fun t275 => (if t275 = true then (some true) else (none))))))))) = some r := H
  have A12 := Aside0.mk A120
  clear A120
  replace H := Option.bind_eq_some_iff.mp H
  obtain ⟨⟨t250, t253, t254, t255, t256, t257, t258⟩, A130, H⟩ := H
  replace H : ((laws_toWindow.f a1_0 a1_1 a1_2 a1_3).bind fun bt260 => ((impl_SeenThrough.f k t250 t253 t254 t255 t256 t257 t258 bt260.1 bt260.2.1 bt260.2.2.1 bt260.2.2.2).bind fun bt264 => (if (bt264.1 != t248) = true then (none) else (if (bt264.2 != t249) = true then (none) else ((laws_toGap.f k l0_0 a0_1 a0_2 a0_3 a0_4 a0_5 a0_6).bind fun bt266 => ((laws_eqGap.f k t250 t253 t254 t255 t256 t257 t258 bt266.1 bt266.2.1 bt266.2.2.1 bt266.2.2.2.1 bt266.2.2.2.2.1 bt266.2.2.2.2.2.1 bt266.2.2.2.2.2.2).bind fun t275 => (if t275 = true then (some true) else (none)))))))) = some r := H
  have A13 := Aside0.mk A130
  clear A130
  replace H := Option.bind_eq_some_iff.mp H
  obtain ⟨⟨t260, t261, t262, t263⟩, A140, H⟩ := H
  replace H : ((impl_SeenThrough.f k t250 t253 t254 t255 t256 t257 t258 t260 t261 t262 t263).bind fun bt264 => (if (bt264.1 != t248) = true then (none) else (if (bt264.2 != t249) = true then (none) else ((laws_toGap.f k l0_0 a0_1 a0_2 a0_3 a0_4 a0_5 a0_6).bind fun bt266 => ((laws_eqGap.f k t250 t253 t254 t255 t256 t257 t258 bt266.1 bt266.2.1 bt266.2.2.1 bt266.2.2.2.1 bt266.2.2.2.2.1 bt266.2.2.2.2.2.1 bt266.2.2.2.2.2.2).bind fun t275 => (if t275 = true then (some true) else (none))))))) = some r := H
  have A14 := Aside0.mk A140
  clear A140
  replace H := Option.bind_eq_some_iff.mp H
  obtain ⟨⟨t264, t265⟩, A150, H⟩ := H
  replace H : (if (t264 != t248) = true then (none) else (if (t265 != t249) = true then (none) else ((laws_toGap.f k l0_0 a0_1 a0_2 a0_3 a0_4 a0_5 a0_6).bind fun bt266 => ((laws_eqGap.f k t250 t253 t254 t255 t256 t257 t258 bt266.1 bt266.2.1 bt266.2.2.1 bt266.2.2.2.1 bt266.2.2.2.2.1 bt266.2.2.2.2.2.1 bt266.2.2.2.2.2.2).bind fun t275 => (if t275 = true then (some true) else (none)))))) = some r := H
  have A15 := Aside0.mk A150
  clear A150
  by_cases c16 : (t264 != t248) = true
  ·rw [if_pos c16] at H
   exact absurd H (by simp)
  ·rw [if_neg c16] at H
   have c16b0 : (t264 != t248) = false := by simpa using c16
   (try (have c16b1 : decide (t264 = t248) = true := by simpa using c16))
   (try (have c16b2 : (t264 == t248) = true := by simpa using c16))
   clear c16
   by_cases c17 : (t265 != t249) = true
   ·rw [if_pos c17] at H
    exact absurd H (by simp)
   ·rw [if_neg c17] at H
    have c17b0 : (t265 != t249) = false := by simpa using c17
    (try (have c17b1 : decide (t265 = t249) = true := by simpa using c17))
    (try (have c17b2 : (t265 == t249) = true := by simpa using c17))
    clear c17
    replace H := Option.bind_eq_some_iff.mp H
    obtain ⟨⟨t266, t269, t270, t271, t272, t273, t274⟩, A180, H⟩ := H
    replace H : ((laws_eqGap.f k t250 t253 t254 t255 t256 t257 t258 t266 t269 t270 t271 t272 t273 t274).bind fun t275 => (if t275 = true then (some true) else (none))) = some r := H
    have A18 := Aside0.mk A180
    clear A180
    replace H := Option.bind_eq_some_iff.mp H
    obtain ⟨t275, A190, H⟩ := H
    replace H : (if t275 = true then (some true) else (none)) = some r := H
    have A19 := Aside0.mk A190
    clear A190
    by_cases c20 : t275 = true
    ·subst c20
     have H1 : (some true) = some r := by rw [if_pos rfl] at H; exact H
     clear H
     have H := H1
     clear H1
     obtain rfl := Option.some.inj H
     go_enter Try.func12, Try.ntmps12
     try go_wp2_with (first | ((with_reducible refine gate_dst (N := 2) rfl ?_); refine box_event ?hg (N := 2) ?hd (cs := #[.slice A0_0 l0_0.length c0_0, .int .i64 a0_1, .int .i64 a0_2, .int .i64 a0_3, .int .i64 a0_4, .int .i64 a0_5, .int .i64 a0_6]) (t := 41) ?hr ?_; (case hd => rfl); (case hg => rfl); (case hr => first | (go_simp; done) | (go_simp; rfl)); intro gb232 hg w21 hbox hb; have n0_ := zhs HB hb; have n1_ := Aside0.mk (hbox); have n2_ := zge HB hg; have n3_ := zge HB hg; clear HB; have HB := n0_; have BK232 := n1_; have GW232 := n2_; have GE232 := n3_; clear n0_ n1_ n2_ n3_; clear hb hbox hg) | ((with_reducible refine gate_dst (N := 3) rfl ?_); refine box_event ?hg (N := 3) ?hd (cs := #[.int .i64 a1_0, .int .i64 a1_1, .int .i64 a1_2, .int .i64 a1_3]) (t := 26) ?hr ?_; (case hd => rfl); (case hg => rfl); (case hr => first | (go_simp; done) | (go_simp; rfl)); intro gb233 hg w22 hbox hb; have n0_ := zb0 BK232 hb; have n1_ := zhs HB hb; have n2_ := Aside0.mk (hbox); have n3_ := zge HB hg; have n4_ := zge HB hg; have n5_ := znl BK232 hg; have n6_ := znr BK232 hg; clear BK232; clear HB; have BK232 := n0_; have HB := n1_; have BK233 := n2_; have GW233 := n3_; have GE233 := n4_; have NB232_233 := n5_; have NB233_232 := n6_; clear n0_ n1_ n2_ n3_ n4_ n5_ n6_; clear hb hbox hg; have hnb23 := NB232_233.out; have hnc23 := NB233_232.out; have hcz24_0 : w22.cell? ⟨gb232, 0, none⟩ = some (.slice A0_0 l0_0.length c0_0) := zc0 BK232 0 rfl; have hcz24_1 : w22.cell? ⟨gb232, 1, none⟩ = some (.int .i64 a0_1) := zc0 BK232 1 rfl; have hcz24_2 : w22.cell? ⟨gb232, 2, none⟩ = some (.int .i64 a0_2) := zc0 BK232 2 rfl; have hcz24_3 : w22.cell? ⟨gb232, 3, none⟩ = some (.int .i64 a0_3) := zc0 BK232 3 rfl; have hcz24_4 : w22.cell? ⟨gb232, 4, none⟩ = some (.int .i64 a0_4) := zc0 BK232 4 rfl; have hcz24_5 : w22.cell? ⟨gb232, 5, none⟩ = some (.int .i64 a0_5) := zc0 BK232 5 rfl; have hcz24_6 : w22.cell? ⟨gb232, 6, none⟩ = some (.int .i64 a0_6) := zc0 BK232 6 rfl; have hfz24_0 := blk_frozen BK232.out 0; have hfz24_1 := blk_frozen BK232.out 1; have hfz24_2 := blk_frozen BK232.out 2; have hfz24_3 := blk_frozen BK232.out 3; have hfz24_4 := blk_frozen BK232.out 4; have hfz24_5 := blk_frozen BK232.out 5; have hfz24_6 := blk_frozen BK232.out 6) | ((with_reducible refine gate_callee (f := 22) rfl ?_); refine goesL_ (some 13) rfl rfl Try.func22 (by kernel_rfl) rfl #[.agg #[.slice A0_0 l0_0.length c0_0, .int .i64 a0_1, .int .i64 a0_2, .int .i64 a0_3, .int .i64 a0_4, .int .i64 a0_5, .int .i64 a0_6], .int .i64 1048576] rfl (by (try simp only [List.map_toArray, List.map_cons, List.map_nil]); first | done | rfl | (simp only [List.length_drop, List.length_take]; rfl)) ?_; (with_reducible refine (laws_szGap.calls k _ _ l0_0 a0_1 a0_2 a0_3 a0_4 a0_5 a0_6 1048576 t234 _ ?side1 ?side2 A3.out).mono ?_); (case side1 => repeat (first | exact (Kd.C_below HR0_0.out HB.out) | (with_reducible refine Kd.C_alloc ?_ _) | (with_reducible refine Kd.C_drewN ?_ _) | (with_reducible refine Kd.C_drew ?_))); (case side2 => exact HC0_0.out); rintro e w25 ⟨rfl, hb⟩; refine ⟨_, rfl, ?_⟩; have n0_ := zb0 BK232 hb; have n1_ := zb0 BK233 hb; have n2_ := zhs HB hb; clear BK232; clear BK233; clear HB; have BK232 := n0_; have BK233 := n1_; have HB := n2_; clear n0_ n1_ n2_; (try clear hb); (try clear hb2); (try clear hk); (try clear hi)))
     replace BK232 := Aside0.mk (blk_drew BK232.out)
     replace BK233 := Aside0.mk (blk_drew BK233.out)
     replace HB := Aside0.mk (below_drew1 HB.out)
     refine start_ (n := 10) (S := fun w' => w'.cell? ⟨gb232, 0, none⟩ = some (.slice A0_0 l0_0.length c0_0) ∧ w'.cell? ⟨gb232, 1, none⟩ = some (.int .i64 a0_1) ∧ w'.cell? ⟨gb232, 2, none⟩ = some (.int .i64 a0_2) ∧ w'.cell? ⟨gb232, 3, none⟩ = some (.int .i64 a0_3) ∧ w'.cell? ⟨gb232, 4, none⟩ = some (.int .i64 a0_4) ∧ w'.cell? ⟨gb232, 5, none⟩ = some (.int .i64 a0_5) ∧ w'.cell? ⟨gb232, 6, none⟩ = some (.int .i64 a0_6) ∧ w'.cell? ⟨gb233, 0, none⟩ = some (.int .i64 a1_0) ∧ w'.cell? ⟨gb233, 1, none⟩ = some (.int .i64 a1_1) ∧ w'.cell? ⟨gb233, 2, none⟩ = some (.int .i64 a1_2) ∧ w'.cell? ⟨gb233, 3, none⟩ = some (.int .i64 a1_3)) (ds := []) #[false, false, false, false, false, false, false, false, false, false] (by kernel_rfl) rfl rfl ⟨zc0 BK232 0 rfl, zc0 BK232 1 rfl, zc0 BK232 2 rfl, zc0 BK232 3 rfl, zc0 BK232 4 rfl, zc0 BK232 5 rfl, zc0 BK232 6 rfl, zc0 BK233 0 rfl, zc0 BK233 1 rfl, zc0 BK233 2 rfl, zc0 BK233 3 rfl⟩ (fun hHeld => ?_); refine with_tabW laws_FnExactSeenThrough.tab5 laws_FnExactSeenThrough.bits5 (fun HT_ HW_ => ?_)
     generalize w25.drew = w26 at BK232 BK233 HB hHeld ⊢
     refine take_ (i := 0) (N := some 17) (v := ?_) (a' := ?_) #[true, false, false, false, false, false, false, false, false, false] rfl rfl (take_ofW HT_.out HW_.out (by kernel_rfl)) (fun _ _ _ h => h) (Or.inl ⟨by rfl, ?_⟩) hHeld ?_ ?_
     rotate_left
     ·rintro w' ⟨s0, s1, s2, s3, s4, s5, s6, s7, s8, s9, s10⟩
      go_simp
      with_reducible rfl
     rotate_left
     ·simp only [Act.put, zp1, zp2, zp3, i64_w, i32_w]
      rfl
     refine take_ (i := 2) (N := some 19) (v := ?_) (a' := ?_) #[true, false, true, false, false, false, false, false, false, false] rfl rfl (take_ofW HT_.out HW_.out (by kernel_rfl)) (fun _ _ _ h => h) (Or.inl ⟨by rfl, ?_⟩) hHeld ?_ ?_
     rotate_left
     ·rintro w' ⟨s0, s1, s2, s3, s4, s5, s6, s7, s8, s9, s10⟩
      go_simp
      with_reducible rfl
     rotate_left
     ·simp only [Act.put, zp1, zp2, zp3, i64_w, i32_w]
      rfl
     refine one_ (i := 1) (N := some 18) #[true, true, true, false, false, false, false, false, false, false] rfl rfl (one_of HT_.out (by kernel_rfl)) (by decide) (fun K hK => ?_)
     refine goes_ Try.func24 (by kernel_rfl) rfl #[.agg #[.slice A0_0 l0_0.length c0_0, .int .i64 a0_1, .int .i64 a0_2, .int .i64 a0_3, .int .i64 a0_4, .int .i64 a0_5, .int .i64 a0_6]] (by rfl) rfl rfl (by (try simp only [List.map_toArray, List.map_cons, List.map_nil]); first | done | rfl | (simp only [List.length_drop, List.length_take]; rfl)) ?_
     with_reducible refine (laws_toGap.calls k _ _ l0_0 a0_1 a0_2 a0_3 a0_4 a0_5 a0_6 t235 t238 t239 t240 t241 t242 t243 _ ?side1 ?side2 A10.out).mono ?_
     (case side1 => repeat (first | exact (Kd.C_below HR0_0.out HB.out) | (with_reducible refine Kd.C_alloc ?_ _) | (with_reducible refine Kd.C_drewN ?_ _) | (with_reducible refine Kd.C_drew ?_)))
     (case side2 => exact HC0_0.out)
     rintro e w27 ⟨v236, rfl, ho0, hb⟩
     refine ⟨_, rfl, ?_⟩
     have HO237 := Aside0.mk (Kd.S_lower ho0 (below_size (zh0 HB)))
     replace BK232 := zb0 BK232 hb
     replace BK233 := zb0 BK233 hb
     replace HB := zhs HB hb
     (try clear hb)
     (try clear hb2)
     (try clear hk)
     (try clear hi)
     (try clear ho0)
     refine hK.out _ _ ⟨zc0 BK232 0 rfl, zc0 BK232 1 rfl, zc0 BK232 2 rfl, zc0 BK232 3 rfl, zc0 BK232 4 rfl, zc0 BK232 5 rfl, zc0 BK232 6 rfl, zc0 BK233 0 rfl, zc0 BK233 1 rfl, zc0 BK233 2 rfl, zc0 BK233 3 rfl⟩ (fun hHeld => ?_)
     clear hK K
     refine norm_ (a' := ?_) ?_ ?_
     rotate_left
     ·show Act.put _ (some 18) _ = _
      simp only [Act.put, zp1, zp2, zp3, i64_w, i32_w]
      rfl
     refine one_ (i := 3) (N := some 20) #[true, true, true, true, false, false, false, false, false, false] rfl rfl (one_of HT_.out (by kernel_rfl)) (by decide) (fun K hK => ?_)
     refine goes_ Try.func47 (by kernel_rfl) rfl #[.agg #[.int .i64 a1_0, .int .i64 a1_1, .int .i64 a1_2, .int .i64 a1_3]] (by rfl) rfl rfl (by (try simp only [List.map_toArray, List.map_cons, List.map_nil]); first | done | rfl | (simp only [List.length_drop, List.length_take]; rfl)) ?_
     with_reducible refine (laws_toWindow.calls a1_0 a1_1 a1_2 a1_3 t244 t245 t246 t247 _ A11.out).mono ?_
     rintro e w28 ⟨rfl, hb⟩
     refine ⟨_, rfl, ?_⟩
     replace HO237 := zsb HO237 hb
     replace BK232 := zb0 BK232 hb
     replace BK233 := zb0 BK233 hb
     replace HB := zhs HB hb
     (try clear hb)
     (try clear hb2)
     (try clear hk)
     (try clear hi)
     obtain ⟨Ao29, co29, eo29⟩ := Kd.S_slice HO237.out
     (first | subst eo29 | (injection eo29 with f1_ f2_ f3_; have f4_ := f1_.symm; have f5_ := f3_.symm; clear f1_ f2_ f3_; subst f4_; subst f5_))
     refine hK.out _ _ ⟨zc0 BK232 0 rfl, zc0 BK232 1 rfl, zc0 BK232 2 rfl, zc0 BK232 3 rfl, zc0 BK232 4 rfl, zc0 BK232 5 rfl, zc0 BK232 6 rfl, zc0 BK233 0 rfl, zc0 BK233 1 rfl, zc0 BK233 2 rfl, zc0 BK233 3 rfl⟩ (fun hHeld => ?_)
     clear hK K
     refine norm_ (a' := ?_) ?_ ?_
     rotate_left
     ·show Act.put _ (some 20) _ = _
      simp only [Act.put, zp1, zp2, zp3, i64_w, i32_w]
      rfl
     refine one_ (i := 4) (N := some 21) #[true, true, true, true, true, false, false, false, false, false] rfl rfl (one_of HT_.out (by kernel_rfl)) (by decide) (fun K hK => ?_)
     refine goes_ Try.func46 (by kernel_rfl) rfl #[.agg #[.slice Ao29 t235.length co29, .int .i64 t238, .int .i64 t239, .int .i64 t240, .int .i64 t241, .int .i64 t242, .int .i64 t243], .agg #[.int .i64 t244, .int .i64 t245, .int .i64 t246, .int .i64 t247]] (by rfl) rfl rfl (by (try simp only [List.map_toArray, List.map_cons, List.map_nil]); first | done | rfl | (simp only [List.length_drop, List.length_take]; rfl)) ?_
     with_reducible refine (spec_SeenThrough.calls k _ _ t235 t238 t239 t240 t241 t242 t243 t244 t245 t246 t247 t248 t249 _ ?side1 ?side2 A12.out).mono ?_
     (case side1 => repeat (first | exact (Kd.S_reads' HO237.out).2.2 | (with_reducible refine Kd.C_alloc ?_ _) | (with_reducible refine Kd.C_drewN ?_ _) | (with_reducible refine Kd.C_drew ?_)))
     (case side2 => exact (Kd.S_reads' HO237.out).2.1)
     rintro e w30 ⟨rfl, hb⟩
     refine ⟨_, rfl, ?_⟩
     replace HO237 := zsb HO237 hb
     replace BK232 := zb0 BK232 hb
     replace BK233 := zb0 BK233 hb
     replace HB := zhs HB hb
     (try clear hb)
     (try clear hb2)
     (try clear hk)
     (try clear hi)
     refine hK.out _ _ ⟨zc0 BK232 0 rfl, zc0 BK232 1 rfl, zc0 BK232 2 rfl, zc0 BK232 3 rfl, zc0 BK232 4 rfl, zc0 BK232 5 rfl, zc0 BK232 6 rfl, zc0 BK233 0 rfl, zc0 BK233 1 rfl, zc0 BK233 2 rfl, zc0 BK233 3 rfl⟩ (fun hHeld => ?_)
     clear hK K
     refine norm_ (a' := ?_) ?_ ?_
     rotate_left
     ·show Act.put _ (some 21) _ = _
      simp only [Act.put, zp1, zp2, zp3, i64_w, i32_w]
      rfl
     refine pure_ (i := 5) (N := some 16) (v := ?_) (a' := ?_) #[true, true, true, true, true, true, false, false, false, false] rfl rfl (any_of HT_.out (by kernel_rfl)) (fun _ _ _ h => h) (Or.inl ⟨by rfl, ?_⟩) ?_ ?_
     rotate_left
     ·intro w'
      go_simp
      with_reducible rfl
     rotate_left
     ·simp only [Act.put, zp1, zp2, zp3, i64_w, i32_w]
      rfl
     refine pure_ (i := 6) (N := some 22) (v := ?_) (a' := ?_) #[true, true, true, true, true, true, true, false, false, false] rfl rfl (any_of HT_.out (by kernel_rfl)) (fun _ _ _ h => h) (Or.inl ⟨by rfl, ?_⟩) ?_ ?_
     rotate_left
     ·intro w'
      go_simp
      with_reducible rfl
     rotate_left
     ·simp only [Act.put, zp1, zp2, zp3, i64_w, i32_w]
      rfl
     refine pure_ (i := 7) (N := some 23) (v := ?_) (a' := ?_) #[true, true, true, true, true, true, true, true, false, false] rfl rfl (any_of HT_.out (by kernel_rfl)) (fun _ _ _ h => h) (Or.inl ⟨by rfl, ?_⟩) ?_ ?_
     rotate_left
     ·intro w'
      go_simp
      with_reducible rfl
     rotate_left
     ·simp only [Act.put, zp1, zp2, zp3, i64_w, i32_w]
      rfl
     refine pure_ (i := 8) (N := some 6) (v := ?_) (a' := ?_) #[true, true, true, true, true, true, true, true, true, false] rfl rfl (any_of HT_.out (by kernel_rfl)) (fun _ _ _ h => h) (Or.inl ⟨by rfl, ?_⟩) ?_ ?_
     rotate_left
     ·intro w'
      go_simp
      with_reducible rfl
     rotate_left
     ·simp only [Act.put, zp1, zp2, zp3, i64_w, i32_w]
      rfl
     refine pure_ (i := 9) (N := some 7) (v := ?_) (a' := ?_) #[true, true, true, true, true, true, true, true, true, true] rfl rfl (any_of HT_.out (by kernel_rfl)) (fun _ _ _ h => h) (Or.inl ⟨by rfl, ?_⟩) ?_ ?_
     rotate_left
     ·intro w'
      go_simp
      with_reducible rfl
     rotate_left
     ·simp only [Act.put, zp1, zp2, zp3, i64_w, i32_w]
      rfl
     refine done_ (done_of HT_.out (by kernel_rfl)) ?_
     have hcz31_0 : w30.cell? ⟨gb232, 0, none⟩ = some (.slice A0_0 l0_0.length c0_0) := zc0 BK232 0 rfl
     have hcz31_1 : w30.cell? ⟨gb232, 1, none⟩ = some (.int .i64 a0_1) := zc0 BK232 1 rfl
     have hcz31_2 : w30.cell? ⟨gb232, 2, none⟩ = some (.int .i64 a0_2) := zc0 BK232 2 rfl
     have hcz31_3 : w30.cell? ⟨gb232, 3, none⟩ = some (.int .i64 a0_3) := zc0 BK232 3 rfl
     have hcz31_4 : w30.cell? ⟨gb232, 4, none⟩ = some (.int .i64 a0_4) := zc0 BK232 4 rfl
     have hcz31_5 : w30.cell? ⟨gb232, 5, none⟩ = some (.int .i64 a0_5) := zc0 BK232 5 rfl
     have hcz31_6 : w30.cell? ⟨gb232, 6, none⟩ = some (.int .i64 a0_6) := zc0 BK232 6 rfl
     have hfz31_0 := blk_frozen BK232.out 0
     have hfz31_1 := blk_frozen BK232.out 1
     have hfz31_2 := blk_frozen BK232.out 2
     have hfz31_3 := blk_frozen BK232.out 3
     have hfz31_4 := blk_frozen BK232.out 4
     have hfz31_5 := blk_frozen BK232.out 5
     have hfz31_6 := blk_frozen BK232.out 6
     try go_wp2_with (first | ((with_reducible refine gate_callee (f := 24) rfl ?_); refine goesL_ (some 25) rfl rfl Try.func24 (by kernel_rfl) rfl #[.agg #[.slice A0_0 l0_0.length c0_0, .int .i64 a0_1, .int .i64 a0_2, .int .i64 a0_3, .int .i64 a0_4, .int .i64 a0_5, .int .i64 a0_6]] rfl (by (try simp only [List.map_toArray, List.map_cons, List.map_nil]); first | done | rfl | (simp only [List.length_drop, List.length_take]; rfl)) ?_; (with_reducible refine (laws_toGap.calls k _ _ l0_0 a0_1 a0_2 a0_3 a0_4 a0_5 a0_6 t250 t253 t254 t255 t256 t257 t258 _ ?side1 ?side2 A13.out).mono ?_); (case side1 => repeat (first | exact (Kd.C_below HR0_0.out HB.out) | (with_reducible refine Kd.C_alloc ?_ _) | (with_reducible refine Kd.C_drewN ?_ _) | (with_reducible refine Kd.C_drew ?_))); (case side2 => exact HC0_0.out); rintro e w32 ⟨v251, rfl, ho0, hb⟩; refine ⟨_, rfl, ?_⟩; have n0_ := Aside0.mk (Kd.S_elder' (zs0 HO237) (Kd.S_base ho0) hb); have n1_ := Aside0.mk (Kd.S_lower (Kd.S_new' ho0 (Kd.S_lt (zs0 HO237))) (below_size (zh0 HB))); have n2_ := zb0 BK232 hb; have n3_ := zb0 BK233 hb; have n4_ := zhs HB hb; clear HO237; clear BK232; clear BK233; clear HB; have HO237 := n0_; have HO252 := n1_; have BK232 := n2_; have BK233 := n3_; have HB := n4_; clear n0_ n1_ n2_ n3_ n4_; (try clear hb); (try clear hb2); (try clear hk); (try clear hi); (try clear ho0)) | ((with_reducible refine gate_dst (N := 8) rfl ?_); refine box_event ?hg (N := 8) ?hd (cs := #[.slice none 0 0, .int .i64 0, .int .i64 0, .int .i64 0, .int .i64 0, .int .i64 0, .int .i64 0]) (t := 45) ?hr ?_; (case hd => rfl); (case hg => rfl); (case hr => first | (go_simp; done) | (go_simp; rfl)); intro gb259 hg w33 hbox hb; have n0_ := zsb HO237 hb; have n1_ := zsb HO252 hb; have n2_ := zb0 BK232 hb; have n3_ := zb0 BK233 hb; have n4_ := Aside0.mk (below_step (by repeat (first | (with_reducible first | exact HB.out | apply below_alloc | apply pw_below_drewN | apply below_drew1 | refine below_set ?_ GE232.out | refine below_set ?_ GE233.out) | exact HB.out)) hb); have n5_ := Aside0.mk (hbox); have n6_ := Aside0.mk ((by rw [hg]; exact (below_size (by repeat (first | (with_reducible first | exact HB.out | apply below_alloc | apply pw_below_drewN | apply below_drew1 | refine below_set ?_ GE232.out | refine below_set ?_ GE233.out) | exact HB.out))) : w.heap.size ≤ gb259)); have n7_ := Aside0.mk ((by rw [hg]; exact (below_size (by repeat (first | (with_reducible first | exact HB.out | apply below_alloc | apply pw_below_drewN | apply below_drew1 | refine below_set ?_ GE232.out | refine below_set ?_ GE233.out) | exact HB.out))) : w.heap.size ≤ gb259)); have n8_ := znl BK232 hg; have n9_ := znr BK232 hg; have n10_ := znl BK233 hg; have n11_ := znr BK233 hg; clear HO237; clear HO252; clear BK232; clear BK233; clear HB; have HO237 := n0_; have HO252 := n1_; have BK232 := n2_; have BK233 := n3_; have HB := n4_; have BK259 := n5_; have GW259 := n6_; have GE259 := n7_; have NB232_259 := n8_; have NB259_232 := n9_; have NB233_259 := n10_; have NB259_233 := n11_; clear n0_ n1_ n2_ n3_ n4_ n5_ n6_ n7_ n8_ n9_ n10_ n11_; clear hb hbox hg; obtain ⟨Ao34, co34, eo34⟩ := Kd.S_slice HO252.out; subst eo34; have hnb35 := NB259_232.out; have hnc35 := NB232_259.out; have hnb36 := NB259_233.out; have hnc36 := NB233_259.out; have hcz37_0 : w33.cell? ⟨gb259, 0, none⟩ = some (.slice none 0 0) := zc0 BK259 0 rfl; have hcz37_1 : w33.cell? ⟨gb259, 1, none⟩ = some (.int .i64 0) := zc0 BK259 1 rfl; have hcz37_2 : w33.cell? ⟨gb259, 2, none⟩ = some (.int .i64 0) := zc0 BK259 2 rfl; have hcz37_3 : w33.cell? ⟨gb259, 3, none⟩ = some (.int .i64 0) := zc0 BK259 3 rfl; have hcz37_4 : w33.cell? ⟨gb259, 4, none⟩ = some (.int .i64 0) := zc0 BK259 4 rfl; have hcz37_5 : w33.cell? ⟨gb259, 5, none⟩ = some (.int .i64 0) := zc0 BK259 5 rfl; have hcz37_6 : w33.cell? ⟨gb259, 6, none⟩ = some (.int .i64 0) := zc0 BK259 6 rfl; have hfz37_0 := blk_frozen BK259.out 0; have hfz37_1 := blk_frozen BK259.out 1; have hfz37_2 := blk_frozen BK259.out 2; have hfz37_3 := blk_frozen BK259.out 3; have hfz37_4 := blk_frozen BK259.out 4; have hfz37_5 := blk_frozen BK259.out 5; have hfz37_6 := blk_frozen BK259.out 6))
     have n0_ : Aside0 (Kd.S (Kd.slice 5 (Kd.int .u8)) 112 (((((((w33.setCell ⟨gb259, 0, none⟩ (.slice Ao34 t250.length co34)).setCell ⟨gb259, 1, none⟩ (.int .i64 t253)).setCell ⟨gb259, 2, none⟩ (.int .i64 t254)).setCell ⟨gb259, 3, none⟩ (.int .i64 t255)).setCell ⟨gb259, 4, none⟩ (.int .i64 t256)).setCell ⟨gb259, 5, none⟩ (.int .i64 t257)).setCell ⟨gb259, 6, none⟩ (.int .i64 t258)) w.heap.size (fun k_ => some k_ ≠ (.slice Ao34 t250.length co34 : Value).ownBlock) (.slice Ao29 t235.length co29) t235) := ⟨by (with_reducible repeat (first | apply Kd.S_alloc | apply Kd.S_drewN | apply Kd.S_drew)); exact Kd.S_mono (Kd.S_far (p := ⟨gb259, 6, none⟩) (Kd.S_far (p := ⟨gb259, 5, none⟩) (Kd.S_far (p := ⟨gb259, 4, none⟩) (Kd.S_far (p := ⟨gb259, 3, none⟩) (Kd.S_far (p := ⟨gb259, 2, none⟩) (Kd.S_far (p := ⟨gb259, 1, none⟩) (Kd.S_far (p := ⟨gb259, 0, none⟩) (Kd.S_types HO237.out BK259.out (by decide)) (fun _ hk => hk.2) (.slice Ao34 t250.length co34)) (fun _ hk => hk.2) (.int .i64 t253)) (fun _ hk => hk.2) (.int .i64 t254)) (fun _ hk => hk.2) (.int .i64 t255)) (fun _ hk => hk.2) (.int .i64 t256)) (fun _ hk => hk.2) (.int .i64 t257)) (fun _ hk => hk.2) (.int .i64 t258)) (fun _ hk => hk.1.2)⟩
     have n1_ : Aside0 (Kd.S (Kd.slice 5 (Kd.int .u8)) 112 (((((((w33.setCell ⟨gb259, 0, none⟩ (.slice Ao34 t250.length co34)).setCell ⟨gb259, 1, none⟩ (.int .i64 t253)).setCell ⟨gb259, 2, none⟩ (.int .i64 t254)).setCell ⟨gb259, 3, none⟩ (.int .i64 t255)).setCell ⟨gb259, 4, none⟩ (.int .i64 t256)).setCell ⟨gb259, 5, none⟩ (.int .i64 t257)).setCell ⟨gb259, 6, none⟩ (.int .i64 t258)) w.heap.size (fun k_ => some k_ ≠ (.slice Ao29 t235.length co29 : Value).ownBlock) (.slice Ao34 t250.length co34) t250) := ⟨by (with_reducible repeat (first | apply Kd.S_alloc | apply Kd.S_drewN | apply Kd.S_drew)); exact Kd.S_mono (Kd.S_far (p := ⟨gb259, 6, none⟩) (Kd.S_far (p := ⟨gb259, 5, none⟩) (Kd.S_far (p := ⟨gb259, 4, none⟩) (Kd.S_far (p := ⟨gb259, 3, none⟩) (Kd.S_far (p := ⟨gb259, 2, none⟩) (Kd.S_far (p := ⟨gb259, 1, none⟩) (Kd.S_far (p := ⟨gb259, 0, none⟩) (Kd.S_types HO252.out BK259.out (by decide)) (fun _ hk => hk.2) (.slice Ao34 t250.length co34)) (fun _ hk => hk.2) (.int .i64 t253)) (fun _ hk => hk.2) (.int .i64 t254)) (fun _ hk => hk.2) (.int .i64 t255)) (fun _ hk => hk.2) (.int .i64 t256)) (fun _ hk => hk.2) (.int .i64 t257)) (fun _ hk => hk.2) (.int .i64 t258)) (fun _ hk => hk.1.2)⟩
     have n2_ : Aside0 ((((((((w33.setCell ⟨gb259, 0, none⟩ (.slice Ao34 t250.length co34)).setCell ⟨gb259, 1, none⟩ (.int .i64 t253)).setCell ⟨gb259, 2, none⟩ (.int .i64 t254)).setCell ⟨gb259, 3, none⟩ (.int .i64 t255)).setCell ⟨gb259, 4, none⟩ (.int .i64 t256)).setCell ⟨gb259, 5, none⟩ (.int .i64 t257)).setCell ⟨gb259, 6, none⟩ (.int .i64 t258)).heap[gb232]? = some (.cells #[.slice A0_0 l0_0.length c0_0, .int .i64 a0_1, .int .i64 a0_2, .int .i64 a0_3, .int .i64 a0_4, .int .i64 a0_5, .int .i64 a0_6] 41 (0, 0))) := ⟨by (with_reducible repeat (first | refine blk_drewN ?_ _ | refine blk_drew ?_ | refine blk_alloc ?_ _)); refine blk_far ?_ NB232_259.out _; (with_reducible repeat (first | refine blk_drewN ?_ _ | refine blk_drew ?_ | refine blk_alloc ?_ _)); refine blk_far ?_ NB232_259.out _; (with_reducible repeat (first | refine blk_drewN ?_ _ | refine blk_drew ?_ | refine blk_alloc ?_ _)); refine blk_far ?_ NB232_259.out _; (with_reducible repeat (first | refine blk_drewN ?_ _ | refine blk_drew ?_ | refine blk_alloc ?_ _)); refine blk_far ?_ NB232_259.out _; (with_reducible repeat (first | refine blk_drewN ?_ _ | refine blk_drew ?_ | refine blk_alloc ?_ _)); refine blk_far ?_ NB232_259.out _; (with_reducible repeat (first | refine blk_drewN ?_ _ | refine blk_drew ?_ | refine blk_alloc ?_ _)); refine blk_far ?_ NB232_259.out _; (with_reducible repeat (first | refine blk_drewN ?_ _ | refine blk_drew ?_ | refine blk_alloc ?_ _)); refine blk_far ?_ NB232_259.out _; (with_reducible repeat (first | refine blk_drewN ?_ _ | refine blk_drew ?_ | refine blk_alloc ?_ _)); exact BK232.out⟩
     have n3_ : Aside0 ((((((((w33.setCell ⟨gb259, 0, none⟩ (.slice Ao34 t250.length co34)).setCell ⟨gb259, 1, none⟩ (.int .i64 t253)).setCell ⟨gb259, 2, none⟩ (.int .i64 t254)).setCell ⟨gb259, 3, none⟩ (.int .i64 t255)).setCell ⟨gb259, 4, none⟩ (.int .i64 t256)).setCell ⟨gb259, 5, none⟩ (.int .i64 t257)).setCell ⟨gb259, 6, none⟩ (.int .i64 t258)).heap[gb233]? = some (.cells #[.int .i64 a1_0, .int .i64 a1_1, .int .i64 a1_2, .int .i64 a1_3] 26 (0, 0))) := ⟨by (with_reducible repeat (first | refine blk_drewN ?_ _ | refine blk_drew ?_ | refine blk_alloc ?_ _)); refine blk_far ?_ NB233_259.out _; (with_reducible repeat (first | refine blk_drewN ?_ _ | refine blk_drew ?_ | refine blk_alloc ?_ _)); refine blk_far ?_ NB233_259.out _; (with_reducible repeat (first | refine blk_drewN ?_ _ | refine blk_drew ?_ | refine blk_alloc ?_ _)); refine blk_far ?_ NB233_259.out _; (with_reducible repeat (first | refine blk_drewN ?_ _ | refine blk_drew ?_ | refine blk_alloc ?_ _)); refine blk_far ?_ NB233_259.out _; (with_reducible repeat (first | refine blk_drewN ?_ _ | refine blk_drew ?_ | refine blk_alloc ?_ _)); refine blk_far ?_ NB233_259.out _; (with_reducible repeat (first | refine blk_drewN ?_ _ | refine blk_drew ?_ | refine blk_alloc ?_ _)); refine blk_far ?_ NB233_259.out _; (with_reducible repeat (first | refine blk_drewN ?_ _ | refine blk_drew ?_ | refine blk_alloc ?_ _)); refine blk_far ?_ NB233_259.out _; (with_reducible repeat (first | refine blk_drewN ?_ _ | refine blk_drew ?_ | refine blk_alloc ?_ _)); exact BK233.out⟩
     have n4_ : Aside0 ((((((((w33.setCell ⟨gb259, 0, none⟩ (.slice Ao34 t250.length co34)).setCell ⟨gb259, 1, none⟩ (.int .i64 t253)).setCell ⟨gb259, 2, none⟩ (.int .i64 t254)).setCell ⟨gb259, 3, none⟩ (.int .i64 t255)).setCell ⟨gb259, 4, none⟩ (.int .i64 t256)).setCell ⟨gb259, 5, none⟩ (.int .i64 t257)).setCell ⟨gb259, 6, none⟩ (.int .i64 t258)).heap[gb259]? = some (.cells #[.slice Ao34 t250.length co34, .int .i64 t253, .int .i64 t254, .int .i64 t255, .int .i64 t256, .int .i64 t257, .int .i64 t258] 45 (0, 0))) := ⟨by (with_reducible repeat (first | refine blk_drewN ?_ _ | refine blk_drew ?_ | refine blk_alloc ?_ _)); refine blk_put (cs := #[.slice Ao34 t250.length co34, .int .i64 t253, .int .i64 t254, .int .i64 t255, .int .i64 t256, .int .i64 t257, .int .i64 0]) ?_ 6 _ rfl; (with_reducible repeat (first | refine blk_drewN ?_ _ | refine blk_drew ?_ | refine blk_alloc ?_ _)); refine blk_put (cs := #[.slice Ao34 t250.length co34, .int .i64 t253, .int .i64 t254, .int .i64 t255, .int .i64 t256, .int .i64 0, .int .i64 0]) ?_ 5 _ rfl; (with_reducible repeat (first | refine blk_drewN ?_ _ | refine blk_drew ?_ | refine blk_alloc ?_ _)); refine blk_put (cs := #[.slice Ao34 t250.length co34, .int .i64 t253, .int .i64 t254, .int .i64 t255, .int .i64 0, .int .i64 0, .int .i64 0]) ?_ 4 _ rfl; (with_reducible repeat (first | refine blk_drewN ?_ _ | refine blk_drew ?_ | refine blk_alloc ?_ _)); refine blk_put (cs := #[.slice Ao34 t250.length co34, .int .i64 t253, .int .i64 t254, .int .i64 0, .int .i64 0, .int .i64 0, .int .i64 0]) ?_ 3 _ rfl; (with_reducible repeat (first | refine blk_drewN ?_ _ | refine blk_drew ?_ | refine blk_alloc ?_ _)); refine blk_put (cs := #[.slice Ao34 t250.length co34, .int .i64 t253, .int .i64 0, .int .i64 0, .int .i64 0, .int .i64 0, .int .i64 0]) ?_ 2 _ rfl; (with_reducible repeat (first | refine blk_drewN ?_ _ | refine blk_drew ?_ | refine blk_alloc ?_ _)); refine blk_put (cs := #[.slice Ao34 t250.length co34, .int .i64 0, .int .i64 0, .int .i64 0, .int .i64 0, .int .i64 0, .int .i64 0]) ?_ 1 _ rfl; (with_reducible repeat (first | refine blk_drewN ?_ _ | refine blk_drew ?_ | refine blk_alloc ?_ _)); refine blk_put (cs := #[.slice none 0 0, .int .i64 0, .int .i64 0, .int .i64 0, .int .i64 0, .int .i64 0, .int .i64 0]) ?_ 0 _ rfl; (with_reducible repeat (first | refine blk_drewN ?_ _ | refine blk_drew ?_ | refine blk_alloc ?_ _)); exact BK259.out⟩
     have n5_ : Aside0 (Below w.heap.size w (((((((w33.setCell ⟨gb259, 0, none⟩ (.slice Ao34 t250.length co34)).setCell ⟨gb259, 1, none⟩ (.int .i64 t253)).setCell ⟨gb259, 2, none⟩ (.int .i64 t254)).setCell ⟨gb259, 3, none⟩ (.int .i64 t255)).setCell ⟨gb259, 4, none⟩ (.int .i64 t256)).setCell ⟨gb259, 5, none⟩ (.int .i64 t257)).setCell ⟨gb259, 6, none⟩ (.int .i64 t258))) := ⟨by repeat (first | (with_reducible first | exact HB.out | apply below_alloc | apply pw_below_drewN | apply below_drew1 | refine below_set ?_ GE232.out | refine below_set ?_ GE233.out | refine below_set ?_ GE259.out) | exact HB.out)⟩
     (try clear HO237)
     (try clear HO252)
     (try clear BK232)
     (try clear BK233)
     (try clear BK259)
     (try clear HB)
     generalize (((((((w33.setCell ⟨gb259, 0, none⟩ (.slice Ao34 t250.length co34)).setCell ⟨gb259, 1, none⟩ (.int .i64 t253)).setCell ⟨gb259, 2, none⟩ (.int .i64 t254)).setCell ⟨gb259, 3, none⟩ (.int .i64 t255)).setCell ⟨gb259, 4, none⟩ (.int .i64 t256)).setCell ⟨gb259, 5, none⟩ (.int .i64 t257)).setCell ⟨gb259, 6, none⟩ (.int .i64 t258)) = w38 at n0_ n1_ n2_ n3_ n4_ n5_ ⊢
     have HO237 := n0_
     have HO252 := n1_
     have BK232 := n2_
     have BK233 := n3_
     have BK259 := n4_
     have HB := n5_
     clear n0_ n1_ n2_ n3_ n4_ n5_
     replace HO237 := Aside0.mk (Kd.S_drew HO237.out)
     replace HO252 := Aside0.mk (Kd.S_drew HO252.out)
     replace BK232 := Aside0.mk (blk_drew BK232.out)
     replace BK233 := Aside0.mk (blk_drew BK233.out)
     replace BK259 := Aside0.mk (blk_drew BK259.out)
     replace HB := Aside0.mk (below_drew1 HB.out)
     refine start_ (n := 9) (S := fun w' => w'.cell? ⟨gb259, 0, none⟩ = some (.slice Ao34 t250.length co34) ∧ w'.cell? ⟨gb259, 1, none⟩ = some (.int .i64 t253) ∧ w'.cell? ⟨gb259, 2, none⟩ = some (.int .i64 t254) ∧ w'.cell? ⟨gb259, 3, none⟩ = some (.int .i64 t255) ∧ w'.cell? ⟨gb259, 4, none⟩ = some (.int .i64 t256) ∧ w'.cell? ⟨gb259, 5, none⟩ = some (.int .i64 t257) ∧ w'.cell? ⟨gb259, 6, none⟩ = some (.int .i64 t258) ∧ w'.cell? ⟨gb233, 0, none⟩ = some (.int .i64 a1_0) ∧ w'.cell? ⟨gb233, 1, none⟩ = some (.int .i64 a1_1) ∧ w'.cell? ⟨gb233, 2, none⟩ = some (.int .i64 a1_2) ∧ w'.cell? ⟨gb233, 3, none⟩ = some (.int .i64 a1_3)) (ds := []) #[false, false, false, false, false, false, false, false, false] (by kernel_rfl) rfl rfl ⟨zc0 BK259 0 rfl, zc0 BK259 1 rfl, zc0 BK259 2 rfl, zc0 BK259 3 rfl, zc0 BK259 4 rfl, zc0 BK259 5 rfl, zc0 BK259 6 rfl, zc0 BK233 0 rfl, zc0 BK233 1 rfl, zc0 BK233 2 rfl, zc0 BK233 3 rfl⟩ (fun hHeld => ?_); refine with_tabW laws_FnExactSeenThrough.tab7 laws_FnExactSeenThrough.bits7 (fun HT_ HW_ => ?_)
     generalize w38.drew = w39 at HO237 HO252 BK232 BK233 BK259 HB hHeld ⊢
     refine take_ (i := 0) (N := some 27) (v := ?_) (a' := ?_) #[true, false, false, false, false, false, false, false, false] rfl rfl (take_ofW HT_.out HW_.out (by kernel_rfl)) (fun _ _ _ h => h) (Or.inl ⟨by rfl, ?_⟩) hHeld ?_ ?_
     rotate_left
     ·rintro w' ⟨s0, s1, s2, s3, s4, s5, s6, s7, s8, s9, s10⟩
      go_simp
      with_reducible rfl
     rotate_left
     ·simp only [Act.put, zp1, zp2, zp3, i64_w, i32_w]
      rfl
     refine take_ (i := 1) (N := some 28) (v := ?_) (a' := ?_) #[true, true, false, false, false, false, false, false, false] rfl rfl (take_ofW HT_.out HW_.out (by kernel_rfl)) (fun _ _ _ h => h) (Or.inl ⟨by rfl, ?_⟩) hHeld ?_ ?_
     rotate_left
     ·rintro w' ⟨s0, s1, s2, s3, s4, s5, s6, s7, s8, s9, s10⟩
      go_simp
      with_reducible rfl
     rotate_left
     ·simp only [Act.put, zp1, zp2, zp3, i64_w, i32_w]
      rfl
     refine one_ (i := 2) (N := some 29) #[true, true, true, false, false, false, false, false, false] rfl rfl (one_of HT_.out (by kernel_rfl)) (by decide) (fun K hK => ?_)
     refine goes_ Try.func47 (by kernel_rfl) rfl #[.agg #[.int .i64 a1_0, .int .i64 a1_1, .int .i64 a1_2, .int .i64 a1_3]] (by rfl) rfl rfl (by (try simp only [List.map_toArray, List.map_cons, List.map_nil]); first | done | rfl | (simp only [List.length_drop, List.length_take]; rfl)) ?_
     with_reducible refine (laws_toWindow.calls a1_0 a1_1 a1_2 a1_3 t260 t261 t262 t263 _ A14.out).mono ?_
     rintro e w40 ⟨rfl, hb⟩
     refine ⟨_, rfl, ?_⟩
     replace HO237 := zsb HO237 hb
     replace HO252 := zsb HO252 hb
     replace BK232 := zb0 BK232 hb
     replace BK233 := zb0 BK233 hb
     replace BK259 := zb0 BK259 hb
     replace HB := zhs HB hb
     (try clear hb)
     (try clear hb2)
     (try clear hk)
     (try clear hi)
     refine hK.out _ _ ⟨zc0 BK259 0 rfl, zc0 BK259 1 rfl, zc0 BK259 2 rfl, zc0 BK259 3 rfl, zc0 BK259 4 rfl, zc0 BK259 5 rfl, zc0 BK259 6 rfl, zc0 BK233 0 rfl, zc0 BK233 1 rfl, zc0 BK233 2 rfl, zc0 BK233 3 rfl⟩ (fun hHeld => ?_)
     clear hK K
     refine norm_ (a' := ?_) ?_ ?_
     rotate_left
     ·show Act.put _ (some 29) _ = _
      simp only [Act.put, zp1, zp2, zp3, i64_w, i32_w]
      rfl
     refine one_ (i := 3) (N := some 30) #[true, true, true, true, false, false, false, false, false] rfl rfl (one_of HT_.out (by kernel_rfl)) (by decide) (fun K hK => ?_)
     refine goes_ Try.func48 (by kernel_rfl) rfl #[.agg #[.slice Ao34 t250.length co34, .int .i64 t253, .int .i64 t254, .int .i64 t255, .int .i64 t256, .int .i64 t257, .int .i64 t258], .agg #[.int .i64 t260, .int .i64 t261, .int .i64 t262, .int .i64 t263]] (by rfl) rfl rfl (by (try simp only [List.map_toArray, List.map_cons, List.map_nil]); first | done | rfl | (simp only [List.length_drop, List.length_take]; rfl)) ?_
     with_reducible refine (impl_SeenThrough.calls k _ _ t250 t253 t254 t255 t256 t257 t258 t260 t261 t262 t263 t264 t265 _ ?side1 ?side2 A15.out).mono ?_
     (case side1 => repeat (first | exact (Kd.S_reads' HO252.out).2.2 | (with_reducible refine Kd.C_alloc ?_ _) | (with_reducible refine Kd.C_drewN ?_ _) | (with_reducible refine Kd.C_drew ?_)))
     (case side2 => exact (Kd.S_reads' HO252.out).2.1)
     rintro e w41 ⟨rfl, hb⟩
     refine ⟨_, rfl, ?_⟩
     replace HO237 := zsb HO237 hb
     replace HO252 := zsb HO252 hb
     replace BK232 := zb0 BK232 hb
     replace BK233 := zb0 BK233 hb
     replace BK259 := zb0 BK259 hb
     replace HB := zhs HB hb
     (try clear hb)
     (try clear hb2)
     (try clear hk)
     (try clear hi)
     refine hK.out _ _ ⟨zc0 BK259 0 rfl, zc0 BK259 1 rfl, zc0 BK259 2 rfl, zc0 BK259 3 rfl, zc0 BK259 4 rfl, zc0 BK259 5 rfl, zc0 BK259 6 rfl, zc0 BK233 0 rfl, zc0 BK233 1 rfl, zc0 BK233 2 rfl, zc0 BK233 3 rfl⟩ (fun hHeld => ?_)
     clear hK K
     refine norm_ (a' := ?_) ?_ ?_
     rotate_left
     ·show Act.put _ (some 30) _ = _
      simp only [Act.put, zp1, zp2, zp3, i64_w, i32_w]
      rfl
     refine pure_ (i := 4) (N := some 26) (v := ?_) (a' := ?_) #[true, true, true, true, true, false, false, false, false] rfl rfl (any_of HT_.out (by kernel_rfl)) (fun _ _ _ h => h) (Or.inl ⟨by rfl, ?_⟩) ?_ ?_
     rotate_left
     ·intro w'
      go_simp
      with_reducible rfl
     rotate_left
     ·simp only [Act.put, zp1, zp2, zp3, i64_w, i32_w]
      rfl
     refine pure_ (i := 5) (N := some 31) (v := ?_) (a' := ?_) #[true, true, true, true, true, true, false, false, false] rfl rfl (any_of HT_.out (by kernel_rfl)) (fun _ _ _ h => h) (Or.inl ⟨by rfl, ?_⟩) ?_ ?_
     rotate_left
     ·intro w'
      go_simp
      with_reducible rfl
     rotate_left
     ·simp only [Act.put, zp1, zp2, zp3, i64_w, i32_w]
      rfl
     refine pure_ (i := 6) (N := some 32) (v := ?_) (a' := ?_) #[true, true, true, true, true, true, true, false, false] rfl rfl (any_of HT_.out (by kernel_rfl)) (fun _ _ _ h => h) (Or.inl ⟨by rfl, ?_⟩) ?_ ?_
     rotate_left
     ·intro w'
      go_simp
      with_reducible rfl
     rotate_left
     ·simp only [Act.put, zp1, zp2, zp3, i64_w, i32_w]
      rfl
     refine pure_ (i := 7) (N := some 9) (v := ?_) (a' := ?_) #[true, true, true, true, true, true, true, true, false] rfl rfl (any_of HT_.out (by kernel_rfl)) (fun _ _ _ h => h) (Or.inl ⟨by rfl, ?_⟩) ?_ ?_
     rotate_left
     ·intro w'
      go_simp
      with_reducible rfl
     rotate_left
     ·simp only [Act.put, zp1, zp2, zp3, i64_w, i32_w]
      rfl
     refine pure_ (i := 8) (N := some 10) (v := ?_) (a' := ?_) #[true, true, true, true, true, true, true, true, true] rfl rfl (any_of HT_.out (by kernel_rfl)) (fun _ _ _ h => h) (Or.inl ⟨by rfl, ?_⟩) ?_ ?_
     rotate_left
     ·intro w'
      go_simp
      with_reducible rfl
     rotate_left
     ·simp only [Act.put, zp1, zp2, zp3, i64_w, i32_w]
      rfl
     refine done_ (done_of HT_.out (by kernel_rfl)) ?_
     try go_wp2
     replace HO237 := Aside0.mk (Kd.S_drew HO237.out)
     replace HO252 := Aside0.mk (Kd.S_drew HO252.out)
     replace BK232 := Aside0.mk (blk_drew BK232.out)
     replace BK233 := Aside0.mk (blk_drew BK233.out)
     replace BK259 := Aside0.mk (blk_drew BK259.out)
     replace HB := Aside0.mk (below_drew1 HB.out)
     refine start_ (n := 5) (S := fun w' => w'.cell? ⟨gb259, 0, none⟩ = some (.slice Ao34 t250.length co34) ∧ w'.cell? ⟨gb259, 1, none⟩ = some (.int .i64 t253) ∧ w'.cell? ⟨gb259, 2, none⟩ = some (.int .i64 t254) ∧ w'.cell? ⟨gb259, 3, none⟩ = some (.int .i64 t255) ∧ w'.cell? ⟨gb259, 4, none⟩ = some (.int .i64 t256) ∧ w'.cell? ⟨gb259, 5, none⟩ = some (.int .i64 t257) ∧ w'.cell? ⟨gb259, 6, none⟩ = some (.int .i64 t258) ∧ w'.cell? ⟨gb232, 0, none⟩ = some (.slice A0_0 l0_0.length c0_0) ∧ w'.cell? ⟨gb232, 1, none⟩ = some (.int .i64 a0_1) ∧ w'.cell? ⟨gb232, 2, none⟩ = some (.int .i64 a0_2) ∧ w'.cell? ⟨gb232, 3, none⟩ = some (.int .i64 a0_3) ∧ w'.cell? ⟨gb232, 4, none⟩ = some (.int .i64 a0_4) ∧ w'.cell? ⟨gb232, 5, none⟩ = some (.int .i64 a0_5) ∧ w'.cell? ⟨gb232, 6, none⟩ = some (.int .i64 a0_6)) (ds := []) #[false, false, false, false, false] (by kernel_rfl) rfl rfl ⟨zc0 BK259 0 rfl, zc0 BK259 1 rfl, zc0 BK259 2 rfl, zc0 BK259 3 rfl, zc0 BK259 4 rfl, zc0 BK259 5 rfl, zc0 BK259 6 rfl, zc0 BK232 0 rfl, zc0 BK232 1 rfl, zc0 BK232 2 rfl, zc0 BK232 3 rfl, zc0 BK232 4 rfl, zc0 BK232 5 rfl, zc0 BK232 6 rfl⟩ (fun hHeld => ?_)
     generalize w41.drew = w42 at HO237 HO252 BK232 BK233 BK259 HB hHeld ⊢
     refine take_ (i := 0) (N := some 41) (v := ?_) (a' := ?_) #[true, false, false, false, false] rfl rfl (by kernel_rfl) (fun _ _ _ h => h) (Or.inl ⟨by rfl, ?_⟩) hHeld ?_ ?_
     rotate_left
     ·rintro w' ⟨s0, s1, s2, s3, s4, s5, s6, s7, s8, s9, s10, s11, s12, s13⟩
      go_simp
      with_reducible rfl
     rotate_left
     ·simp only [Act.put, zp1, zp2, zp3, i64_w, i32_w]
      rfl
     refine take_ (i := 1) (N := some 42) (v := ?_) (a' := ?_) #[true, true, false, false, false] rfl rfl (by kernel_rfl) (fun _ _ _ h => h) (Or.inl ⟨by rfl, ?_⟩) hHeld ?_ ?_
     rotate_left
     ·rintro w' ⟨s0, s1, s2, s3, s4, s5, s6, s7, s8, s9, s10, s11, s12, s13⟩
      go_simp
      with_reducible rfl
     rotate_left
     ·simp only [Act.put, zp1, zp2, zp3, i64_w, i32_w]
      rfl
     refine one_ (i := 2) (N := some 43) #[true, true, true, false, false] rfl rfl (by kernel_rfl) (by decide) (fun K hK => ?_)
     refine goes_ Try.func24 (by kernel_rfl) rfl #[.agg #[.slice A0_0 l0_0.length c0_0, .int .i64 a0_1, .int .i64 a0_2, .int .i64 a0_3, .int .i64 a0_4, .int .i64 a0_5, .int .i64 a0_6]] (by rfl) rfl rfl (by (try simp only [List.map_toArray, List.map_cons, List.map_nil]); first | done | rfl | (simp only [List.length_drop, List.length_take]; rfl)) ?_
     with_reducible refine (laws_toGap.calls k _ _ l0_0 a0_1 a0_2 a0_3 a0_4 a0_5 a0_6 t266 t269 t270 t271 t272 t273 t274 _ ?side1 ?side2 A18.out).mono ?_
     (case side1 => repeat (first | exact (Kd.C_below HR0_0.out HB.out) | (with_reducible refine Kd.C_alloc ?_ _) | (with_reducible refine Kd.C_drewN ?_ _) | (with_reducible refine Kd.C_drew ?_)))
     (case side2 => exact HC0_0.out)
     rintro e w43 ⟨v267, rfl, ho0, hb⟩
     refine ⟨_, rfl, ?_⟩
     have HO268 := Aside0.mk (Kd.S_lower (Kd.S_new' (Kd.S_new' ho0 (Kd.S_lt (zs0 HO237))) (Kd.S_lt (zs0 HO252))) (below_size (zh0 HB)))
     replace HO237 := Aside0.mk (Kd.S_elder' (zs0 HO237) (Kd.S_base ho0) hb)
     replace HO252 := Aside0.mk (Kd.S_elder' (zs0 HO252) (Kd.S_base ho0) hb)
     replace BK232 := zb0 BK232 hb
     replace BK233 := zb0 BK233 hb
     replace BK259 := zb0 BK259 hb
     replace HB := zhs HB hb
     (try clear hb)
     (try clear hb2)
     (try clear hk)
     (try clear hi)
     (try clear ho0)
     obtain ⟨Ao44, co44, eo44⟩ := Kd.S_slice HO268.out
     (first | subst eo44 | (injection eo44 with f1_ f2_ f3_; have f4_ := f1_.symm; have f5_ := f3_.symm; clear f1_ f2_ f3_; subst f4_; subst f5_))
     refine hK.out _ _ ⟨zc0 BK259 0 rfl, zc0 BK259 1 rfl, zc0 BK259 2 rfl, zc0 BK259 3 rfl, zc0 BK259 4 rfl, zc0 BK259 5 rfl, zc0 BK259 6 rfl, zc0 BK232 0 rfl, zc0 BK232 1 rfl, zc0 BK232 2 rfl, zc0 BK232 3 rfl, zc0 BK232 4 rfl, zc0 BK232 5 rfl, zc0 BK232 6 rfl⟩ (fun hHeld => ?_)
     clear hK K
     refine norm_ (a' := ?_) ?_ ?_
     rotate_left
     ·show Act.put _ (some 43) _ = _
      simp only [Act.put, zp1, zp2, zp3, i64_w, i32_w]
      rfl
     refine one_ (i := 3) (N := some 44) #[true, true, true, true, false] rfl rfl (by kernel_rfl) (by decide) (fun K hK => ?_)
     refine goes_ Try.func26 (by kernel_rfl) rfl #[.agg #[.slice Ao34 t250.length co34, .int .i64 t253, .int .i64 t254, .int .i64 t255, .int .i64 t256, .int .i64 t257, .int .i64 t258], .agg #[.slice Ao44 t266.length co44, .int .i64 t269, .int .i64 t270, .int .i64 t271, .int .i64 t272, .int .i64 t273, .int .i64 t274]] (by rfl) rfl rfl (by (try simp only [List.map_toArray, List.map_cons, List.map_nil]); first | done | rfl | (simp only [List.length_drop, List.length_take]; rfl)) ?_
     with_reducible refine (laws_eqGap.calls k _ _ t250 t253 t254 t255 t256 t257 t258 _ _ t266 t269 t270 t271 t272 t273 t274 true _ ?side1 ?side2 ?side3 ?side4 A19.out).mono ?_
     (case side1 => repeat (first | exact (Kd.S_reads' HO252.out).2.2 | (with_reducible refine Kd.C_alloc ?_ _) | (with_reducible refine Kd.C_drewN ?_ _) | (with_reducible refine Kd.C_drew ?_)))
     (case side2 => exact (Kd.S_reads' HO252.out).2.1)
     (case side3 => repeat (first | exact (Kd.S_reads' HO268.out).2.2 | (with_reducible refine Kd.C_alloc ?_ _) | (with_reducible refine Kd.C_drewN ?_ _) | (with_reducible refine Kd.C_drew ?_)))
     (case side4 => exact (Kd.S_reads' HO268.out).2.1)
     rintro e w45 ⟨rfl, hb⟩
     refine ⟨_, rfl, ?_⟩
     replace HO237 := zsb HO237 hb
     replace HO252 := zsb HO252 hb
     replace HO268 := zsb HO268 hb
     replace BK232 := zb0 BK232 hb
     replace BK233 := zb0 BK233 hb
     replace BK259 := zb0 BK259 hb
     replace HB := zhs HB hb
     (try clear hb)
     (try clear hb2)
     (try clear hk)
     (try clear hi)
     refine hK.out _ _ ⟨zc0 BK259 0 rfl, zc0 BK259 1 rfl, zc0 BK259 2 rfl, zc0 BK259 3 rfl, zc0 BK259 4 rfl, zc0 BK259 5 rfl, zc0 BK259 6 rfl, zc0 BK232 0 rfl, zc0 BK232 1 rfl, zc0 BK232 2 rfl, zc0 BK232 3 rfl, zc0 BK232 4 rfl, zc0 BK232 5 rfl, zc0 BK232 6 rfl⟩ (fun hHeld => ?_)
     clear hK K
     refine norm_ (a' := ?_) ?_ ?_
     rotate_left
     ·show Act.put _ (some 44) _ = _
      simp only [Act.put, zp1, zp2, zp3, i64_w, i32_w]
      rfl
     refine pure_ (i := 4) (N := some 45) (v := ?_) (a' := ?_) #[true, true, true, true, true] rfl rfl (by kernel_rfl) (fun _ _ _ h => h) (Or.inl ⟨by rfl, ?_⟩) ?_ ?_
     rotate_left
     ·intro w'
      go_simp
      with_reducible rfl
     rotate_left
     ·simp only [Act.put, zp1, zp2, zp3, i64_w, i32_w]
      rfl
     refine done_ (by kernel_rfl) ?_
     try go_wp2
     go_ret
     exact ⟨by first | rfl | (simp [errW_none, errW_some] <;> rfl) | (simp [*, errW_none, errW_some] <;> rfl), by repeat (first | (with_reducible first | exact HB.out | apply below_alloc | apply pw_below_drewN | apply below_drew1 | refine below_set ?_ GE232.out | refine below_set ?_ GE233.out | refine below_set ?_ GE259.out) | exact HB.out)⟩
    ·replace c20 := Bool.eq_false_iff.mpr c20
     subst c20
     have H1 : (none) = some r := by rw [if_neg (show ¬ (false = true) by decide)] at H; exact H
     clear H
     have H := H1
     clear H1
     exact absurd H (by simp)

end Go.Proofs.Ytdojnaghcfhadab.PFnExactSeenThrough
