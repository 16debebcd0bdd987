/- What is proved here: each Go function that is named below answers, and leaves memory, as the theorem of its name says; no condition beyond those that each theorem states. Laid by this session's own program (wip/driver.py) over the kit's print. -/
import Derived.Test.YtkifenbcepicjaaPFnKeysx0
import Derived.Test.YtkifenbcepicjaaPFnKeysx1
import Derived.Test.YtkifenbcepicjaaPFnKeysx2
namespace Go.Proofs.Ytkifenbcepicjaa.PFnKeys
open Go.RowKit Go.Proofs.YtkifenbcepicjaaW.PrintWords Go.Proofs.YtkifenbcepicjaaW.PrintLast Go.Proofs.YtkifenbcepicjaaW.PrintMore
attribute [local go_sem] max2_int min2_int max_two min_two max_three min_three max_four min_four   -- for this text's walks alone
set_option linter.unusedVariables false
set_option linter.unusedSimpArgs false

open Go.Proofs.Ytkifenbcepicjaa.Cp
/-! ### spec_l1Cur_window: function 57 -/
mutual
def spec_l1Cur_window.j0 : Nat → Bool → List Int → Int → Int → List (List Int) → Option (Int × Int × Int × Int × Int × Int)
 | 0, _, _, _, _, _ => none
 | k + 1, x17, x1000, x1001, x1002, x179000 => if x17 = true then ((spec_l1Cur_among.f x1000 x1001 x1002 (([0, (-1), 16] : List Int))).bind fun bt186 => ((spec_l1Cur_among.f x1000 bt186.2.1 bt186.2.2 (([0, 1] : List Int))).bind fun bt192 => ((spec_l1Cur_among.f x1000 bt192.2.1 bt192.2.2 (([1, 0, 2] : List Int))).bind fun bt198 => (some (bt186.1, bt192.1, 1, bt198.1, bt198.2.1, bt198.2.2))))) else ((spec_l1Least.f (x179000.length : Int) 3).bind fun t201 => ((spec_l1Cur_pick.f x1000 x1001 x1002 t201).bind fun bt202 => (if 0 ≤ bt202.1 then (if bt202.1 < (x179000.length : Int) then ((spec_l1Least.f ((rd_L2 x179000 bt202.1).length : Int) 9).bind fun t206 => ((spec_l1Cur_pick.f x1000 bt202.2.1 bt202.2.2 (wrap64 (t206 + 1))).bind fun bt207 => ((spec_l1Most.f (wrap64 (((rd_L2 x179000 bt202.1).length : Int) - bt207.1)) 0).bind fun t210 => ((spec_l1Cur_pick.f x1000 bt207.2.1 bt207.2.2 (wrap64 (t210 + 1))).bind fun bt211 => ((spec_l1Cur_one.f x1000 bt211.2.1 bt211.2.2 2).bind fun bt214 => (if bt214.1 = true then ((spec_l1Cur_pick.f x1000 bt214.2.1 bt214.2.2 5).bind fun bt217 => ((spec_l1Least.f bt211.1 bt217.1).bind fun t220 => (spec_l1Cur_window.j1 k bt202.1 ((rd_L2 x179000 bt202.1).length : Int) bt207.1 t220 x1000 bt217.2.1 bt217.2.2))) else (spec_l1Cur_window.j1 k bt202.1 ((rd_L2 x179000 bt202.1).length : Int) bt207.1 bt211.1 x1000 bt214.2.1 bt214.2.2))))))) else (none)) else (none))))
def spec_l1Cur_window.j1 : Nat → Int → Int → Int → Int → List Int → Int → Int → Option (Int × Int × Int × Int × Int × Int)
 | 0, _, _, _, _, _, _, _ => none
 | k + 1, x5, x6, x7, x8, x1000, x1001, x1002 => (spec_l1Most.f (wrap64 (x6 - x7)) 0).bind fun t221 => ((spec_l1Cur_one.f x1000 x1001 x1002 3).bind fun bt223 => (if bt223.1 = true then ((spec_l1Cur_pick.f x1000 bt223.2.1 bt223.2.2 (wrap64 ((wrap64 (t221 - x8)) + 1))).bind fun bt226 => (spec_l1Cur_window.j2 k x6 x1000 bt226.2.1 bt226.2.2 x5 x7 x8 (wrap64 (x8 + bt226.1)))) else (spec_l1Cur_window.j2 k x6 x1000 bt223.2.1 bt223.2.2 x5 x7 x8 t221)))
def spec_l1Cur_window.j2 : Nat → Int → List Int → Int → Int → Int → Int → Int → Int → Option (Int × Int × Int × Int × Int × Int)
 | 0, _, _, _, _, _, _, _, _ => none
 | k + 1, x6, x1000, x1001, x1002, x223000, x223001, x223002, x223003 => (spec_l1Cur_pick.f x1000 x1001 x1002 60).bind fun bt229 => (if bt229.1 = 0 then ((spec_l1Cur_among.f x1000 bt229.2.1 bt229.2.2 (([(-1), x6, 4611686018427387904] : List Int))).bind fun bt235 => (some (x223000, bt235.1, x223002, x223003, bt235.2.1, bt235.2.2))) else (if bt229.1 = 1 then ((spec_l1Cur_among.f x1000 bt229.2.1 bt229.2.2 (([(-1), wrap64 (x223003 + 1)] : List Int))).bind fun bt241 => (some (x223000, x223001, bt241.1, x223003, bt241.2.1, bt241.2.2))) else (if bt229.1 = 2 then ((spec_l1Cur_among.f x1000 bt229.2.1 bt229.2.2 (([wrap64 (x223003 + 1), (-1), 4611686018427387904] : List Int))).bind fun bt247 => (some (x223000, x223001, x223002, bt247.1, bt247.2.1, bt247.2.2))) else (some (x223000, x223001, x223002, x223003, bt229.2.1, bt229.2.2)))))
end
def spec_l1Cur_window.f (k : Nat) (s0_0 : List Int) (s0_1 : Int) (s0_2 : Int) (l1_0 : List (List Int)) : Option (Int × Int × Int × Int × Int × Int) := if (l1_0.length : Int) = 0 then (spec_l1Cur_window.j0 k true s0_0 s0_1 s0_2 l1_0) else ((spec_l1Cur_one.f s0_0 s0_1 s0_2 40).bind fun bt180 => (spec_l1Cur_window.j0 k bt180.1 s0_0 bt180.2.1 bt180.2.2 l1_0))
theorem spec_l1Cur_window.mono_l : ∀ k, (∀ y0 y1 y2 y3 y4, LeO (spec_l1Cur_window.j0 k y0 y1 y2 y3 y4) (spec_l1Cur_window.j0 (k + 1) y0 y1 y2 y3 y4)) ∧ (∀ y0 y1 y2 y3 y4 y5 y6, LeO (spec_l1Cur_window.j1 k y0 y1 y2 y3 y4 y5 y6) (spec_l1Cur_window.j1 (k + 1) y0 y1 y2 y3 y4 y5 y6)) ∧ (∀ y0 y1 y2 y3 y4 y5 y6 y7, LeO (spec_l1Cur_window.j2 k y0 y1 y2 y3 y4 y5 y6 y7) (spec_l1Cur_window.j2 (k + 1) y0 y1 y2 y3 y4 y5 y6 y7))
 | 0 => ⟨fun _ _ _ _ _ r h => by simp [spec_l1Cur_window.j0] at h, fun _ _ _ _ _ _ _ r h => by simp [spec_l1Cur_window.j1] at h, fun _ _ _ _ _ _ _ _ r h => by simp [spec_l1Cur_window.j2] at h⟩
 | k + 1 => by
  obtain ⟨ih0, ih1, ih2⟩ := spec_l1Cur_window.mono_l k
  refine ⟨?_, ?_, ?_⟩
  ·intro y0 y1 y2 y3 y4
   unfold spec_l1Cur_window.j0
   repeat' first
   | (with_reducible exact ih0 _ _ _ _ _)
   | (with_reducible exact ih1 _ _ _ _ _ _ _)
   | (with_reducible exact ih2 _ _ _ _ _ _ _ _)
   | (with_reducible exact LeO.refl _)
   | (with_reducible exact LeO.none _)
   | (with_reducible refine LeO.ite ?_ ?_)
   | (with_reducible refine LeO.bind ?_ (fun _ => ?_))
   | exact ih0 _ _ _ _ _
   | exact ih1 _ _ _ _ _ _ _
   | exact ih2 _ _ _ _ _ _ _ _
   | exact LeO.none _
   | refine LeO.ite ?_ ?_
   | refine LeO.bind ?_ (fun _ => ?_)
  ·intro y0 y1 y2 y3 y4 y5 y6
   unfold spec_l1Cur_window.j1
   repeat' first
   | (with_reducible exact ih0 _ _ _ _ _)
   | (with_reducible exact ih1 _ _ _ _ _ _ _)
   | (with_reducible exact ih2 _ _ _ _ _ _ _ _)
   | (with_reducible exact LeO.refl _)
   | (with_reducible exact LeO.none _)
   | (with_reducible refine LeO.ite ?_ ?_)
   | (with_reducible refine LeO.bind ?_ (fun _ => ?_))
   | exact ih0 _ _ _ _ _
   | exact ih1 _ _ _ _ _ _ _
   | exact ih2 _ _ _ _ _ _ _ _
   | exact LeO.none _
   | refine LeO.ite ?_ ?_
   | refine LeO.bind ?_ (fun _ => ?_)
  ·intro y0 y1 y2 y3 y4 y5 y6 y7
   unfold spec_l1Cur_window.j2
   repeat' first
   | (with_reducible exact ih0 _ _ _ _ _)
   | (with_reducible exact ih1 _ _ _ _ _ _ _)
   | (with_reducible exact ih2 _ _ _ _ _ _ _ _)
   | (with_reducible exact LeO.refl _)
   | (with_reducible exact LeO.none _)
   | (with_reducible refine LeO.ite ?_ ?_)
   | (with_reducible refine LeO.bind ?_ (fun _ => ?_))
   | exact ih0 _ _ _ _ _
   | exact ih1 _ _ _ _ _ _ _
   | exact ih2 _ _ _ _ _ _ _ _
   | exact LeO.none _
   | refine LeO.ite ?_ ?_
   | refine LeO.bind ?_ (fun _ => ?_)
theorem spec_l1Cur_window.mono : ∀ a0 a1 a2 a3 k, LeO (spec_l1Cur_window.f k a0 a1 a2 a3) (spec_l1Cur_window.f (k + 1) a0 a1 a2 a3) := by
 intro a0 a1 a2 a3 k
 obtain ⟨ih0, ih1, ih2⟩ := spec_l1Cur_window.mono_l k
 unfold spec_l1Cur_window.f
 repeat' first
   | (with_reducible exact ih0 _ _ _ _ _)
   | (with_reducible exact ih1 _ _ _ _ _ _ _)
   | (with_reducible exact ih2 _ _ _ _ _ _ _ _)
   | (with_reducible exact LeO.refl _)
   | (with_reducible exact LeO.none _)
   | (with_reducible refine LeO.ite ?_ ?_)
   | (with_reducible refine LeO.bind ?_ (fun _ => ?_))
   | exact ih0 _ _ _ _ _
   | exact ih1 _ _ _ _ _ _ _
   | exact ih2 _ _ _ _ _ _ _ _
   | exact LeO.none _
   | refine LeO.ite ?_ ?_
   | refine LeO.bind ?_ (fun _ => ?_)
def spec_l1Cur_window.T11 : Bool × List (List Nat × List Nat) := (true, [([], []), ([0], [0]), ([], []), ([], []), ([3], [3]), ([], []), ([5], [5]), ([4, 6], [4, 6]), ([7], [7]), ([2, 8], [2, 8]), ([1, 9], [1, 9]), ([0, 1, 2, 3, 4, 5, 6, 7, 8, 9, 10], []), ([11, 10, 9, 0, 1, 2, 3, 4, 5, 6, 7, 8, 9, 10], [10, 11])])
def spec_l1Cur_window.B11 : List Nat := [0, 1, 0, 0, 8, 0, 32, 120, 248, 508, 1023, 2047, 4095]
theorem spec_l1Cur_window.tab11 : rtab .any (opsOf Try.f57 11) = spec_l1Cur_window.T11 := by kernel_rfl
theorem spec_l1Cur_window.bits11 : waitsOk spec_l1Cur_window.T11.2 spec_l1Cur_window.B11 = true := by kernel_rfl
set_option maxHeartbeats 8000000 in
set_option maxRecDepth 100000 in
theorem spec_l1Cur_window.calls (k : Nat) (g : Nat) (s0_0 : List Int) (s0_1 : Int) (s0_2 : Int) (A1_0 : Option Addr) (c1_0 : Nat) (l1_0 : List (List Int)) (r1 : Int) (r2 : Int) (r3 : Int) (r4 : Int) (r5 : Int) (r6 : Int) (w0 w : World) (hI : IsS82 w0 w g s0_0 s0_1 s0_2) (hB : Below w0.heap.size w0 w) (hr1_0 : ∀ W_, KeepBut w W_ g none → Kd.C (Kd.slice 5 (Kd.int .u8)) W_ A1_0 l1_0.length l1_0) (hc1_0 : l1_0.length ≤ c1_0) (h : spec_l1Cur_window.f k s0_0 s0_1 s0_2 l1_0 = some (r1, r2, r3, r4, r5, r6)) :
  Calls Try.prog 57 #[.pointer (some ⟨g, 0, none⟩), .agg #[.slice A1_0 l1_0.length c1_0]] w fun e w' => e = .returned (.agg #[.int .i64 r1, .int .i64 r2, .int .i64 r3, .int .i64 r4]) ∧ IsS82 w0 w' g s0_0 r5 r6 ∧ Below w0.heap.size w0 w' ∧ KeepBut w w' g none := by
 have hu32 := Try.underlying32
 have hu54 := Try.underlying54
 have HR1_0 := Aside0.mk hr1_0
 have HC1_0 := Aside0.mk hc1_0
 clear hr1_0 hc1_0
 have HI0 := Aside0.mk hI
 have HK := Aside0.mk (KeepBut.refl w g none)
 have HL := Aside0.mk hB.size
 clear hI
 have HW0 := Aside0.mk hB.size
 have HB := Aside0.mk hB
 clear hB
 have H : (if (l1_0.length : Int) = 0 then (spec_l1Cur_window.j0 k true s0_0 s0_1 s0_2 l1_0) else ((spec_l1Cur_one.f s0_0 s0_1 s0_2 40).bind fun bt180 => (spec_l1Cur_window.j0 k bt180.1 s0_0 bt180.2.1 bt180.2.2 l1_0))) = some (r1, r2, r3, r4, r5, r6) := h
 clear h
 have HC3 := Aside0.mk H
 clear H
 go_enter Try.func57, Try.ntmps57
 go_upto_region 1 with (first | ((with_reducible refine gate_dst (N := 3) rfl ?_); refine box_event ?hg (N := 3) ?hd (cs := #[.slice A1_0 l1_0.length c1_0]) (t := 32) ?hr ?_; (case hd => rfl); (case hg => rfl); (case hr => first | (go_simp; done) | (go_simp; rfl)); intro gb178 hg w4 hbox hb; have n0_ := Aside0.mk (IsS82.below (by repeat (first | (with_reducible first | exact HI0.out | apply IsS82.alloc | apply IsS82.drewN | apply IsS82.drew | apply IsS82.set_1 | apply IsS82.set_2) | exact HI0.out)) hb); have n1_ := Aside0.mk (KeepBut.trans (by repeat (first | (with_reducible first | exact HK.out | apply KeepBut.set_ | apply keep_drewN | apply keep_drew | apply keep_alloc) | exact HK.out)) (KeepBut.of_below hb g none) (.inl rfl)); have n2_ := Aside0.mk (below_step (by repeat (first | (with_reducible first | exact HB.out | apply below_alloc | apply pw_below_drewN | apply below_drew1 | refine below_set ?_ (IsS82.ge HI0.out)) | exact HB.out)) hb); have n3_ := Aside0.mk (hbox); have n4_ := Aside0.mk ((by rw [hg]; exact (keep_size (w := w) (g := g) (row := none) (by repeat (first | (with_reducible first | exact HK.out | apply KeepBut.set_ | apply keep_drewN | apply keep_drew | apply keep_alloc) | exact HK.out))) : w.heap.size ≤ gb178)); have n5_ := Aside0.mk ((Nat.le_trans HW0.out (by rw [hg]; exact (keep_size (w := w) (g := g) (row := none) (by repeat (first | (with_reducible first | exact HK.out | apply KeepBut.set_ | apply keep_drewN | apply keep_drew | apply keep_alloc) | exact HK.out))) : w.heap.size ≤ gb178) : w0.heap.size ≤ gb178)); have n6_ := Aside0.mk ((by rw [hg]; exact Nat.ne_of_lt (IsS82.lt (show IsS82 w0 _ g s0_0 s0_1 s0_2 from by repeat (first | (with_reducible first | exact HI0.out | apply IsS82.alloc | apply IsS82.drewN | apply IsS82.drew | apply IsS82.set_1 | apply IsS82.set_2) | exact HI0.out))) : g ≠ gb178)); have n7_ := Aside0.mk ((by rw [hg]; exact Nat.ne_of_gt (IsS82.lt (show IsS82 w0 _ g s0_0 s0_1 s0_2 from by repeat (first | (with_reducible first | exact HI0.out | apply IsS82.alloc | apply IsS82.drewN | apply IsS82.drew | apply IsS82.set_1 | apply IsS82.set_2) | exact HI0.out))) : gb178 ≠ g)); clear HI0; clear HK; clear HB; have HI0 := n0_; have HK := n1_; have HB := n2_; have BK178 := n3_; have GW178 := n4_; have GE178 := n5_; have NB0_178 := n6_; have NB178_0 := n7_; clear n0_ n1_ n2_ n3_ n4_ n5_ n6_ n7_; clear hb hbox hg) | ((with_reducible refine gate_dst (N := 4) rfl ?_); refine box_event ?hg (N := 4) ?hd (cs := #[.int .i64 0, .int .i64 0, .int .i64 0, .int .i64 0]) (t := 54) ?hr ?_; (case hd => rfl); (case hg => rfl); (case hr => first | (go_simp; done) | (go_simp; rfl)); intro gb179 hg w5 hbox hb; have n0_ := Aside0.mk (IsS82.below (by repeat (first | (with_reducible first | exact HI0.out | apply IsS82.alloc | apply IsS82.drewN | apply IsS82.drew | apply IsS82.set_1 | apply IsS82.set_2 | refine IsS82.far ?_ NB0_178.out _) | exact HI0.out)) hb); have n1_ := zb0 BK178 hb; have n2_ := Aside0.mk (KeepBut.trans (by repeat (first | (with_reducible first | exact HK.out | apply KeepBut.set_ | apply keep_drewN | apply keep_drew | apply keep_alloc | refine keep_far ?_ GW178.out _) | exact HK.out)) (KeepBut.of_below hb g none) (.inl rfl)); have n3_ := Aside0.mk (below_step (by repeat (first | (with_reducible first | exact HB.out | apply below_alloc | apply pw_below_drewN | apply below_drew1 | refine below_set ?_ (IsS82.ge HI0.out) | refine below_set ?_ GE178.out) | exact HB.out)) hb); have n4_ := Aside0.mk (hbox); have n5_ := Aside0.mk ((by rw [hg]; exact (keep_size (w := w) (g := g) (row := none) (by repeat (first | (with_reducible first | exact HK.out | apply KeepBut.set_ | apply keep_drewN | apply keep_drew | apply keep_alloc | refine keep_far ?_ GW178.out _) | exact HK.out))) : w.heap.size ≤ gb179)); have n6_ := Aside0.mk ((Nat.le_trans HW0.out (by rw [hg]; exact (keep_size (w := w) (g := g) (row := none) (by repeat (first | (with_reducible first | exact HK.out | apply KeepBut.set_ | apply keep_drewN | apply keep_drew | apply keep_alloc | refine keep_far ?_ GW178.out _) | exact HK.out))) : w.heap.size ≤ gb179) : w0.heap.size ≤ gb179)); have n7_ := znl BK178 hg; have n8_ := znr BK178 hg; have n9_ := Aside0.mk ((by rw [hg]; exact Nat.ne_of_lt (IsS82.lt (show IsS82 w0 _ g s0_0 s0_1 s0_2 from by repeat (first | (with_reducible first | exact HI0.out | apply IsS82.alloc | apply IsS82.drewN | apply IsS82.drew | apply IsS82.set_1 | apply IsS82.set_2 | refine IsS82.far ?_ NB0_178.out _) | exact HI0.out))) : g ≠ gb179)); have n10_ := Aside0.mk ((by rw [hg]; exact Nat.ne_of_gt (IsS82.lt (show IsS82 w0 _ g s0_0 s0_1 s0_2 from by repeat (first | (with_reducible first | exact HI0.out | apply IsS82.alloc | apply IsS82.drewN | apply IsS82.drew | apply IsS82.set_1 | apply IsS82.set_2 | refine IsS82.far ?_ NB0_178.out _) | exact HI0.out))) : gb179 ≠ g)); clear HI0; clear BK178; clear HK; clear HB; have HI0 := n0_; have BK178 := n1_; have HK := n2_; have HB := n3_; have BK179 := n4_; have GW179 := n5_; have GE179 := n6_; have NB178_179 := n7_; have NB179_178 := n8_; have NB0_179 := n9_; have NB179_0 := n10_; clear n0_ n1_ n2_ n3_ n4_ n5_ n6_ n7_ n8_ n9_ n10_; clear hb hbox hg))
 (try simp only [Act.put, zp1, zp2, zp3])
 go_cut [17] (fun v17 wc => ∃ (kq : Nat) (x17_2 : Bool) (x1001_2 : Int) (x1002_2 : Int), v17 = .bool x17_2 ∧ Aside0 (spec_l1Cur_window.j0 kq x17_2 s0_0 x1001_2 x1002_2 l1_0 = some (r1, r2, r3, r4, r5, r6)) ∧ Aside0 (kq ≤ k) ∧ Aside0 (wc.heap[gb178]? = some (.cells #[(.slice A1_0 l1_0.length c1_0)] 32 (0, 0))) ∧ Aside0 (wc.heap[gb179]? = some (.cells #[.int .i64 0, .int .i64 0, .int .i64 0, .int .i64 0] 54 (0, 0))) ∧ Aside0 (IsS82 w0 wc g s0_0 x1001_2 x1002_2) ∧ Aside0 (KeepBut w wc g none) ∧ Aside0 (Below w0.heap.size w0 wc))
 case first =>
  have H := HC3.out
  clear HC3
  by_cases c6 : (l1_0.length : Int) = 0
  ·rw [if_pos c6] at H
   have c6b0 : ((l1_0.length : Int) == 0) = true := beq_iff_eq.mpr c6
   have c6b1 : ((l1_0.length : Int) != 0) = false := bne_eq_false_iff_eq.mpr c6
   clear c6
   (first | rw [c6b0] | (simp only [i64_w, i32_w]; rw [c6b0]) | skip)
   have H' := Aside0.mk H
   clear H
   have hnb7 := NB178_179.out
   have hnc7 := NB179_178.out
   have hnb8 := NB178_0.out
   have hnc8 := NB0_178.out
   have hcz9_0 := zc0 BK178 0 rfl
   have hfz9_0 := blk_frozen BK178.out 0
   go_wp2
   go_meet
   case rel => exact ⟨_, (true), (s0_1), (s0_2), (by first | rfl | (simp; done) | (simp [*]; done)), H', ⟨by first | omega | exact Nat.le_refl _⟩, ⟨zk0 BK178⟩, ⟨zk0 BK179⟩, ⟨by repeat (first | (with_reducible first | exact HI0.out | apply IsS82.alloc | apply IsS82.drewN | apply IsS82.drew | apply IsS82.set_1 | apply IsS82.set_2 | refine IsS82.far ?_ NB0_178.out _ | refine IsS82.far ?_ NB0_179.out _) | exact HI0.out)⟩, ⟨by repeat (first | (with_reducible first | exact HK.out | apply KeepBut.set_ | apply keep_drewN | apply keep_drew | apply keep_alloc | refine keep_far ?_ GW178.out _ | refine keep_far ?_ GW179.out _) | exact HK.out)⟩, ⟨by repeat (first | (with_reducible first | exact HB.out | apply below_alloc | apply pw_below_drewN | apply below_drew1 | refine below_set ?_ (IsS82.ge HI0.out) | refine below_set ?_ GE178.out | refine below_set ?_ GE179.out) | exact HB.out)⟩⟩
  ·rw [if_neg c6] at H
   have c6b0 : ((l1_0.length : Int) == 0) = false := beq_eq_false_iff_ne.mpr c6
   have c6b1 : ((l1_0.length : Int) != 0) = true := bne_iff_ne.mpr c6
   have c6b2 : ¬ (l1_0 = []) := fun h_ => c6 (by rw [h_]; rfl)
   (first | rw [c6b0] | (simp only [i64_w, i32_w]; rw [c6b0]) | skip)
   replace H := Option.bind_eq_some_iff.mp H
   obtain ⟨⟨t180, t181, t182⟩, A100, H⟩ := H
   replace H : (spec_l1Cur_window.j0 k t180 s0_0 t181 t182 l1_0) = some (r1, r2, r3, r4, r5, r6) := H
   have A10 := Aside0.mk A100
   clear A100
   have H' := Aside0.mk H
   clear H
   have hnb11 := NB178_179.out
   have hnc11 := NB179_178.out
   have hnb12 := NB178_0.out
   have hnc12 := NB0_178.out
   have hcz13_0 := zc0 BK178 0 rfl
   have hfz13_0 := blk_frozen BK178.out 0
   go_wp2_with (first | (go_at_call 50; (with_reducible refine (spec_l1Cur_one.calls g s0_0 s0_1 s0_2 40 t180 t181 t182 w0 _ ?side1 ?side2 A10.out).mono ?_); (case side1 => repeat (first | (with_reducible first | exact HI0.out | apply IsS82.alloc | apply IsS82.drewN | apply IsS82.drew | apply IsS82.set_1 | apply IsS82.set_2 | refine IsS82.far ?_ NB0_178.out _ | refine IsS82.far ?_ NB0_179.out _) | exact HI0.out)); (case side2 => repeat (first | (with_reducible first | exact HB.out | apply below_alloc | apply pw_below_drewN | apply below_drew1 | refine below_set ?_ (IsS82.ge HI0.out) | refine below_set ?_ GE178.out | refine below_set ?_ GE179.out) | exact HB.out)); rintro e w14 ⟨rfl, hi, hb, hk⟩; replace BK178 := Aside0.mk (KeepBut.blk hk (g' := gb178) (o := .cells #[.slice A1_0 l1_0.length c1_0] 32 (0, 0)) (zk0 BK178) NB178_0.out (by simp)); replace BK179 := Aside0.mk (KeepBut.blk hk (g' := gb179) (o := .cells #[.int .i64 0, .int .i64 0, .int .i64 0, .int .i64 0] 54 (0, 0)) (zk0 BK179) NB179_0.out (by simp)); replace HK := Aside0.mk (KeepBut.trans (by repeat (first | (with_reducible first | exact HK.out | apply KeepBut.set_ | apply keep_drewN | apply keep_drew | apply keep_alloc | refine keep_far ?_ GW178.out _ | refine keep_far ?_ GW179.out _) | exact HK.out)) hk (.inl rfl)); replace HB := Aside0.mk (hb); replace HI0 := Aside0.mk (hi); (try clear hb); (try clear hb2); (try clear hk); (try clear hi)))
   go_meet
   case rel => exact ⟨_, (t180), (t181), (t182), (by first | rfl | (simp; done) | (simp [*]; done)), H', ⟨by first | omega | exact Nat.le_refl _⟩, ⟨zk0 BK178⟩, ⟨zk0 BK179⟩, ⟨by repeat (first | (with_reducible first | exact HI0.out | apply IsS82.alloc | apply IsS82.drewN | apply IsS82.drew | apply IsS82.set_1 | apply IsS82.set_2 | refine IsS82.far ?_ NB0_178.out _ | refine IsS82.far ?_ NB0_179.out _) | exact HI0.out)⟩, ⟨by repeat (first | (with_reducible first | exact HK.out | apply KeepBut.set_ | apply keep_drewN | apply keep_drew | apply keep_alloc | refine keep_far ?_ GW178.out _ | refine keep_far ?_ GW179.out _) | exact HK.out)⟩, ⟨by repeat (first | (with_reducible first | exact HB.out | apply below_alloc | apply pw_below_drewN | apply below_drew1 | refine below_set ?_ (IsS82.ge HI0.out) | refine below_set ?_ GE178.out | refine below_set ?_ GE179.out) | exact HB.out)⟩⟩
 case rest =>
  clear HC3
  try clear c1
  try clear p2
  try clear c5
  try clear c6
  try clear c6b0
  try clear c6b1
  try clear c6b2
  try clear c7
  try clear c8
  try clear c11
  try clear c12
  try clear hcz13_0
  try clear hcz9_0
  try clear hfz13_0
  try clear hfz9_0
  obtain ⟨kq, x17_2, x1001_2, x1002_2, rfl, HA, HJ2, BK178, BK179, HI0, HK, HB⟩ := hcut
  cases kq with
  | zero => exact absurd HA.out (by simp [spec_l1Cur_window.j0])
  | succ kj2 =>
   have H := HA.out
   clear HA
   simp only [spec_l1Cur_window.j0] at H
   by_cases c15 : x17_2 = true
   ·subst c15
    have H1 : ((spec_l1Cur_among.f s0_0 x1001_2 x1002_2 (([0, (-1), 16] : List Int))).bind fun bt186 => ((spec_l1Cur_among.f s0_0 bt186.2.1 bt186.2.2 (([0, 1] : List Int))).bind fun bt192 => ((spec_l1Cur_among.f s0_0 bt192.2.1 bt192.2.2 (([1, 0, 2] : List Int))).bind fun bt198 => (some (bt186.1, bt192.1, 1, bt198.1, bt198.2.1, bt198.2.2))))) = some (r1, r2, r3, r4, r5, r6) := by rw [if_pos rfl] at H; exact H
    clear H
    have H := H1
    clear H1
    obtain ⟨y183, hy183⟩ : ∃ y_ : List Int, y_ = (([0, (-1), 16] : List Int)) := ⟨_, rfl⟩
    replace H : ((spec_l1Cur_among.f s0_0 x1001_2 x1002_2 y183).bind fun bt186 => ((spec_l1Cur_among.f s0_0 bt186.2.1 bt186.2.2 (([0, 1] : List Int))).bind fun bt192 => ((spec_l1Cur_among.f s0_0 bt192.2.1 bt192.2.2 (([1, 0, 2] : List Int))).bind fun bt198 => (some (bt186.1, bt192.1, 1, bt198.1, bt198.2.1, bt198.2.2))))) = some (r1, r2, r3, r4, r5, r6) := by first | (rw [hy183]; with_reducible exact H) | (have H2_ := (Option.bind_some _ _).symm.trans H; rw [hy183]; with_reducible exact H2_) | (have H2_ := (Option.bind_some _ _).symm.trans H; with_reducible exact H2_) | with_reducible exact H | (rw [hy183]; exact H) | exact H
    have Ny183 := Aside0.mk hy183
    clear hy183
    replace H := Option.bind_eq_some_iff.mp H
    obtain ⟨⟨t186, t187, t188⟩, A160, H⟩ := H
    replace H : ((spec_l1Cur_among.f s0_0 t187 t188 (([0, 1] : List Int))).bind fun bt192 => ((spec_l1Cur_among.f s0_0 bt192.2.1 bt192.2.2 (([1, 0, 2] : List Int))).bind fun bt198 => (some (t186, bt192.1, 1, bt198.1, bt198.2.1, bt198.2.2)))) = some (r1, r2, r3, r4, r5, r6) := H
    have A16 := Aside0.mk A160
    clear A160
    obtain ⟨y189, hy189⟩ : ∃ y_ : List Int, y_ = (([0, 1] : List Int)) := ⟨_, rfl⟩
    replace H : ((spec_l1Cur_among.f s0_0 t187 t188 y189).bind fun bt192 => ((spec_l1Cur_among.f s0_0 bt192.2.1 bt192.2.2 (([1, 0, 2] : List Int))).bind fun bt198 => (some (t186, bt192.1, 1, bt198.1, bt198.2.1, bt198.2.2)))) = some (r1, r2, r3, r4, r5, r6) := by first | (rw [hy189]; with_reducible exact H) | (have H2_ := (Option.bind_some _ _).symm.trans H; rw [hy189]; with_reducible exact H2_) | (have H2_ := (Option.bind_some _ _).symm.trans H; with_reducible exact H2_) | with_reducible exact H | (rw [hy189]; exact H) | exact H
    have Ny189 := Aside0.mk hy189
    clear hy189
    replace H := Option.bind_eq_some_iff.mp H
    obtain ⟨⟨t192, t193, t194⟩, A170, H⟩ := H
    replace H : ((spec_l1Cur_among.f s0_0 t193 t194 (([1, 0, 2] : List Int))).bind fun bt198 => (some (t186, t192, 1, bt198.1, bt198.2.1, bt198.2.2))) = some (r1, r2, r3, r4, r5, r6) := H
    have A17 := Aside0.mk A170
    clear A170
    obtain ⟨y195, hy195⟩ : ∃ y_ : List Int, y_ = (([1, 0, 2] : List Int)) := ⟨_, rfl⟩
    replace H : ((spec_l1Cur_among.f s0_0 t193 t194 y195).bind fun bt198 => (some (t186, t192, 1, bt198.1, bt198.2.1, bt198.2.2))) = some (r1, r2, r3, r4, r5, r6) := by first | (rw [hy195]; with_reducible exact H) | (have H2_ := (Option.bind_some _ _).symm.trans H; rw [hy195]; with_reducible exact H2_) | (have H2_ := (Option.bind_some _ _).symm.trans H; with_reducible exact H2_) | with_reducible exact H | (rw [hy195]; exact H) | exact H
    have Ny195 := Aside0.mk hy195
    clear hy195
    replace H := Option.bind_eq_some_iff.mp H
    obtain ⟨⟨t198, t199, t200⟩, A180, H⟩ := H
    replace H : (some (t186, t192, 1, t198, t199, t200)) = some (r1, r2, r3, r4, r5, r6) := H
    have A18 := Aside0.mk A180
    clear A180
    simp only [Option.some.injEq, Prod.mk.injEq] at H
    obtain ⟨rfl, rfl, rfl, rfl, rfl, rfl⟩ := H
    go_wp2_with (first | ((with_reducible refine gate_dst (N := 19) rfl ?_); refine Kd.R_lit (Kd.int .i64) _ 3 ?hg (N := 19) ?hd (xs := ([0, (-1), 16] : List Int)) (inner := [.int .i64 0, .int .i64 (-1), .int .i64 16]) (ok := fun _ => True) (okp := fun _ => True) ?hr ?hp (fun _ hk => hk) trivial (Below.refl _ _) (Nat.le_refl _) (by simp) ?_; (case hd => rfl); (case hg => rfl); (case hr => first | (go_simp; done) | (go_simp; rfl)); (case hp => exact (Reps.one (show Kd.M (Kd.int .i64) _ _ _ 0 [.int .i64 0] from rfl) (Reps.one (show Kd.M (Kd.int .i64) _ _ _ (-1) [.int .i64 (-1)] from rfl) (Reps.one (show Kd.M (Kd.int .i64) _ _ _ 16 [.int .i64 16] from rfl) (Reps.none _ _))))); intro v184 w19 ho20 hb hg_ hnew_; clear hg_ hnew_; (first | rw [← Ny183.out] at ho20 | (simp only [Int.reduceToNat] at ho20; rw [← Ny183.out] at ho20)); have n0_ := Aside0.mk (Kd.R_lower ho20 (keep_size (w := w) (g := g) (row := none) (by repeat (first | (with_reducible first | exact HK.out | apply KeepBut.set_ | apply keep_drewN | apply keep_drew | apply keep_alloc | refine keep_far ?_ GW178.out _ | refine keep_far ?_ GW179.out _) | exact HK.out)))); have n1_ := zb0 BK178 hb; have n2_ := zb0 BK179 hb; have n3_ := Aside0.mk (IsS82.below (by repeat (first | (with_reducible first | exact HI0.out | apply IsS82.alloc | apply IsS82.drewN | apply IsS82.drew | apply IsS82.set_1 | apply IsS82.set_2 | refine IsS82.far ?_ NB0_178.out _ | refine IsS82.far ?_ NB0_179.out _) | exact HI0.out)) hb); have n4_ := Aside0.mk (KeepBut.trans (by repeat (first | (with_reducible first | exact HK.out | apply KeepBut.set_ | apply keep_drewN | apply keep_drew | apply keep_alloc | refine keep_far ?_ GW178.out _ | refine keep_far ?_ GW179.out _) | exact HK.out)) (KeepBut.of_below hb g none) (.inl rfl)); have n5_ := Aside0.mk (below_step (by repeat (first | (with_reducible first | exact HB.out | apply below_alloc | apply pw_below_drewN | apply below_drew1 | refine below_set ?_ (IsS82.ge HI0.out) | refine below_set ?_ GE178.out | refine below_set ?_ GE179.out) | exact HB.out)) hb); clear BK178; clear BK179; clear HI0; clear HK; clear HB; have HO185 := n0_; have BK178 := n1_; have BK179 := n2_; have HI0 := n3_; have HK := n4_; have HB := n5_; clear n0_ n1_ n2_ n3_ n4_ n5_; clear hb ho20; obtain ⟨Ao21, co21, eo21⟩ := Kd.R_slice HO185.out; subst eo21) | ((with_reducible refine gate_callee (f := 55) rfl ?_); refine goesL_ (some 20) rfl rfl Try.func55 (by kernel_rfl) rfl #[.pointer (some ⟨g, 0, none⟩), .slice Ao21 y183.length co21] rfl (by (try simp only [zq1, zq2, zq3]); first | done | rfl | (simp only [List.length_drop, List.length_take]; rfl)) ?_; (with_reducible refine (spec_l1Cur_among.calls g s0_0 x1001_2 x1002_2 _ _ y183 t186 t187 t188 w0 _ ?side1 ?side2 ?side3 ?side4 ?side5 A16.out).mono ?_); (case side1 => repeat (first | (with_reducible first | exact HI0.out | apply IsS82.alloc | apply IsS82.drewN | apply IsS82.drew | apply IsS82.set_1 | apply IsS82.set_2 | refine IsS82.far ?_ NB0_178.out _ | refine IsS82.far ?_ NB0_179.out _) | exact HI0.out)); (case side2 => repeat (first | (with_reducible first | exact HB.out | apply below_alloc | apply pw_below_drewN | apply below_drew1 | refine below_set ?_ (IsS82.ge HI0.out) | refine below_set ?_ GE178.out | refine below_set ?_ GE179.out) | exact HB.out)); (case side3 => repeat (first | exact (Kd.R_reads' HO185.out).2.2 | (with_reducible refine Kd.C_alloc ?_ _) | (with_reducible refine Kd.C_drewN ?_ _) | (with_reducible refine Kd.C_drew ?_))); (case side4 => exact (Kd.R_reads' HO185.out).2.1); (case side5 => exact far_slice (IsS82.own_ne HI0.out HO185.out (by decide))); rintro e w22 ⟨rfl, hi, hb, hk⟩; refine ⟨_, rfl, ?_⟩; replace BK178 := Aside0.mk (KeepBut.blk hk (g' := gb178) (o := .cells #[.slice A1_0 l1_0.length c1_0] 32 (0, 0)) (zk0 BK178) NB178_0.out (by simp)); replace BK179 := Aside0.mk (KeepBut.blk hk (g' := gb179) (o := .cells #[.int .i64 0, .int .i64 0, .int .i64 0, .int .i64 0] 54 (0, 0)) (zk0 BK179) NB179_0.out (by simp)); replace HO185 := Aside0.mk (Kd.R_mono (Kd.R_keep (IsS82.apart (show IsS82 w0 _ g s0_0 x1001_2 x1002_2 from by repeat (first | (with_reducible first | exact HI0.out | apply IsS82.alloc | apply IsS82.drewN | apply IsS82.drew | apply IsS82.set_1 | apply IsS82.set_2 | refine IsS82.far ?_ NB0_178.out _ | refine IsS82.far ?_ NB0_179.out _) | exact HI0.out)) (zr0 HO185) (by decide)) hk (fun _ h => h.2)) (fun _ h => h.1)); replace HK := Aside0.mk (KeepBut.trans (by repeat (first | (with_reducible first | exact HK.out | apply KeepBut.set_ | apply keep_drewN | apply keep_drew | apply keep_alloc | refine keep_far ?_ GW178.out _ | refine keep_far ?_ GW179.out _) | exact HK.out)) hk (.inl rfl)); replace HB := Aside0.mk (hb); replace HI0 := Aside0.mk (hi); (try clear hb); (try clear hb2); (try clear hk); (try clear hi)) | ((with_reducible refine gate_dst (N := 22) rfl ?_); refine Kd.R_lit (Kd.int .i64) _ 3 ?hg (N := 22) ?hd (xs := ([0, 1] : List Int)) (inner := [.int .i64 0, .int .i64 1]) (ok := fun _ => True) (okp := fun _ => True) ?hr ?hp (fun _ hk => hk) trivial (Below.refl _ _) (Nat.le_refl _) (by simp) ?_; (case hd => rfl); (case hg => rfl); (case hr => first | (go_simp; done) | (go_simp; rfl)); (case hp => exact (Reps.one (show Kd.M (Kd.int .i64) _ _ _ 0 [.int .i64 0] from rfl) (Reps.one (show Kd.M (Kd.int .i64) _ _ _ 1 [.int .i64 1] from rfl) (Reps.none _ _)))); intro v190 w23 ho24 hb hg_ hnew_; clear hg_ hnew_; (first | rw [← Ny189.out] at ho24 | (simp only [Int.reduceToNat] at ho24; rw [← Ny189.out] at ho24)); have n0_ := Aside0.mk (Kd.R_elder' (zr0 HO185) (Kd.R_base ho24) hb); have n1_ := Aside0.mk (Kd.R_lower (Kd.R_new' ho24 (Kd.R_lt (zr0 HO185))) (keep_size (w := w) (g := g) (row := none) (by repeat (first | (with_reducible first | exact HK.out | apply KeepBut.set_ | apply keep_drewN | apply keep_drew | apply keep_alloc | refine keep_far ?_ GW178.out _ | refine keep_far ?_ GW179.out _) | exact HK.out)))); have n2_ := zb0 BK178 hb; have n3_ := zb0 BK179 hb; have n4_ := Aside0.mk (IsS82.below (by repeat (first | (with_reducible first | exact HI0.out | apply IsS82.alloc | apply IsS82.drewN | apply IsS82.drew | apply IsS82.set_1 | apply IsS82.set_2 | refine IsS82.far ?_ NB0_178.out _ | refine IsS82.far ?_ NB0_179.out _) | exact HI0.out)) hb); have n5_ := Aside0.mk (KeepBut.trans (by repeat (first | (with_reducible first | exact HK.out | apply KeepBut.set_ | apply keep_drewN | apply keep_drew | apply keep_alloc | refine keep_far ?_ GW178.out _ | refine keep_far ?_ GW179.out _) | exact HK.out)) (KeepBut.of_below hb g none) (.inl rfl)); have n6_ := Aside0.mk (below_step (by repeat (first | (with_reducible first | exact HB.out | apply below_alloc | apply pw_below_drewN | apply below_drew1 | refine below_set ?_ (IsS82.ge HI0.out) | refine below_set ?_ GE178.out | refine below_set ?_ GE179.out) | exact HB.out)) hb); clear HO185; clear BK178; clear BK179; clear HI0; clear HK; clear HB; have HO185 := n0_; have HO191 := n1_; have BK178 := n2_; have BK179 := n3_; have HI0 := n4_; have HK := n5_; have HB := n6_; clear n0_ n1_ n2_ n3_ n4_ n5_ n6_; clear hb ho24; obtain ⟨Ao25, co25, eo25⟩ := Kd.R_slice HO191.out; subst eo25) | ((with_reducible refine gate_callee (f := 55) rfl ?_); refine goesL_ (some 23) rfl rfl Try.func55 (by kernel_rfl) rfl #[.pointer (some ⟨g, 0, none⟩), .slice Ao25 y189.length co25] rfl (by (try simp only [zq1, zq2, zq3]); first | done | rfl | (simp only [List.length_drop, List.length_take]; rfl)) ?_; (with_reducible refine (spec_l1Cur_among.calls g s0_0 t187 t188 _ _ y189 t192 t193 t194 w0 _ ?side1 ?side2 ?side3 ?side4 ?side5 A17.out).mono ?_); (case side1 => repeat (first | (with_reducible first | exact HI0.out | apply IsS82.alloc | apply IsS82.drewN | apply IsS82.drew | apply IsS82.set_1 | apply IsS82.set_2 | refine IsS82.far ?_ NB0_178.out _ | refine IsS82.far ?_ NB0_179.out _) | exact HI0.out)); (case side2 => repeat (first | (with_reducible first | exact HB.out | apply below_alloc | apply pw_below_drewN | apply below_drew1 | refine below_set ?_ (IsS82.ge HI0.out) | refine below_set ?_ GE178.out | refine below_set ?_ GE179.out) | exact HB.out)); (case side3 => repeat (first | exact (Kd.R_reads' HO191.out).2.2 | (with_reducible refine Kd.C_alloc ?_ _) | (with_reducible refine Kd.C_drewN ?_ _) | (with_reducible refine Kd.C_drew ?_))); (case side4 => exact (Kd.R_reads' HO191.out).2.1); (case side5 => exact far_slice (IsS82.own_ne HI0.out HO191.out (by decide))); rintro e w26 ⟨rfl, hi, hb, hk⟩; refine ⟨_, rfl, ?_⟩; replace BK178 := Aside0.mk (KeepBut.blk hk (g' := gb178) (o := .cells #[.slice A1_0 l1_0.length c1_0] 32 (0, 0)) (zk0 BK178) NB178_0.out (by simp)); replace BK179 := Aside0.mk (KeepBut.blk hk (g' := gb179) (o := .cells #[.int .i64 0, .int .i64 0, .int .i64 0, .int .i64 0] 54 (0, 0)) (zk0 BK179) NB179_0.out (by simp)); replace HO185 := Aside0.mk (Kd.R_mono (Kd.R_keep (IsS82.apart (show IsS82 w0 _ g s0_0 t187 t188 from by repeat (first | (with_reducible first | exact HI0.out | apply IsS82.alloc | apply IsS82.drewN | apply IsS82.drew | apply IsS82.set_1 | apply IsS82.set_2 | refine IsS82.far ?_ NB0_178.out _ | refine IsS82.far ?_ NB0_179.out _) | exact HI0.out)) (zr0 HO185) (by decide)) hk (fun _ h => h.2)) (fun _ h => h.1)); replace HO191 := Aside0.mk (Kd.R_mono (Kd.R_keep (IsS82.apart (show IsS82 w0 _ g s0_0 t187 t188 from by repeat (first | (with_reducible first | exact HI0.out | apply IsS82.alloc | apply IsS82.drewN | apply IsS82.drew | apply IsS82.set_1 | apply IsS82.set_2 | refine IsS82.far ?_ NB0_178.out _ | refine IsS82.far ?_ NB0_179.out _) | exact HI0.out)) (zr0 HO191) (by decide)) hk (fun _ h => h.2)) (fun _ h => h.1)); replace HK := Aside0.mk (KeepBut.trans (by repeat (first | (with_reducible first | exact HK.out | apply KeepBut.set_ | apply keep_drewN | apply keep_drew | apply keep_alloc | refine keep_far ?_ GW178.out _ | refine keep_far ?_ GW179.out _) | exact HK.out)) hk (.inl rfl)); replace HB := Aside0.mk (hb); replace HI0 := Aside0.mk (hi); (try clear hb); (try clear hb2); (try clear hk); (try clear hi)) | ((with_reducible refine gate_dst (N := 25) rfl ?_); refine Kd.R_lit (Kd.int .i64) _ 3 ?hg (N := 25) ?hd (xs := ([1, 0, 2] : List Int)) (inner := [.int .i64 1, .int .i64 0, .int .i64 2]) (ok := fun _ => True) (okp := fun _ => True) ?hr ?hp (fun _ hk => hk) trivial (Below.refl _ _) (Nat.le_refl _) (by simp) ?_; (case hd => rfl); (case hg => rfl); (case hr => first | (go_simp; done) | (go_simp; rfl)); (case hp => exact (Reps.one (show Kd.M (Kd.int .i64) _ _ _ 1 [.int .i64 1] from rfl) (Reps.one (show Kd.M (Kd.int .i64) _ _ _ 0 [.int .i64 0] from rfl) (Reps.one (show Kd.M (Kd.int .i64) _ _ _ 2 [.int .i64 2] from rfl) (Reps.none _ _))))); intro v196 w27 ho28 hb hg_ hnew_; clear hg_ hnew_; (first | rw [← Ny195.out] at ho28 | (simp only [Int.reduceToNat] at ho28; rw [← Ny195.out] at ho28)); have n0_ := Aside0.mk (Kd.R_elder' (zr0 HO185) (Kd.R_base ho28) hb); have n1_ := Aside0.mk (Kd.R_elder' (zr0 HO191) (Kd.R_base ho28) hb); have n2_ := Aside0.mk (Kd.R_lower (Kd.R_new' (Kd.R_new' ho28 (Kd.R_lt (zr0 HO185))) (Kd.R_lt (zr0 HO191))) (keep_size (w := w) (g := g) (row := none) (by repeat (first | (with_reducible first | exact HK.out | apply KeepBut.set_ | apply keep_drewN | apply keep_drew | apply keep_alloc | refine keep_far ?_ GW178.out _ | refine keep_far ?_ GW179.out _) | exact HK.out)))); have n3_ := zb0 BK178 hb; have n4_ := zb0 BK179 hb; have n5_ := Aside0.mk (IsS82.below (by repeat (first | (with_reducible first | exact HI0.out | apply IsS82.alloc | apply IsS82.drewN | apply IsS82.drew | apply IsS82.set_1 | apply IsS82.set_2 | refine IsS82.far ?_ NB0_178.out _ | refine IsS82.far ?_ NB0_179.out _) | exact HI0.out)) hb); have n6_ := Aside0.mk (KeepBut.trans (by repeat (first | (with_reducible first | exact HK.out | apply KeepBut.set_ | apply keep_drewN | apply keep_drew | apply keep_alloc | refine keep_far ?_ GW178.out _ | refine keep_far ?_ GW179.out _) | exact HK.out)) (KeepBut.of_below hb g none) (.inl rfl)); have n7_ := Aside0.mk (below_step (by repeat (first | (with_reducible first | exact HB.out | apply below_alloc | apply pw_below_drewN | apply below_drew1 | refine below_set ?_ (IsS82.ge HI0.out) | refine below_set ?_ GE178.out | refine below_set ?_ GE179.out) | exact HB.out)) hb); clear HO185; clear HO191; clear BK178; clear BK179; clear HI0; clear HK; clear HB; have HO185 := n0_; have HO191 := n1_; have HO197 := n2_; have BK178 := n3_; have BK179 := n4_; have HI0 := n5_; have HK := n6_; have HB := n7_; clear n0_ n1_ n2_ n3_ n4_ n5_ n6_ n7_; clear hb ho28; obtain ⟨Ao29, co29, eo29⟩ := Kd.R_slice HO197.out; subst eo29) | ((with_reducible refine gate_callee (f := 55) rfl ?_); refine goesL_ (some 26) rfl rfl Try.func55 (by kernel_rfl) rfl #[.pointer (some ⟨g, 0, none⟩), .slice Ao29 y195.length co29] rfl (by (try simp only [zq1, zq2, zq3]); first | done | rfl | (simp only [List.length_drop, List.length_take]; rfl)) ?_; (with_reducible refine (spec_l1Cur_among.calls g s0_0 t193 t194 _ _ y195 t198 t199 t200 w0 _ ?side1 ?side2 ?side3 ?side4 ?side5 A18.out).mono ?_); (case side1 => repeat (first | (with_reducible first | exact HI0.out | apply IsS82.alloc | apply IsS82.drewN | apply IsS82.drew | apply IsS82.set_1 | apply IsS82.set_2 | refine IsS82.far ?_ NB0_178.out _ | refine IsS82.far ?_ NB0_179.out _) | exact HI0.out)); (case side2 => repeat (first | (with_reducible first | exact HB.out | apply below_alloc | apply pw_below_drewN | apply below_drew1 | refine below_set ?_ (IsS82.ge HI0.out) | refine below_set ?_ GE178.out | refine below_set ?_ GE179.out) | exact HB.out)); (case side3 => repeat (first | exact (Kd.R_reads' HO197.out).2.2 | (with_reducible refine Kd.C_alloc ?_ _) | (with_reducible refine Kd.C_drewN ?_ _) | (with_reducible refine Kd.C_drew ?_))); (case side4 => exact (Kd.R_reads' HO197.out).2.1); (case side5 => exact far_slice (IsS82.own_ne HI0.out HO197.out (by decide))); rintro e w30 ⟨rfl, hi, hb, hk⟩; refine ⟨_, rfl, ?_⟩; replace BK178 := Aside0.mk (KeepBut.blk hk (g' := gb178) (o := .cells #[.slice A1_0 l1_0.length c1_0] 32 (0, 0)) (zk0 BK178) NB178_0.out (by simp)); replace BK179 := Aside0.mk (KeepBut.blk hk (g' := gb179) (o := .cells #[.int .i64 0, .int .i64 0, .int .i64 0, .int .i64 0] 54 (0, 0)) (zk0 BK179) NB179_0.out (by simp)); replace HO185 := Aside0.mk (Kd.R_mono (Kd.R_keep (IsS82.apart (show IsS82 w0 _ g s0_0 t193 t194 from by repeat (first | (with_reducible first | exact HI0.out | apply IsS82.alloc | apply IsS82.drewN | apply IsS82.drew | apply IsS82.set_1 | apply IsS82.set_2 | refine IsS82.far ?_ NB0_178.out _ | refine IsS82.far ?_ NB0_179.out _) | exact HI0.out)) (zr0 HO185) (by decide)) hk (fun _ h => h.2)) (fun _ h => h.1)); replace HO191 := Aside0.mk (Kd.R_mono (Kd.R_keep (IsS82.apart (show IsS82 w0 _ g s0_0 t193 t194 from by repeat (first | (with_reducible first | exact HI0.out | apply IsS82.alloc | apply IsS82.drewN | apply IsS82.drew | apply IsS82.set_1 | apply IsS82.set_2 | refine IsS82.far ?_ NB0_178.out _ | refine IsS82.far ?_ NB0_179.out _) | exact HI0.out)) (zr0 HO191) (by decide)) hk (fun _ h => h.2)) (fun _ h => h.1)); replace HO197 := Aside0.mk (Kd.R_mono (Kd.R_keep (IsS82.apart (show IsS82 w0 _ g s0_0 t193 t194 from by repeat (first | (with_reducible first | exact HI0.out | apply IsS82.alloc | apply IsS82.drewN | apply IsS82.drew | apply IsS82.set_1 | apply IsS82.set_2 | refine IsS82.far ?_ NB0_178.out _ | refine IsS82.far ?_ NB0_179.out _) | exact HI0.out)) (zr0 HO197) (by decide)) hk (fun _ h => h.2)) (fun _ h => h.1)); replace HK := Aside0.mk (KeepBut.trans (by repeat (first | (with_reducible first | exact HK.out | apply KeepBut.set_ | apply keep_drewN | apply keep_drew | apply keep_alloc | refine keep_far ?_ GW178.out _ | refine keep_far ?_ GW179.out _) | exact HK.out)) hk (.inl rfl)); replace HB := Aside0.mk (hb); replace HI0 := Aside0.mk (hi); (try clear hb); (try clear hb2); (try clear hk); (try clear hi); have hnb31 := NB179_178.out; have hnc31 := NB178_179.out; have hnb32 := NB179_0.out; have hnc32 := NB0_179.out; have hcz33_0 := zc0 BK179 0 rfl; have hcz33_1 := zc0 BK179 1 rfl; have hcz33_2 := zc0 BK179 2 rfl; have hcz33_3 := zc0 BK179 3 rfl; have hfz33_0 := blk_frozen BK179.out 0; have hfz33_1 := blk_frozen BK179.out 1; have hfz33_2 := blk_frozen BK179.out 2; have hfz33_3 := blk_frozen BK179.out 3))
    refine bodyPost_ret (results_cell_row rfl _ _ gb179 54 #[.int .i64 t186, .int .i64 t192, .int .i64 1, .int .i64 t198] (0, 0) _ rfl (by (with_reducible repeat (first | refine blk_drewN ?_ _ | refine blk_drew ?_ | refine blk_alloc ?_ _)); refine blk_put (cs := #[.int .i64 t186, .int .i64 t192, .int .i64 1, .int .i64 0]) ?_ 3 _ rfl; refine blk_put (cs := #[.int .i64 t186, .int .i64 t192, .int .i64 0, .int .i64 0]) ?_ 2 _ rfl; refine blk_put (cs := #[.int .i64 t186, .int .i64 0, .int .i64 0, .int .i64 0]) ?_ 1 _ rfl; refine blk_put (cs := #[.int .i64 0, .int .i64 0, .int .i64 0, .int .i64 0]) ?_ 0 _ rfl; (with_reducible repeat (first | refine blk_drewN ?_ _ | refine blk_drew ?_ | refine blk_alloc ?_ _)); exact BK179.out) Try.underlying54 rfl (by kernel_rfl)) rfl ?_
    exact ⟨by first | rfl | (simp <;> rfl) | (simp [*] <;> rfl), by repeat (first | (with_reducible first | exact HI0.out | apply IsS82.alloc | apply IsS82.drewN | apply IsS82.drew | apply IsS82.set_1 | apply IsS82.set_2 | refine IsS82.far ?_ NB0_178.out _ | refine IsS82.far ?_ NB0_179.out _) | exact HI0.out), by repeat (first | (with_reducible first | exact HB.out | apply below_alloc | apply pw_below_drewN | apply below_drew1 | refine below_set ?_ (IsS82.ge HI0.out) | refine below_set ?_ GE178.out | refine below_set ?_ GE179.out) | exact HB.out), by repeat (first | (with_reducible first | exact HK.out | apply KeepBut.set_ | apply keep_drewN | apply keep_drew | apply keep_alloc | refine keep_far ?_ GW178.out _ | refine keep_far ?_ GW179.out _) | exact HK.out)⟩
   ·replace c15 := Bool.eq_false_iff.mpr c15
    subst c15
    have H1 : ((spec_l1Least.f (l1_0.length : Int) 3).bind fun t201 => ((spec_l1Cur_pick.f s0_0 x1001_2 x1002_2 t201).bind fun bt202 => (if 0 ≤ bt202.1 then (if bt202.1 < (l1_0.length : Int) then ((spec_l1Least.f ((rd_L2 l1_0 bt202.1).length : Int) 9).bind fun t206 => ((spec_l1Cur_pick.f s0_0 bt202.2.1 bt202.2.2 (wrap64 (t206 + 1))).bind fun bt207 => ((spec_l1Most.f (wrap64 (((rd_L2 l1_0 bt202.1).length : Int) - bt207.1)) 0).bind fun t210 => ((spec_l1Cur_pick.f s0_0 bt207.2.1 bt207.2.2 (wrap64 (t210 + 1))).bind fun bt211 => ((spec_l1Cur_one.f s0_0 bt211.2.1 bt211.2.2 2).bind fun bt214 => (if bt214.1 = true then ((spec_l1Cur_pick.f s0_0 bt214.2.1 bt214.2.2 5).bind fun bt217 => ((spec_l1Least.f bt211.1 bt217.1).bind fun t220 => (spec_l1Cur_window.j1 kj2 bt202.1 ((rd_L2 l1_0 bt202.1).length : Int) bt207.1 t220 s0_0 bt217.2.1 bt217.2.2))) else (spec_l1Cur_window.j1 kj2 bt202.1 ((rd_L2 l1_0 bt202.1).length : Int) bt207.1 bt211.1 s0_0 bt214.2.1 bt214.2.2))))))) else (none)) else (none)))) = some (r1, r2, r3, r4, r5, r6) := by rw [if_neg (show ¬ (false = true) by decide)] at H; exact H
    clear H
    have H := H1
    clear H1
    replace H := Option.bind_eq_some_iff.mp H
    obtain ⟨t201, A340, H⟩ := H
    replace H : ((spec_l1Cur_pick.f s0_0 x1001_2 x1002_2 t201).bind fun bt202 => (if 0 ≤ bt202.1 then (if bt202.1 < (l1_0.length : Int) then ((spec_l1Least.f ((rd_L2 l1_0 bt202.1).length : Int) 9).bind fun t206 => ((spec_l1Cur_pick.f s0_0 bt202.2.1 bt202.2.2 (wrap64 (t206 + 1))).bind fun bt207 => ((spec_l1Most.f (wrap64 (((rd_L2 l1_0 bt202.1).length : Int) - bt207.1)) 0).bind fun t210 => ((spec_l1Cur_pick.f s0_0 bt207.2.1 bt207.2.2 (wrap64 (t210 + 1))).bind fun bt211 => ((spec_l1Cur_one.f s0_0 bt211.2.1 bt211.2.2 2).bind fun bt214 => (if bt214.1 = true then ((spec_l1Cur_pick.f s0_0 bt214.2.1 bt214.2.2 5).bind fun bt217 => ((spec_l1Least.f bt211.1 bt217.1).bind fun t220 => (spec_l1Cur_window.j1 kj2 bt202.1 ((rd_L2 l1_0 bt202.1).length : Int) bt207.1 t220 s0_0 bt217.2.1 bt217.2.2))) else (spec_l1Cur_window.j1 kj2 bt202.1 ((rd_L2 l1_0 bt202.1).length : Int) bt207.1 bt211.1 s0_0 bt214.2.1 bt214.2.2))))))) else (none)) else (none))) = some (r1, r2, r3, r4, r5, r6) := H
    have A34 := Aside0.mk A340
    clear A340
    replace H := Option.bind_eq_some_iff.mp H
    obtain ⟨⟨t202, t203, t204⟩, A350, H⟩ := H
    replace H : (if 0 ≤ t202 then (if t202 < (l1_0.length : Int) then ((spec_l1Least.f ((rd_L2 l1_0 t202).length : Int) 9).bind fun t206 => ((spec_l1Cur_pick.f s0_0 t203 t204 (wrap64 (t206 + 1))).bind fun bt207 => ((spec_l1Most.f (wrap64 (((rd_L2 l1_0 t202).length : Int) - bt207.1)) 0).bind fun t210 => ((spec_l1Cur_pick.f s0_0 bt207.2.1 bt207.2.2 (wrap64 (t210 + 1))).bind fun bt211 => ((spec_l1Cur_one.f s0_0 bt211.2.1 bt211.2.2 2).bind fun bt214 => (if bt214.1 = true then ((spec_l1Cur_pick.f s0_0 bt214.2.1 bt214.2.2 5).bind fun bt217 => ((spec_l1Least.f bt211.1 bt217.1).bind fun t220 => (spec_l1Cur_window.j1 kj2 t202 ((rd_L2 l1_0 t202).length : Int) bt207.1 t220 s0_0 bt217.2.1 bt217.2.2))) else (spec_l1Cur_window.j1 kj2 t202 ((rd_L2 l1_0 t202).length : Int) bt207.1 bt211.1 s0_0 bt214.2.1 bt214.2.2))))))) else (none)) else (none)) = some (r1, r2, r3, r4, r5, r6) := H
    have A35 := Aside0.mk A350
    clear A350
    by_cases c36 : 0 ≤ t202
    ·rw [if_pos c36] at H
     have c36b0 : decide (0 ≤ t202) = true := decide_eq_true c36
     clear c36
     by_cases c37 : t202 < (l1_0.length : Int)
     ·rw [if_pos c37] at H
      have c37b0 : decide (t202 < (l1_0.length : Int)) = true := decide_eq_true c37
      clear c37
      replace H := Option.bind_eq_some_iff.mp H
      obtain ⟨t206, A380, H⟩ := H
      replace H : ((spec_l1Cur_pick.f s0_0 t203 t204 (wrap64 (t206 + 1))).bind fun bt207 => ((spec_l1Most.f (wrap64 (((rd_L2 l1_0 t202).length : Int) - bt207.1)) 0).bind fun t210 => ((spec_l1Cur_pick.f s0_0 bt207.2.1 bt207.2.2 (wrap64 (t210 + 1))).bind fun bt211 => ((spec_l1Cur_one.f s0_0 bt211.2.1 bt211.2.2 2).bind fun bt214 => (if bt214.1 = true then ((spec_l1Cur_pick.f s0_0 bt214.2.1 bt214.2.2 5).bind fun bt217 => ((spec_l1Least.f bt211.1 bt217.1).bind fun t220 => (spec_l1Cur_window.j1 kj2 t202 ((rd_L2 l1_0 t202).length : Int) bt207.1 t220 s0_0 bt217.2.1 bt217.2.2))) else (spec_l1Cur_window.j1 kj2 t202 ((rd_L2 l1_0 t202).length : Int) bt207.1 bt211.1 s0_0 bt214.2.1 bt214.2.2)))))) = some (r1, r2, r3, r4, r5, r6) := H
      have A38 := Aside0.mk A380
      clear A380
      replace H := Option.bind_eq_some_iff.mp H
      obtain ⟨⟨t207, t208, t209⟩, A390, H⟩ := H
      replace H : ((spec_l1Most.f (wrap64 (((rd_L2 l1_0 t202).length : Int) - t207)) 0).bind fun t210 => ((spec_l1Cur_pick.f s0_0 t208 t209 (wrap64 (t210 + 1))).bind fun bt211 => ((spec_l1Cur_one.f s0_0 bt211.2.1 bt211.2.2 2).bind fun bt214 => (if bt214.1 = true then ((spec_l1Cur_pick.f s0_0 bt214.2.1 bt214.2.2 5).bind fun bt217 => ((spec_l1Least.f bt211.1 bt217.1).bind fun t220 => (spec_l1Cur_window.j1 kj2 t202 ((rd_L2 l1_0 t202).length : Int) t207 t220 s0_0 bt217.2.1 bt217.2.2))) else (spec_l1Cur_window.j1 kj2 t202 ((rd_L2 l1_0 t202).length : Int) t207 bt211.1 s0_0 bt214.2.1 bt214.2.2))))) = some (r1, r2, r3, r4, r5, r6) := H
      have A39 := Aside0.mk A390
      clear A390
      replace H := Option.bind_eq_some_iff.mp H
      obtain ⟨t210, A400, H⟩ := H
      replace H : ((spec_l1Cur_pick.f s0_0 t208 t209 (wrap64 (t210 + 1))).bind fun bt211 => ((spec_l1Cur_one.f s0_0 bt211.2.1 bt211.2.2 2).bind fun bt214 => (if bt214.1 = true then ((spec_l1Cur_pick.f s0_0 bt214.2.1 bt214.2.2 5).bind fun bt217 => ((spec_l1Least.f bt211.1 bt217.1).bind fun t220 => (spec_l1Cur_window.j1 kj2 t202 ((rd_L2 l1_0 t202).length : Int) t207 t220 s0_0 bt217.2.1 bt217.2.2))) else (spec_l1Cur_window.j1 kj2 t202 ((rd_L2 l1_0 t202).length : Int) t207 bt211.1 s0_0 bt214.2.1 bt214.2.2)))) = some (r1, r2, r3, r4, r5, r6) := H
      have A40 := Aside0.mk A400
      clear A400
      replace H := Option.bind_eq_some_iff.mp H
      obtain ⟨⟨t211, t212, t213⟩, A410, H⟩ := H
      replace H : ((spec_l1Cur_one.f s0_0 t212 t213 2).bind fun bt214 => (if bt214.1 = true then ((spec_l1Cur_pick.f s0_0 bt214.2.1 bt214.2.2 5).bind fun bt217 => ((spec_l1Least.f t211 bt217.1).bind fun t220 => (spec_l1Cur_window.j1 kj2 t202 ((rd_L2 l1_0 t202).length : Int) t207 t220 s0_0 bt217.2.1 bt217.2.2))) else (spec_l1Cur_window.j1 kj2 t202 ((rd_L2 l1_0 t202).length : Int) t207 t211 s0_0 bt214.2.1 bt214.2.2))) = some (r1, r2, r3, r4, r5, r6) := H
      have A41 := Aside0.mk A410
      clear A410
      replace H := Option.bind_eq_some_iff.mp H
      obtain ⟨⟨t214, t215, t216⟩, A420, H⟩ := H
      replace H : (if t214 = true then ((spec_l1Cur_pick.f s0_0 t215 t216 5).bind fun bt217 => ((spec_l1Least.f t211 bt217.1).bind fun t220 => (spec_l1Cur_window.j1 kj2 t202 ((rd_L2 l1_0 t202).length : Int) t207 t220 s0_0 bt217.2.1 bt217.2.2))) else (spec_l1Cur_window.j1 kj2 t202 ((rd_L2 l1_0 t202).length : Int) t207 t211 s0_0 t215 t216)) = some (r1, r2, r3, r4, r5, r6) := H
      have A42 := Aside0.mk A420
      clear A420
      have HC43 := Aside0.mk H
      clear H
      have hnb44 := NB178_179.out
      have hnc44 := NB179_178.out
      have hnb45 := NB178_0.out
      have hnc45 := NB0_178.out
      have hcz46_0 := zc0 BK178 0 rfl
      have hfz46_0 := blk_frozen BK178.out 0
      go_upto_if 53 with (first | ((with_reducible refine gate_callee (f := 79) rfl ?_); refine goesL_ (some 32) rfl rfl Try.func79 (by kernel_rfl) rfl #[.int .i64 (l1_0.length : Int), .int .i64 3] rfl (by (try simp only [zq1, zq2, zq3]); first | done | rfl | (simp only [List.length_drop, List.length_take]; rfl)) ?_; (with_reducible refine (spec_l1Least.calls (l1_0.length : Int) 3 t201 _ A34.out).mono ?_); rintro e w' ⟨rfl, ⟨nd, rfl⟩⟩; refine ⟨_, rfl, ?_⟩) | ((with_reducible refine gate_callee (f := 56) rfl ?_); refine goesL_ (some 33) rfl rfl Try.func56 (by kernel_rfl) rfl #[.pointer (some ⟨g, 0, none⟩), .int .i64 t201] rfl (by (try simp only [zq1, zq2, zq3]); first | done | rfl | (simp only [List.length_drop, List.length_take]; rfl)) ?_; (with_reducible refine (spec_l1Cur_pick.calls g s0_0 x1001_2 x1002_2 t201 t202 t203 t204 w0 _ ?side1 ?side2 A35.out).mono ?_); (case side1 => repeat (first | (with_reducible first | exact HI0.out | apply IsS82.alloc | apply IsS82.drewN | apply IsS82.drew | apply IsS82.set_1 | apply IsS82.set_2 | refine IsS82.far ?_ NB0_178.out _ | refine IsS82.far ?_ NB0_179.out _) | exact HI0.out)); (case side2 => repeat (first | (with_reducible first | exact HB.out | apply below_alloc | apply pw_below_drewN | apply below_drew1 | refine below_set ?_ (IsS82.ge HI0.out) | refine below_set ?_ GE178.out | refine below_set ?_ GE179.out) | exact HB.out)); rintro e w47 ⟨rfl, hi, hb, hk⟩; refine ⟨_, rfl, ?_⟩; replace BK178 := Aside0.mk (KeepBut.blk hk (g' := gb178) (o := .cells #[.slice A1_0 l1_0.length c1_0] 32 (0, 0)) (zk0 BK178) NB178_0.out (by simp)); replace BK179 := Aside0.mk (KeepBut.blk hk (g' := gb179) (o := .cells #[.int .i64 0, .int .i64 0, .int .i64 0, .int .i64 0] 54 (0, 0)) (zk0 BK179) NB179_0.out (by simp)); replace HK := Aside0.mk (KeepBut.trans (by repeat (first | (with_reducible first | exact HK.out | apply KeepBut.set_ | apply keep_drewN | apply keep_drew | apply keep_alloc | refine keep_far ?_ GW178.out _ | refine keep_far ?_ GW179.out _) | exact HK.out)) hk (.inl rfl)); replace HB := Aside0.mk (hb); replace HI0 := Aside0.mk (hi); (try clear hb); (try clear hb2); (try clear hk); (try clear hi); have hcz48_0 := zc0 BK178 0 rfl; have hfz48_0 := blk_frozen BK178.out 0; have p205 : 0 ≤ (t202 : Int) := of_decide_eq_true (by first | (with_reducible assumption) | assumption); have q205 : t202 < (l1_0.length : Int) := of_decide_eq_true (by first | (with_reducible assumption) | assumption); obtain ⟨ad205, A205_0, c205_0, e205, hx205_0, hl205_0, hi205_0⟩ := at_L2 (Kd.C_foot_now HR1_0.out HK.out) t202 p205 q205; cases e205; have HR205_0 := Aside0.mk hi205_0; have HC205_0 := Aside0.mk hl205_0; clear hi205_0 hl205_0; replace p205 := eq_true p205; replace q205 := eq_true q205) | ((with_reducible refine gate_callee (f := 79) rfl ?_); refine goesL_ (some 42) rfl rfl Try.func79 (by kernel_rfl) rfl #[.int .i64 ((rd_L2 l1_0 t202).length : Int), .int .i64 9] rfl (by (try simp only [zq1, zq2, zq3]); first | done | rfl | (simp only [List.length_drop, List.length_take]; rfl)) ?_; (with_reducible refine (spec_l1Least.calls ((rd_L2 l1_0 t202).length : Int) 9 t206 _ A38.out).mono ?_); rintro e w' ⟨rfl, ⟨nd, rfl⟩⟩; refine ⟨_, rfl, ?_⟩) | ((with_reducible refine gate_callee (f := 56) rfl ?_); refine goesL_ (some 44) rfl rfl Try.func56 (by kernel_rfl) rfl #[.pointer (some ⟨g, 0, none⟩), .int .i64 (wrap64 (t206 + 1))] rfl (by (try simp only [zq1, zq2, zq3]); first | done | rfl | (simp only [List.length_drop, List.length_take]; rfl)) ?_; (with_reducible refine (spec_l1Cur_pick.calls g s0_0 t203 t204 (wrap64 (t206 + 1)) t207 t208 t209 w0 _ ?side1 ?side2 A39.out).mono ?_); (case side1 => repeat (first | (with_reducible first | exact HI0.out | apply IsS82.alloc | apply IsS82.drewN | apply IsS82.drew | apply IsS82.set_1 | apply IsS82.set_2 | refine IsS82.far ?_ NB0_178.out _ | refine IsS82.far ?_ NB0_179.out _) | exact HI0.out)); (case side2 => repeat (first | (with_reducible first | exact HB.out | apply below_alloc | apply pw_below_drewN | apply below_drew1 | refine below_set ?_ (IsS82.ge HI0.out) | refine below_set ?_ GE178.out | refine below_set ?_ GE179.out) | exact HB.out)); rintro e w49 ⟨rfl, hi, hb, hk⟩; refine ⟨_, rfl, ?_⟩; replace BK178 := Aside0.mk (KeepBut.blk hk (g' := gb178) (o := .cells #[.slice (some ad205) l1_0.length c1_0] 32 (0, 0)) (zk0 BK178) NB178_0.out (by simp)); replace BK179 := Aside0.mk (KeepBut.blk hk (g' := gb179) (o := .cells #[.int .i64 0, .int .i64 0, .int .i64 0, .int .i64 0] 54 (0, 0)) (zk0 BK179) NB179_0.out (by simp)); replace HK := Aside0.mk (KeepBut.trans (by repeat (first | (with_reducible first | exact HK.out | apply KeepBut.set_ | apply keep_drewN | apply keep_drew | apply keep_alloc | refine keep_far ?_ GW178.out _ | refine keep_far ?_ GW179.out _) | exact HK.out)) hk (.inl rfl)); replace HB := Aside0.mk (hb); replace HI0 := Aside0.mk (hi); (try clear hb); (try clear hb2); (try clear hk); (try clear hi)) | ((with_reducible refine gate_callee (f := 80) rfl ?_); refine goesL_ (some 49) rfl rfl Try.func80 (by kernel_rfl) rfl #[.int .i64 (wrap64 (((rd_L2 l1_0 t202).length : Int) - t207)), .int .i64 0] rfl (by (try simp only [zq1, zq2, zq3]); first | done | rfl | (simp only [List.length_drop, List.length_take]; rfl)) ?_; (with_reducible refine (spec_l1Most.calls (wrap64 (((rd_L2 l1_0 t202).length : Int) - t207)) 0 t210 _ A40.out).mono ?_); rintro e w' ⟨rfl, ⟨nd, rfl⟩⟩; refine ⟨_, rfl, ?_⟩) | ((with_reducible refine gate_callee (f := 56) rfl ?_); refine goesL_ (some 51) rfl rfl Try.func56 (by kernel_rfl) rfl #[.pointer (some ⟨g, 0, none⟩), .int .i64 (wrap64 (t210 + 1))] rfl (by (try simp only [zq1, zq2, zq3]); first | done | rfl | (simp only [List.length_drop, List.length_take]; rfl)) ?_; (with_reducible refine (spec_l1Cur_pick.calls g s0_0 t208 t209 (wrap64 (t210 + 1)) t211 t212 t213 w0 _ ?side1 ?side2 A41.out).mono ?_); (case side1 => repeat (first | (with_reducible first | exact HI0.out | apply IsS82.alloc | apply IsS82.drewN | apply IsS82.drew | apply IsS82.set_1 | apply IsS82.set_2 | refine IsS82.far ?_ NB0_178.out _ | refine IsS82.far ?_ NB0_179.out _) | exact HI0.out)); (case side2 => repeat (first | (with_reducible first | exact HB.out | apply below_alloc | apply pw_below_drewN | apply below_drew1 | refine below_set ?_ (IsS82.ge HI0.out) | refine below_set ?_ GE178.out | refine below_set ?_ GE179.out) | exact HB.out)); rintro e w50 ⟨rfl, hi, hb, hk⟩; refine ⟨_, rfl, ?_⟩; replace BK178 := Aside0.mk (KeepBut.blk hk (g' := gb178) (o := .cells #[.slice (some ad205) l1_0.length c1_0] 32 (0, 0)) (zk0 BK178) NB178_0.out (by simp)); replace BK179 := Aside0.mk (KeepBut.blk hk (g' := gb179) (o := .cells #[.int .i64 0, .int .i64 0, .int .i64 0, .int .i64 0] 54 (0, 0)) (zk0 BK179) NB179_0.out (by simp)); replace HK := Aside0.mk (KeepBut.trans (by repeat (first | (with_reducible first | exact HK.out | apply KeepBut.set_ | apply keep_drewN | apply keep_drew | apply keep_alloc | refine keep_far ?_ GW178.out _ | refine keep_far ?_ GW179.out _) | exact HK.out)) hk (.inl rfl)); replace HB := Aside0.mk (hb); replace HI0 := Aside0.mk (hi); (try clear hb); (try clear hb2); (try clear hk); (try clear hi)) | ((with_reducible refine gate_callee (f := 50) rfl ?_); refine goesL_ (some 53) rfl rfl Try.func50 (by kernel_rfl) rfl #[.pointer (some ⟨g, 0, none⟩), .int .i64 2] rfl (by (try simp only [zq1, zq2, zq3]); first | done | rfl | (simp only [List.length_drop, List.length_take]; rfl)) ?_; (with_reducible refine (spec_l1Cur_one.calls g s0_0 t212 t213 2 t214 t215 t216 w0 _ ?side1 ?side2 A42.out).mono ?_); (case side1 => repeat (first | (with_reducible first | exact HI0.out | apply IsS82.alloc | apply IsS82.drewN | apply IsS82.drew | apply IsS82.set_1 | apply IsS82.set_2 | refine IsS82.far ?_ NB0_178.out _ | refine IsS82.far ?_ NB0_179.out _) | exact HI0.out)); (case side2 => repeat (first | (with_reducible first | exact HB.out | apply below_alloc | apply pw_below_drewN | apply below_drew1 | refine below_set ?_ (IsS82.ge HI0.out) | refine below_set ?_ GE178.out | refine below_set ?_ GE179.out) | exact HB.out)); rintro e w51 ⟨rfl, hi, hb, hk⟩; refine ⟨_, rfl, ?_⟩; replace BK178 := Aside0.mk (KeepBut.blk hk (g' := gb178) (o := .cells #[.slice (some ad205) l1_0.length c1_0] 32 (0, 0)) (zk0 BK178) NB178_0.out (by simp)); replace BK179 := Aside0.mk (KeepBut.blk hk (g' := gb179) (o := .cells #[.int .i64 0, .int .i64 0, .int .i64 0, .int .i64 0] 54 (0, 0)) (zk0 BK179) NB179_0.out (by simp)); replace HK := Aside0.mk (KeepBut.trans (by repeat (first | (with_reducible first | exact HK.out | apply KeepBut.set_ | apply keep_drewN | apply keep_drew | apply keep_alloc | refine keep_far ?_ GW178.out _ | refine keep_far ?_ GW179.out _) | exact HK.out)) hk (.inl rfl)); replace HB := Aside0.mk (hb); replace HI0 := Aside0.mk (hi); (try clear hb); (try clear hb2); (try clear hk); (try clear hi)))
      (try simp only [Act.put, zp1, zp2, zp3])
      go_cut [8] (fun v8 wc => ∃ (kq : Nat) (x8_42 : Int) (x1001_42 : Int) (x1002_42 : Int), v8 = .int .i64 x8_42 ∧ Aside0 (spec_l1Cur_window.j1 kq t202 ((rd_L2 l1_0 t202).length : Int) t207 x8_42 s0_0 x1001_42 x1002_42 = some (r1, r2, r3, r4, r5, r6)) ∧ Aside0 (kq ≤ kj2) ∧ Aside0 (wc.heap[gb178]? = some (.cells #[(.slice (some ad205) l1_0.length c1_0)] 32 (0, 0))) ∧ Aside0 (wc.heap[gb179]? = some (.cells #[.int .i64 0, .int .i64 0, .int .i64 0, .int .i64 0] 54 (0, 0))) ∧ Aside0 (IsS82 w0 wc g s0_0 x1001_42 x1002_42) ∧ Aside0 (KeepBut w wc g none) ∧ Aside0 (Below w0.heap.size w0 wc))
      case first =>
       have H := HC43.out
       clear HC43
       by_cases c52 : t214 = true
       ·subst c52
        have H1 : ((spec_l1Cur_pick.f s0_0 t215 t216 5).bind fun bt217 => ((spec_l1Least.f t211 bt217.1).bind fun t220 => (spec_l1Cur_window.j1 kj2 t202 ((rd_L2 l1_0 t202).length : Int) t207 t220 s0_0 bt217.2.1 bt217.2.2))) = some (r1, r2, r3, r4, r5, r6) := by rw [if_pos rfl] at H; exact H
        clear H
        have H := H1
        clear H1
        replace H := Option.bind_eq_some_iff.mp H
        obtain ⟨⟨t217, t218, t219⟩, A530, H⟩ := H
        replace H : ((spec_l1Least.f t211 t217).bind fun t220 => (spec_l1Cur_window.j1 kj2 t202 ((rd_L2 l1_0 t202).length : Int) t207 t220 s0_0 t218 t219)) = some (r1, r2, r3, r4, r5, r6) := H
        have A53 := Aside0.mk A530
        clear A530
        replace H := Option.bind_eq_some_iff.mp H
        obtain ⟨t220, A540, H⟩ := H
        replace H : (spec_l1Cur_window.j1 kj2 t202 ((rd_L2 l1_0 t202).length : Int) t207 t220 s0_0 t218 t219) = some (r1, r2, r3, r4, r5, r6) := H
        have A54 := Aside0.mk A540
        clear A540
        have H' := Aside0.mk H
        clear H
        go_wp2_with (first | ((with_reducible refine gate_callee (f := 56) rfl ?_); refine goesL_ (some 56) rfl rfl Try.func56 (by kernel_rfl) rfl #[.pointer (some ⟨g, 0, none⟩), .int .i64 5] rfl (by (try simp only [zq1, zq2, zq3]); first | done | rfl | (simp only [List.length_drop, List.length_take]; rfl)) ?_; (with_reducible refine (spec_l1Cur_pick.calls g s0_0 t215 t216 5 t217 t218 t219 w0 _ ?side1 ?side2 A53.out).mono ?_); (case side1 => repeat (first | (with_reducible first | exact HI0.out | apply IsS82.alloc | apply IsS82.drewN | apply IsS82.drew | apply IsS82.set_1 | apply IsS82.set_2 | refine IsS82.far ?_ NB0_178.out _ | refine IsS82.far ?_ NB0_179.out _) | exact HI0.out)); (case side2 => repeat (first | (with_reducible first | exact HB.out | apply below_alloc | apply pw_below_drewN | apply below_drew1 | refine below_set ?_ (IsS82.ge HI0.out) | refine below_set ?_ GE178.out | refine below_set ?_ GE179.out) | exact HB.out)); rintro e w55 ⟨rfl, hi, hb, hk⟩; refine ⟨_, rfl, ?_⟩; replace BK178 := Aside0.mk (KeepBut.blk hk (g' := gb178) (o := .cells #[.slice (some ad205) l1_0.length c1_0] 32 (0, 0)) (zk0 BK178) NB178_0.out (by simp)); replace BK179 := Aside0.mk (KeepBut.blk hk (g' := gb179) (o := .cells #[.int .i64 0, .int .i64 0, .int .i64 0, .int .i64 0] 54 (0, 0)) (zk0 BK179) NB179_0.out (by simp)); replace HK := Aside0.mk (KeepBut.trans (by repeat (first | (with_reducible first | exact HK.out | apply KeepBut.set_ | apply keep_drewN | apply keep_drew | apply keep_alloc | refine keep_far ?_ GW178.out _ | refine keep_far ?_ GW179.out _) | exact HK.out)) hk (.inl rfl)); replace HB := Aside0.mk (hb); replace HI0 := Aside0.mk (hi); (try clear hb); (try clear hb2); (try clear hk); (try clear hi)) | ((with_reducible refine gate_callee (f := 79) rfl ?_); refine goesL_ (some 57) rfl rfl Try.func79 (by kernel_rfl) rfl #[.int .i64 t211, .int .i64 t217] rfl (by (try simp only [zq1, zq2, zq3]); first | done | rfl | (simp only [List.length_drop, List.length_take]; rfl)) ?_; (with_reducible refine (spec_l1Least.calls t211 t217 t220 _ A54.out).mono ?_); rintro e w' ⟨rfl, ⟨nd, rfl⟩⟩; refine ⟨_, rfl, ?_⟩))
        go_meet
        case rel => exact ⟨_, (t220), (t218), (t219), (by first | rfl | (simp; done) | (simp [*]; done)), H', ⟨by have := HJ2.out; first | omega | exact Nat.le_refl _⟩, ⟨zk0 BK178⟩, ⟨zk0 BK179⟩, ⟨by repeat (first | (with_reducible first | exact HI0.out | apply IsS82.alloc | apply IsS82.drewN | apply IsS82.drew | apply IsS82.set_1 | apply IsS82.set_2 | refine IsS82.far ?_ NB0_178.out _ | refine IsS82.far ?_ NB0_179.out _) | exact HI0.out)⟩, ⟨by repeat (first | (with_reducible first | exact HK.out | apply KeepBut.set_ | apply keep_drewN | apply keep_drew | apply keep_alloc | refine keep_far ?_ GW178.out _ | refine keep_far ?_ GW179.out _) | exact HK.out)⟩, ⟨by repeat (first | (with_reducible first | exact HB.out | apply below_alloc | apply pw_below_drewN | apply below_drew1 | refine below_set ?_ (IsS82.ge HI0.out) | refine below_set ?_ GE178.out | refine below_set ?_ GE179.out) | exact HB.out)⟩⟩
       ·replace c52 := Bool.eq_false_iff.mpr c52
        subst c52
        have H1 : (spec_l1Cur_window.j1 kj2 t202 ((rd_L2 l1_0 t202).length : Int) t207 t211 s0_0 t215 t216) = some (r1, r2, r3, r4, r5, r6) := by rw [if_neg (show ¬ (false = true) by decide)] at H; exact H
        clear H
        have H := H1
        clear H1
        have H' := Aside0.mk H
        clear H
        go_wp2
        go_meet
        case rel => exact ⟨_, (t211), (t215), (t216), (by first | rfl | (simp; done) | (simp [*]; done)), H', ⟨by have := HJ2.out; first | omega | exact Nat.le_refl _⟩, ⟨zk0 BK178⟩, ⟨zk0 BK179⟩, ⟨by repeat (first | (with_reducible first | exact HI0.out | apply IsS82.alloc | apply IsS82.drewN | apply IsS82.drew | apply IsS82.set_1 | apply IsS82.set_2 | refine IsS82.far ?_ NB0_178.out _ | refine IsS82.far ?_ NB0_179.out _) | exact HI0.out)⟩, ⟨by repeat (first | (with_reducible first | exact HK.out | apply KeepBut.set_ | apply keep_drewN | apply keep_drew | apply keep_alloc | refine keep_far ?_ GW178.out _ | refine keep_far ?_ GW179.out _) | exact HK.out)⟩, ⟨by repeat (first | (with_reducible first | exact HB.out | apply below_alloc | apply pw_below_drewN | apply below_drew1 | refine below_set ?_ (IsS82.ge HI0.out) | refine below_set ?_ GE178.out | refine below_set ?_ GE179.out) | exact HB.out)⟩⟩
      case rest =>
       clear HC43
       try clear c1
       try clear c2
       try clear p2
       try clear q2
       try clear hx2
       try clear c3
       try clear c4
       try clear c5
       try clear c6
       try clear c6b0
       try clear c6b1
       try clear c6b2
       try clear p6
       try clear c7
       try clear c8
       try clear c11
       try clear c12
       try clear c15
       try clear c20
       try clear p20
       try clear q20
       try clear hx20
       try clear c31
       try clear c32
       try clear c36
       try clear c36b0
       try clear c37
       try clear c37b0
       try clear c44
       try clear c45
       try clear c50
       try clear c52
       try clear c55
       try clear hcz13_0
       try clear hcz33_0
       try clear hcz33_1
       try clear hcz33_2
       try clear hcz33_3
       try clear hcz46_0
       try clear hcz48_0
       try clear hcz9_0
       try clear hfz13_0
       try clear hfz33_0
       try clear hfz33_1
       try clear hfz33_2
       try clear hfz33_3
       try clear hfz46_0
       try clear hfz48_0
       try clear hfz9_0
       try clear hx205_0
       try clear p2
       try clear p205
       try clear q205
       obtain ⟨kq, x8_42, x1001_42, x1002_42, rfl, HA, HJ42, BK178, BK179, HI0, HK, HB⟩ := hcut
       cases kq with
       | zero => exact absurd HA.out (by simp [spec_l1Cur_window.j1])
       | succ kj42 =>
        have H := HA.out
        clear HA
        simp only [spec_l1Cur_window.j1] at H
        replace H := Option.bind_eq_some_iff.mp H
        obtain ⟨t221, A560, H⟩ := H
        replace H : ((spec_l1Cur_one.f s0_0 x1001_42 x1002_42 3).bind fun bt223 => (if bt223.1 = true then ((spec_l1Cur_pick.f s0_0 bt223.2.1 bt223.2.2 (wrap64 ((wrap64 (t221 - x8_42)) + 1))).bind fun bt226 => (spec_l1Cur_window.j2 kj42 ((rd_L2 l1_0 t202).length : Int) s0_0 bt226.2.1 bt226.2.2 t202 t207 x8_42 (wrap64 (x8_42 + bt226.1)))) else (spec_l1Cur_window.j2 kj42 ((rd_L2 l1_0 t202).length : Int) s0_0 bt223.2.1 bt223.2.2 t202 t207 x8_42 t221))) = some (r1, r2, r3, r4, r5, r6) := H
        have A56 := Aside0.mk A560
        clear A560
        replace H := Option.bind_eq_some_iff.mp H
        obtain ⟨⟨t223, t224, t225⟩, A570, H⟩ := H
        replace H : (if t223 = true then ((spec_l1Cur_pick.f s0_0 t224 t225 (wrap64 ((wrap64 (t221 - x8_42)) + 1))).bind fun bt226 => (spec_l1Cur_window.j2 kj42 ((rd_L2 l1_0 t202).length : Int) s0_0 bt226.2.1 bt226.2.2 t202 t207 x8_42 (wrap64 (x8_42 + bt226.1)))) else (spec_l1Cur_window.j2 kj42 ((rd_L2 l1_0 t202).length : Int) s0_0 t224 t225 t202 t207 x8_42 t221)) = some (r1, r2, r3, r4, r5, r6) := H
        have A57 := Aside0.mk A570
        clear A570
        have HC58 := Aside0.mk H
        clear H
        go_upto_if 67 with (first | ((with_reducible refine gate_callee (f := 80) rfl ?_); refine goesL_ (some 64) rfl rfl Try.func80 (by kernel_rfl) rfl #[.int .i64 (wrap64 (((rd_L2 l1_0 t202).length : Int) - t207)), .int .i64 0] rfl (by (try simp only [zq1, zq2, zq3]); first | done | rfl | (simp only [List.length_drop, List.length_take]; rfl)) ?_; (with_reducible refine (spec_l1Most.calls (wrap64 (((rd_L2 l1_0 t202).length : Int) - t207)) 0 t221 _ A56.out).mono ?_); rintro e w' ⟨rfl, ⟨nd, rfl⟩⟩; refine ⟨_, rfl, ?_⟩; (try simp only [World.drewN_drewN]); (try (rw [drewN_self wc]; generalize hq_ : World.drewN wc _ = wc; have n0_ : Aside0 (wc.heap[gb178]? = some (.cells #[.slice (some ad205) l1_0.length c1_0] 32 (0, 0))) := ⟨by rw [← hq_]; exact (by (with_reducible repeat (first | refine blk_drewN ?_ _ | refine blk_drew ?_ | refine blk_alloc ?_ _)); exact BK178.out)⟩; have n1_ : Aside0 (wc.heap[gb179]? = some (.cells #[.int .i64 0, .int .i64 0, .int .i64 0, .int .i64 0] 54 (0, 0))) := ⟨by rw [← hq_]; exact (by (with_reducible repeat (first | refine blk_drewN ?_ _ | refine blk_drew ?_ | refine blk_alloc ?_ _)); exact BK179.out)⟩; have n2_ : Aside0 (IsS82 w0 wc g s0_0 x1001_42 x1002_42) := ⟨by rw [← hq_]; exact (by repeat (first | (with_reducible first | exact HI0.out | apply IsS82.alloc | apply IsS82.drewN | apply IsS82.drew | apply IsS82.set_1 | apply IsS82.set_2 | refine IsS82.far ?_ NB0_178.out _ | refine IsS82.far ?_ NB0_179.out _) | exact HI0.out))⟩; have n3_ : Aside0 (KeepBut w wc g none) := ⟨by rw [← hq_]; exact (by repeat (first | (with_reducible first | exact HK.out | apply KeepBut.set_ | apply keep_drewN | apply keep_drew | apply keep_alloc | refine keep_far ?_ GW178.out _ | refine keep_far ?_ GW179.out _) | exact HK.out))⟩; have n4_ : Aside0 (Below w0.heap.size w0 wc) := ⟨by rw [← hq_]; exact (by repeat (first | (with_reducible first | exact HB.out | apply below_alloc | apply pw_below_drewN | apply below_drew1 | refine below_set ?_ (IsS82.ge HI0.out) | refine below_set ?_ GE178.out | refine below_set ?_ GE179.out) | exact HB.out))⟩; clear BK178 BK179 HI0 HK HB hq_; have BK178 := n0_; have BK179 := n1_; have HI0 := n2_; have HK := n3_; have HB := n4_; clear n0_ n1_ n2_ n3_ n4_))) | ((with_reducible refine gate_dst (N := 9) rfl ?_); refine box_event ?hg (N := 9) ?hd (cs := #[.int .i64 0, .int .i64 0, .int .i64 0, .int .i64 0]) (t := 54) ?hr ?_; (case hd => rfl); (case hg => rfl); (case hr => first | (go_simp; done) | (go_simp; rfl)); intro gb222 hg w59 hbox hb; have n0_ := Aside0.mk (blk_below (g := gb178) (o := .cells #[.slice (some ad205) l1_0.length c1_0] 32 (0, 0)) (by (with_reducible repeat (first | refine blk_drewN ?_ _ | refine blk_drew ?_ | refine blk_alloc ?_ _)); exact BK178.out) hb); have n1_ := Aside0.mk (blk_below (g := gb179) (o := .cells #[.int .i64 0, .int .i64 0, .int .i64 0, .int .i64 0] 54 (0, 0)) (by (with_reducible repeat (first | refine blk_drewN ?_ _ | refine blk_drew ?_ | refine blk_alloc ?_ _)); exact BK179.out) hb); have n2_ := Aside0.mk (IsS82.below (by repeat (first | (with_reducible first | exact HI0.out | apply IsS82.alloc | apply IsS82.drewN | apply IsS82.drew | apply IsS82.set_1 | apply IsS82.set_2 | refine IsS82.far ?_ NB0_178.out _ | refine IsS82.far ?_ NB0_179.out _) | exact HI0.out)) hb); have n3_ := Aside0.mk (KeepBut.trans (by repeat (first | (with_reducible first | exact HK.out | apply KeepBut.set_ | apply keep_drewN | apply keep_drew | apply keep_alloc | refine keep_far ?_ GW178.out _ | refine keep_far ?_ GW179.out _) | exact HK.out)) (KeepBut.of_below hb g none) (.inl rfl)); have n4_ := Aside0.mk (below_step (by repeat (first | (with_reducible first | exact HB.out | apply below_alloc | apply pw_below_drewN | apply below_drew1 | refine below_set ?_ (IsS82.ge HI0.out) | refine below_set ?_ GE178.out | refine below_set ?_ GE179.out) | exact HB.out)) hb); have n5_ := Aside0.mk (hbox); have n6_ := Aside0.mk ((by rw [hg]; exact (keep_size (w := w) (g := g) (row := none) (by repeat (first | (with_reducible first | exact HK.out | apply KeepBut.set_ | apply keep_drewN | apply keep_drew | apply keep_alloc | refine keep_far ?_ GW178.out _ | refine keep_far ?_ GW179.out _) | exact HK.out))) : w.heap.size ≤ gb222)); have n7_ := Aside0.mk ((Nat.le_trans HW0.out (by rw [hg]; exact (keep_size (w := w) (g := g) (row := none) (by repeat (first | (with_reducible first | exact HK.out | apply KeepBut.set_ | apply keep_drewN | apply keep_drew | apply keep_alloc | refine keep_far ?_ GW178.out _ | refine keep_far ?_ GW179.out _) | exact HK.out))) : w.heap.size ≤ gb222) : w0.heap.size ≤ gb222)); have n8_ := Aside0.mk ((by rw [hg]; exact Nat.ne_of_lt (blk_lt (g := gb178) (o := .cells #[.slice (some ad205) l1_0.length c1_0] 32 (0, 0)) (by (with_reducible repeat (first | refine blk_drewN ?_ _ | refine blk_drew ?_ | refine blk_alloc ?_ _)); exact BK178.out)) : gb178 ≠ gb222)); have n9_ := Aside0.mk ((by rw [hg]; exact Nat.ne_of_gt (blk_lt (g := gb178) (o := .cells #[.slice (some ad205) l1_0.length c1_0] 32 (0, 0)) (by (with_reducible repeat (first | refine blk_drewN ?_ _ | refine blk_drew ?_ | refine blk_alloc ?_ _)); exact BK178.out)) : gb222 ≠ gb178)); have n10_ := Aside0.mk ((by rw [hg]; exact Nat.ne_of_lt (blk_lt (g := gb179) (o := .cells #[.int .i64 0, .int .i64 0, .int .i64 0, .int .i64 0] 54 (0, 0)) (by (with_reducible repeat (first | refine blk_drewN ?_ _ | refine blk_drew ?_ | refine blk_alloc ?_ _)); exact BK179.out)) : gb179 ≠ gb222)); have n11_ := Aside0.mk ((by rw [hg]; exact Nat.ne_of_gt (blk_lt (g := gb179) (o := .cells #[.int .i64 0, .int .i64 0, .int .i64 0, .int .i64 0] 54 (0, 0)) (by (with_reducible repeat (first | refine blk_drewN ?_ _ | refine blk_drew ?_ | refine blk_alloc ?_ _)); exact BK179.out)) : gb222 ≠ gb179)); have n12_ := Aside0.mk ((by rw [hg]; exact Nat.ne_of_lt (IsS82.lt (show IsS82 w0 _ g s0_0 x1001_42 x1002_42 from by repeat (first | (with_reducible first | exact HI0.out | apply IsS82.alloc | apply IsS82.drewN | apply IsS82.drew | apply IsS82.set_1 | apply IsS82.set_2 | refine IsS82.far ?_ NB0_178.out _ | refine IsS82.far ?_ NB0_179.out _) | exact HI0.out))) : g ≠ gb222)); have n13_ := Aside0.mk ((by rw [hg]; exact Nat.ne_of_gt (IsS82.lt (show IsS82 w0 _ g s0_0 x1001_42 x1002_42 from by repeat (first | (with_reducible first | exact HI0.out | apply IsS82.alloc | apply IsS82.drewN | apply IsS82.drew | apply IsS82.set_1 | apply IsS82.set_2 | refine IsS82.far ?_ NB0_178.out _ | refine IsS82.far ?_ NB0_179.out _) | exact HI0.out))) : gb222 ≠ g)); clear BK178; clear BK179; clear HI0; clear HK; clear HB; have BK178 := n0_; have BK179 := n1_; have HI0 := n2_; have HK := n3_; have HB := n4_; have BK222 := n5_; have GW222 := n6_; have GE222 := n7_; have NB178_222 := n8_; have NB222_178 := n9_; have NB179_222 := n10_; have NB222_179 := n11_; have NB0_222 := n12_; have NB222_0 := n13_; clear n0_ n1_ n2_ n3_ n4_ n5_ n6_ n7_ n8_ n9_ n10_ n11_ n12_ n13_; clear hb hbox hg; have hnb60 := NB222_178.out; have hnc60 := NB178_222.out; have hnb61 := NB222_179.out; have hnc61 := NB179_222.out; have hnb62 := NB222_0.out; have hnc62 := NB0_222.out; have hcz63_0 := zc0 BK222 0 rfl; have hcz63_1 := zc0 BK222 1 rfl; have hcz63_2 := zc0 BK222 2 rfl; have hcz63_3 := zc0 BK222 3 rfl; have hfz63_0 := blk_frozen BK222.out 0; have hfz63_1 := blk_frozen BK222.out 1; have hfz63_2 := blk_frozen BK222.out 2; have hfz63_3 := blk_frozen BK222.out 3) | ((with_reducible refine gate_callee (f := 50) rfl ?_); refine goesL_ (some 67) rfl rfl Try.func50 (by kernel_rfl) rfl #[.pointer (some ⟨g, 0, none⟩), .int .i64 3] rfl (by (try simp only [zq1, zq2, zq3]); first | done | rfl | (simp only [List.length_drop, List.length_take]; rfl)) ?_; (with_reducible refine (spec_l1Cur_one.calls g s0_0 x1001_42 x1002_42 3 t223 t224 t225 w0 _ ?side1 ?side2 A57.out).mono ?_); (case side1 => repeat (first | (with_reducible first | exact HI0.out | apply IsS82.alloc | apply IsS82.drewN | apply IsS82.drew | apply IsS82.set_1 | apply IsS82.set_2 | refine IsS82.far ?_ NB0_178.out _ | refine IsS82.far ?_ NB0_179.out _ | refine IsS82.far ?_ NB0_222.out _) | exact HI0.out)); (case side2 => repeat (first | (with_reducible first | exact HB.out | apply below_alloc | apply pw_below_drewN | apply below_drew1 | refine below_set ?_ (IsS82.ge HI0.out) | refine below_set ?_ GE178.out | refine below_set ?_ GE179.out | refine below_set ?_ GE222.out) | exact HB.out)); rintro e w64 ⟨rfl, hi, hb, hk⟩; refine ⟨_, rfl, ?_⟩; replace BK178 := Aside0.mk (KeepBut.blk hk (g' := gb178) (o := .cells #[.slice (some ad205) l1_0.length c1_0] 32 (0, 0)) (by (with_reducible repeat (first | refine blk_drewN ?_ _ | refine blk_drew ?_ | refine blk_alloc ?_ _)); refine blk_far ?_ NB178_222.out _; refine blk_far ?_ NB178_222.out _; refine blk_far ?_ NB178_222.out _; refine blk_far ?_ NB178_222.out _; (with_reducible repeat (first | refine blk_drewN ?_ _ | refine blk_drew ?_ | refine blk_alloc ?_ _)); exact BK178.out) NB178_0.out (by simp)); replace BK179 := Aside0.mk (KeepBut.blk hk (g' := gb179) (o := .cells #[.int .i64 0, .int .i64 0, .int .i64 0, .int .i64 0] 54 (0, 0)) (by (with_reducible repeat (first | refine blk_drewN ?_ _ | refine blk_drew ?_ | refine blk_alloc ?_ _)); refine blk_far ?_ NB179_222.out _; refine blk_far ?_ NB179_222.out _; refine blk_far ?_ NB179_222.out _; refine blk_far ?_ NB179_222.out _; (with_reducible repeat (first | refine blk_drewN ?_ _ | refine blk_drew ?_ | refine blk_alloc ?_ _)); exact BK179.out) NB179_0.out (by simp)); replace BK222 := Aside0.mk (KeepBut.blk hk (g' := gb222) (o := .cells #[.int .i64 t202, .int .i64 t207, .int .i64 x8_42, .int .i64 t221] 54 (0, 0)) (by (with_reducible repeat (first | refine blk_drewN ?_ _ | refine blk_drew ?_ | refine blk_alloc ?_ _)); refine blk_put (cs := #[.int .i64 t202, .int .i64 t207, .int .i64 x8_42, .int .i64 0]) ?_ 3 _ rfl; refine blk_put (cs := #[.int .i64 t202, .int .i64 t207, .int .i64 0, .int .i64 0]) ?_ 2 _ rfl; refine blk_put (cs := #[.int .i64 t202, .int .i64 0, .int .i64 0, .int .i64 0]) ?_ 1 _ rfl; refine blk_put (cs := #[.int .i64 0, .int .i64 0, .int .i64 0, .int .i64 0]) ?_ 0 _ rfl; (with_reducible repeat (first | refine blk_drewN ?_ _ | refine blk_drew ?_ | refine blk_alloc ?_ _)); exact BK222.out) NB222_0.out (by simp)); replace HK := Aside0.mk (KeepBut.trans (by repeat (first | (with_reducible first | exact HK.out | apply KeepBut.set_ | apply keep_drewN | apply keep_drew | apply keep_alloc | refine keep_far ?_ GW178.out _ | refine keep_far ?_ GW179.out _ | refine keep_far ?_ GW222.out _) | exact HK.out)) hk (.inl rfl)); replace HB := Aside0.mk (hb); replace HI0 := Aside0.mk (hi); (try clear hb); (try clear hb2); (try clear hk); (try clear hi)))
        (try simp only [Act.put, zp1, zp2, zp3])
        go_cut [] (fun wc => ∃ (kq : Nat) (x1001_57 : Int) (x1002_57 : Int) (x223003_57 : Int), Aside0 (spec_l1Cur_window.j2 kq ((rd_L2 l1_0 t202).length : Int) s0_0 x1001_57 x1002_57 t202 t207 x8_42 x223003_57 = some (r1, r2, r3, r4, r5, r6)) ∧ Aside0 (kq ≤ kj42) ∧ Aside0 (wc.heap[gb178]? = some (.cells #[(.slice (some ad205) l1_0.length c1_0)] 32 (0, 0))) ∧ Aside0 (wc.heap[gb179]? = some (.cells #[.int .i64 0, .int .i64 0, .int .i64 0, .int .i64 0] 54 (0, 0))) ∧ Aside0 (wc.heap[gb222]? = some (.cells #[.int .i64 t202, .int .i64 t207, .int .i64 x8_42, .int .i64 x223003_57] 54 (0, 0))) ∧ Aside0 (IsS82 w0 wc g s0_0 x1001_57 x1002_57) ∧ Aside0 (KeepBut w wc g none) ∧ Aside0 (Below w0.heap.size w0 wc))
        case first =>
         have H := HC58.out
         clear HC58
         by_cases c65 : t223 = true
         ·subst c65
          have H1 : ((spec_l1Cur_pick.f s0_0 t224 t225 (wrap64 ((wrap64 (t221 - x8_42)) + 1))).bind fun bt226 => (spec_l1Cur_window.j2 kj42 ((rd_L2 l1_0 t202).length : Int) s0_0 bt226.2.1 bt226.2.2 t202 t207 x8_42 (wrap64 (x8_42 + bt226.1)))) = some (r1, r2, r3, r4, r5, r6) := by rw [if_pos rfl] at H; exact H
          clear H
          have H := H1
          clear H1
          replace H := Option.bind_eq_some_iff.mp H
          obtain ⟨⟨t226, t227, t228⟩, A660, H⟩ := H
          replace H : (spec_l1Cur_window.j2 kj42 ((rd_L2 l1_0 t202).length : Int) s0_0 t227 t228 t202 t207 x8_42 (wrap64 (x8_42 + t226))) = some (r1, r2, r3, r4, r5, r6) := H
          have A66 := Aside0.mk A660
          clear A660
          have H' := Aside0.mk H
          clear H
          try go_wp2
          replace BK178 := Aside0.mk (blk_drew BK178.out)
          replace BK179 := Aside0.mk (blk_drew BK179.out)
          replace BK222 := Aside0.mk (blk_drew BK222.out)
          replace HI0 := Aside0.mk (IsS82.drew HI0.out)
          replace HK := Aside0.mk (keep_drew HK.out)
          replace HB := Aside0.mk (below_drew1 HB.out)
          refine start_ (n := 13) (S := fun w' => w'.cell? ⟨gb222, 0, none⟩ = some (.int .i64 t202) ∧ w'.cell? ⟨gb222, 1, none⟩ = some (.int .i64 t207) ∧ w'.cell? ⟨gb222, 2, none⟩ = some (.int .i64 x8_42) ∧ w'.cell? ⟨gb222, 3, none⟩ = some (.int .i64 t221)) (ds := [12]) #[zF, zF, zF, zF, zF, zF, zF, zF, zF, zF, zF, zF, zF] (by kernel_rfl) rfl rfl ⟨zc0 BK222 0 rfl, zc0 BK222 1 rfl, zc0 BK222 2 rfl, zc0 BK222 3 rfl⟩ (fun hHeld => ?_); refine with_tabW spec_l1Cur_window.tab11 spec_l1Cur_window.bits11 (fun HT_ HW_ => ?_)
          generalize w64.drew = w67 at BK178 BK179 BK222 HI0 HK HB hHeld ⊢
          refine pure_ (i := 0) (N := some 68) (v := ?_) (a' := ?_) #[zT, zF, zF, zF, zF, zF, zF, zF, zF, zF, zF, zF, zF] rfl rfl (any_of HT_.out (by kernel_rfl)) (fun _ _ _ h => h) (Or.inl ⟨by rfl, ?_⟩) ?_ ?_
          rotate_left
          ·intro w'
           go_simp
           with_reducible rfl
          rotate_left
          ·simp only [Act.put, zp1, zp2, zp3, i64_w, i32_w]
           rfl
          refine pure_ (i := 2) (N := some 70) (v := ?_) (a' := ?_) #[zT, zF, zT, zF, zF, zF, zF, zF, zF, zF, zF, zF, zF] rfl rfl (any_of HT_.out (by kernel_rfl)) (fun _ _ _ h => h) (Or.inl ⟨by rfl, ?_⟩) ?_ ?_
          rotate_left
          ·intro w'
           go_simp
           with_reducible rfl
          rotate_left
          ·simp only [Act.put, zp1, zp2, zp3, i64_w, i32_w]
           rfl
          refine pure_ (i := 3) (N := some 71) (v := ?_) (a' := ?_) #[zT, zF, zT, zT, zF, zF, zF, zF, zF, zF, zF, zF, zF] rfl rfl (any_of HT_.out (by kernel_rfl)) (fun _ _ _ h => h) (Or.inl ⟨by rfl, ?_⟩) ?_ ?_
          rotate_left
          ·intro w'
           go_simp
           with_reducible rfl
          rotate_left
          ·simp only [Act.put, zp1, zp2, zp3, i64_w, i32_w]
           rfl
          refine pure_ (i := 5) (N := some 73) (v := ?_) (a' := ?_) #[zT, zF, zT, zT, zF, zT, zF, zF, zF, zF, zF, zF, zF] rfl rfl (any_of HT_.out (by kernel_rfl)) (fun _ _ _ h => h) (Or.inl ⟨by rfl, ?_⟩) ?_ ?_
          rotate_left
          ·intro w'
           go_simp
           with_reducible rfl
          rotate_left
          ·simp only [Act.put, zp1, zp2, zp3, i64_w, i32_w]
           rfl
          refine take_ (i := 1) (N := some 69) (v := ?_) (a' := ?_) #[zT, zT, zT, zT, zF, zT, zF, zF, zF, zF, zF, zF, zF] rfl rfl (take_ofW HT_.out HW_.out (by kernel_rfl)) (fun _ _ _ h => h) (Or.inl ⟨by rfl, ?_⟩) hHeld ?_ ?_
          rotate_left
          ·rintro w' ⟨s0, s1, s2, s3⟩
           go_simp
           with_reducible rfl
          rotate_left
          ·simp only [Act.put, zp1, zp2, zp3, i64_w, i32_w]
           rfl
          refine take_ (i := 4) (N := some 72) (v := ?_) (a' := ?_) #[zT, zT, zT, zT, zT, zT, zF, zF, zF, zF, zF, zF, zF] rfl rfl (take_ofW HT_.out HW_.out (by kernel_rfl)) (fun _ _ _ h => h) (Or.inl ⟨by rfl, ?_⟩) hHeld ?_ ?_
          rotate_left
          ·rintro w' ⟨s0, s1, s2, s3⟩
           go_simp
           with_reducible rfl
          rotate_left
          ·simp only [Act.put, zp1, zp2, zp3, i64_w, i32_w]
           rfl
          refine take_ (i := 6) (N := some 74) (v := ?_) (a' := ?_) #[zT, zT, zT, zT, zT, zT, zT, zF, zF, zF, zF, zF, zF] rfl rfl (take_ofW HT_.out HW_.out (by kernel_rfl)) (fun _ _ _ h => h) (Or.inl ⟨by rfl, ?_⟩) hHeld ?_ ?_
          rotate_left
          ·rintro w' ⟨s0, s1, s2, s3⟩
           go_simp
           with_reducible rfl
          rotate_left
          ·simp only [Act.put, zp1, zp2, zp3, i64_w, i32_w]
           rfl
          refine pure_ (i := 7) (N := some 75) (v := ?_) (a' := ?_) #[zT, zT, zT, zT, zT, zT, zT, zT, zF, zF, zF, zF, zF] rfl rfl (any_of HT_.out (by kernel_rfl)) (fun _ _ _ h => h) (Or.inl ⟨by rfl, ?_⟩) ?_ ?_
          rotate_left
          ·intro w'
           go_simp
           with_reducible rfl
          rotate_left
          ·simp only [Act.put, zp1, zp2, zp3, i64_w, i32_w]
           rfl
          refine pure_ (i := 8) (N := some 76) (v := ?_) (a' := ?_) #[zT, zT, zT, zT, zT, zT, zT, zT, zT, zF, zF, zF, zF] rfl rfl (any_of HT_.out (by kernel_rfl)) (fun _ _ _ h => h) (Or.inl ⟨by rfl, ?_⟩) ?_ ?_
          rotate_left
          ·intro w'
           go_simp
           with_reducible rfl
          rotate_left
          ·simp only [Act.put, zp1, zp2, zp3, i64_w, i32_w]
           rfl
          refine one_ (i := 9) (N := some 77) #[zT, zT, zT, zT, zT, zT, zT, zT, zT, zT, zF, zF, zF] rfl rfl (one_of HT_.out (by kernel_rfl)) (by decide) (fun K hK => ?_)
          refine goes_ Try.func56 (by kernel_rfl) rfl #[.pointer (some ⟨g, 0, none⟩), .int .i64 (wrap64 ((wrap64 (t221 - x8_42)) + 1))] (by rfl) rfl rfl (by (try simp only [zq1, zq2, zq3]); first | done | rfl | (simp only [List.length_drop, List.length_take]; rfl)) ?_
          with_reducible refine (spec_l1Cur_pick.calls g s0_0 t224 t225 (wrap64 ((wrap64 (t221 - x8_42)) + 1)) t226 t227 t228 w0 _ ?side1 ?side2 A66.out).mono ?_
          (case side1 => repeat (first | (with_reducible first | exact HI0.out | apply IsS82.alloc | apply IsS82.drewN | apply IsS82.drew | apply IsS82.set_1 | apply IsS82.set_2 | refine IsS82.far ?_ NB0_178.out _ | refine IsS82.far ?_ NB0_179.out _ | refine IsS82.far ?_ NB0_222.out _) | exact HI0.out))
          (case side2 => repeat (first | (with_reducible first | exact HB.out | apply below_alloc | apply pw_below_drewN | apply below_drew1 | refine below_set ?_ (IsS82.ge HI0.out) | refine below_set ?_ GE178.out | refine below_set ?_ GE179.out | refine below_set ?_ GE222.out) | exact HB.out))
          rintro e w68 ⟨rfl, hi, hb, hk⟩
          refine ⟨_, rfl, ?_⟩
          replace BK178 := Aside0.mk (KeepBut.blk hk (g' := gb178) (o := .cells #[.slice (some ad205) l1_0.length c1_0] 32 (0, 0)) (zk0 BK178) NB178_0.out (by simp))
          replace BK179 := Aside0.mk (KeepBut.blk hk (g' := gb179) (o := .cells #[.int .i64 0, .int .i64 0, .int .i64 0, .int .i64 0] 54 (0, 0)) (zk0 BK179) NB179_0.out (by simp))
          replace BK222 := Aside0.mk (KeepBut.blk hk (g' := gb222) (o := .cells #[.int .i64 t202, .int .i64 t207, .int .i64 x8_42, .int .i64 t221] 54 (0, 0)) (zk0 BK222) NB222_0.out (by simp))
          replace HK := Aside0.mk (KeepBut.trans (by repeat (first | (with_reducible first | exact HK.out | apply KeepBut.set_ | apply keep_drewN | apply keep_drew | apply keep_alloc | refine keep_far ?_ GW178.out _ | refine keep_far ?_ GW179.out _ | refine keep_far ?_ GW222.out _) | exact HK.out)) hk (.inl rfl))
          replace HB := Aside0.mk (hb)
          replace HI0 := Aside0.mk (hi)
          (try clear hb)
          (try clear hb2)
          (try clear hk)
          (try clear hi)
          refine hK.out _ _ ⟨zc0 BK222 0 rfl, zc0 BK222 1 rfl, zc0 BK222 2 rfl, zc0 BK222 3 rfl⟩ (fun hHeld => ?_)
          clear hK K
          refine norm_ (a' := ?_) ?_ ?_
          rotate_left
          ·show Act.put _ (some 77) _ = _
           simp only [Act.put, zp1, zp2, zp3, i64_w, i32_w]
           rfl
          refine pure_ (i := 10) (N := some 78) (v := ?_) (a' := ?_) #[zT, zT, zT, zT, zT, zT, zT, zT, zT, zT, zT, zF, zF] rfl rfl (any_of HT_.out (by kernel_rfl)) (fun _ _ _ h => h) (Or.inl ⟨by rfl, ?_⟩) ?_ ?_
          rotate_left
          ·intro w'
           go_simp
           with_reducible rfl
          rotate_left
          ·simp only [Act.put, zp1, zp2, zp3, i64_w, i32_w]
           rfl
          refine pure_ (i := 11) (N := some 79) (v := ?_) (a' := ?_) #[zT, zT, zT, zT, zT, zT, zT, zT, zT, zT, zT, zT, zF] rfl rfl (any_of HT_.out (by kernel_rfl)) (fun _ _ _ h => h) (Or.inl ⟨by rfl, ?_⟩) ?_ ?_
          rotate_left
          ·intro w'
           go_simp
           with_reducible rfl
          rotate_left
          ·simp only [Act.put, zp1, zp2, zp3, i64_w, i32_w]
           rfl
          refine last_ (i := 12) (N := none) #[zT, zT, zT, zT, zT, zT, zT, zT, zT, zT, zT, zT, zT] rfl rfl (one_of HT_.out (by kernel_rfl)) (by decide) (fun K hK => ?_)
          have hs69 : w68.cell? ⟨gb222, 3, none⟩ = some (.int .i64 t221) := zc0 BK222 3 rfl
          have hfs69 := blk_frozen BK222.out 3
          have hns69_0 := NB178_222.out
          have hns69_1 := NB179_222.out
          have hms69_0 := NB222_178.out
          have hms69_1 := NB222_179.out
          refine skip_ (w1 := ?_) (by rfl) rfl ?_ ?_
          rotate_left
          ·go_simp
           rfl
          refine hK.out _ _ ?_
          clear hK K
          refine done_ (done_of HT_.out (by kernel_rfl)) ?_
          try go_wp2
          go_meet
          case rel => exact ⟨_, (t227), (t228), (wrap64 (x8_42 + t226)), H', ⟨by have := HJ2.out; have := HJ42.out; first | omega | exact Nat.le_refl _⟩, ⟨by (with_reducible repeat (first | refine blk_drewN ?_ _ | refine blk_drew ?_ | refine blk_alloc ?_ _)); refine blk_far ?_ NB178_222.out _; (with_reducible repeat (first | refine blk_drewN ?_ _ | refine blk_drew ?_ | refine blk_alloc ?_ _)); exact BK178.out⟩, ⟨by (with_reducible repeat (first | refine blk_drewN ?_ _ | refine blk_drew ?_ | refine blk_alloc ?_ _)); refine blk_far ?_ NB179_222.out _; (with_reducible repeat (first | refine blk_drewN ?_ _ | refine blk_drew ?_ | refine blk_alloc ?_ _)); exact BK179.out⟩, ⟨by (with_reducible repeat (first | refine blk_drewN ?_ _ | refine blk_drew ?_ | refine blk_alloc ?_ _)); refine blk_put (cs := #[.int .i64 t202, .int .i64 t207, .int .i64 x8_42, .int .i64 t221]) ?_ 3 _ rfl; (with_reducible repeat (first | refine blk_drewN ?_ _ | refine blk_drew ?_ | refine blk_alloc ?_ _)); exact BK222.out⟩, ⟨by repeat (first | (with_reducible first | exact HI0.out | apply IsS82.alloc | apply IsS82.drewN | apply IsS82.drew | apply IsS82.set_1 | apply IsS82.set_2 | refine IsS82.far ?_ NB0_178.out _ | refine IsS82.far ?_ NB0_179.out _ | refine IsS82.far ?_ NB0_222.out _) | exact HI0.out)⟩, ⟨by repeat (first | (with_reducible first | exact HK.out | apply KeepBut.set_ | apply keep_drewN | apply keep_drew | apply keep_alloc | refine keep_far ?_ GW178.out _ | refine keep_far ?_ GW179.out _ | refine keep_far ?_ GW222.out _) | exact HK.out)⟩, ⟨by repeat (first | (with_reducible first | exact HB.out | apply below_alloc | apply pw_below_drewN | apply below_drew1 | refine below_set ?_ (IsS82.ge HI0.out) | refine below_set ?_ GE178.out | refine below_set ?_ GE179.out | refine below_set ?_ GE222.out) | exact HB.out)⟩⟩
         ·replace c65 := Bool.eq_false_iff.mpr c65
          subst c65
          have H1 : (spec_l1Cur_window.j2 kj42 ((rd_L2 l1_0 t202).length : Int) s0_0 t224 t225 t202 t207 x8_42 t221) = some (r1, r2, r3, r4, r5, r6) := by rw [if_neg (show ¬ (false = true) by decide)] at H; exact H
          clear H
          have H := H1
          clear H1
          have H' := Aside0.mk H
          clear H
          go_wp2
          go_meet
          case rel => exact ⟨_, (t224), (t225), (t221), H', ⟨by have := HJ2.out; have := HJ42.out; first | omega | exact Nat.le_refl _⟩, ⟨zk0 BK178⟩, ⟨zk0 BK179⟩, ⟨zk0 BK222⟩, ⟨by repeat (first | (with_reducible first | exact HI0.out | apply IsS82.alloc | apply IsS82.drewN | apply IsS82.drew | apply IsS82.set_1 | apply IsS82.set_2 | refine IsS82.far ?_ NB0_178.out _ | refine IsS82.far ?_ NB0_179.out _ | refine IsS82.far ?_ NB0_222.out _) | exact HI0.out)⟩, ⟨by repeat (first | (with_reducible first | exact HK.out | apply KeepBut.set_ | apply keep_drewN | apply keep_drew | apply keep_alloc | refine keep_far ?_ GW178.out _ | refine keep_far ?_ GW179.out _ | refine keep_far ?_ GW222.out _) | exact HK.out)⟩, ⟨by repeat (first | (with_reducible first | exact HB.out | apply below_alloc | apply pw_below_drewN | apply below_drew1 | refine below_set ?_ (IsS82.ge HI0.out) | refine below_set ?_ GE178.out | refine below_set ?_ GE179.out | refine below_set ?_ GE222.out) | exact HB.out)⟩⟩
        case rest =>
         clear HC58
         try clear c1
         try clear c2
         try clear p2
         try clear q2
         try clear hx2
         try clear c3
         try clear c4
         try clear c5
         try clear c6
         try clear c6b0
         try clear c6b1
         try clear c6b2
         try clear p6
         try clear c7
         try clear c8
         try clear c11
         try clear c12
         try clear c15
         try clear c20
         try clear p20
         try clear q20
         try clear hx20
         try clear c31
         try clear c32
         try clear c36
         try clear c36b0
         try clear c37
         try clear c37b0
         try clear c44
         try clear c45
         try clear c50
         try clear c52
         try clear c55
         try clear c56
         try clear c57
         try clear c60
         try clear c61
         try clear c62
         try clear p64
         try clear c65
         try clear hcz13_0
         try clear hcz33_0
         try clear hcz33_1
         try clear hcz33_2
         try clear hcz33_3
         try clear hcz46_0
         try clear hcz48_0
         try clear hcz63_0
         try clear hcz63_1
         try clear hcz63_2
         try clear hcz63_3
         try clear hcz9_0
         try clear hfz13_0
         try clear hfz33_0
         try clear hfz33_1
         try clear hfz33_2
         try clear hfz33_3
         try clear hfz46_0
         try clear hfz48_0
         try clear hfz63_0
         try clear hfz63_1
         try clear hfz63_2
         try clear hfz63_3
         try clear hfz9_0
         try clear hx205_0
         try clear p2
         try clear p20
         try clear p205
         try clear p6
         try clear q2
         try clear q20
         try clear q205
         obtain ⟨kq, x1001_57, x1002_57, x223003_57, HA, HJ57, BK178, BK179, BK222, HI0, HK, HB⟩ := hcut
         cases kq with
         | zero => exact absurd HA.out (by simp [spec_l1Cur_window.j2])
         | succ kj57 =>
          have H := HA.out
          clear HA
          simp only [spec_l1Cur_window.j2] at H
          replace H := Option.bind_eq_some_iff.mp H
          obtain ⟨⟨t229, t230, t231⟩, A700, H⟩ := H
          replace H : (if t229 = 0 then ((spec_l1Cur_among.f s0_0 t230 t231 (([(-1), ((rd_L2 l1_0 t202).length : Int), 4611686018427387904] : List Int))).bind fun bt235 => (some (t202, bt235.1, x8_42, x223003_57, bt235.2.1, bt235.2.2))) else (if t229 = 1 then ((spec_l1Cur_among.f s0_0 t230 t231 (([(-1), wrap64 (x223003_57 + 1)] : List Int))).bind fun bt241 => (some (t202, t207, bt241.1, x223003_57, bt241.2.1, bt241.2.2))) else (if t229 = 2 then ((spec_l1Cur_among.f s0_0 t230 t231 (([wrap64 (x223003_57 + 1), (-1), 4611686018427387904] : List Int))).bind fun bt247 => (some (t202, t207, x8_42, bt247.1, bt247.2.1, bt247.2.2))) else (some (t202, t207, x8_42, x223003_57, t230, t231))))) = some (r1, r2, r3, r4, r5, r6) := H
          have A70 := Aside0.mk A700
          clear A700
          by_cases c71 : t229 = 0
          ·rw [if_pos c71] at H
           have c71b0 : (t229 == 0) = true := beq_iff_eq.mpr c71
           have c71b1 : (t229 != 0) = false := bne_eq_false_iff_eq.mpr c71
           clear c71
           obtain ⟨y232, hy232⟩ : ∃ y_ : List Int, y_ = (([(-1), ((rd_L2 l1_0 t202).length : Int), 4611686018427387904] : List Int)) := ⟨_, rfl⟩
           replace H : ((spec_l1Cur_among.f s0_0 t230 t231 y232).bind fun bt235 => (some (t202, bt235.1, x8_42, x223003_57, bt235.2.1, bt235.2.2))) = some (r1, r2, r3, r4, r5, r6) := by first | (rw [hy232]; with_reducible exact H) | (have H2_ := (Option.bind_some _ _).symm.trans H; rw [hy232]; with_reducible exact H2_) | (have H2_ := (Option.bind_some _ _).symm.trans H; with_reducible exact H2_) | with_reducible exact H | (rw [hy232]; exact H) | exact H
           have Ny232 := Aside0.mk hy232
           clear hy232
           replace H := Option.bind_eq_some_iff.mp H
           obtain ⟨⟨t235, t236, t237⟩, A720, H⟩ := H
           replace H : (some (t202, t235, x8_42, x223003_57, t236, t237)) = some (r1, r2, r3, r4, r5, r6) := H
           have A72 := Aside0.mk A720
           clear A720
           simp only [Option.some.injEq, Prod.mk.injEq] at H
           obtain ⟨rfl, rfl, rfl, rfl, rfl, rfl⟩ := H
           go_wp2_with (first | ((with_reducible refine gate_callee (f := 56) rfl ?_); refine goesL_ (some 81) rfl rfl Try.func56 (by kernel_rfl) rfl #[.pointer (some ⟨g, 0, none⟩), .int .i64 60] rfl (by (try simp only [zq1, zq2, zq3]); first | done | rfl | (simp only [List.length_drop, List.length_take]; rfl)) ?_; (with_reducible refine (spec_l1Cur_pick.calls g s0_0 x1001_57 x1002_57 60 t229 t230 t231 w0 _ ?side1 ?side2 A70.out).mono ?_); (case side1 => repeat (first | (with_reducible first | exact HI0.out | apply IsS82.alloc | apply IsS82.drewN | apply IsS82.drew | apply IsS82.set_1 | apply IsS82.set_2 | refine IsS82.far ?_ NB0_178.out _ | refine IsS82.far ?_ NB0_179.out _ | refine IsS82.far ?_ NB0_222.out _) | exact HI0.out)); (case side2 => repeat (first | (with_reducible first | exact HB.out | apply below_alloc | apply pw_below_drewN | apply below_drew1 | refine below_set ?_ (IsS82.ge HI0.out) | refine below_set ?_ GE178.out | refine below_set ?_ GE179.out | refine below_set ?_ GE222.out) | exact HB.out)); rintro e w73 ⟨rfl, hi, hb, hk⟩; refine ⟨_, rfl, ?_⟩; replace BK178 := Aside0.mk (KeepBut.blk hk (g' := gb178) (o := .cells #[.slice (some ad205) l1_0.length c1_0] 32 (0, 0)) (zk0 BK178) NB178_0.out (by simp)); replace BK179 := Aside0.mk (KeepBut.blk hk (g' := gb179) (o := .cells #[.int .i64 0, .int .i64 0, .int .i64 0, .int .i64 0] 54 (0, 0)) (zk0 BK179) NB179_0.out (by simp)); replace BK222 := Aside0.mk (KeepBut.blk hk (g' := gb222) (o := .cells #[.int .i64 t202, .int .i64 t207, .int .i64 x8_42, .int .i64 x223003_57] 54 (0, 0)) (zk0 BK222) NB222_0.out (by simp)); replace HK := Aside0.mk (KeepBut.trans (by repeat (first | (with_reducible first | exact HK.out | apply KeepBut.set_ | apply keep_drewN | apply keep_drew | apply keep_alloc | refine keep_far ?_ GW178.out _ | refine keep_far ?_ GW179.out _ | refine keep_far ?_ GW222.out _) | exact HK.out)) hk (.inl rfl)); replace HB := Aside0.mk (hb); replace HI0 := Aside0.mk (hi); (try clear hb); (try clear hb2); (try clear hk); (try clear hi)) | ((with_reducible refine gate_dst (N := 86) rfl ?_); refine Kd.R_lit (Kd.int .i64) _ 3 ?hg (N := 86) ?hd (xs := ([(-1), ((rd_L2 l1_0 t202).length : Int), 4611686018427387904] : List Int)) (inner := [.int .i64 (-1), .int .i64 ((rd_L2 l1_0 t202).length : Int), .int .i64 4611686018427387904]) (ok := fun _ => True) (okp := fun _ => True) ?hr ?hp (fun _ hk => hk) trivial (Below.refl _ _) (Nat.le_refl _) (by simp) ?_; (case hd => rfl); (case hg => rfl); (case hr => first | (go_simp; done) | (go_simp; rfl)); (case hp => exact (Reps.one (show Kd.M (Kd.int .i64) _ _ _ (-1) [.int .i64 (-1)] from rfl) (Reps.one (show Kd.M (Kd.int .i64) _ _ _ ((rd_L2 l1_0 t202).length : Int) [.int .i64 ((rd_L2 l1_0 t202).length : Int)] from rfl) (Reps.one (show Kd.M (Kd.int .i64) _ _ _ 4611686018427387904 [.int .i64 4611686018427387904] from rfl) (Reps.none _ _))))); intro v233 w74 ho75 hb hg_ hnew_; clear hg_ hnew_; (first | rw [← Ny232.out] at ho75 | (simp only [Int.reduceToNat] at ho75; rw [← Ny232.out] at ho75)); have n0_ := Aside0.mk (Kd.R_lower ho75 (keep_size (w := w) (g := g) (row := none) (by repeat (first | (with_reducible first | exact HK.out | apply KeepBut.set_ | apply keep_drewN | apply keep_drew | apply keep_alloc | refine keep_far ?_ GW178.out _ | refine keep_far ?_ GW179.out _ | refine keep_far ?_ GW222.out _) | exact HK.out)))); have n1_ := zb0 BK178 hb; have n2_ := zb0 BK179 hb; have n3_ := zb0 BK222 hb; have n4_ := Aside0.mk (IsS82.below (by repeat (first | (with_reducible first | exact HI0.out | apply IsS82.alloc | apply IsS82.drewN | apply IsS82.drew | apply IsS82.set_1 | apply IsS82.set_2 | refine IsS82.far ?_ NB0_178.out _ | refine IsS82.far ?_ NB0_179.out _ | refine IsS82.far ?_ NB0_222.out _) | exact HI0.out)) hb); have n5_ := Aside0.mk (KeepBut.trans (by repeat (first | (with_reducible first | exact HK.out | apply KeepBut.set_ | apply keep_drewN | apply keep_drew | apply keep_alloc | refine keep_far ?_ GW178.out _ | refine keep_far ?_ GW179.out _ | refine keep_far ?_ GW222.out _) | exact HK.out)) (KeepBut.of_below hb g none) (.inl rfl)); have n6_ := Aside0.mk (below_step (by repeat (first | (with_reducible first | exact HB.out | apply below_alloc | apply pw_below_drewN | apply below_drew1 | refine below_set ?_ (IsS82.ge HI0.out) | refine below_set ?_ GE178.out | refine below_set ?_ GE179.out | refine below_set ?_ GE222.out) | exact HB.out)) hb); clear BK178; clear BK179; clear BK222; clear HI0; clear HK; clear HB; have HO234 := n0_; have BK178 := n1_; have BK179 := n2_; have BK222 := n3_; have HI0 := n4_; have HK := n5_; have HB := n6_; clear n0_ n1_ n2_ n3_ n4_ n5_ n6_; clear hb ho75; obtain ⟨Ao76, co76, eo76⟩ := Kd.R_slice HO234.out; subst eo76) | ((with_reducible refine gate_callee (f := 55) rfl ?_); refine goesL_ (some 87) rfl rfl Try.func55 (by kernel_rfl) rfl #[.pointer (some ⟨g, 0, none⟩), .slice Ao76 y232.length co76] rfl (by (try simp only [zq1, zq2, zq3]); first | done | rfl | (simp only [List.length_drop, List.length_take]; rfl)) ?_; (with_reducible refine (spec_l1Cur_among.calls g s0_0 t230 t231 _ _ y232 t235 t236 t237 w0 _ ?side1 ?side2 ?side3 ?side4 ?side5 A72.out).mono ?_); (case side1 => repeat (first | (with_reducible first | exact HI0.out | apply IsS82.alloc | apply IsS82.drewN | apply IsS82.drew | apply IsS82.set_1 | apply IsS82.set_2 | refine IsS82.far ?_ NB0_178.out _ | refine IsS82.far ?_ NB0_179.out _ | refine IsS82.far ?_ NB0_222.out _) | exact HI0.out)); (case side2 => repeat (first | (with_reducible first | exact HB.out | apply below_alloc | apply pw_below_drewN | apply below_drew1 | refine below_set ?_ (IsS82.ge HI0.out) | refine below_set ?_ GE178.out | refine below_set ?_ GE179.out | refine below_set ?_ GE222.out) | exact HB.out)); (case side3 => repeat (first | exact (Kd.R_reads' HO234.out).2.2 | (with_reducible refine Kd.C_alloc ?_ _) | (with_reducible refine Kd.C_drewN ?_ _) | (with_reducible refine Kd.C_drew ?_))); (case side4 => exact (Kd.R_reads' HO234.out).2.1); (case side5 => exact far_slice (IsS82.own_ne HI0.out HO234.out (by decide))); rintro e w77 ⟨rfl, hi, hb, hk⟩; refine ⟨_, rfl, ?_⟩; replace BK178 := Aside0.mk (KeepBut.blk hk (g' := gb178) (o := .cells #[.slice (some ad205) l1_0.length c1_0] 32 (0, 0)) (zk0 BK178) NB178_0.out (by simp)); replace BK179 := Aside0.mk (KeepBut.blk hk (g' := gb179) (o := .cells #[.int .i64 0, .int .i64 0, .int .i64 0, .int .i64 0] 54 (0, 0)) (zk0 BK179) NB179_0.out (by simp)); replace BK222 := Aside0.mk (KeepBut.blk hk (g' := gb222) (o := .cells #[.int .i64 t202, .int .i64 t207, .int .i64 x8_42, .int .i64 x223003_57] 54 (0, 0)) (zk0 BK222) NB222_0.out (by simp)); replace HO234 := Aside0.mk (Kd.R_mono (Kd.R_keep (IsS82.apart (show IsS82 w0 _ g s0_0 t230 t231 from by repeat (first | (with_reducible first | exact HI0.out | apply IsS82.alloc | apply IsS82.drewN | apply IsS82.drew | apply IsS82.set_1 | apply IsS82.set_2 | refine IsS82.far ?_ NB0_178.out _ | refine IsS82.far ?_ NB0_179.out _ | refine IsS82.far ?_ NB0_222.out _) | exact HI0.out)) (zr0 HO234) (by decide)) hk (fun _ h => h.2)) (fun _ h => h.1)); replace HK := Aside0.mk (KeepBut.trans (by repeat (first | (with_reducible first | exact HK.out | apply KeepBut.set_ | apply keep_drewN | apply keep_drew | apply keep_alloc | refine keep_far ?_ GW178.out _ | refine keep_far ?_ GW179.out _ | refine keep_far ?_ GW222.out _) | exact HK.out)) hk (.inl rfl)); replace HB := Aside0.mk (hb); replace HI0 := Aside0.mk (hi); (try clear hb); (try clear hb2); (try clear hk); (try clear hi); have hnb78 := NB222_178.out; have hnc78 := NB178_222.out; have hnb79 := NB222_179.out; have hnc79 := NB179_222.out; have hnb80 := NB222_0.out; have hnc80 := NB0_222.out; have hcz81_0 := zc0 BK222 0 rfl; have hcz81_1 := zc0 BK222 1 rfl; have hcz81_2 := zc0 BK222 2 rfl; have hcz81_3 := zc0 BK222 3 rfl; have hfz81_0 := blk_frozen BK222.out 0; have hfz81_1 := blk_frozen BK222.out 1; have hfz81_2 := blk_frozen BK222.out 2; have hfz81_3 := blk_frozen BK222.out 3; have hnb82 := NB179_178.out; have hnc82 := NB178_179.out; have hnb83 := NB179_0.out; have hnc83 := NB0_179.out; have hcz84_0 := zc0 BK179 0 rfl; have hcz84_1 := zc0 BK179 1 rfl; have hcz84_2 := zc0 BK179 2 rfl; have hcz84_3 := zc0 BK179 3 rfl; have hfz84_0 := blk_frozen BK179.out 0; have hfz84_1 := blk_frozen BK179.out 1; have hfz84_2 := blk_frozen BK179.out 2; have hfz84_3 := blk_frozen BK179.out 3))
           refine bodyPost_ret (results_cell_row rfl _ _ gb179 54 #[.int .i64 t202, .int .i64 t235, .int .i64 x8_42, .int .i64 x223003_57] (0, 0) _ rfl (by (with_reducible repeat (first | refine blk_drewN ?_ _ | refine blk_drew ?_ | refine blk_alloc ?_ _)); refine blk_put (cs := #[.int .i64 t202, .int .i64 t235, .int .i64 x8_42, .int .i64 0]) ?_ 3 _ rfl; refine blk_put (cs := #[.int .i64 t202, .int .i64 t235, .int .i64 0, .int .i64 0]) ?_ 2 _ rfl; refine blk_put (cs := #[.int .i64 t202, .int .i64 0, .int .i64 0, .int .i64 0]) ?_ 1 _ rfl; refine blk_put (cs := #[.int .i64 0, .int .i64 0, .int .i64 0, .int .i64 0]) ?_ 0 _ rfl; refine blk_far ?_ NB179_222.out _; (with_reducible repeat (first | refine blk_drewN ?_ _ | refine blk_drew ?_ | refine blk_alloc ?_ _)); exact BK179.out) Try.underlying54 rfl (by kernel_rfl)) rfl ?_
           exact ⟨by first | rfl | (simp <;> rfl) | (simp [*] <;> rfl), by repeat (first | (with_reducible first | exact HI0.out | apply IsS82.alloc | apply IsS82.drewN | apply IsS82.drew | apply IsS82.set_1 | apply IsS82.set_2 | refine IsS82.far ?_ NB0_178.out _ | refine IsS82.far ?_ NB0_179.out _ | refine IsS82.far ?_ NB0_222.out _) | exact HI0.out), by repeat (first | (with_reducible first | exact HB.out | apply below_alloc | apply pw_below_drewN | apply below_drew1 | refine below_set ?_ (IsS82.ge HI0.out) | refine below_set ?_ GE178.out | refine below_set ?_ GE179.out | refine below_set ?_ GE222.out) | exact HB.out), by repeat (first | (with_reducible first | exact HK.out | apply KeepBut.set_ | apply keep_drewN | apply keep_drew | apply keep_alloc | refine keep_far ?_ GW178.out _ | refine keep_far ?_ GW179.out _ | refine keep_far ?_ GW222.out _) | exact HK.out)⟩
          ·rw [if_neg c71] at H
           have c71b0 : (t229 == 0) = false := beq_eq_false_iff_ne.mpr c71
           have c71b1 : (t229 != 0) = true := bne_iff_ne.mpr c71
           by_cases c85 : t229 = 1
           ·rw [if_pos c85] at H
            have c85b0 : (t229 == 1) = true := beq_iff_eq.mpr c85
            have c85b1 : (t229 != 1) = false := bne_eq_false_iff_eq.mpr c85
            clear c85
            obtain ⟨y238, hy238⟩ : ∃ y_ : List Int, y_ = (([(-1), wrap64 (x223003_57 + 1)] : List Int)) := ⟨_, rfl⟩
            replace H : ((spec_l1Cur_among.f s0_0 t230 t231 y238).bind fun bt241 => (some (t202, t207, bt241.1, x223003_57, bt241.2.1, bt241.2.2))) = some (r1, r2, r3, r4, r5, r6) := by first | (rw [hy238]; with_reducible exact H) | (have H2_ := (Option.bind_some _ _).symm.trans H; rw [hy238]; with_reducible exact H2_) | (have H2_ := (Option.bind_some _ _).symm.trans H; with_reducible exact H2_) | with_reducible exact H | (rw [hy238]; exact H) | exact H
            have Ny238 := Aside0.mk hy238
            clear hy238
            replace H := Option.bind_eq_some_iff.mp H
            obtain ⟨⟨t241, t242, t243⟩, A860, H⟩ := H
            replace H : (some (t202, t207, t241, x223003_57, t242, t243)) = some (r1, r2, r3, r4, r5, r6) := H
            have A86 := Aside0.mk A860
            clear A860
            simp only [Option.some.injEq, Prod.mk.injEq] at H
            obtain ⟨rfl, rfl, rfl, rfl, rfl, rfl⟩ := H
            go_wp2_with (first | ((with_reducible refine gate_callee (f := 56) rfl ?_); refine goesL_ (some 81) rfl rfl Try.func56 (by kernel_rfl) rfl #[.pointer (some ⟨g, 0, none⟩), .int .i64 60] rfl (by (try simp only [zq1, zq2, zq3]); first | done | rfl | (simp only [List.length_drop, List.length_take]; rfl)) ?_; (with_reducible refine (spec_l1Cur_pick.calls g s0_0 x1001_57 x1002_57 60 t229 t230 t231 w0 _ ?side1 ?side2 A70.out).mono ?_); (case side1 => repeat (first | (with_reducible first | exact HI0.out | apply IsS82.alloc | apply IsS82.drewN | apply IsS82.drew | apply IsS82.set_1 | apply IsS82.set_2 | refine IsS82.far ?_ NB0_178.out _ | refine IsS82.far ?_ NB0_179.out _ | refine IsS82.far ?_ NB0_222.out _) | exact HI0.out)); (case side2 => repeat (first | (with_reducible first | exact HB.out | apply below_alloc | apply pw_below_drewN | apply below_drew1 | refine below_set ?_ (IsS82.ge HI0.out) | refine below_set ?_ GE178.out | refine below_set ?_ GE179.out | refine below_set ?_ GE222.out) | exact HB.out)); rintro e w87 ⟨rfl, hi, hb, hk⟩; refine ⟨_, rfl, ?_⟩; replace BK178 := Aside0.mk (KeepBut.blk hk (g' := gb178) (o := .cells #[.slice (some ad205) l1_0.length c1_0] 32 (0, 0)) (zk0 BK178) NB178_0.out (by simp)); replace BK179 := Aside0.mk (KeepBut.blk hk (g' := gb179) (o := .cells #[.int .i64 0, .int .i64 0, .int .i64 0, .int .i64 0] 54 (0, 0)) (zk0 BK179) NB179_0.out (by simp)); replace BK222 := Aside0.mk (KeepBut.blk hk (g' := gb222) (o := .cells #[.int .i64 t202, .int .i64 t207, .int .i64 x8_42, .int .i64 x223003_57] 54 (0, 0)) (zk0 BK222) NB222_0.out (by simp)); replace HK := Aside0.mk (KeepBut.trans (by repeat (first | (with_reducible first | exact HK.out | apply KeepBut.set_ | apply keep_drewN | apply keep_drew | apply keep_alloc | refine keep_far ?_ GW178.out _ | refine keep_far ?_ GW179.out _ | refine keep_far ?_ GW222.out _) | exact HK.out)) hk (.inl rfl)); replace HB := Aside0.mk (hb); replace HI0 := Aside0.mk (hi); (try clear hb); (try clear hb2); (try clear hk); (try clear hi); have hnb88 := NB222_178.out; have hnc88 := NB178_222.out; have hnb89 := NB222_179.out; have hnc89 := NB179_222.out; have hnb90 := NB222_0.out; have hnc90 := NB0_222.out; have hcz91_0 := zc0 BK222 0 rfl; have hcz91_1 := zc0 BK222 1 rfl; have hcz91_2 := zc0 BK222 2 rfl; have hcz91_3 := zc0 BK222 3 rfl; have hfz91_0 := blk_frozen BK222.out 0; have hfz91_1 := blk_frozen BK222.out 1; have hfz91_2 := blk_frozen BK222.out 2; have hfz91_3 := blk_frozen BK222.out 3) | ((with_reducible refine gate_dst (N := 95) rfl ?_); refine Kd.R_lit (Kd.int .i64) _ 3 ?hg (N := 95) ?hd (xs := ([(-1), wrap64 (x223003_57 + 1)] : List Int)) (inner := [.int .i64 (-1), .int .i64 (wrap64 (x223003_57 + 1))]) (ok := fun _ => True) (okp := fun _ => True) ?hr ?hp (fun _ hk => hk) trivial (Below.refl _ _) (Nat.le_refl _) (by simp) ?_; (case hd => rfl); (case hg => rfl); (case hr => first | (go_simp; done) | (go_simp; rfl)); (case hp => exact (Reps.one (show Kd.M (Kd.int .i64) _ _ _ (-1) [.int .i64 (-1)] from rfl) (Reps.one (show Kd.M (Kd.int .i64) _ _ _ (wrap64 (x223003_57 + 1)) [.int .i64 (wrap64 (x223003_57 + 1))] from rfl) (Reps.none _ _)))); intro v239 w92 ho93 hb hg_ hnew_; clear hg_ hnew_; (first | rw [← Ny238.out] at ho93 | (simp only [Int.reduceToNat] at ho93; rw [← Ny238.out] at ho93)); have n0_ := Aside0.mk (Kd.R_lower ho93 (keep_size (w := w) (g := g) (row := none) (by repeat (first | (with_reducible first | exact HK.out | apply KeepBut.set_ | apply keep_drewN | apply keep_drew | apply keep_alloc | refine keep_far ?_ GW178.out _ | refine keep_far ?_ GW179.out _ | refine keep_far ?_ GW222.out _) | exact HK.out)))); have n1_ := zb0 BK178 hb; have n2_ := zb0 BK179 hb; have n3_ := zb0 BK222 hb; have n4_ := Aside0.mk (IsS82.below (by repeat (first | (with_reducible first | exact HI0.out | apply IsS82.alloc | apply IsS82.drewN | apply IsS82.drew | apply IsS82.set_1 | apply IsS82.set_2 | refine IsS82.far ?_ NB0_178.out _ | refine IsS82.far ?_ NB0_179.out _ | refine IsS82.far ?_ NB0_222.out _) | exact HI0.out)) hb); have n5_ := Aside0.mk (KeepBut.trans (by repeat (first | (with_reducible first | exact HK.out | apply KeepBut.set_ | apply keep_drewN | apply keep_drew | apply keep_alloc | refine keep_far ?_ GW178.out _ | refine keep_far ?_ GW179.out _ | refine keep_far ?_ GW222.out _) | exact HK.out)) (KeepBut.of_below hb g none) (.inl rfl)); have n6_ := Aside0.mk (below_step (by repeat (first | (with_reducible first | exact HB.out | apply below_alloc | apply pw_below_drewN | apply below_drew1 | refine below_set ?_ (IsS82.ge HI0.out) | refine below_set ?_ GE178.out | refine below_set ?_ GE179.out | refine below_set ?_ GE222.out) | exact HB.out)) hb); clear BK178; clear BK179; clear BK222; clear HI0; clear HK; clear HB; have HO240 := n0_; have BK178 := n1_; have BK179 := n2_; have BK222 := n3_; have HI0 := n4_; have HK := n5_; have HB := n6_; clear n0_ n1_ n2_ n3_ n4_ n5_ n6_; clear hb ho93; obtain ⟨Ao94, co94, eo94⟩ := Kd.R_slice HO240.out; subst eo94) | ((with_reducible refine gate_callee (f := 55) rfl ?_); refine goesL_ (some 96) rfl rfl Try.func55 (by kernel_rfl) rfl #[.pointer (some ⟨g, 0, none⟩), .slice Ao94 y238.length co94] rfl (by (try simp only [zq1, zq2, zq3]); first | done | rfl | (simp only [List.length_drop, List.length_take]; rfl)) ?_; (with_reducible refine (spec_l1Cur_among.calls g s0_0 t230 t231 _ _ y238 t241 t242 t243 w0 _ ?side1 ?side2 ?side3 ?side4 ?side5 A86.out).mono ?_); (case side1 => repeat (first | (with_reducible first | exact HI0.out | apply IsS82.alloc | apply IsS82.drewN | apply IsS82.drew | apply IsS82.set_1 | apply IsS82.set_2 | refine IsS82.far ?_ NB0_178.out _ | refine IsS82.far ?_ NB0_179.out _ | refine IsS82.far ?_ NB0_222.out _) | exact HI0.out)); (case side2 => repeat (first | (with_reducible first | exact HB.out | apply below_alloc | apply pw_below_drewN | apply below_drew1 | refine below_set ?_ (IsS82.ge HI0.out) | refine below_set ?_ GE178.out | refine below_set ?_ GE179.out | refine below_set ?_ GE222.out) | exact HB.out)); (case side3 => repeat (first | exact (Kd.R_reads' HO240.out).2.2 | (with_reducible refine Kd.C_alloc ?_ _) | (with_reducible refine Kd.C_drewN ?_ _) | (with_reducible refine Kd.C_drew ?_))); (case side4 => exact (Kd.R_reads' HO240.out).2.1); (case side5 => exact far_slice (IsS82.own_ne HI0.out HO240.out (by decide))); rintro e w95 ⟨rfl, hi, hb, hk⟩; refine ⟨_, rfl, ?_⟩; replace BK178 := Aside0.mk (KeepBut.blk hk (g' := gb178) (o := .cells #[.slice (some ad205) l1_0.length c1_0] 32 (0, 0)) (zk0 BK178) NB178_0.out (by simp)); replace BK179 := Aside0.mk (KeepBut.blk hk (g' := gb179) (o := .cells #[.int .i64 0, .int .i64 0, .int .i64 0, .int .i64 0] 54 (0, 0)) (zk0 BK179) NB179_0.out (by simp)); replace BK222 := Aside0.mk (KeepBut.blk hk (g' := gb222) (o := .cells #[.int .i64 t202, .int .i64 t207, .int .i64 x8_42, .int .i64 x223003_57] 54 (0, 0)) (zk0 BK222) NB222_0.out (by simp)); replace HO240 := Aside0.mk (Kd.R_mono (Kd.R_keep (IsS82.apart (show IsS82 w0 _ g s0_0 t230 t231 from by repeat (first | (with_reducible first | exact HI0.out | apply IsS82.alloc | apply IsS82.drewN | apply IsS82.drew | apply IsS82.set_1 | apply IsS82.set_2 | refine IsS82.far ?_ NB0_178.out _ | refine IsS82.far ?_ NB0_179.out _ | refine IsS82.far ?_ NB0_222.out _) | exact HI0.out)) (zr0 HO240) (by decide)) hk (fun _ h => h.2)) (fun _ h => h.1)); replace HK := Aside0.mk (KeepBut.trans (by repeat (first | (with_reducible first | exact HK.out | apply KeepBut.set_ | apply keep_drewN | apply keep_drew | apply keep_alloc | refine keep_far ?_ GW178.out _ | refine keep_far ?_ GW179.out _ | refine keep_far ?_ GW222.out _) | exact HK.out)) hk (.inl rfl)); replace HB := Aside0.mk (hb); replace HI0 := Aside0.mk (hi); (try clear hb); (try clear hb2); (try clear hk); (try clear hi); have hcz96_0 := zc0 BK222 0 rfl; have hcz96_1 := zc0 BK222 1 rfl; have hcz96_2 := zc0 BK222 2 rfl; have hcz96_3 := zc0 BK222 3 rfl; have hfz96_0 := blk_frozen BK222.out 0; have hfz96_1 := blk_frozen BK222.out 1; have hfz96_2 := blk_frozen BK222.out 2; have hfz96_3 := blk_frozen BK222.out 3; have hnb97 := NB179_178.out; have hnc97 := NB178_179.out; have hnb98 := NB179_0.out; have hnc98 := NB0_179.out; have hcz99_0 := zc0 BK179 0 rfl; have hcz99_1 := zc0 BK179 1 rfl; have hcz99_2 := zc0 BK179 2 rfl; have hcz99_3 := zc0 BK179 3 rfl; have hfz99_0 := blk_frozen BK179.out 0; have hfz99_1 := blk_frozen BK179.out 1; have hfz99_2 := blk_frozen BK179.out 2; have hfz99_3 := blk_frozen BK179.out 3))
            refine bodyPost_ret (results_cell_row rfl _ _ gb179 54 #[.int .i64 t202, .int .i64 t207, .int .i64 t241, .int .i64 x223003_57] (0, 0) _ rfl (by (with_reducible repeat (first | refine blk_drewN ?_ _ | refine blk_drew ?_ | refine blk_alloc ?_ _)); refine blk_put (cs := #[.int .i64 t202, .int .i64 t207, .int .i64 t241, .int .i64 0]) ?_ 3 _ rfl; refine blk_put (cs := #[.int .i64 t202, .int .i64 t207, .int .i64 0, .int .i64 0]) ?_ 2 _ rfl; refine blk_put (cs := #[.int .i64 t202, .int .i64 0, .int .i64 0, .int .i64 0]) ?_ 1 _ rfl; refine blk_put (cs := #[.int .i64 0, .int .i64 0, .int .i64 0, .int .i64 0]) ?_ 0 _ rfl; refine blk_far ?_ NB179_222.out _; (with_reducible repeat (first | refine blk_drewN ?_ _ | refine blk_drew ?_ | refine blk_alloc ?_ _)); exact BK179.out) Try.underlying54 rfl (by kernel_rfl)) rfl ?_
            exact ⟨by first | rfl | (simp <;> rfl) | (simp [*] <;> rfl), by repeat (first | (with_reducible first | exact HI0.out | apply IsS82.alloc | apply IsS82.drewN | apply IsS82.drew | apply IsS82.set_1 | apply IsS82.set_2 | refine IsS82.far ?_ NB0_178.out _ | refine IsS82.far ?_ NB0_179.out _ | refine IsS82.far ?_ NB0_222.out _) | exact HI0.out), by repeat (first | (with_reducible first | exact HB.out | apply below_alloc | apply pw_below_drewN | apply below_drew1 | refine below_set ?_ (IsS82.ge HI0.out) | refine below_set ?_ GE178.out | refine below_set ?_ GE179.out | refine below_set ?_ GE222.out) | exact HB.out), by repeat (first | (with_reducible first | exact HK.out | apply KeepBut.set_ | apply keep_drewN | apply keep_drew | apply keep_alloc | refine keep_far ?_ GW178.out _ | refine keep_far ?_ GW179.out _ | refine keep_far ?_ GW222.out _) | exact HK.out)⟩
           ·rw [if_neg c85] at H
            have c85b0 : (t229 == 1) = false := beq_eq_false_iff_ne.mpr c85
            have c85b1 : (t229 != 1) = true := bne_iff_ne.mpr c85
            by_cases c100 : t229 = 2
            ·rw [if_pos c100] at H
             have c100b0 : (t229 == 2) = true := beq_iff_eq.mpr c100
             have c100b1 : (t229 != 2) = false := bne_eq_false_iff_eq.mpr c100
             clear c100
             obtain ⟨y244, hy244⟩ : ∃ y_ : List Int, y_ = (([wrap64 (x223003_57 + 1), (-1), 4611686018427387904] : List Int)) := ⟨_, rfl⟩
             replace H : ((spec_l1Cur_among.f s0_0 t230 t231 y244).bind fun bt247 => (some (t202, t207, x8_42, bt247.1, bt247.2.1, bt247.2.2))) = some (r1, r2, r3, r4, r5, r6) := by first | (rw [hy244]; with_reducible exact H) | (have H2_ := (Option.bind_some _ _).symm.trans H; rw [hy244]; with_reducible exact H2_) | (have H2_ := (Option.bind_some _ _).symm.trans H; with_reducible exact H2_) | with_reducible exact H | (rw [hy244]; exact H) | exact H
             have Ny244 := Aside0.mk hy244
             clear hy244
             replace H := Option.bind_eq_some_iff.mp H
             obtain ⟨⟨t247, t248, t249⟩, A1010, H⟩ := H
             replace H : (some (t202, t207, x8_42, t247, t248, t249)) = some (r1, r2, r3, r4, r5, r6) := H
             have A101 := Aside0.mk A1010
             clear A1010
             simp only [Option.some.injEq, Prod.mk.injEq] at H
             obtain ⟨rfl, rfl, rfl, rfl, rfl, rfl⟩ := H
             go_wp2_with (first | ((with_reducible refine gate_callee (f := 56) rfl ?_); refine goesL_ (some 81) rfl rfl Try.func56 (by kernel_rfl) rfl #[.pointer (some ⟨g, 0, none⟩), .int .i64 60] rfl (by (try simp only [zq1, zq2, zq3]); first | done | rfl | (simp only [List.length_drop, List.length_take]; rfl)) ?_; (with_reducible refine (spec_l1Cur_pick.calls g s0_0 x1001_57 x1002_57 60 t229 t230 t231 w0 _ ?side1 ?side2 A70.out).mono ?_); (case side1 => repeat (first | (with_reducible first | exact HI0.out | apply IsS82.alloc | apply IsS82.drewN | apply IsS82.drew | apply IsS82.set_1 | apply IsS82.set_2 | refine IsS82.far ?_ NB0_178.out _ | refine IsS82.far ?_ NB0_179.out _ | refine IsS82.far ?_ NB0_222.out _) | exact HI0.out)); (case side2 => repeat (first | (with_reducible first | exact HB.out | apply below_alloc | apply pw_below_drewN | apply below_drew1 | refine below_set ?_ (IsS82.ge HI0.out) | refine below_set ?_ GE178.out | refine below_set ?_ GE179.out | refine below_set ?_ GE222.out) | exact HB.out)); rintro e w102 ⟨rfl, hi, hb, hk⟩; refine ⟨_, rfl, ?_⟩; replace BK178 := Aside0.mk (KeepBut.blk hk (g' := gb178) (o := .cells #[.slice (some ad205) l1_0.length c1_0] 32 (0, 0)) (zk0 BK178) NB178_0.out (by simp)); replace BK179 := Aside0.mk (KeepBut.blk hk (g' := gb179) (o := .cells #[.int .i64 0, .int .i64 0, .int .i64 0, .int .i64 0] 54 (0, 0)) (zk0 BK179) NB179_0.out (by simp)); replace BK222 := Aside0.mk (KeepBut.blk hk (g' := gb222) (o := .cells #[.int .i64 t202, .int .i64 t207, .int .i64 x8_42, .int .i64 x223003_57] 54 (0, 0)) (zk0 BK222) NB222_0.out (by simp)); replace HK := Aside0.mk (KeepBut.trans (by repeat (first | (with_reducible first | exact HK.out | apply KeepBut.set_ | apply keep_drewN | apply keep_drew | apply keep_alloc | refine keep_far ?_ GW178.out _ | refine keep_far ?_ GW179.out _ | refine keep_far ?_ GW222.out _) | exact HK.out)) hk (.inl rfl)); replace HB := Aside0.mk (hb); replace HI0 := Aside0.mk (hi); (try clear hb); (try clear hb2); (try clear hk); (try clear hi); have hnb103 := NB222_178.out; have hnc103 := NB178_222.out; have hnb104 := NB222_179.out; have hnc104 := NB179_222.out; have hnb105 := NB222_0.out; have hnc105 := NB0_222.out; have hcz106_0 := zc0 BK222 0 rfl; have hcz106_1 := zc0 BK222 1 rfl; have hcz106_2 := zc0 BK222 2 rfl; have hcz106_3 := zc0 BK222 3 rfl; have hfz106_0 := blk_frozen BK222.out 0; have hfz106_1 := blk_frozen BK222.out 1; have hfz106_2 := blk_frozen BK222.out 2; have hfz106_3 := blk_frozen BK222.out 3) | ((with_reducible refine gate_dst (N := 104) rfl ?_); refine Kd.R_lit (Kd.int .i64) _ 3 ?hg (N := 104) ?hd (xs := ([wrap64 (x223003_57 + 1), (-1), 4611686018427387904] : List Int)) (inner := [.int .i64 (wrap64 (x223003_57 + 1)), .int .i64 (-1), .int .i64 4611686018427387904]) (ok := fun _ => True) (okp := fun _ => True) ?hr ?hp (fun _ hk => hk) trivial (Below.refl _ _) (Nat.le_refl _) (by simp) ?_; (case hd => rfl); (case hg => rfl); (case hr => first | (go_simp; done) | (go_simp; rfl)); (case hp => exact (Reps.one (show Kd.M (Kd.int .i64) _ _ _ (wrap64 (x223003_57 + 1)) [.int .i64 (wrap64 (x223003_57 + 1))] from rfl) (Reps.one (show Kd.M (Kd.int .i64) _ _ _ (-1) [.int .i64 (-1)] from rfl) (Reps.one (show Kd.M (Kd.int .i64) _ _ _ 4611686018427387904 [.int .i64 4611686018427387904] from rfl) (Reps.none _ _))))); intro v245 w107 ho108 hb hg_ hnew_; clear hg_ hnew_; (first | rw [← Ny244.out] at ho108 | (simp only [Int.reduceToNat] at ho108; rw [← Ny244.out] at ho108)); have n0_ := Aside0.mk (Kd.R_lower ho108 (keep_size (w := w) (g := g) (row := none) (by repeat (first | (with_reducible first | exact HK.out | apply KeepBut.set_ | apply keep_drewN | apply keep_drew | apply keep_alloc | refine keep_far ?_ GW178.out _ | refine keep_far ?_ GW179.out _ | refine keep_far ?_ GW222.out _) | exact HK.out)))); have n1_ := zb0 BK178 hb; have n2_ := zb0 BK179 hb; have n3_ := zb0 BK222 hb; have n4_ := Aside0.mk (IsS82.below (by repeat (first | (with_reducible first | exact HI0.out | apply IsS82.alloc | apply IsS82.drewN | apply IsS82.drew | apply IsS82.set_1 | apply IsS82.set_2 | refine IsS82.far ?_ NB0_178.out _ | refine IsS82.far ?_ NB0_179.out _ | refine IsS82.far ?_ NB0_222.out _) | exact HI0.out)) hb); have n5_ := Aside0.mk (KeepBut.trans (by repeat (first | (with_reducible first | exact HK.out | apply KeepBut.set_ | apply keep_drewN | apply keep_drew | apply keep_alloc | refine keep_far ?_ GW178.out _ | refine keep_far ?_ GW179.out _ | refine keep_far ?_ GW222.out _) | exact HK.out)) (KeepBut.of_below hb g none) (.inl rfl)); have n6_ := Aside0.mk (below_step (by repeat (first | (with_reducible first | exact HB.out | apply below_alloc | apply pw_below_drewN | apply below_drew1 | refine below_set ?_ (IsS82.ge HI0.out) | refine below_set ?_ GE178.out | refine below_set ?_ GE179.out | refine below_set ?_ GE222.out) | exact HB.out)) hb); clear BK178; clear BK179; clear BK222; clear HI0; clear HK; clear HB; have HO246 := n0_; have BK178 := n1_; have BK179 := n2_; have BK222 := n3_; have HI0 := n4_; have HK := n5_; have HB := n6_; clear n0_ n1_ n2_ n3_ n4_ n5_ n6_; clear hb ho108; obtain ⟨Ao109, co109, eo109⟩ := Kd.R_slice HO246.out; subst eo109) | ((with_reducible refine gate_callee (f := 55) rfl ?_); refine goesL_ (some 105) rfl rfl Try.func55 (by kernel_rfl) rfl #[.pointer (some ⟨g, 0, none⟩), .slice Ao109 y244.length co109] rfl (by (try simp only [zq1, zq2, zq3]); first | done | rfl | (simp only [List.length_drop, List.length_take]; rfl)) ?_; (with_reducible refine (spec_l1Cur_among.calls g s0_0 t230 t231 _ _ y244 t247 t248 t249 w0 _ ?side1 ?side2 ?side3 ?side4 ?side5 A101.out).mono ?_); (case side1 => repeat (first | (with_reducible first | exact HI0.out | apply IsS82.alloc | apply IsS82.drewN | apply IsS82.drew | apply IsS82.set_1 | apply IsS82.set_2 | refine IsS82.far ?_ NB0_178.out _ | refine IsS82.far ?_ NB0_179.out _ | refine IsS82.far ?_ NB0_222.out _) | exact HI0.out)); (case side2 => repeat (first | (with_reducible first | exact HB.out | apply below_alloc | apply pw_below_drewN | apply below_drew1 | refine below_set ?_ (IsS82.ge HI0.out) | refine below_set ?_ GE178.out | refine below_set ?_ GE179.out | refine below_set ?_ GE222.out) | exact HB.out)); (case side3 => repeat (first | exact (Kd.R_reads' HO246.out).2.2 | (with_reducible refine Kd.C_alloc ?_ _) | (with_reducible refine Kd.C_drewN ?_ _) | (with_reducible refine Kd.C_drew ?_))); (case side4 => exact (Kd.R_reads' HO246.out).2.1); (case side5 => exact far_slice (IsS82.own_ne HI0.out HO246.out (by decide))); rintro e w110 ⟨rfl, hi, hb, hk⟩; refine ⟨_, rfl, ?_⟩; replace BK178 := Aside0.mk (KeepBut.blk hk (g' := gb178) (o := .cells #[.slice (some ad205) l1_0.length c1_0] 32 (0, 0)) (zk0 BK178) NB178_0.out (by simp)); replace BK179 := Aside0.mk (KeepBut.blk hk (g' := gb179) (o := .cells #[.int .i64 0, .int .i64 0, .int .i64 0, .int .i64 0] 54 (0, 0)) (zk0 BK179) NB179_0.out (by simp)); replace BK222 := Aside0.mk (KeepBut.blk hk (g' := gb222) (o := .cells #[.int .i64 t202, .int .i64 t207, .int .i64 x8_42, .int .i64 x223003_57] 54 (0, 0)) (zk0 BK222) NB222_0.out (by simp)); replace HO246 := Aside0.mk (Kd.R_mono (Kd.R_keep (IsS82.apart (show IsS82 w0 _ g s0_0 t230 t231 from by repeat (first | (with_reducible first | exact HI0.out | apply IsS82.alloc | apply IsS82.drewN | apply IsS82.drew | apply IsS82.set_1 | apply IsS82.set_2 | refine IsS82.far ?_ NB0_178.out _ | refine IsS82.far ?_ NB0_179.out _ | refine IsS82.far ?_ NB0_222.out _) | exact HI0.out)) (zr0 HO246) (by decide)) hk (fun _ h => h.2)) (fun _ h => h.1)); replace HK := Aside0.mk (KeepBut.trans (by repeat (first | (with_reducible first | exact HK.out | apply KeepBut.set_ | apply keep_drewN | apply keep_drew | apply keep_alloc | refine keep_far ?_ GW178.out _ | refine keep_far ?_ GW179.out _ | refine keep_far ?_ GW222.out _) | exact HK.out)) hk (.inl rfl)); replace HB := Aside0.mk (hb); replace HI0 := Aside0.mk (hi); (try clear hb); (try clear hb2); (try clear hk); (try clear hi); have hcz111_0 := zc0 BK222 0 rfl; have hcz111_1 := zc0 BK222 1 rfl; have hcz111_2 := zc0 BK222 2 rfl; have hcz111_3 := zc0 BK222 3 rfl; have hfz111_0 := blk_frozen BK222.out 0; have hfz111_1 := blk_frozen BK222.out 1; have hfz111_2 := blk_frozen BK222.out 2; have hfz111_3 := blk_frozen BK222.out 3; have hnb112 := NB179_178.out; have hnc112 := NB178_179.out; have hnb113 := NB179_0.out; have hnc113 := NB0_179.out; have hcz114_0 := zc0 BK179 0 rfl; have hcz114_1 := zc0 BK179 1 rfl; have hcz114_2 := zc0 BK179 2 rfl; have hcz114_3 := zc0 BK179 3 rfl; have hfz114_0 := blk_frozen BK179.out 0; have hfz114_1 := blk_frozen BK179.out 1; have hfz114_2 := blk_frozen BK179.out 2; have hfz114_3 := blk_frozen BK179.out 3))
             refine bodyPost_ret (results_cell_row rfl _ _ gb179 54 #[.int .i64 t202, .int .i64 t207, .int .i64 x8_42, .int .i64 t247] (0, 0) _ rfl (by (with_reducible repeat (first | refine blk_drewN ?_ _ | refine blk_drew ?_ | refine blk_alloc ?_ _)); refine blk_put (cs := #[.int .i64 t202, .int .i64 t207, .int .i64 x8_42, .int .i64 0]) ?_ 3 _ rfl; refine blk_put (cs := #[.int .i64 t202, .int .i64 t207, .int .i64 0, .int .i64 0]) ?_ 2 _ rfl; refine blk_put (cs := #[.int .i64 t202, .int .i64 0, .int .i64 0, .int .i64 0]) ?_ 1 _ rfl; refine blk_put (cs := #[.int .i64 0, .int .i64 0, .int .i64 0, .int .i64 0]) ?_ 0 _ rfl; refine blk_far ?_ NB179_222.out _; (with_reducible repeat (first | refine blk_drewN ?_ _ | refine blk_drew ?_ | refine blk_alloc ?_ _)); exact BK179.out) Try.underlying54 rfl (by kernel_rfl)) rfl ?_
             exact ⟨by first | rfl | (simp <;> rfl) | (simp [*] <;> rfl), by repeat (first | (with_reducible first | exact HI0.out | apply IsS82.alloc | apply IsS82.drewN | apply IsS82.drew | apply IsS82.set_1 | apply IsS82.set_2 | refine IsS82.far ?_ NB0_178.out _ | refine IsS82.far ?_ NB0_179.out _ | refine IsS82.far ?_ NB0_222.out _) | exact HI0.out), by repeat (first | (with_reducible first | exact HB.out | apply below_alloc | apply pw_below_drewN | apply below_drew1 | refine below_set ?_ (IsS82.ge HI0.out) | refine below_set ?_ GE178.out | refine below_set ?_ GE179.out | refine below_set ?_ GE222.out) | exact HB.out), by repeat (first | (with_reducible first | exact HK.out | apply KeepBut.set_ | apply keep_drewN | apply keep_drew | apply keep_alloc | refine keep_far ?_ GW178.out _ | refine keep_far ?_ GW179.out _ | refine keep_far ?_ GW222.out _) | exact HK.out)⟩
            ·rw [if_neg c100] at H
             have c100b0 : (t229 == 2) = false := beq_eq_false_iff_ne.mpr c100
             have c100b1 : (t229 != 2) = true := bne_iff_ne.mpr c100
             simp only [Option.some.injEq, Prod.mk.injEq] at H
             obtain ⟨rfl, rfl, rfl, rfl, rfl, rfl⟩ := H
             go_wp2_with (first | ((with_reducible refine gate_callee (f := 56) rfl ?_); refine goesL_ (some 81) rfl rfl Try.func56 (by kernel_rfl) rfl #[.pointer (some ⟨g, 0, none⟩), .int .i64 60] rfl (by (try simp only [zq1, zq2, zq3]); first | done | rfl | (simp only [List.length_drop, List.length_take]; rfl)) ?_; (with_reducible refine (spec_l1Cur_pick.calls g s0_0 x1001_57 x1002_57 60 t229 t230 t231 w0 _ ?side1 ?side2 A70.out).mono ?_); (case side1 => repeat (first | (with_reducible first | exact HI0.out | apply IsS82.alloc | apply IsS82.drewN | apply IsS82.drew | apply IsS82.set_1 | apply IsS82.set_2 | refine IsS82.far ?_ NB0_178.out _ | refine IsS82.far ?_ NB0_179.out _ | refine IsS82.far ?_ NB0_222.out _) | exact HI0.out)); (case side2 => repeat (first | (with_reducible first | exact HB.out | apply below_alloc | apply pw_below_drewN | apply below_drew1 | refine below_set ?_ (IsS82.ge HI0.out) | refine below_set ?_ GE178.out | refine below_set ?_ GE179.out | refine below_set ?_ GE222.out) | exact HB.out)); rintro e w115 ⟨rfl, hi, hb, hk⟩; refine ⟨_, rfl, ?_⟩; replace BK178 := Aside0.mk (KeepBut.blk hk (g' := gb178) (o := .cells #[.slice (some ad205) l1_0.length c1_0] 32 (0, 0)) (zk0 BK178) NB178_0.out (by simp)); replace BK179 := Aside0.mk (KeepBut.blk hk (g' := gb179) (o := .cells #[.int .i64 0, .int .i64 0, .int .i64 0, .int .i64 0] 54 (0, 0)) (zk0 BK179) NB179_0.out (by simp)); replace BK222 := Aside0.mk (KeepBut.blk hk (g' := gb222) (o := .cells #[.int .i64 t202, .int .i64 t207, .int .i64 x8_42, .int .i64 x223003_57] 54 (0, 0)) (zk0 BK222) NB222_0.out (by simp)); replace HK := Aside0.mk (KeepBut.trans (by repeat (first | (with_reducible first | exact HK.out | apply KeepBut.set_ | apply keep_drewN | apply keep_drew | apply keep_alloc | refine keep_far ?_ GW178.out _ | refine keep_far ?_ GW179.out _ | refine keep_far ?_ GW222.out _) | exact HK.out)) hk (.inl rfl)); replace HB := Aside0.mk (hb); replace HI0 := Aside0.mk (hi); (try clear hb); (try clear hb2); (try clear hk); (try clear hi); have hnb116 := NB222_178.out; have hnc116 := NB178_222.out; have hnb117 := NB222_179.out; have hnc117 := NB179_222.out; have hnb118 := NB222_0.out; have hnc118 := NB0_222.out; have hcz119_0 := zc0 BK222 0 rfl; have hcz119_1 := zc0 BK222 1 rfl; have hcz119_2 := zc0 BK222 2 rfl; have hcz119_3 := zc0 BK222 3 rfl; have hfz119_0 := blk_frozen BK222.out 0; have hfz119_1 := blk_frozen BK222.out 1; have hfz119_2 := blk_frozen BK222.out 2; have hfz119_3 := blk_frozen BK222.out 3; have hnb120 := NB179_178.out; have hnc120 := NB178_179.out; have hnb121 := NB179_0.out; have hnc121 := NB0_179.out; have hcz122_0 := zc0 BK179 0 rfl; have hcz122_1 := zc0 BK179 1 rfl; have hcz122_2 := zc0 BK179 2 rfl; have hcz122_3 := zc0 BK179 3 rfl; have hfz122_0 := blk_frozen BK179.out 0; have hfz122_1 := blk_frozen BK179.out 1; have hfz122_2 := blk_frozen BK179.out 2; have hfz122_3 := blk_frozen BK179.out 3))
             refine bodyPost_ret (results_cell_row rfl _ _ gb179 54 #[.int .i64 t202, .int .i64 t207, .int .i64 x8_42, .int .i64 x223003_57] (0, 0) _ rfl (by (with_reducible repeat (first | refine blk_drewN ?_ _ | refine blk_drew ?_ | refine blk_alloc ?_ _)); refine blk_put (cs := #[.int .i64 t202, .int .i64 t207, .int .i64 x8_42, .int .i64 0]) ?_ 3 _ rfl; refine blk_put (cs := #[.int .i64 t202, .int .i64 t207, .int .i64 0, .int .i64 0]) ?_ 2 _ rfl; refine blk_put (cs := #[.int .i64 t202, .int .i64 0, .int .i64 0, .int .i64 0]) ?_ 1 _ rfl; refine blk_put (cs := #[.int .i64 0, .int .i64 0, .int .i64 0, .int .i64 0]) ?_ 0 _ rfl; (with_reducible repeat (first | refine blk_drewN ?_ _ | refine blk_drew ?_ | refine blk_alloc ?_ _)); exact BK179.out) Try.underlying54 rfl (by kernel_rfl)) rfl ?_
             exact ⟨by first | rfl | (simp <;> rfl) | (simp [*] <;> rfl), by repeat (first | (with_reducible first | exact HI0.out | apply IsS82.alloc | apply IsS82.drewN | apply IsS82.drew | apply IsS82.set_1 | apply IsS82.set_2 | refine IsS82.far ?_ NB0_178.out _ | refine IsS82.far ?_ NB0_179.out _ | refine IsS82.far ?_ NB0_222.out _) | exact HI0.out), by repeat (first | (with_reducible first | exact HB.out | apply below_alloc | apply pw_below_drewN | apply below_drew1 | refine below_set ?_ (IsS82.ge HI0.out) | refine below_set ?_ GE178.out | refine below_set ?_ GE179.out | refine below_set ?_ GE222.out) | exact HB.out), by repeat (first | (with_reducible first | exact HK.out | apply KeepBut.set_ | apply keep_drewN | apply keep_drew | apply keep_alloc | refine keep_far ?_ GW178.out _ | refine keep_far ?_ GW179.out _ | refine keep_far ?_ GW222.out _) | exact HK.out)⟩
     ·rw [if_neg c37] at H
      exact absurd H (by simp)
    ·rw [if_neg c36] at H
     exact absurd H (by simp)

/-! ### spec_DrawKeyAt: function 28 (by hand) -/
/-- What the draws of a memory and a window come to. -/
def spec_DrawKeyAt.Fact : Prop := (∀ l : List Int, (∀ x ∈ l, 0 ≤ x ∧ x ≤ 255) → ∃ (k : Nat) (m : List (List Int)) (j : Nat) (t : Int), spec_l1Cur_memory.f k l 0 0 = some (m, (j : Int), t) ∧ j ≤ 2000 ∧ m.length ≤ 17 ∧ ∀ r ∈ m, r.length ≤ 65) ∧
  (∀ l : List Int, (∀ x ∈ l, 0 ≤ x ∧ x ≤ 255) → ∀ (i : Nat), i ≤ 900000 → ∀ (s : Int) (m : List (List Int)), m.length ≤ 18 → (∀ r ∈ m, r.length ≤ 65) → ∃ (k : Nat) (x1 x2 x3 x4 : Int) (j : Nat) (t : Int), spec_l1Cur_window.f k l (i : Int) s m = some (x1, x2, x3, x4, (j : Int), t) ∧ j ≤ i + 100) ∧
  (∀ m : List (List Int), m.length ≤ 20 → ∃ (k : Nat) (b : Bool), spec_l2Memory.f k m = some b)
theorem spec_DrawKeyAt.onRows {d : Kd (List Int)} {e : Nat} {v : Value} {xs : List (List Int)} {w0 W W' : World} {g i : Nat} {s0 : List Int} {s1 s2 t1 t2 : Int} {Ps : List Lv.Fact} (h : Lv.Inv w0 W Ps) (hi : Ps[i]? = some (spec_l1Cur_key9.curF w0 g s0 s1 s2)) (hr : Kd.S d e W' W.heap.size (fun _ => True) v xs) (hI : IsS82 w0 W' g s0 t1 t2) (hB : Below w0.heap.size w0 W') (hK : KeepBut W W' g none) : Lv.Inv w0 W' (Lv.rowsF d e w0.heap.size v xs :: Ps.set i (spec_l1Cur_key9.curF w0 g s0 t1 t2)) := by
  obtain ⟨S, h1, h2, h3⟩ := h.live.write hi
  have hs := h2.now.1
  have hl := h3 W' (spec_l1Cur_key9.curF w0 g s0 t1 t2) (fun k hk hn => hK.2 k hk.2 (fun e => hn (e ▸ hs)) (by simp)) (spec_l1Cur_key9.foot hs hI)
  refine ⟨hB, fun k => W.heap.size ≤ k ∧ k < W'.heap.size, fun k hk => ⟨Nat.le_trans h.bel.size hk.1, hk.2⟩, Lv.foot_rows (Kd.S_mono (Kd.S_lower (Kd.S_bound hr) h.bel.size) (fun k hk => ⟨hk.2.1, hk.2.2.1⟩)), hl.mono (fun k hk => ⟨⟨hk.1, Nat.lt_of_lt_of_le hk.2 hK.1⟩, fun hx => Nat.not_lt_of_le hx.1 hk.2⟩)⟩
theorem spec_DrawKeyAt.past {d : Kd (List Int)} {e b c : Nat} {A : Option Addr} {xs : List (List Int)} {w0 W W_ : World} {g : Nat} {s0 : List Int} {s1 s2 : Int} {E : List Lv.Fact} (h : Lv.Inv w0 W (spec_l1Cur_key9.curF w0 g s0 s1 s2 :: E)) (hK : KeepBut W W_ g none) (i : Nat) (hi : E[i]? = some (Lv.rowsF d e b (.slice A xs.length c) xs)) : Kd.C d W_ A xs.length xs := by
  obtain ⟨S, h1, h2, h3⟩ := h.live
  have hs := h2.now.1
  obtain ⟨S', _, h5⟩ := Lv.Live.get (h3.step (fun k hk => hK.2 k hk.1.2 (fun e => hk.2 (e ▸ hs)) (by simp))) hi
  exact (Kd.S_reads' h5).2.2
/-- What the draw leaves. -/
def spec_DrawKeyAt.Post (w : World) (e : Ending) (w' : World) : Prop := ∃ (A : Option Addr) (c : Nat) (m : List (List Int)) (x1 x2 x3 x4 i : Int), e = .returned (.tuple #[.agg #[.slice A m.length c], .agg #[.int .i64 x1, .int .i64 x2, .int .i64 x3, .int .i64 x4], .int .i64 i]) ∧ m.length ≤ 20 ∧ Kd.S (Kd.slice 5 (Kd.int .u8)) 43 w' w.heap.size (fun _ => True) (.slice A m.length c) m ∧ Below w.heap.size w w'
set_option maxHeartbeats 40000000 in
set_option maxRecDepth 100000 in
theorem spec_DrawKeyAt.calls (HF : spec_l1Cur_key9.Fact) (HM : spec_DrawKeyAt.Fact) (A0 : Option Addr) (c0 : Nat) (l0 : List Int) (hU : ∀ x ∈ l0, 0 ≤ x ∧ x ≤ 255) (w : World) (hr0 : Kd.C (Kd.int .u8) w A0 l0.length l0) (hc0 : l0.length ≤ c0) :
    Calls Try.prog 28 #[.slice A0 l0.length c0] w fun e w' => spec_DrawKeyAt.Post w e w' := by
  have HMM := Lib.hid HM
  clear HM
  have HFF := Lib.hid HF
  have HU := Lib.hid hU
  have HR0 := Lib.hid hr0
  clear HF hU hr0 hc0
  obtain ⟨g2, hg2⟩ : ∃ x, x = w.heap.size := ⟨_, rfl⟩
  obtain ⟨g3, hg3⟩ : ∃ x, x = w.heap.size + 1 := ⟨_, rfl⟩
  obtain ⟨W0, hW⟩ : ∃ W, W = ((w).alloc (.cells (#[.slice none 0 0]) 32)).alloc (.cells (#[.int .i64 0, .int .i64 0, .int .i64 0, .int .i64 0]) 54) := ⟨_, rfl⟩
  have HI : Hid (Lv.Inv w W0 [Lv.boxF g3 (#[.int .i64 0, .int .i64 0, .int .i64 0, .int .i64 0]) 54, Lv.boxF g2 (#[.slice none 0 0]) 32]) := by
    subst hW hg2 hg3
    have := ((Lv.Inv.refl w).box (#[.slice none 0 0]) 32).box (#[.int .i64 0, .int .i64 0, .int .i64 0, .int .i64 0]) 54
    exact Lib.hid (by simpa using this)
  go_enter Try.func28, Try.ntmps28
  go_upto_region 1 with (fail)
  rw [← hW, ← hg3, ← hg2]
  clear hW hg2 hg3
  refine Fl.startL [.take 0, .take 1, .one 2, .take 3] (by decide) HI.out ?_
  refine Fl.take (some 8) (v := .slice A0 l0.length c0) rfl rfl (Or.inl ⟨by rfl, fun _ _ => by rfl⟩) ?_
  simp only [Act.put, Fl.z1, Fl.z2, Fl.z3]
  refine Fl.take (some 9) (v := .agg #[.slice A0 l0.length c0, .int .i64 0, .int .u64 0]) rfl rfl (Or.inl ⟨by rfl, fun _ _ => by first | rfl | (go_simp; done) | (go_simp; rfl) | (go_simp; simp only [i64_w])⟩) ?_
  simp only [Act.put, Fl.z1, Fl.z2, Fl.z3]
  refine spec_l1Cur_key9.boxed (N := 10) (cs := #[.slice A0 l0.length c0, .int .i64 0, .int .u64 0]) (t := 82) rfl rfl (by rfl) (fun w => by first | (go_simp; done) | (go_simp; rfl)) (fun gc => ?_)
  simp only [Act.put, Fl.z1, Fl.z2, Fl.z3]
  refine Fl.take (some 5) (v := .pointer (some ⟨gc, 0, none⟩)) rfl rfl (Or.inl ⟨by rfl, fun _ _ => by rfl⟩) ?_
  simp only [Act.put, Fl.z1, Fl.z2, Fl.z3]
  refine Fl.stop (fun W hi => ?_)
  replace HI := Lib.hid hi
  clear hi
  replace HI := Lib.hid (spec_l1Cur_key9.ofBox HI.out HR0.out)
  obtain ⟨k0_, m, j, t, hm, hj, hml, hmr⟩ := HMM.out.1 l0 HU.out
  have HM := Lib.hid hm
  have HJ := Lib.hid hj
  have HML := Lib.hid hml
  have HMR := Lib.hid hmr
  clear hm hj hml hmr
  go_upto_region 2 with (fail)
  refine Fl.startW [.take 0, .one 1, .one 2, .one 3] (by decide) HI.out ?_
  refine Fl.take (some 11) (v := .pointer (some ⟨gc, 0, none⟩)) rfl rfl (Or.inl ⟨by rfl, fun _ _ => by rfl⟩) ?_
  simp only [Act.put, Fl.z1, Fl.z2, Fl.z3]
  refine Fl.call (some 12) Try.func52 (by kernel_rfl) rfl #[.pointer (some ⟨gc, 0, none⟩)] rfl rfl rfl (by rfl) rfl (fun E2 W2 hE2 hi => ?_)
  refine (spec_l1Cur_memory.calls k0_ gc l0 0 0 m j t w W2 (spec_l1Cur_key9.got hi (i := 0) rfl) hi.bel HM.out).mono ?_
  rintro e W' ⟨v0, rfl, hr2, hI2, hB2, hK2⟩
  obtain ⟨Am, cm, rfl⟩ := Kd.S_slice hr2
  refine Fl.keepI (F := []) (v := .agg #[.slice Am m.length cm]) (F' := [Lv.rowsF (Kd.slice 5 (Kd.int .u8)) 43 w.heap.size (.slice Am m.length cm) m, spec_l1Cur_key9.curF w gc l0 (j : Int) t, Lv.boxF g3 #[.int .i64 0, .int .i64 0, .int .i64 0, .int .i64 0] 54, Lv.boxF g2 #[.slice none 0 0] 32]) (spec_DrawKeyAt.onRows hi (i := 0) rfl hr2 hI2 hB2 hK2) ?_
  clear hi hr2 hI2 hB2 hK2 hE2
  simp only [Act.put, Fl.z1, Fl.z2, Fl.z3]
  refine Fl.var (N := 6) (cs := #[.slice none 0 0]) (t := 32) ⟨_, rfl, rfl, fun _ => rfl, fun e w => by first | (go_simp; done) | (go_simp; rfl)⟩ (fun g6 => ?_)
  simp only [Act.put, Fl.z1, Fl.z2, Fl.z3]
  refine Fl.store 0 #[.slice Am m.length cm] rfl rfl rfl rfl _ _ _ rfl rfl rfl (by rfl) rfl (by kernel_rfl) (by simp [Value.oneCell']) ?_
  refine Fl.stopW (fun W hi => ?_)
  replace HI := Lib.hid hi
  clear hi
  obtain ⟨q, j2, t2, ho, hj2⟩ := (HFF.out l0 HU.out j (by have := HJ.out; omega) t).2.2.1 2 (by decide)
  have HO := Lib.hid ho
  have HJ2 : Hid (j2 ≤ 3000) := Lib.hid (by have := HJ.out; omega)
  clear ho hj2
  cases q with
  | false =>
    go_upto_region 3 with (fail)
    refine Fl.startW [.take 0, .one 1, .take 2, .take 3, .take 4, .take 5, .take 6, .take 7, .take 8, .take 9, .take 10, .take 11] (by decide) HI.out ?_
    refine Fl.take (some 13) (v := .pointer (some ⟨gc, 0, none⟩)) rfl rfl (Or.inl ⟨by rfl, fun _ _ => by rfl⟩) ?_
    simp only [Act.put, Fl.z1, Fl.z2, Fl.z3]
    refine Fl.call (some 14) Try.func50 (by kernel_rfl) rfl #[.pointer (some ⟨gc, 0, none⟩), .int .i64 2] rfl rfl rfl (by rfl) rfl (fun E2 W2 hE2 hi => ?_)
    refine (spec_l1Cur_one.calls gc l0 j t 2 false j2 t2 w W2 (spec_l1Cur_key9.got hi (i := 2) rfl) hi.bel HO.out).mono ?_
    rintro e W' ⟨rfl, hI2, hB2, hK2⟩
    refine Fl.keepI (F := []) (v := .bool false) (F' := [Lv.boxF g6 #[.slice Am m.length cm] 32, Lv.rowsF (Kd.slice 5 (Kd.int .u8)) 43 w.heap.size (.slice Am m.length cm) m, spec_l1Cur_key9.curF w gc l0 (j2 : Int) t2, Lv.boxF g3 #[.int .i64 0, .int .i64 0, .int .i64 0, .int .i64 0] 54, Lv.boxF g2 #[.slice none 0 0] 32]) (spec_l1Cur_key9.on hi (i := 2) rfl hI2 hB2 hK2) ?_
    clear hi hI2 hB2 hK2 hE2
    simp only [Act.put, Fl.z1, Fl.z2, Fl.z3]
    refine Fl.take (some 15) (v := .bool false) rfl rfl (Or.inl ⟨by rfl, fun _ _ => by rfl⟩) ?_
    simp only [Act.put, Fl.z1, Fl.z2, Fl.z3]
    refine Fl.take (some 16) (v := undef) rfl rfl (Or.inr ⟨by rfl, rfl⟩) ?_
    simp only [Act.put, Fl.z1, Fl.z2, Fl.z3]
    refine Fl.take (some 17) (v := undef) rfl rfl (Or.inr ⟨by rfl, rfl⟩) ?_
    simp only [Act.put, Fl.z1, Fl.z2, Fl.z3]
    refine Fl.take (some 18) (v := .bool false) rfl rfl (Or.inl ⟨by rfl, fun _ _ => by rfl⟩) ?_
    simp only [Act.put, Fl.z1, Fl.z2, Fl.z3]
    refine Fl.take (some 19) (v := .bool false) rfl rfl (Or.inl ⟨by rfl, fun _ _ => by rfl⟩) ?_
    simp only [Act.put, Fl.z1, Fl.z2, Fl.z3]
    refine Fl.take (some 20) (v := undef) rfl rfl (Or.inr ⟨by rfl, rfl⟩) ?_
    simp only [Act.put, Fl.z1, Fl.z2, Fl.z3]
    refine Fl.take (some 21) (v := undef) rfl rfl (Or.inr ⟨by rfl, rfl⟩) ?_
    simp only [Act.put, Fl.z1, Fl.z2, Fl.z3]
    refine Fl.take (some 22) (v := undef) rfl rfl (Or.inr ⟨by rfl, rfl⟩) ?_
    simp only [Act.put, Fl.z1, Fl.z2, Fl.z3]
    refine Fl.take (some 23) (v := undef) rfl rfl (Or.inr ⟨by rfl, rfl⟩) ?_
    simp only [Act.put, Fl.z1, Fl.z2, Fl.z3]
    refine Fl.take (some 24) (v := .bool false) rfl rfl (Or.inl ⟨by rfl, fun _ _ => by rfl⟩) ?_
    simp only [Act.put, Fl.z1, Fl.z2, Fl.z3]
    refine Fl.stopW (fun W hi => ?_)
    replace HI := Lib.hid hi
    clear hi
    have HML2 : Hid (m.length ≤ 20) := Lib.hid (by have := HML.out; omega)
    obtain ⟨k3, wa, ws, wl, wc, j3, t3, hw_, hj3⟩ := HMM.out.2.1 l0 HU.out j2 (by have := HJ2.out; omega) t2 m (by have := HML.out; omega) HMR.out
    have HW := Lib.hid hw_
    obtain ⟨v3, j4, t4, ha, _, _⟩ := (HFF.out l0 HU.out j3 (by have := HJ2.out; omega) t3).2.1 [0, 1, 2, (-1), 48, 4611686018427387904] (by decide) (by decide)
    have HAM := Lib.hid ha
    clear hw_ hj3 ha
    replace HI : Hid (Lv.Inv w W [Lv.boxF g6 #[.slice Am m.length cm] 32, Lv.rowsF (Kd.slice 5 (Kd.int .u8)) 43 w.heap.size (.slice Am m.length cm) m, spec_l1Cur_key9.curF w gc l0 (j2 : Int) t2, Lv.boxF g3 #[.int .i64 0, .int .i64 0, .int .i64 0, .int .i64 0] 54, Lv.boxF g2 #[.slice none 0 0] 32]) := Lib.hid (HI.out.front 0 rfl)
    replace HI : Hid (Lv.Inv w W [Lv.boxF g3 #[.int .i64 0, .int .i64 0, .int .i64 0, .int .i64 0] 54, Lv.boxF g6 #[.slice Am m.length cm] 32, Lv.rowsF (Kd.slice 5 (Kd.int .u8)) 43 w.heap.size (.slice Am m.length cm) m, spec_l1Cur_key9.curF w gc l0 (j2 : Int) t2, Lv.boxF g2 #[.slice none 0 0] 32]) := Lib.hid (HI.out.front 3 rfl)
    replace HI : Hid (Lv.Inv w W [Lv.boxF g2 #[.slice none 0 0] 32, Lv.boxF g3 #[.int .i64 0, .int .i64 0, .int .i64 0, .int .i64 0] 54, Lv.boxF g6 #[.slice Am m.length cm] 32, Lv.rowsF (Kd.slice 5 (Kd.int .u8)) 43 w.heap.size (.slice Am m.length cm) m, spec_l1Cur_key9.curF w gc l0 (j2 : Int) t2]) := Lib.hid (HI.out.front 4 rfl)
    replace HI : Hid (Lv.Inv w W [Lv.rowsF (Kd.slice 5 (Kd.int .u8)) 43 w.heap.size (.slice Am m.length cm) m, Lv.boxF g2 #[.slice none 0 0] 32, Lv.boxF g3 #[.int .i64 0, .int .i64 0, .int .i64 0, .int .i64 0] 54, Lv.boxF g6 #[.slice Am m.length cm] 32, spec_l1Cur_key9.curF w gc l0 (j2 : Int) t2]) := Lib.hid (HI.out.front 3 rfl)
    replace HI : Hid (Lv.Inv w W [spec_l1Cur_key9.curF w gc l0 (j2 : Int) t2, Lv.rowsF (Kd.slice 5 (Kd.int .u8)) 43 w.heap.size (.slice Am m.length cm) m, Lv.boxF g2 #[.slice none 0 0] 32, Lv.boxF g3 #[.int .i64 0, .int .i64 0, .int .i64 0, .int .i64 0] 54, Lv.boxF g6 #[.slice Am m.length cm] 32]) := Lib.hid (HI.out.front 4 rfl)
    go_upto_region 9 with (fail)
    refine Fm.startF (F := [_, _, _, _]) [([],[]),([],[]),([],[]),([1,2],[1,2]),([],[]),([],[]),([4,5,3],[4,5]),([0,6,0],[0]),([3,7,0,1,2,3,7],[3]),([6,8,0,1,2,3,4,5,6,7,8],[6])] [⟨5, 67, #[.int .i64 0, .int .i64 1, .int .i64 2, .int .i64 (-1), .int .i64 48, .int .i64 4611686018427387904], 3, fun g => .slice (some ⟨g, 0, none⟩) 6 6⟩] 11 [.take 0, .take 1, .take 2, .take 4, .one 3] [.one 6, .one 7, .one 8, .take 9] (by kernel_rfl) (by kernel_rfl) (by decide) (by decide) (by kernel_rfl) (by kernel_rfl) (Fm.mkc ⟨_, rfl, rfl, fun _ => rfl, fun e w => by first | (go_simp; done) | (go_simp; rfl)⟩ Fm.mk0) HI.out ?_
    refine Fl.take (some 62) (v := .agg #[.slice Am m.length cm]) rfl rfl (Fl.ld 0 rfl (by rfl) _ _ rfl rfl Try.underlying32 rfl (by kernel_rfl)) ?_
    simp only [Act.put, Fl.z1, Fl.z2, Fl.z3]
    refine Fl.take (some 63) (v := .pointer (some ⟨gc, 0, none⟩)) rfl rfl (Or.inl ⟨by rfl, fun _ _ => by rfl⟩) ?_
    simp only [Act.put, Fl.z1, Fl.z2, Fl.z3]
    refine Fl.take (some 64) (v := .agg #[.slice Am m.length cm]) rfl rfl (Fl.ld 0 rfl (by rfl) _ _ rfl rfl Try.underlying32 rfl (by kernel_rfl)) ?_
    simp only [Act.put, Fl.z1, Fl.z2, Fl.z3]
    refine Fl.take (some 66) (v := .pointer (some ⟨gc, 0, none⟩)) rfl rfl (Or.inl ⟨by rfl, fun _ _ => by rfl⟩) ?_
    simp only [Act.put, Fl.z1, Fl.z2, Fl.z3]
    refine Fl.call (some 65) Try.func57 (by kernel_rfl) rfl #[.pointer (some ⟨gc, 0, none⟩), .agg #[.slice Am m.length cm]] rfl rfl rfl (by rfl) rfl (fun E2 W2 hE2 hi => ?_)
    refine (spec_l1Cur_window.calls k3 gc l0 j2 t2 Am cm m wa ws wl wc j3 t3 w W2 (spec_l1Cur_key9.got hi (i := 0) rfl) hi.bel (fun W_ hK_ => spec_DrawKeyAt.past hi hK_ 0 rfl) (hi.lS 1 rfl) HW.out).mono ?_
    rintro e W' ⟨rfl, hI2, hB2, hK2⟩
    refine Fl.keepI (F := []) (v := .agg #[.int .i64 wa, .int .i64 ws, .int .i64 wl, .int .i64 wc]) (F' := [spec_l1Cur_key9.curF w gc l0 (j3 : Int) t3, Lv.rowsF (Kd.slice 5 (Kd.int .u8)) 43 w.heap.size (.slice Am m.length cm) m, Lv.boxF g2 #[.slice none 0 0] 32, Lv.boxF g3 #[.int .i64 0, .int .i64 0, .int .i64 0, .int .i64 0] 54]) (spec_l1Cur_key9.on hi (i := 0) rfl hI2 hB2 hK2) ?_
    clear hi hI2 hB2 hK2 hE2
    simp only [Act.put, Fl.z1, Fl.z2, Fl.z3]
    refine Fm.fin1 (fun bl => ?_)
    simp only [Act.put, Fl.z1, Fl.z2, Fl.z3]
    refine Fl.call (some 68) Try.func55 (by kernel_rfl) rfl #[.pointer (some ⟨gc, 0, none⟩), .slice (some ⟨bl, 0, none⟩) 6 6] rfl rfl rfl (by rfl) rfl (fun E2 W2 hE2 hi => ?_)
    refine (spec_l1Cur_among.calls gc l0 j3 t3 (some ⟨bl, 0, none⟩) 6 [0, 1, 2, (-1), 48, 4611686018427387904] v3 j4 t4 w W2 (spec_l1Cur_key9.got hi (i := 0) rfl) hi.bel (spec_l1Cur_key9.laid [0, 1, 2, (-1), 48, 4611686018427387904] (hi.front 4 rfl) (n := 6) rfl (by decide)) (Nat.le_refl _) (fun ad e _ => by cases e; exact ((spec_l1Cur_key9.got hi (i := 0) rfl).ne_blk (hi.blk 4 rfl) (by decide)).symm) HAM.out).mono ?_
    rintro e W' ⟨rfl, hI2, hB2, hK2⟩
    refine Fl.keepI (F := []) (v := .int .i64 v3) (F' := [spec_l1Cur_key9.curF w gc l0 (j4 : Int) t4, Lv.rowsF (Kd.slice 5 (Kd.int .u8)) 43 w.heap.size (.slice Am m.length cm) m, Lv.boxF g2 #[.slice none 0 0] 32, Lv.boxF g3 #[.int .i64 0, .int .i64 0, .int .i64 0, .int .i64 0] 54, Lv.boxF bl #[.int .i64 0, .int .i64 1, .int .i64 2, .int .i64 (-1), .int .i64 48, .int .i64 4611686018427387904] 3]) (spec_l1Cur_key9.on hi (i := 0) rfl hI2 hB2 hK2) ?_
    clear hi hI2 hB2 hK2 hE2
    simp only [Act.put, Fl.z1, Fl.z2, Fl.z3]
    refine Fl.store 2 #[.slice Am m.length cm] rfl rfl rfl rfl _ _ _ rfl rfl rfl (by rfl) rfl (by kernel_rfl) (by simp [Value.oneCell']) ?_
    refine Fl.store 3 #[.int .i64 wa, .int .i64 ws, .int .i64 wl, .int .i64 wc] rfl rfl rfl rfl _ _ _ rfl rfl rfl (by rfl) rfl (by kernel_rfl) (by simp [Value.oneCell']) ?_
    refine Fl.take (some 4) (v := .int .i64 v3) rfl rfl (Or.inl ⟨by rfl, fun _ _ => by rfl⟩) ?_
    simp only [Act.put, Fl.z1, Fl.z2, Fl.z3]
    refine Fl.stopN (fun W hi => ?_)
    replace HI := Lib.hid hi
    clear hi
    go_wp2
    refine bodyPost_ret (v := .tuple #[.agg #[.slice Am m.length cm], .agg #[.int .i64 wa, .int .i64 ws, .int .i64 wl, .int .i64 wc], .int .i64 v3]) (results_list (rs := [.cell 2 32, .cell 3 54, .tmp 4]) rfl (by simp) (.cell _ _ _ (0, 0) _ rfl (HI.out.blk 2 rfl) Try.underlying32 rfl (by kernel_rfl) (.cell _ _ _ (0, 0) _ rfl (HI.out.blk 3 rfl) Try.underlying54 rfl (by kernel_rfl) (.tmp .nil)))) rfl ?_
    obtain ⟨S_, _, hR_⟩ := HI.out.get 1 rfl
    unfold spec_DrawKeyAt.Post
    exact ⟨Am, cm, m, wa, ws, wl, wc, v3, rfl, by have := HML2.out; omega, Kd.S_mono hR_ (fun _ _ => trivial), HI.out.bel⟩
  | true =>
    obtain ⟨k2, bm, hl2⟩ := HMM.out.2.2 m (by have := HML.out; omega)
    have HL2 := Lib.hid hl2
    clear hl2
    cases bm with
    | false =>
      go_upto_region 3 with (fail)
      refine Fl.startW [.take 0, .one 1, .take 2, .one 3, .one 4, .take 5, .take 6, .take 7, .take 8, .take 9, .take 10, .take 11] (by decide) HI.out ?_
      refine Fl.take (some 13) (v := .pointer (some ⟨gc, 0, none⟩)) rfl rfl (Or.inl ⟨by rfl, fun _ _ => by rfl⟩) ?_
      simp only [Act.put, Fl.z1, Fl.z2, Fl.z3]
      refine Fl.call (some 14) Try.func50 (by kernel_rfl) rfl #[.pointer (some ⟨gc, 0, none⟩), .int .i64 2] rfl rfl rfl (by rfl) rfl (fun E2 W2 hE2 hi => ?_)
      refine (spec_l1Cur_one.calls gc l0 j t 2 true j2 t2 w W2 (spec_l1Cur_key9.got hi (i := 2) rfl) hi.bel HO.out).mono ?_
      rintro e W' ⟨rfl, hI2, hB2, hK2⟩
      refine Fl.keepI (F := []) (v := .bool true) (F' := [Lv.boxF g6 #[.slice Am m.length cm] 32, Lv.rowsF (Kd.slice 5 (Kd.int .u8)) 43 w.heap.size (.slice Am m.length cm) m, spec_l1Cur_key9.curF w gc l0 (j2 : Int) t2, Lv.boxF g3 #[.int .i64 0, .int .i64 0, .int .i64 0, .int .i64 0] 54, Lv.boxF g2 #[.slice none 0 0] 32]) (spec_l1Cur_key9.on hi (i := 2) rfl hI2 hB2 hK2) ?_
      clear hi hI2 hB2 hK2 hE2
      simp only [Act.put, Fl.z1, Fl.z2, Fl.z3]
      refine Fl.take (some 15) (v := .bool true) rfl rfl (Or.inl ⟨by rfl, fun _ _ => by rfl⟩) ?_
      simp only [Act.put, Fl.z1, Fl.z2, Fl.z3]
      refine Fl.ldF (some 16) 0 rfl rfl rfl (by rfl) _ _ rfl rfl Try.underlying32 rfl (by kernel_rfl) ?_
      simp only [Act.put, Fl.z1, Fl.z2, Fl.z3]
      refine Fl.call (some 17) Try.func53 (by kernel_rfl) rfl #[.agg #[.slice Am m.length cm]] rfl rfl rfl (by rfl) rfl (fun E2 W2 hE2 hi => ?_)
      refine (spec_l2Memory.calls k2 Am cm m false W2 (hi.cS 1 rfl) (hi.lS 1 rfl) HL2.out).mono ?_
      rintro e W' ⟨rfl, hb⟩
      refine Fl.keep (v := .bool false) hi hb ?_
      clear hi hb hE2
      simp only [Act.put, Fl.z1, Fl.z2, Fl.z3]
      refine Fl.take (some 18) (v := .bool false) rfl rfl (Or.inl ⟨by rfl, fun _ _ => by rfl⟩) ?_
      simp only [Act.put, Fl.z1, Fl.z2, Fl.z3]
      refine Fl.take (some 19) (v := .bool false) rfl rfl (Or.inl ⟨by rfl, fun _ _ => by rfl⟩) ?_
      simp only [Act.put, Fl.z1, Fl.z2, Fl.z3]
      refine Fl.take (some 20) (v := undef) rfl rfl (Or.inr ⟨by rfl, rfl⟩) ?_
      simp only [Act.put, Fl.z1, Fl.z2, Fl.z3]
      refine Fl.take (some 21) (v := undef) rfl rfl (Or.inr ⟨by rfl, rfl⟩) ?_
      simp only [Act.put, Fl.z1, Fl.z2, Fl.z3]
      refine Fl.take (some 22) (v := undef) rfl rfl (Or.inr ⟨by rfl, rfl⟩) ?_
      simp only [Act.put, Fl.z1, Fl.z2, Fl.z3]
      refine Fl.take (some 23) (v := undef) rfl rfl (Or.inr ⟨by rfl, rfl⟩) ?_
      simp only [Act.put, Fl.z1, Fl.z2, Fl.z3]
      refine Fl.take (some 24) (v := .bool false) rfl rfl (Or.inl ⟨by rfl, fun _ _ => by rfl⟩) ?_
      simp only [Act.put, Fl.z1, Fl.z2, Fl.z3]
      refine Fl.stopW (fun W hi => ?_)
      replace HI := Lib.hid hi
      clear hi
      have HML2 : Hid (m.length ≤ 20) := Lib.hid (by have := HML.out; omega)
      obtain ⟨k3, wa, ws, wl, wc, j3, t3, hw_, hj3⟩ := HMM.out.2.1 l0 HU.out j2 (by have := HJ2.out; omega) t2 m (by have := HML.out; omega) HMR.out
      have HW := Lib.hid hw_
      obtain ⟨v3, j4, t4, ha, _, _⟩ := (HFF.out l0 HU.out j3 (by have := HJ2.out; omega) t3).2.1 [0, 1, 2, (-1), 48, 4611686018427387904] (by decide) (by decide)
      have HAM := Lib.hid ha
      clear hw_ hj3 ha
      replace HI : Hid (Lv.Inv w W [Lv.boxF g6 #[.slice Am m.length cm] 32, Lv.rowsF (Kd.slice 5 (Kd.int .u8)) 43 w.heap.size (.slice Am m.length cm) m, spec_l1Cur_key9.curF w gc l0 (j2 : Int) t2, Lv.boxF g3 #[.int .i64 0, .int .i64 0, .int .i64 0, .int .i64 0] 54, Lv.boxF g2 #[.slice none 0 0] 32]) := Lib.hid (HI.out.front 0 rfl)
      replace HI : Hid (Lv.Inv w W [Lv.boxF g3 #[.int .i64 0, .int .i64 0, .int .i64 0, .int .i64 0] 54, Lv.boxF g6 #[.slice Am m.length cm] 32, Lv.rowsF (Kd.slice 5 (Kd.int .u8)) 43 w.heap.size (.slice Am m.length cm) m, spec_l1Cur_key9.curF w gc l0 (j2 : Int) t2, Lv.boxF g2 #[.slice none 0 0] 32]) := Lib.hid (HI.out.front 3 rfl)
      replace HI : Hid (Lv.Inv w W [Lv.boxF g2 #[.slice none 0 0] 32, Lv.boxF g3 #[.int .i64 0, .int .i64 0, .int .i64 0, .int .i64 0] 54, Lv.boxF g6 #[.slice Am m.length cm] 32, Lv.rowsF (Kd.slice 5 (Kd.int .u8)) 43 w.heap.size (.slice Am m.length cm) m, spec_l1Cur_key9.curF w gc l0 (j2 : Int) t2]) := Lib.hid (HI.out.front 4 rfl)
      replace HI : Hid (Lv.Inv w W [Lv.rowsF (Kd.slice 5 (Kd.int .u8)) 43 w.heap.size (.slice Am m.length cm) m, Lv.boxF g2 #[.slice none 0 0] 32, Lv.boxF g3 #[.int .i64 0, .int .i64 0, .int .i64 0, .int .i64 0] 54, Lv.boxF g6 #[.slice Am m.length cm] 32, spec_l1Cur_key9.curF w gc l0 (j2 : Int) t2]) := Lib.hid (HI.out.front 3 rfl)
      replace HI : Hid (Lv.Inv w W [spec_l1Cur_key9.curF w gc l0 (j2 : Int) t2, Lv.rowsF (Kd.slice 5 (Kd.int .u8)) 43 w.heap.size (.slice Am m.length cm) m, Lv.boxF g2 #[.slice none 0 0] 32, Lv.boxF g3 #[.int .i64 0, .int .i64 0, .int .i64 0, .int .i64 0] 54, Lv.boxF g6 #[.slice Am m.length cm] 32]) := Lib.hid (HI.out.front 4 rfl)
      go_upto_region 9 with (fail)
      refine Fm.startF (F := [_, _, _, _]) [([],[]),([],[]),([],[]),([1,2],[1,2]),([],[]),([],[]),([4,5,3],[4,5]),([0,6,0],[0]),([3,7,0,1,2,3,7],[3]),([6,8,0,1,2,3,4,5,6,7,8],[6])] [⟨5, 67, #[.int .i64 0, .int .i64 1, .int .i64 2, .int .i64 (-1), .int .i64 48, .int .i64 4611686018427387904], 3, fun g => .slice (some ⟨g, 0, none⟩) 6 6⟩] 11 [.take 0, .take 1, .take 2, .take 4, .one 3] [.one 6, .one 7, .one 8, .take 9] (by kernel_rfl) (by kernel_rfl) (by decide) (by decide) (by kernel_rfl) (by kernel_rfl) (Fm.mkc ⟨_, rfl, rfl, fun _ => rfl, fun e w => by first | (go_simp; done) | (go_simp; rfl)⟩ Fm.mk0) HI.out ?_
      refine Fl.take (some 62) (v := .agg #[.slice Am m.length cm]) rfl rfl (Fl.ld 0 rfl (by rfl) _ _ rfl rfl Try.underlying32 rfl (by kernel_rfl)) ?_
      simp only [Act.put, Fl.z1, Fl.z2, Fl.z3]
      refine Fl.take (some 63) (v := .pointer (some ⟨gc, 0, none⟩)) rfl rfl (Or.inl ⟨by rfl, fun _ _ => by rfl⟩) ?_
      simp only [Act.put, Fl.z1, Fl.z2, Fl.z3]
      refine Fl.take (some 64) (v := .agg #[.slice Am m.length cm]) rfl rfl (Fl.ld 0 rfl (by rfl) _ _ rfl rfl Try.underlying32 rfl (by kernel_rfl)) ?_
      simp only [Act.put, Fl.z1, Fl.z2, Fl.z3]
      refine Fl.take (some 66) (v := .pointer (some ⟨gc, 0, none⟩)) rfl rfl (Or.inl ⟨by rfl, fun _ _ => by rfl⟩) ?_
      simp only [Act.put, Fl.z1, Fl.z2, Fl.z3]
      refine Fl.call (some 65) Try.func57 (by kernel_rfl) rfl #[.pointer (some ⟨gc, 0, none⟩), .agg #[.slice Am m.length cm]] rfl rfl rfl (by rfl) rfl (fun E2 W2 hE2 hi => ?_)
      refine (spec_l1Cur_window.calls k3 gc l0 j2 t2 Am cm m wa ws wl wc j3 t3 w W2 (spec_l1Cur_key9.got hi (i := 0) rfl) hi.bel (fun W_ hK_ => spec_DrawKeyAt.past hi hK_ 0 rfl) (hi.lS 1 rfl) HW.out).mono ?_
      rintro e W' ⟨rfl, hI2, hB2, hK2⟩
      refine Fl.keepI (F := []) (v := .agg #[.int .i64 wa, .int .i64 ws, .int .i64 wl, .int .i64 wc]) (F' := [spec_l1Cur_key9.curF w gc l0 (j3 : Int) t3, Lv.rowsF (Kd.slice 5 (Kd.int .u8)) 43 w.heap.size (.slice Am m.length cm) m, Lv.boxF g2 #[.slice none 0 0] 32, Lv.boxF g3 #[.int .i64 0, .int .i64 0, .int .i64 0, .int .i64 0] 54]) (spec_l1Cur_key9.on hi (i := 0) rfl hI2 hB2 hK2) ?_
      clear hi hI2 hB2 hK2 hE2
      simp only [Act.put, Fl.z1, Fl.z2, Fl.z3]
      refine Fm.fin1 (fun bl => ?_)
      simp only [Act.put, Fl.z1, Fl.z2, Fl.z3]
      refine Fl.call (some 68) Try.func55 (by kernel_rfl) rfl #[.pointer (some ⟨gc, 0, none⟩), .slice (some ⟨bl, 0, none⟩) 6 6] rfl rfl rfl (by rfl) rfl (fun E2 W2 hE2 hi => ?_)
      refine (spec_l1Cur_among.calls gc l0 j3 t3 (some ⟨bl, 0, none⟩) 6 [0, 1, 2, (-1), 48, 4611686018427387904] v3 j4 t4 w W2 (spec_l1Cur_key9.got hi (i := 0) rfl) hi.bel (spec_l1Cur_key9.laid [0, 1, 2, (-1), 48, 4611686018427387904] (hi.front 4 rfl) (n := 6) rfl (by decide)) (Nat.le_refl _) (fun ad e _ => by cases e; exact ((spec_l1Cur_key9.got hi (i := 0) rfl).ne_blk (hi.blk 4 rfl) (by decide)).symm) HAM.out).mono ?_
      rintro e W' ⟨rfl, hI2, hB2, hK2⟩
      refine Fl.keepI (F := []) (v := .int .i64 v3) (F' := [spec_l1Cur_key9.curF w gc l0 (j4 : Int) t4, Lv.rowsF (Kd.slice 5 (Kd.int .u8)) 43 w.heap.size (.slice Am m.length cm) m, Lv.boxF g2 #[.slice none 0 0] 32, Lv.boxF g3 #[.int .i64 0, .int .i64 0, .int .i64 0, .int .i64 0] 54, Lv.boxF bl #[.int .i64 0, .int .i64 1, .int .i64 2, .int .i64 (-1), .int .i64 48, .int .i64 4611686018427387904] 3]) (spec_l1Cur_key9.on hi (i := 0) rfl hI2 hB2 hK2) ?_
      clear hi hI2 hB2 hK2 hE2
      simp only [Act.put, Fl.z1, Fl.z2, Fl.z3]
      refine Fl.store 2 #[.slice Am m.length cm] rfl rfl rfl rfl _ _ _ rfl rfl rfl (by rfl) rfl (by kernel_rfl) (by simp [Value.oneCell']) ?_
      refine Fl.store 3 #[.int .i64 wa, .int .i64 ws, .int .i64 wl, .int .i64 wc] rfl rfl rfl rfl _ _ _ rfl rfl rfl (by rfl) rfl (by kernel_rfl) (by simp [Value.oneCell']) ?_
      refine Fl.take (some 4) (v := .int .i64 v3) rfl rfl (Or.inl ⟨by rfl, fun _ _ => by rfl⟩) ?_
      simp only [Act.put, Fl.z1, Fl.z2, Fl.z3]
      refine Fl.stopN (fun W hi => ?_)
      replace HI := Lib.hid hi
      clear hi
      go_wp2
      refine bodyPost_ret (v := .tuple #[.agg #[.slice Am m.length cm], .agg #[.int .i64 wa, .int .i64 ws, .int .i64 wl, .int .i64 wc], .int .i64 v3]) (results_list (rs := [.cell 2 32, .cell 3 54, .tmp 4]) rfl (by simp) (.cell _ _ _ (0, 0) _ rfl (HI.out.blk 2 rfl) Try.underlying32 rfl (by kernel_rfl) (.cell _ _ _ (0, 0) _ rfl (HI.out.blk 3 rfl) Try.underlying54 rfl (by kernel_rfl) (.tmp .nil)))) rfl ?_
      obtain ⟨S_, _, hR_⟩ := HI.out.get 1 rfl
      unfold spec_DrawKeyAt.Post
      exact ⟨Am, cm, m, wa, ws, wl, wc, v3, rfl, by have := HML2.out; omega, Kd.S_mono hR_ (fun _ _ => trivial), HI.out.bel⟩
    | true =>
      by_cases hlt : (m.length : Int) < 16
      · have HLT := Lib.hid hlt
        clear hlt
        go_upto_region 3 with (fail)
        refine Fl.startW [.take 0, .one 1, .take 2, .one 3, .one 4, .take 5, .take 6, .take 7, .one 8, .take 9, .take 10, .take 11] (by decide) HI.out ?_
        refine Fl.take (some 13) (v := .pointer (some ⟨gc, 0, none⟩)) rfl rfl (Or.inl ⟨by rfl, fun _ _ => by rfl⟩) ?_
        simp only [Act.put, Fl.z1, Fl.z2, Fl.z3]
        refine Fl.call (some 14) Try.func50 (by kernel_rfl) rfl #[.pointer (some ⟨gc, 0, none⟩), .int .i64 2] rfl rfl rfl (by rfl) rfl (fun E2 W2 hE2 hi => ?_)
        refine (spec_l1Cur_one.calls gc l0 j t 2 true j2 t2 w W2 (spec_l1Cur_key9.got hi (i := 2) rfl) hi.bel HO.out).mono ?_
        rintro e W' ⟨rfl, hI2, hB2, hK2⟩
        refine Fl.keepI (F := []) (v := .bool true) (F' := [Lv.boxF g6 #[.slice Am m.length cm] 32, Lv.rowsF (Kd.slice 5 (Kd.int .u8)) 43 w.heap.size (.slice Am m.length cm) m, spec_l1Cur_key9.curF w gc l0 (j2 : Int) t2, Lv.boxF g3 #[.int .i64 0, .int .i64 0, .int .i64 0, .int .i64 0] 54, Lv.boxF g2 #[.slice none 0 0] 32]) (spec_l1Cur_key9.on hi (i := 2) rfl hI2 hB2 hK2) ?_
        clear hi hI2 hB2 hK2 hE2
        simp only [Act.put, Fl.z1, Fl.z2, Fl.z3]
        refine Fl.take (some 15) (v := .bool true) rfl rfl (Or.inl ⟨by rfl, fun _ _ => by rfl⟩) ?_
        simp only [Act.put, Fl.z1, Fl.z2, Fl.z3]
        refine Fl.ldF (some 16) 0 rfl rfl rfl (by rfl) _ _ rfl rfl Try.underlying32 rfl (by kernel_rfl) ?_
        simp only [Act.put, Fl.z1, Fl.z2, Fl.z3]
        refine Fl.call (some 17) Try.func53 (by kernel_rfl) rfl #[.agg #[.slice Am m.length cm]] rfl rfl rfl (by rfl) rfl (fun E2 W2 hE2 hi => ?_)
        refine (spec_l2Memory.calls k2 Am cm m true W2 (hi.cS 1 rfl) (hi.lS 1 rfl) HL2.out).mono ?_
        rintro e W' ⟨rfl, hb⟩
        refine Fl.keep (v := .bool true) hi hb ?_
        clear hi hb hE2
        simp only [Act.put, Fl.z1, Fl.z2, Fl.z3]
        refine Fl.take (some 18) (v := .bool true) rfl rfl (Or.inl ⟨by rfl, fun _ _ => by rfl⟩) ?_
        simp only [Act.put, Fl.z1, Fl.z2, Fl.z3]
        refine Fl.take (some 19) (v := .bool true) rfl rfl (Or.inl ⟨by rfl, fun _ _ => by rfl⟩) ?_
        simp only [Act.put, Fl.z1, Fl.z2, Fl.z3]
        refine Fl.take (some 20) (v := .pointer (some ⟨g6, 0, none⟩)) rfl rfl (Or.inl ⟨by rfl, fun _ _ => by first | rfl | (go_simp; done) | (go_simp; rfl) | (go_simp; omega)⟩) ?_
        simp only [Act.put, Fl.z1, Fl.z2, Fl.z3]
        refine Fl.ldXc (some 21) 0 0 rfl rfl rfl (by rfl) _ _ rfl rfl rfl Try.underlying22 rfl ?_
        simp only [Act.put, Fl.z1, Fl.z2, Fl.z3]
        refine Fl.take (some 22) (v := .int .i64 (m.length : Int)) rfl rfl (Or.inl ⟨by rfl, fun _ _ => by first | rfl | (go_simp; done) | (go_simp; rfl) | (go_simp; omega)⟩) ?_
        simp only [Act.put, Fl.z1, Fl.z2, Fl.z3]
        refine Fl.take (some 23) (v := .bool true) rfl rfl (Or.inl ⟨by rfl, fun _ _ => by have h_ := eq_true HLT.out; first | (go_simp; done) | (go_simp; rfl) | (go_simp; omega)⟩) ?_
        simp only [Act.put, Fl.z1, Fl.z2, Fl.z3]
        refine Fl.take (some 24) (v := .bool true) rfl rfl (Or.inl ⟨by rfl, fun _ _ => by rfl⟩) ?_
        simp only [Act.put, Fl.z1, Fl.z2, Fl.z3]
        refine Fl.stopW (fun W hi => ?_)
        replace HI := Lib.hid hi
        clear hi
        obtain ⟨v3, j3, t3, ha, hj3, hv3⟩ := (HFF.out l0 HU.out j2 (by have := HJ2.out; omega) t2).2.1 [16, 20, 64, 17] (by decide) (by decide)
        obtain ⟨nv, rfl, hnv⟩ : ∃ nv : Nat, v3 = (nv : Int) ∧ 0 < nv ∧ nv ≤ 65 := ⟨v3.toNat, by simp at hv3; omega, by simp at hv3; omega, by simp at hv3; omega⟩
        have HAM := Lib.hid ha
        have HNV := Lib.hid hnv
        have HJ3 : Hid (j3 ≤ 4000) := Lib.hid (by have := HJ2.out; omega)
        obtain ⟨kb, rb, j4, t4, hb, hj4, hrl, _⟩ := (HFF.out l0 HU.out j3 (by have := HJ3.out; omega) t3).2.2.2 nv (by omega)
        have HB := Lib.hid hb
        have HRL : Hid (0 < rb.length ∧ rb.length ≤ 65) := Lib.hid (by omega)
        have HJ4 : Hid (j4 ≤ 5000) := Lib.hid (by have := HJ3.out; omega)
        clear ha hj3 hv3 hnv hb hj4 hrl
        replace HI : Hid (Lv.Inv w W [Lv.boxF g6 #[.slice Am m.length cm] 32, Lv.rowsF (Kd.slice 5 (Kd.int .u8)) 43 w.heap.size (.slice Am m.length cm) m, spec_l1Cur_key9.curF w gc l0 (j2 : Int) t2, Lv.boxF g3 #[.int .i64 0, .int .i64 0, .int .i64 0, .int .i64 0] 54, Lv.boxF g2 #[.slice none 0 0] 32]) := Lib.hid (HI.out.front 0 rfl)
        replace HI : Hid (Lv.Inv w W [Lv.boxF g3 #[.int .i64 0, .int .i64 0, .int .i64 0, .int .i64 0] 54, Lv.boxF g6 #[.slice Am m.length cm] 32, Lv.rowsF (Kd.slice 5 (Kd.int .u8)) 43 w.heap.size (.slice Am m.length cm) m, spec_l1Cur_key9.curF w gc l0 (j2 : Int) t2, Lv.boxF g2 #[.slice none 0 0] 32]) := Lib.hid (HI.out.front 3 rfl)
        replace HI : Hid (Lv.Inv w W [Lv.boxF g2 #[.slice none 0 0] 32, Lv.boxF g3 #[.int .i64 0, .int .i64 0, .int .i64 0, .int .i64 0] 54, Lv.boxF g6 #[.slice Am m.length cm] 32, Lv.rowsF (Kd.slice 5 (Kd.int .u8)) 43 w.heap.size (.slice Am m.length cm) m, spec_l1Cur_key9.curF w gc l0 (j2 : Int) t2]) := Lib.hid (HI.out.front 4 rfl)
        replace HI : Hid (Lv.Inv w W [Lv.rowsF (Kd.slice 5 (Kd.int .u8)) 43 w.heap.size (.slice Am m.length cm) m, Lv.boxF g2 #[.slice none 0 0] 32, Lv.boxF g3 #[.int .i64 0, .int .i64 0, .int .i64 0, .int .i64 0] 54, Lv.boxF g6 #[.slice Am m.length cm] 32, spec_l1Cur_key9.curF w gc l0 (j2 : Int) t2]) := Lib.hid (HI.out.front 3 rfl)
        replace HI : Hid (Lv.Inv w W [spec_l1Cur_key9.curF w gc l0 (j2 : Int) t2, Lv.rowsF (Kd.slice 5 (Kd.int .u8)) 43 w.heap.size (.slice Am m.length cm) m, Lv.boxF g2 #[.slice none 0 0] 32, Lv.boxF g3 #[.int .i64 0, .int .i64 0, .int .i64 0, .int .i64 0] 54, Lv.boxF g6 #[.slice Am m.length cm] 32]) := Lib.hid (HI.out.front 4 rfl)
        go_upto_region 4 with (fail)
        refine Fz.startZ (F := [_, _, _, _]) 10 [([],[]),([0],[0]),([],[]),([],[]),([],[]),([3,4],[3,4]),([2,5,5],[2,5]),([6],[6]),([1,7,6],[1,7]),([0,1,2,3,4,5,6,7,8],[]),([9,8,8,0,1,2,3,4,5,6,7,8],[8,9])] [⟨4, 29, #[.int .i64 16, .int .i64 20, .int .i64 64, .int .i64 17], 3, fun g => .slice (some ⟨g, 0, none⟩) 4 4⟩] 11 [.take 0, .take 1, .take 2, .take 3] [.one 5, .one 6, .one 7, .one 8, .take 9] (by kernel_rfl) (by kernel_rfl) (by kernel_rfl) (by decide) (by decide) (by kernel_rfl) (by kernel_rfl) (Fm.mkc ⟨_, rfl, rfl, fun _ => rfl, fun e w => by first | (go_simp; done) | (go_simp; rfl)⟩ Fm.mk0) HI.out ?_
        refine Fl.take (some 25) (v := .pointer (some ⟨g6, 0, none⟩)) rfl rfl (Or.inl ⟨by rfl, fun _ _ => by first | rfl | (go_simp; done) | (go_simp; rfl) | (go_simp; omega)⟩) ?_
        simp only [Act.put, Fl.z1, Fl.z2, Fl.z3]
        refine Fl.take (some 26) (v := .slice Am m.length cm) rfl rfl (Fl.ldc 0 0 rfl (by rfl) _ _ rfl rfl rfl Try.underlying22 rfl) ?_
        simp only [Act.put, Fl.z1, Fl.z2, Fl.z3]
        refine Fl.take (some 27) (v := .pointer (some ⟨gc, 0, none⟩)) rfl rfl (Or.inl ⟨by rfl, fun _ _ => by rfl⟩) ?_
        simp only [Act.put, Fl.z1, Fl.z2, Fl.z3]
        refine Fl.take (some 28) (v := .pointer (some ⟨gc, 0, none⟩)) rfl rfl (Or.inl ⟨by rfl, fun _ _ => by rfl⟩) ?_
        simp only [Act.put, Fl.z1, Fl.z2, Fl.z3]
        refine Fm.fin1S (r1 := [.one 5, .one 6]) (r2 := [.one 7, .one 8, .take 9]) (fun bl => ?_)
        simp only [Act.put, Fl.z1, Fl.z2, Fl.z3]
        refine Fl.call (some 30) Try.func55 (by kernel_rfl) rfl #[.pointer (some ⟨gc, 0, none⟩), .slice (some ⟨bl, 0, none⟩) 4 4] rfl rfl rfl (by rfl) rfl (fun E2 W2 hE2 hi => ?_)
        refine (spec_l1Cur_among.calls gc l0 j2 t2 (some ⟨bl, 0, none⟩) 4 [16, 20, 64, 17] (nv : Int) j3 t3 w W2 (spec_l1Cur_key9.got hi (i := 0) rfl) hi.bel (spec_l1Cur_key9.laid [16, 20, 64, 17] (hi.front 4 rfl) (n := 4) rfl (by decide)) (Nat.le_refl _) (fun ad e _ => by cases e; exact ((spec_l1Cur_key9.got hi (i := 0) rfl).ne_blk (hi.blk 4 rfl) (by decide)).symm) HAM.out).mono ?_
        rintro e W' ⟨rfl, hI2, hB2, hK2⟩
        refine Fl.keepI (F := []) (v := .int .i64 (nv : Int)) (F' := [spec_l1Cur_key9.curF w gc l0 (j3 : Int) t3, Lv.rowsF (Kd.slice 5 (Kd.int .u8)) 43 w.heap.size (.slice Am m.length cm) m, Lv.boxF g2 #[.slice none 0 0] 32, Lv.boxF g3 #[.int .i64 0, .int .i64 0, .int .i64 0, .int .i64 0] 54, Lv.boxF bl #[.int .i64 16, .int .i64 20, .int .i64 64, .int .i64 17] 3]) (spec_l1Cur_key9.on hi (i := 0) rfl hI2 hB2 hK2) ?_
        clear hi hI2 hB2 hK2 hE2
        simp only [Act.put, Fl.z1, Fl.z2, Fl.z3]
        refine Fl.call (some 31) Try.func54 (by kernel_rfl) rfl #[.pointer (some ⟨gc, 0, none⟩), .int .i64 nv] rfl rfl rfl (by rfl) rfl (fun E2 W2 hE2 hi => ?_)
        refine (spec_l1Cur_bytesOf.calls kb gc l0 j3 t3 nv rb j4 t4 w W2 (spec_l1Cur_key9.got hi (i := 0) rfl) hi.bel HB.out).mono ?_
        rintro e W' ⟨v0, rfl, hr2, hI2, hB2, hK2⟩
        obtain ⟨b, o, c, rfl⟩ := Fl.row_at hr2 HRL.out.1
        refine Fl.keepI (F := []) (v := .slice (some ⟨b, o, none⟩) rb.length c) (F' := [Lv.rowF (Kd.int .u8) 5 w.heap.size (.slice (some ⟨b, o, none⟩) rb.length c) rb, spec_l1Cur_key9.curF w gc l0 (j4 : Int) t4, Lv.rowsF (Kd.slice 5 (Kd.int .u8)) 43 w.heap.size (.slice Am m.length cm) m, Lv.boxF g2 #[.slice none 0 0] 32, Lv.boxF g3 #[.int .i64 0, .int .i64 0, .int .i64 0, .int .i64 0] 54, Lv.boxF bl #[.int .i64 16, .int .i64 20, .int .i64 64, .int .i64 17] 3]) (spec_l1Cur_key9.onRow hi (i := 0) rfl hr2 hI2 hB2 hK2) ?_
        clear hi hr2 hI2 hB2 hK2 hE2
        simp only [Act.put, Fl.z1, Fl.z2, Fl.z3]
        intro W hi
        have HI : Hid (Lv.Inv w W [Lv.rowF (Kd.int .u8) 5 w.heap.size (.slice (some ⟨b, o, none⟩) rb.length c) rb, spec_l1Cur_key9.curF w gc l0 (j4 : Int) t4, Lv.rowsF (Kd.slice 5 (Kd.int .u8)) 43 w.heap.size (.slice Am m.length cm) m, Lv.boxF g2 #[.slice none 0 0] 32, Lv.boxF g3 #[.int .i64 0, .int .i64 0, .int .i64 0, .int .i64 0] 54, Lv.boxF bl #[.int .i64 16, .int .i64 20, .int .i64 64, .int .i64 17] 3, Lv.boxF g6 #[.slice Am m.length cm] 32]) := Lib.hid hi
        clear hi
        replace HI : Hid (Lv.Inv w W [Lv.boxF bl #[.int .i64 16, .int .i64 20, .int .i64 64, .int .i64 17] 3, Lv.rowF (Kd.int .u8) 5 w.heap.size (.slice (some ⟨b, o, none⟩) rb.length c) rb, spec_l1Cur_key9.curF w gc l0 (j4 : Int) t4, Lv.rowsF (Kd.slice 5 (Kd.int .u8)) 43 w.heap.size (.slice Am m.length cm) m, Lv.boxF g2 #[.slice none 0 0] 32, Lv.boxF g3 #[.int .i64 0, .int .i64 0, .int .i64 0, .int .i64 0] 54, Lv.boxF g6 #[.slice Am m.length cm] 32]) := Lib.hid (HI.out.front 5 rfl)
        replace HI : Hid (Lv.Inv w W [Lv.boxF g3 #[.int .i64 0, .int .i64 0, .int .i64 0, .int .i64 0] 54, Lv.boxF bl #[.int .i64 16, .int .i64 20, .int .i64 64, .int .i64 17] 3, Lv.rowF (Kd.int .u8) 5 w.heap.size (.slice (some ⟨b, o, none⟩) rb.length c) rb, spec_l1Cur_key9.curF w gc l0 (j4 : Int) t4, Lv.rowsF (Kd.slice 5 (Kd.int .u8)) 43 w.heap.size (.slice Am m.length cm) m, Lv.boxF g2 #[.slice none 0 0] 32, Lv.boxF g6 #[.slice Am m.length cm] 32]) := Lib.hid (HI.out.front 5 rfl)
        replace HI : Hid (Lv.Inv w W [Lv.boxF g2 #[.slice none 0 0] 32, Lv.boxF g3 #[.int .i64 0, .int .i64 0, .int .i64 0, .int .i64 0] 54, Lv.boxF bl #[.int .i64 16, .int .i64 20, .int .i64 64, .int .i64 17] 3, Lv.rowF (Kd.int .u8) 5 w.heap.size (.slice (some ⟨b, o, none⟩) rb.length c) rb, spec_l1Cur_key9.curF w gc l0 (j4 : Int) t4, Lv.rowsF (Kd.slice 5 (Kd.int .u8)) 43 w.heap.size (.slice Am m.length cm) m, Lv.boxF g6 #[.slice Am m.length cm] 32]) := Lib.hid (HI.out.front 5 rfl)
        replace HI : Hid (Lv.Inv w W [spec_l1Cur_key9.curF w gc l0 (j4 : Int) t4, Lv.boxF g2 #[.slice none 0 0] 32, Lv.boxF g3 #[.int .i64 0, .int .i64 0, .int .i64 0, .int .i64 0] 54, Lv.boxF bl #[.int .i64 16, .int .i64 20, .int .i64 64, .int .i64 17] 3, Lv.rowF (Kd.int .u8) 5 w.heap.size (.slice (some ⟨b, o, none⟩) rb.length c) rb, Lv.rowsF (Kd.slice 5 (Kd.int .u8)) 43 w.heap.size (.slice Am m.length cm) m, Lv.boxF g6 #[.slice Am m.length cm] 32]) := Lib.hid (HI.out.front 4 rfl)
        replace HI : Hid (Lv.Inv w W [Lv.boxF g6 #[.slice Am m.length cm] 32, spec_l1Cur_key9.curF w gc l0 (j4 : Int) t4, Lv.boxF g2 #[.slice none 0 0] 32, Lv.boxF g3 #[.int .i64 0, .int .i64 0, .int .i64 0, .int .i64 0] 54, Lv.boxF bl #[.int .i64 16, .int .i64 20, .int .i64 64, .int .i64 17] 3, Lv.rowF (Kd.int .u8) 5 w.heap.size (.slice (some ⟨b, o, none⟩) rb.length c) rb, Lv.rowsF (Kd.slice 5 (Kd.int .u8)) 43 w.heap.size (.slice Am m.length cm) m]) := Lib.hid (HI.out.front 6 rfl)
        replace HI : Hid (Lv.Inv w W [Lv.rowsF (Kd.slice 5 (Kd.int .u8)) 43 w.heap.size (.slice Am m.length cm) m, Lv.boxF g6 #[.slice Am m.length cm] 32, spec_l1Cur_key9.curF w gc l0 (j4 : Int) t4, Lv.boxF g2 #[.slice none 0 0] 32, Lv.boxF g3 #[.int .i64 0, .int .i64 0, .int .i64 0, .int .i64 0] 54, Lv.boxF bl #[.int .i64 16, .int .i64 20, .int .i64 64, .int .i64 17] 3, Lv.rowF (Kd.int .u8) 5 w.heap.size (.slice (some ⟨b, o, none⟩) rb.length c) rb]) := Lib.hid (HI.out.front 6 rfl)
        replace HI : Hid (Lv.Inv w W [Lv.rowF (Kd.int .u8) 5 w.heap.size (.slice (some ⟨b, o, none⟩) rb.length c) rb, Lv.rowsF (Kd.slice 5 (Kd.int .u8)) 43 w.heap.size (.slice Am m.length cm) m, Lv.boxF g6 #[.slice Am m.length cm] 32, spec_l1Cur_key9.curF w gc l0 (j4 : Int) t4, Lv.boxF g2 #[.slice none 0 0] 32, Lv.boxF g3 #[.int .i64 0, .int .i64 0, .int .i64 0, .int .i64 0] 54, Lv.boxF bl #[.int .i64 16, .int .i64 20, .int .i64 64, .int .i64 17] 3]) := Lib.hid (HI.out.front 6 rfl)
        refine Fl.seqAppS (z := .slice none 0 0) (bytes := 24) (fun W h => by have h2 := h.front 0 rfl; exact ⟨h.bel, by obtain ⟨S_, q1, q2, _⟩ := h.live; exact ⟨S_, q1, q2, trivial⟩⟩) HI.out rfl rfl (by rfl) (fun W => by first | (go_simp; done) | (go_simp; rfl)) rfl rfl (fun _ => by rfl) rfl Try.underlying22 (by kernel_rfl) rfl (by decide) (fun _ => rfl) (fun _ => rfl) (by have := HML.out; omega) (fun u bm cm2 W1 hi => ?_)
        clear HI
        obtain ⟨n, hn⟩ : ∃ n, n = m.length := ⟨_, rfl⟩
        obtain ⟨m2, hm2⟩ : ∃ m2, m2 = m ++ [rb] := ⟨_, rfl⟩
        have e1 : m.length + 1 = m2.length := by rw [hm2, List.length_append, List.length_singleton]
        rw [e1, ← hm2] at hi
        rw [e1]
        have HN2 : Hid (m2.length = n + 1) := Lib.hid (by omega)
        have HX2 : Hid (m2[n]? = some rb) := Lib.hid (by rw [hm2, hn, List.getElem?_append_right (Nat.le_refl _), Nat.sub_self]; rfl)
        have HML2 : Hid (m2.length ≤ 20) := Lib.hid (by have := HML.out; omega)
        clear e1 hm2
        simp only [Act.put, Fl.z1, Fl.z2, Fl.z3]
        refine Rg.take (some 34) (v := .pointer (some ⟨g6, 0, none⟩)) rfl rfl (Or.inl ⟨by rfl, fun _ _ => by first | rfl | (go_simp; done) | (go_simp; rfl) | (go_simp; omega)⟩) ?_
        simp only [Act.put, Fl.z1, Fl.z2, Fl.z3]
        refine Fz.last ?_ hi
        clear hi
        refine Fl.storeC 1 0 (.slice (some ⟨bm, 0, none⟩) m2.length cm2) rfl rfl rfl rfl _ _ _ rfl rfl rfl (by rfl) (by simp) (by kernel_rfl) rfl rfl ?_
        intro W hi
        have HI : Hid (Lv.Inv w W [Lv.rowsF (Kd.slice 5 (Kd.int .u8)) 43 w.heap.size (.slice (some ⟨bm, 0, none⟩) m2.length cm2) m2, Lv.boxF g6 #[.slice (some ⟨bm, 0, none⟩) m2.length cm2] 32, spec_l1Cur_key9.curF w gc l0 (j4 : Int) t4, Lv.boxF g2 #[.slice none 0 0] 32, Lv.boxF g3 #[.int .i64 0, .int .i64 0, .int .i64 0, .int .i64 0] 54, Lv.boxF bl #[.int .i64 16, .int .i64 20, .int .i64 64, .int .i64 17] 3]) := Lib.hid hi
        clear hi
        replace HI : Hid (Lv.Inv w W [Lv.rowsF (Kd.slice 5 (Kd.int .u8)) 43 w.heap.size (.slice (some ⟨bm, 0, none⟩) m2.length cm2) m2, Lv.boxF g6 #[.slice (some ⟨bm, 0, none⟩) m2.length cm2] 32, spec_l1Cur_key9.curF w gc l0 (j4 : Int) t4, Lv.boxF g2 #[.slice none 0 0] 32, Lv.boxF g3 #[.int .i64 0, .int .i64 0, .int .i64 0, .int .i64 0] 54]) := Lib.hid (HI.out.omit 5 rfl)
        replace HI : Hid (Lv.Inv w W [Lv.boxF g3 #[.int .i64 0, .int .i64 0, .int .i64 0, .int .i64 0] 54, Lv.rowsF (Kd.slice 5 (Kd.int .u8)) 43 w.heap.size (.slice (some ⟨bm, 0, none⟩) m2.length cm2) m2, Lv.boxF g6 #[.slice (some ⟨bm, 0, none⟩) m2.length cm2] 32, spec_l1Cur_key9.curF w gc l0 (j4 : Int) t4, Lv.boxF g2 #[.slice none 0 0] 32]) := Lib.hid (HI.out.front 4 rfl)
        replace HI : Hid (Lv.Inv w W [Lv.boxF g2 #[.slice none 0 0] 32, Lv.boxF g3 #[.int .i64 0, .int .i64 0, .int .i64 0, .int .i64 0] 54, Lv.rowsF (Kd.slice 5 (Kd.int .u8)) 43 w.heap.size (.slice (some ⟨bm, 0, none⟩) m2.length cm2) m2, Lv.boxF g6 #[.slice (some ⟨bm, 0, none⟩) m2.length cm2] 32, spec_l1Cur_key9.curF w gc l0 (j4 : Int) t4]) := Lib.hid (HI.out.front 4 rfl)
        replace HI : Hid (Lv.Inv w W [Lv.boxF g6 #[.slice (some ⟨bm, 0, none⟩) m2.length cm2] 32, Lv.boxF g2 #[.slice none 0 0] 32, Lv.boxF g3 #[.int .i64 0, .int .i64 0, .int .i64 0, .int .i64 0] 54, Lv.rowsF (Kd.slice 5 (Kd.int .u8)) 43 w.heap.size (.slice (some ⟨bm, 0, none⟩) m2.length cm2) m2, spec_l1Cur_key9.curF w gc l0 (j4 : Int) t4]) := Lib.hid (HI.out.front 3 rfl)
        replace HI : Hid (Lv.Inv w W [spec_l1Cur_key9.curF w gc l0 (j4 : Int) t4, Lv.boxF g6 #[.slice (some ⟨bm, 0, none⟩) m2.length cm2] 32, Lv.boxF g2 #[.slice none 0 0] 32, Lv.boxF g3 #[.int .i64 0, .int .i64 0, .int .i64 0, .int .i64 0] 54, Lv.rowsF (Kd.slice 5 (Kd.int .u8)) 43 w.heap.size (.slice (some ⟨bm, 0, none⟩) m2.length cm2) m2]) := Lib.hid (HI.out.front 4 rfl)
        replace HI : Hid (Lv.Inv w W [Lv.rowsF (Kd.slice 5 (Kd.int .u8)) 43 w.heap.size (.slice (some ⟨bm, 0, none⟩) m2.length cm2) m2, spec_l1Cur_key9.curF w gc l0 (j4 : Int) t4, Lv.boxF g6 #[.slice (some ⟨bm, 0, none⟩) m2.length cm2] 32, Lv.boxF g2 #[.slice none 0 0] 32, Lv.boxF g3 #[.int .i64 0, .int .i64 0, .int .i64 0, .int .i64 0] 54]) := Lib.hid (HI.out.front 4 rfl)
        have HWR : Hid (IntKind.i64.wrap ((m2.length : Int) - 1) = (n : Int)) := Lib.hid (by rw [IntKind.wrap_i64]; have := HN2.out; have := HML2.out; omega)
        go_upto_region 5 with (fail)
        refine Fl.startW [.take 0, .one 1, .take 2, .take 3, .take 4, .one 5, .one 6] (by decide) HI.out ?_
        refine Fl.take (some 35) (v := .pointer (some ⟨g6, 0, none⟩)) rfl rfl (Or.inl ⟨by rfl, fun _ _ => by first | rfl | (go_simp; done) | (go_simp; rfl) | (go_simp; omega)⟩) ?_
        simp only [Act.put, Fl.z1, Fl.z2, Fl.z3]
        refine Fl.ldXc (some 36) 2 0 rfl rfl rfl (by rfl) _ _ rfl rfl rfl Try.underlying22 rfl ?_
        simp only [Act.put, Fl.z1, Fl.z2, Fl.z3]
        refine Fl.take (some 37) (v := .int .i64 (m2.length : Int)) rfl rfl (Or.inl ⟨by rfl, fun _ _ => by first | rfl | (go_simp; done) | (go_simp; rfl) | (go_simp; omega)⟩) ?_
        simp only [Act.put, Fl.z1, Fl.z2, Fl.z3]
        refine Fl.take (some 38) (v := .int .i64 (n : Int)) rfl rfl (Or.inl ⟨by rfl, fun _ _ => by have h_ := HWR.out; first | (go_simp; done) | (go_simp; rw [h_]; done) | (go_simp; rw [h_]; rfl) | (go_simp; simp only [h_])⟩) ?_
        simp only [Act.put, Fl.z1, Fl.z2, Fl.z3]
        refine Fl.take (some 39) (v := .agg #[.int .i64 (n : Int), .int .i64 0, .int .i64 0, .int .i64 0]) rfl rfl (Or.inl ⟨by rfl, fun _ _ => by first | rfl | (go_simp; done) | (go_simp; rfl) | (go_simp; simp only [i64_w])⟩) ?_
        simp only [Act.put, Fl.z1, Fl.z2, Fl.z3]
        refine Fl.var (N := 7) (cs := #[.int .i64 0, .int .i64 0, .int .i64 0, .int .i64 0]) (t := 54) ⟨_, rfl, rfl, fun _ => rfl, fun e w => by first | (go_simp; done) | (go_simp; rfl)⟩ (fun g7 => ?_)
        simp only [Act.put, Fl.z1, Fl.z2, Fl.z3]
        refine Fl.store 0 #[.int .i64 (n : Int), .int .i64 0, .int .i64 0, .int .i64 0] rfl rfl rfl rfl _ _ _ rfl rfl rfl (by rfl) rfl (by kernel_rfl) (by simp [Value.oneCell']) ?_
        refine Fl.stopW (fun W hi => ?_)
        replace HI := Lib.hid hi
        clear hi
        have k0 : (0 : Int) ≤ (n : Int) := by omega
        have k1 : (n : Int) < (m2.length : Int) := by have := HN2.out; omega
        have k2 : n < m2.length := by have := HN2.out; omega
        go_upto_region 6 with (fail)
        refine Fl.startW [.take 0, .one 1, .take 2, .one 3, .take 4, .one 5, .take 6, .take 7, .one 8] (by decide) HI.out ?_
        refine Fl.take (some 40) (v := .pointer (some ⟨g6, 0, none⟩)) rfl rfl (Or.inl ⟨by rfl, fun _ _ => by first | rfl | (go_simp; done) | (go_simp; rfl) | (go_simp; omega)⟩) ?_
        simp only [Act.put, Fl.z1, Fl.z2, Fl.z3]
        refine Fl.ldXc (some 41) 3 0 rfl rfl rfl (by rfl) _ _ rfl rfl rfl Try.underlying22 rfl ?_
        simp only [Act.put, Fl.z1, Fl.z2, Fl.z3]
        refine Fl.take (some 42) (v := .pointer (some ⟨g7, 0, none⟩)) rfl rfl (Or.inl ⟨by rfl, fun _ _ => by first | rfl | (go_simp; done) | (go_simp; rfl) | (go_simp; omega)⟩) ?_
        simp only [Act.put, Fl.z1, Fl.z2, Fl.z3]
        refine Fl.ldXc (some 43) 0 0 rfl rfl rfl (by rfl) _ _ rfl rfl rfl Try.underlying3 rfl ?_
        simp only [Act.put, Fl.z1, Fl.z2, Fl.z3]
        refine Fl.take (some 44) (v := .pointer (some ⟨bm, 0 + n, none⟩)) rfl rfl (Or.inl ⟨by rfl, fun _ _ => by first | rfl | (go_simp; done) | (go_simp; rfl) | (go_simp; omega)⟩) ?_
        simp only [Act.put, Fl.z1, Fl.z2, Fl.z3]
        refine Fl.ldHdr (some 45) 1 n rfl HX2.out rfl rfl (by rfl) _ _ rfl rfl Try.underlying43 rfl (fun A1 c1 => ?_)
        simp only [Act.put, Fl.z1, Fl.z2, Fl.z3]
        refine Fl.take (some 46) (v := .int .i64 (rb.length : Int)) rfl rfl (Or.inl ⟨by rfl, fun _ _ => by first | rfl | (go_simp; done) | (go_simp; rfl) | (go_simp; omega)⟩) ?_
        simp only [Act.put, Fl.z1, Fl.z2, Fl.z3]
        refine Fl.take (some 47) (v := .pointer (some ⟨g7, 3, none⟩)) rfl rfl (Or.inl ⟨by rfl, fun _ _ => by first | rfl | (go_simp; done) | (go_simp; rfl) | (go_simp; omega)⟩) ?_
        simp only [Act.put, Fl.z1, Fl.z2, Fl.z3]
        refine Fl.storeC 0 3 (.int .i64 (rb.length : Int)) rfl rfl rfl rfl _ _ _ rfl rfl rfl (by rfl) (by simp) (by kernel_rfl) rfl rfl ?_
        refine Fl.stopW (fun W hi => ?_)
        replace HI := Lib.hid hi
        clear hi
        clear k0 k1 k2
        have hi_ := HI.out
        obtain ⟨ln, hln⟩ : ∃ x, x = (rb.length : Int) := ⟨_, rfl⟩
        rw [← hln] at hi_
        replace HI : Hid (Lv.Inv w W [Lv.boxF g7 #[.int .i64 (n : Int), .int .i64 0, .int .i64 0, .int .i64 ln] 54, Lv.rowsF (Kd.slice 5 (Kd.int .u8)) 43 w.heap.size (.slice (some ⟨bm, 0, none⟩) m2.length cm2) m2, spec_l1Cur_key9.curF w gc l0 (j4 : Int) t4, Lv.boxF g6 #[.slice (some ⟨bm, 0, none⟩) m2.length cm2] 32, Lv.boxF g2 #[.slice none 0 0] 32, Lv.boxF g3 #[.int .i64 0, .int .i64 0, .int .i64 0, .int .i64 0] 54]) := Lib.hid hi_
        clear hi_ hln
        obtain ⟨v5, j5, t5, hp, hj5, hv50, hv51⟩ := (HFF.out l0 HU.out j4 (by have := HJ4.out; omega) t4).1 2 (by decide)
        have HP := Lib.hid hp
        obtain ⟨v6, j6, t6, hp2, hj6, hv60, hv61⟩ := (HFF.out l0 HU.out j5 (by have := HJ4.out; omega) t5).1 4 (by decide)
        have HP2 := Lib.hid hp2
        obtain ⟨v7, j7, t7, hp3, hj7, hv70, hv71⟩ := (HFF.out l0 HU.out j6 (by have := HJ4.out; omega) t6).1 24 (by decide)
        have HP3 := Lib.hid hp3
        have HV7 : Hid (0 ≤ v7 ∧ v7 < 24) := Lib.hid ⟨hv70, hv71 (by decide)⟩
        clear hp hj5 hv50 hv51 hp2 hj6 hv60 hv61 hp3 hj7 hv70 hv71
        replace HI : Hid (Lv.Inv w W [Fl.gapF g7 #[.int .i64 (n : Int), .int .i64 0, .int .i64 0, .int .i64 ln] 2 54, Lv.rowsF (Kd.slice 5 (Kd.int .u8)) 43 w.heap.size (.slice (some ⟨bm, 0, none⟩) m2.length cm2) m2, spec_l1Cur_key9.curF w gc l0 (j4 : Int) t4, Lv.boxF g6 #[.slice (some ⟨bm, 0, none⟩) m2.length cm2] 32, Lv.boxF g2 #[.slice none 0 0] 32, Lv.boxF g3 #[.int .i64 0, .int .i64 0, .int .i64 0, .int .i64 0] 54]) := Lib.hid (Fl.gap_of (cs := #[.int .i64 (n : Int), .int .i64 0, .int .i64 0, .int .i64 ln]) 2 0 HI.out)
        replace HI : Hid (Lv.Inv w W [Lv.boxF g3 #[.int .i64 0, .int .i64 0, .int .i64 0, .int .i64 0] 54, Fl.gapF g7 #[.int .i64 (n : Int), .int .i64 0, .int .i64 0, .int .i64 ln] 2 54, Lv.rowsF (Kd.slice 5 (Kd.int .u8)) 43 w.heap.size (.slice (some ⟨bm, 0, none⟩) m2.length cm2) m2, spec_l1Cur_key9.curF w gc l0 (j4 : Int) t4, Lv.boxF g6 #[.slice (some ⟨bm, 0, none⟩) m2.length cm2] 32, Lv.boxF g2 #[.slice none 0 0] 32]) := Lib.hid (HI.out.front 5 rfl)
        replace HI : Hid (Lv.Inv w W [Lv.boxF g2 #[.slice none 0 0] 32, Lv.boxF g3 #[.int .i64 0, .int .i64 0, .int .i64 0, .int .i64 0] 54, Fl.gapF g7 #[.int .i64 (n : Int), .int .i64 0, .int .i64 0, .int .i64 ln] 2 54, Lv.rowsF (Kd.slice 5 (Kd.int .u8)) 43 w.heap.size (.slice (some ⟨bm, 0, none⟩) m2.length cm2) m2, spec_l1Cur_key9.curF w gc l0 (j4 : Int) t4, Lv.boxF g6 #[.slice (some ⟨bm, 0, none⟩) m2.length cm2] 32]) := Lib.hid (HI.out.front 5 rfl)
        replace HI : Hid (Lv.Inv w W [Lv.rowsF (Kd.slice 5 (Kd.int .u8)) 43 w.heap.size (.slice (some ⟨bm, 0, none⟩) m2.length cm2) m2, Lv.boxF g2 #[.slice none 0 0] 32, Lv.boxF g3 #[.int .i64 0, .int .i64 0, .int .i64 0, .int .i64 0] 54, Fl.gapF g7 #[.int .i64 (n : Int), .int .i64 0, .int .i64 0, .int .i64 ln] 2 54, spec_l1Cur_key9.curF w gc l0 (j4 : Int) t4, Lv.boxF g6 #[.slice (some ⟨bm, 0, none⟩) m2.length cm2] 32]) := Lib.hid (HI.out.front 3 rfl)
        replace HI : Hid (Lv.Inv w W [Lv.boxF g6 #[.slice (some ⟨bm, 0, none⟩) m2.length cm2] 32, Lv.rowsF (Kd.slice 5 (Kd.int .u8)) 43 w.heap.size (.slice (some ⟨bm, 0, none⟩) m2.length cm2) m2, Lv.boxF g2 #[.slice none 0 0] 32, Lv.boxF g3 #[.int .i64 0, .int .i64 0, .int .i64 0, .int .i64 0] 54, Fl.gapF g7 #[.int .i64 (n : Int), .int .i64 0, .int .i64 0, .int .i64 ln] 2 54, spec_l1Cur_key9.curF w gc l0 (j4 : Int) t4]) := Lib.hid (HI.out.front 5 rfl)
        replace HI : Hid (Lv.Inv w W [Fl.gapF g7 #[.int .i64 (n : Int), .int .i64 0, .int .i64 0, .int .i64 ln] 2 54, Lv.boxF g6 #[.slice (some ⟨bm, 0, none⟩) m2.length cm2] 32, Lv.rowsF (Kd.slice 5 (Kd.int .u8)) 43 w.heap.size (.slice (some ⟨bm, 0, none⟩) m2.length cm2) m2, Lv.boxF g2 #[.slice none 0 0] 32, Lv.boxF g3 #[.int .i64 0, .int .i64 0, .int .i64 0, .int .i64 0] 54, spec_l1Cur_key9.curF w gc l0 (j4 : Int) t4]) := Lib.hid (HI.out.front 4 rfl)
        replace HI : Hid (Lv.Inv w W [spec_l1Cur_key9.curF w gc l0 (j4 : Int) t4, Fl.gapF g7 #[.int .i64 (n : Int), .int .i64 0, .int .i64 0, .int .i64 ln] 2 54, Lv.boxF g6 #[.slice (some ⟨bm, 0, none⟩) m2.length cm2] 32, Lv.rowsF (Kd.slice 5 (Kd.int .u8)) 43 w.heap.size (.slice (some ⟨bm, 0, none⟩) m2.length cm2) m2, Lv.boxF g2 #[.slice none 0 0] 32, Lv.boxF g3 #[.int .i64 0, .int .i64 0, .int .i64 0, .int .i64 0] 54]) := Lib.hid (HI.out.front 5 rfl)
        obtain ⟨nl, hnl⟩ : ∃ x, x = wrap64 (ln - v5) := ⟨_, rfl⟩
        have HNL := Lib.hid hnl
        clear hnl
        go_upto_region 7 with (fail)
        refine Fl.startF (F := [_]) [([],[]),([0],[0]),([],[]),([2],[2]),([1,3],[1,3]),([0,1,2,3,4],[]),([5,4,3,0,1,2,3,4],[4,5])] [] 9 [.take 0, .take 1, .take 2, .one 3, .take 4, .take 5] [.one 6] (by kernel_rfl) (by kernel_rfl) (by decide) (by decide) (by kernel_rfl) (by kernel_rfl) Fl.mk0 HI.out ?_
        refine Fl.take (some 48) (v := .pointer (some ⟨g7, 3, none⟩)) rfl rfl (Or.inl ⟨by rfl, fun _ _ => by first | rfl | (go_simp; done) | (go_simp; rfl) | (go_simp; omega)⟩) ?_
        simp only [Act.put, Fl.z1, Fl.z2, Fl.z3]
        refine Fl.take (some 49) (v := .int .i64 ln) rfl rfl (Fl.yieldsIf_load_cell (by rfl) _ _ rfl g7 3 rfl (fun W1 hW1 => Fl.gap_cell hW1 (i := 0) rfl 3 (by decide) rfl) Try.underlying3 rfl) ?_
        simp only [Act.put, Fl.z1, Fl.z2, Fl.z3]
        refine Fl.take (some 50) (v := .pointer (some ⟨gc, 0, none⟩)) rfl rfl (Or.inl ⟨by rfl, fun _ _ => by rfl⟩) ?_
        simp only [Act.put, Fl.z1, Fl.z2, Fl.z3]
        refine Fl.call (some 51) Try.func56 (by kernel_rfl) rfl #[.pointer (some ⟨gc, 0, none⟩), .int .i64 2] rfl rfl rfl (by rfl) rfl (fun E2 W2 hE2 hi => ?_)
        refine (spec_l1Cur_pick.calls gc l0 j4 t4 2 v5 j5 t5 w W2 (spec_l1Cur_key9.got hi (i := 0) rfl) hi.bel HP.out).mono ?_
        rintro e W' ⟨rfl, hI2, hB2, hK2⟩
        refine Fl.keepI (F := []) (v := .int .i64 v5) (F' := [spec_l1Cur_key9.curF w gc l0 (j5 : Int) t5]) (spec_l1Cur_key9.on hi (i := 0) rfl hI2 hB2 hK2) ?_
        clear hi hI2 hB2 hK2 hE2
        simp only [Act.put, Fl.z1, Fl.z2, Fl.z3]
        refine Fl.take (some 52) (v := .int .i64 nl) rfl rfl (Or.inl ⟨by rfl, fun _ _ => by have h_ := HNL.out; rw [h_]; first | (go_simp; done) | (go_simp; simp only [i64_w]; done)⟩) ?_
        simp only [Act.put, Fl.z1, Fl.z2, Fl.z3]
        refine Fl.take (some 53) (v := .pointer (some ⟨g7, 2, none⟩)) rfl rfl (Or.inl ⟨by rfl, fun _ _ => by first | rfl | (go_simp; done) | (go_simp; rfl) | (go_simp; omega)⟩) ?_
        simp only [Act.put, Fl.z1, Fl.z2, Fl.z3]
        refine Fl.fin (fun gs W hg hi => ?_)
        obtain rfl : gs = [] := List.length_eq_zero_iff.1 hg
        simp only [Fl.putD, List.map_nil]
        obtain ⟨u, hi⟩ := Fl.gap_open (hi.front 1 rfl)
        refine Fl.last_of ?_ hi
        clear hi hg HI
        refine Fl.storeC 0 2 (.int .i64 nl) rfl rfl rfl rfl _ _ _ rfl rfl rfl (by rfl) (by simp) (by kernel_rfl) rfl rfl ?_
        intro W hi
        have HI : Hid (Lv.Inv w W [Lv.boxF g7 #[.int .i64 (n : Int), .int .i64 0, .int .i64 nl, .int .i64 ln] 54, spec_l1Cur_key9.curF w gc l0 (j5 : Int) t5, Lv.boxF g6 #[.slice (some ⟨bm, 0, none⟩) m2.length cm2] 32, Lv.rowsF (Kd.slice 5 (Kd.int .u8)) 43 w.heap.size (.slice (some ⟨bm, 0, none⟩) m2.length cm2) m2, Lv.boxF g2 #[.slice none 0 0] 32, Lv.boxF g3 #[.int .i64 0, .int .i64 0, .int .i64 0, .int .i64 0] 54]) := Lib.hid hi
        clear hi
        refine ⟨Fl.gap_of (cs := #[.int .i64 (n : Int), .int .i64 0, .int .i64 0, .int .i64 ln]) 2 nl (HI.out.omit 1 rfl), NoPanic.normal ?_⟩
        replace HI : Hid (Lv.Inv w W [Lv.rowsF (Kd.slice 5 (Kd.int .u8)) 43 w.heap.size (.slice (some ⟨bm, 0, none⟩) m2.length cm2) m2, Lv.boxF g7 #[.int .i64 (n : Int), .int .i64 0, .int .i64 nl, .int .i64 ln] 54, spec_l1Cur_key9.curF w gc l0 (j5 : Int) t5, Lv.boxF g6 #[.slice (some ⟨bm, 0, none⟩) m2.length cm2] 32, Lv.boxF g2 #[.slice none 0 0] 32, Lv.boxF g3 #[.int .i64 0, .int .i64 0, .int .i64 0, .int .i64 0] 54]) := Lib.hid (HI.out.front 3 rfl)
        replace HI : Hid (Lv.Inv w W [Lv.boxF g7 #[.int .i64 (n : Int), .int .i64 0, .int .i64 nl, .int .i64 ln] 54, Lv.rowsF (Kd.slice 5 (Kd.int .u8)) 43 w.heap.size (.slice (some ⟨bm, 0, none⟩) m2.length cm2) m2, spec_l1Cur_key9.curF w gc l0 (j5 : Int) t5, Lv.boxF g6 #[.slice (some ⟨bm, 0, none⟩) m2.length cm2] 32, Lv.boxF g2 #[.slice none 0 0] 32, Lv.boxF g3 #[.int .i64 0, .int .i64 0, .int .i64 0, .int .i64 0] 54]) := Lib.hid (HI.out.front 1 rfl)
        replace HI : Hid (Lv.Inv w W [Lv.boxF g6 #[.slice (some ⟨bm, 0, none⟩) m2.length cm2] 32, Lv.boxF g7 #[.int .i64 (n : Int), .int .i64 0, .int .i64 nl, .int .i64 ln] 54, Lv.rowsF (Kd.slice 5 (Kd.int .u8)) 43 w.heap.size (.slice (some ⟨bm, 0, none⟩) m2.length cm2) m2, spec_l1Cur_key9.curF w gc l0 (j5 : Int) t5, Lv.boxF g2 #[.slice none 0 0] 32, Lv.boxF g3 #[.int .i64 0, .int .i64 0, .int .i64 0, .int .i64 0] 54]) := Lib.hid (HI.out.front 3 rfl)
        replace HI : Hid (Lv.Inv w W [Lv.boxF g3 #[.int .i64 0, .int .i64 0, .int .i64 0, .int .i64 0] 54, Lv.boxF g6 #[.slice (some ⟨bm, 0, none⟩) m2.length cm2] 32, Lv.boxF g7 #[.int .i64 (n : Int), .int .i64 0, .int .i64 nl, .int .i64 ln] 54, Lv.rowsF (Kd.slice 5 (Kd.int .u8)) 43 w.heap.size (.slice (some ⟨bm, 0, none⟩) m2.length cm2) m2, spec_l1Cur_key9.curF w gc l0 (j5 : Int) t5, Lv.boxF g2 #[.slice none 0 0] 32]) := Lib.hid (HI.out.front 5 rfl)
        replace HI : Hid (Lv.Inv w W [Lv.boxF g2 #[.slice none 0 0] 32, Lv.boxF g3 #[.int .i64 0, .int .i64 0, .int .i64 0, .int .i64 0] 54, Lv.boxF g6 #[.slice (some ⟨bm, 0, none⟩) m2.length cm2] 32, Lv.boxF g7 #[.int .i64 (n : Int), .int .i64 0, .int .i64 nl, .int .i64 ln] 54, Lv.rowsF (Kd.slice 5 (Kd.int .u8)) 43 w.heap.size (.slice (some ⟨bm, 0, none⟩) m2.length cm2) m2, spec_l1Cur_key9.curF w gc l0 (j5 : Int) t5]) := Lib.hid (HI.out.front 5 rfl)
        replace HI : Hid (Lv.Inv w W [spec_l1Cur_key9.curF w gc l0 (j5 : Int) t5, Lv.boxF g2 #[.slice none 0 0] 32, Lv.boxF g3 #[.int .i64 0, .int .i64 0, .int .i64 0, .int .i64 0] 54, Lv.boxF g6 #[.slice (some ⟨bm, 0, none⟩) m2.length cm2] 32, Lv.boxF g7 #[.int .i64 (n : Int), .int .i64 0, .int .i64 nl, .int .i64 ln] 54, Lv.rowsF (Kd.slice 5 (Kd.int .u8)) 43 w.heap.size (.slice (some ⟨bm, 0, none⟩) m2.length cm2) m2]) := Lib.hid (HI.out.front 5 rfl)
        obtain ⟨q7, hq7⟩ : ∃ q, q = Int.tdiv v7 23 := ⟨_, rfl⟩
        have HQ7 := Lib.hid hq7.symm
        have HQ8 : Hid (IntKind.i64.wrap (Int.tdiv v7 23) = q7) := Lib.hid (by have := HV7.out; rw [hq7, IntKind.wrap_i64, Int.tdiv_eq_ediv_of_nonneg this.1]; omega)
        clear hq7
        obtain ⟨iv, hiv⟩ : ∃ x, x = wrap64 (v6 - q7) := ⟨_, rfl⟩
        have HIV := Lib.hid hiv
        clear hiv
        go_upto_region 8 with (fail)
        refine Fl.startF (F := [_, _, _]) [([],[]),([],[]),([],[]),([2],[2]),([],[]),([4,3],[4]),([5],[5]),([3,6],[3,6]),([0,5,0],[0]),([1,8,0,1,8],[1]),([7,9,0,1,2,3,4,5,6,7,8,9],[7])] [] 12 [.take 0, .take 1, .take 2, .take 4, .one 3, .one 5, .take 6, .take 7, .one 8, .one 9, .take 10] [] (by kernel_rfl) (by kernel_rfl) (by decide) (by decide) (by kernel_rfl) (by kernel_rfl) Fl.mk0 HI.out ?_
        refine Fl.take (some 54) (v := .agg #[.slice (some ⟨bm, 0, none⟩) m2.length cm2]) rfl rfl (Fl.ld 0 rfl (by rfl) _ _ rfl rfl Try.underlying32 rfl (by kernel_rfl)) ?_
        simp only [Act.put, Fl.z1, Fl.z2, Fl.z3]
        refine Fl.take (some 55) (v := .agg #[.int .i64 (n : Int), .int .i64 0, .int .i64 nl, .int .i64 ln]) rfl rfl (Fl.ld 1 rfl (by rfl) _ _ rfl rfl Try.underlying54 rfl (by kernel_rfl)) ?_
        simp only [Act.put, Fl.z1, Fl.z2, Fl.z3]
        refine Fl.take (some 56) (v := .pointer (some ⟨gc, 0, none⟩)) rfl rfl (Or.inl ⟨by rfl, fun _ _ => by rfl⟩) ?_
        simp only [Act.put, Fl.z1, Fl.z2, Fl.z3]
        refine Fl.take (some 58) (v := .pointer (some ⟨gc, 0, none⟩)) rfl rfl (Or.inl ⟨by rfl, fun _ _ => by rfl⟩) ?_
        simp only [Act.put, Fl.z1, Fl.z2, Fl.z3]
        refine Fl.call (some 57) Try.func56 (by kernel_rfl) rfl #[.pointer (some ⟨gc, 0, none⟩), .int .i64 4] rfl rfl rfl (by rfl) rfl (fun E2 W2 hE2 hi => ?_)
        refine (spec_l1Cur_pick.calls gc l0 j5 t5 4 v6 j6 t6 w W2 (spec_l1Cur_key9.got hi (i := 0) rfl) hi.bel HP2.out).mono ?_
        rintro e W' ⟨rfl, hI2, hB2, hK2⟩
        refine Fl.keepI (F := []) (v := .int .i64 v6) (F' := [spec_l1Cur_key9.curF w gc l0 (j6 : Int) t6, Lv.boxF g2 #[.slice none 0 0] 32, Lv.boxF g3 #[.int .i64 0, .int .i64 0, .int .i64 0, .int .i64 0] 54]) (spec_l1Cur_key9.on hi (i := 0) rfl hI2 hB2 hK2) ?_
        clear hi hI2 hB2 hK2 hE2
        simp only [Act.put, Fl.z1, Fl.z2, Fl.z3]
        refine Fl.call (some 59) Try.func56 (by kernel_rfl) rfl #[.pointer (some ⟨gc, 0, none⟩), .int .i64 24] rfl rfl rfl (by rfl) rfl (fun E2 W2 hE2 hi => ?_)
        refine (spec_l1Cur_pick.calls gc l0 j6 t6 24 v7 j7 t7 w W2 (spec_l1Cur_key9.got hi (i := 0) rfl) hi.bel HP3.out).mono ?_
        rintro e W' ⟨rfl, hI2, hB2, hK2⟩
        refine Fl.keepI (F := []) (v := .int .i64 v7) (F' := [spec_l1Cur_key9.curF w gc l0 (j7 : Int) t7, Lv.boxF g2 #[.slice none 0 0] 32, Lv.boxF g3 #[.int .i64 0, .int .i64 0, .int .i64 0, .int .i64 0] 54]) (spec_l1Cur_key9.on hi (i := 0) rfl hI2 hB2 hK2) ?_
        clear hi hI2 hB2 hK2 hE2
        simp only [Act.put, Fl.z1, Fl.z2, Fl.z3]
        refine Fl.take (some 60) (v := .int .i64 q7) rfl rfl (Fz.yields_quo (by rfl) _ _ _ _ rfl v7 23 q7 rfl rfl (by decide) HQ8.out) ?_
        simp only [Act.put, Fl.z1, Fl.z2, Fl.z3]
        refine Fl.take (some 61) (v := .int .i64 iv) rfl rfl (Or.inl ⟨by rfl, fun _ _ => by have h_ := HIV.out; rw [h_]; first | (go_simp; done) | (go_simp; simp only [i64_w]; done)⟩) ?_
        simp only [Act.put, Fl.z1, Fl.z2, Fl.z3]
        refine Fl.store 1 #[.slice (some ⟨bm, 0, none⟩) m2.length cm2] rfl rfl rfl rfl _ _ _ rfl rfl rfl (by rfl) rfl (by kernel_rfl) (by simp [Value.oneCell']) ?_
        refine Fl.store 2 #[.int .i64 (n : Int), .int .i64 0, .int .i64 nl, .int .i64 ln] rfl rfl rfl rfl _ _ _ rfl rfl rfl (by rfl) rfl (by kernel_rfl) (by simp [Value.oneCell']) ?_
        refine Fl.take (some 4) (v := .int .i64 iv) rfl rfl (Or.inl ⟨by rfl, fun _ _ => by rfl⟩) ?_
        simp only [Act.put, Fl.z1, Fl.z2, Fl.z3]
        refine Fl.fin0 ?_
        refine Fl.stopN (fun W hi => ?_)
        replace HI := Lib.hid hi
        clear hi
        go_wp2
        refine bodyPost_ret (v := .tuple #[.agg #[.slice (some ⟨bm, 0, none⟩) m2.length cm2], .agg #[.int .i64 (n : Int), .int .i64 0, .int .i64 nl, .int .i64 ln], .int .i64 iv]) (results_list (rs := [.cell 2 32, .cell 3 54, .tmp 4]) rfl (by simp) (.cell _ _ _ (0, 0) _ rfl (HI.out.blk 1 rfl) Try.underlying32 rfl (by kernel_rfl) (.cell _ _ _ (0, 0) _ rfl (HI.out.blk 2 rfl) Try.underlying54 rfl (by kernel_rfl) (.tmp .nil)))) rfl ?_
        obtain ⟨S_, _, hR_⟩ := HI.out.get 5 rfl
        unfold spec_DrawKeyAt.Post
        exact ⟨some ⟨bm, 0, none⟩, cm2, m2, n, 0, nl, ln, iv, rfl, by have := HML2.out; omega, Kd.S_mono hR_ (fun _ _ => trivial), HI.out.bel⟩
      · have HLT := Lib.hid hlt
        clear hlt
        go_upto_region 3 with (fail)
        refine Fl.startW [.take 0, .one 1, .take 2, .one 3, .one 4, .take 5, .take 6, .take 7, .one 8, .take 9, .take 10, .take 11] (by decide) HI.out ?_
        refine Fl.take (some 13) (v := .pointer (some ⟨gc, 0, none⟩)) rfl rfl (Or.inl ⟨by rfl, fun _ _ => by rfl⟩) ?_
        simp only [Act.put, Fl.z1, Fl.z2, Fl.z3]
        refine Fl.call (some 14) Try.func50 (by kernel_rfl) rfl #[.pointer (some ⟨gc, 0, none⟩), .int .i64 2] rfl rfl rfl (by rfl) rfl (fun E2 W2 hE2 hi => ?_)
        refine (spec_l1Cur_one.calls gc l0 j t 2 true j2 t2 w W2 (spec_l1Cur_key9.got hi (i := 2) rfl) hi.bel HO.out).mono ?_
        rintro e W' ⟨rfl, hI2, hB2, hK2⟩
        refine Fl.keepI (F := []) (v := .bool true) (F' := [Lv.boxF g6 #[.slice Am m.length cm] 32, Lv.rowsF (Kd.slice 5 (Kd.int .u8)) 43 w.heap.size (.slice Am m.length cm) m, spec_l1Cur_key9.curF w gc l0 (j2 : Int) t2, Lv.boxF g3 #[.int .i64 0, .int .i64 0, .int .i64 0, .int .i64 0] 54, Lv.boxF g2 #[.slice none 0 0] 32]) (spec_l1Cur_key9.on hi (i := 2) rfl hI2 hB2 hK2) ?_
        clear hi hI2 hB2 hK2 hE2
        simp only [Act.put, Fl.z1, Fl.z2, Fl.z3]
        refine Fl.take (some 15) (v := .bool true) rfl rfl (Or.inl ⟨by rfl, fun _ _ => by rfl⟩) ?_
        simp only [Act.put, Fl.z1, Fl.z2, Fl.z3]
        refine Fl.ldF (some 16) 0 rfl rfl rfl (by rfl) _ _ rfl rfl Try.underlying32 rfl (by kernel_rfl) ?_
        simp only [Act.put, Fl.z1, Fl.z2, Fl.z3]
        refine Fl.call (some 17) Try.func53 (by kernel_rfl) rfl #[.agg #[.slice Am m.length cm]] rfl rfl rfl (by rfl) rfl (fun E2 W2 hE2 hi => ?_)
        refine (spec_l2Memory.calls k2 Am cm m true W2 (hi.cS 1 rfl) (hi.lS 1 rfl) HL2.out).mono ?_
        rintro e W' ⟨rfl, hb⟩
        refine Fl.keep (v := .bool true) hi hb ?_
        clear hi hb hE2
        simp only [Act.put, Fl.z1, Fl.z2, Fl.z3]
        refine Fl.take (some 18) (v := .bool true) rfl rfl (Or.inl ⟨by rfl, fun _ _ => by rfl⟩) ?_
        simp only [Act.put, Fl.z1, Fl.z2, Fl.z3]
        refine Fl.take (some 19) (v := .bool true) rfl rfl (Or.inl ⟨by rfl, fun _ _ => by rfl⟩) ?_
        simp only [Act.put, Fl.z1, Fl.z2, Fl.z3]
        refine Fl.take (some 20) (v := .pointer (some ⟨g6, 0, none⟩)) rfl rfl (Or.inl ⟨by rfl, fun _ _ => by first | rfl | (go_simp; done) | (go_simp; rfl) | (go_simp; omega)⟩) ?_
        simp only [Act.put, Fl.z1, Fl.z2, Fl.z3]
        refine Fl.ldXc (some 21) 0 0 rfl rfl rfl (by rfl) _ _ rfl rfl rfl Try.underlying22 rfl ?_
        simp only [Act.put, Fl.z1, Fl.z2, Fl.z3]
        refine Fl.take (some 22) (v := .int .i64 (m.length : Int)) rfl rfl (Or.inl ⟨by rfl, fun _ _ => by first | rfl | (go_simp; done) | (go_simp; rfl) | (go_simp; omega)⟩) ?_
        simp only [Act.put, Fl.z1, Fl.z2, Fl.z3]
        refine Fl.take (some 23) (v := .bool false) rfl rfl (Or.inl ⟨by rfl, fun _ _ => by have h_ := eq_false HLT.out; first | (go_simp; done) | (go_simp; rfl) | (go_simp; omega)⟩) ?_
        simp only [Act.put, Fl.z1, Fl.z2, Fl.z3]
        refine Fl.take (some 24) (v := .bool false) rfl rfl (Or.inl ⟨by rfl, fun _ _ => by rfl⟩) ?_
        simp only [Act.put, Fl.z1, Fl.z2, Fl.z3]
        refine Fl.stopW (fun W hi => ?_)
        replace HI := Lib.hid hi
        clear hi
        have HML2 : Hid (m.length ≤ 20) := Lib.hid (by have := HML.out; omega)
        obtain ⟨k3, wa, ws, wl, wc, j3, t3, hw_, hj3⟩ := HMM.out.2.1 l0 HU.out j2 (by have := HJ2.out; omega) t2 m (by have := HML.out; omega) HMR.out
        have HW := Lib.hid hw_
        obtain ⟨v3, j4, t4, ha, _, _⟩ := (HFF.out l0 HU.out j3 (by have := HJ2.out; omega) t3).2.1 [0, 1, 2, (-1), 48, 4611686018427387904] (by decide) (by decide)
        have HAM := Lib.hid ha
        clear hw_ hj3 ha
        replace HI : Hid (Lv.Inv w W [Lv.boxF g6 #[.slice Am m.length cm] 32, Lv.rowsF (Kd.slice 5 (Kd.int .u8)) 43 w.heap.size (.slice Am m.length cm) m, spec_l1Cur_key9.curF w gc l0 (j2 : Int) t2, Lv.boxF g3 #[.int .i64 0, .int .i64 0, .int .i64 0, .int .i64 0] 54, Lv.boxF g2 #[.slice none 0 0] 32]) := Lib.hid (HI.out.front 0 rfl)
        replace HI : Hid (Lv.Inv w W [Lv.boxF g3 #[.int .i64 0, .int .i64 0, .int .i64 0, .int .i64 0] 54, Lv.boxF g6 #[.slice Am m.length cm] 32, Lv.rowsF (Kd.slice 5 (Kd.int .u8)) 43 w.heap.size (.slice Am m.length cm) m, spec_l1Cur_key9.curF w gc l0 (j2 : Int) t2, Lv.boxF g2 #[.slice none 0 0] 32]) := Lib.hid (HI.out.front 3 rfl)
        replace HI : Hid (Lv.Inv w W [Lv.boxF g2 #[.slice none 0 0] 32, Lv.boxF g3 #[.int .i64 0, .int .i64 0, .int .i64 0, .int .i64 0] 54, Lv.boxF g6 #[.slice Am m.length cm] 32, Lv.rowsF (Kd.slice 5 (Kd.int .u8)) 43 w.heap.size (.slice Am m.length cm) m, spec_l1Cur_key9.curF w gc l0 (j2 : Int) t2]) := Lib.hid (HI.out.front 4 rfl)
        replace HI : Hid (Lv.Inv w W [Lv.rowsF (Kd.slice 5 (Kd.int .u8)) 43 w.heap.size (.slice Am m.length cm) m, Lv.boxF g2 #[.slice none 0 0] 32, Lv.boxF g3 #[.int .i64 0, .int .i64 0, .int .i64 0, .int .i64 0] 54, Lv.boxF g6 #[.slice Am m.length cm] 32, spec_l1Cur_key9.curF w gc l0 (j2 : Int) t2]) := Lib.hid (HI.out.front 3 rfl)
        replace HI : Hid (Lv.Inv w W [spec_l1Cur_key9.curF w gc l0 (j2 : Int) t2, Lv.rowsF (Kd.slice 5 (Kd.int .u8)) 43 w.heap.size (.slice Am m.length cm) m, Lv.boxF g2 #[.slice none 0 0] 32, Lv.boxF g3 #[.int .i64 0, .int .i64 0, .int .i64 0, .int .i64 0] 54, Lv.boxF g6 #[.slice Am m.length cm] 32]) := Lib.hid (HI.out.front 4 rfl)
        go_upto_region 9 with (fail)
        refine Fm.startF (F := [_, _, _, _]) [([],[]),([],[]),([],[]),([1,2],[1,2]),([],[]),([],[]),([4,5,3],[4,5]),([0,6,0],[0]),([3,7,0,1,2,3,7],[3]),([6,8,0,1,2,3,4,5,6,7,8],[6])] [⟨5, 67, #[.int .i64 0, .int .i64 1, .int .i64 2, .int .i64 (-1), .int .i64 48, .int .i64 4611686018427387904], 3, fun g => .slice (some ⟨g, 0, none⟩) 6 6⟩] 11 [.take 0, .take 1, .take 2, .take 4, .one 3] [.one 6, .one 7, .one 8, .take 9] (by kernel_rfl) (by kernel_rfl) (by decide) (by decide) (by kernel_rfl) (by kernel_rfl) (Fm.mkc ⟨_, rfl, rfl, fun _ => rfl, fun e w => by first | (go_simp; done) | (go_simp; rfl)⟩ Fm.mk0) HI.out ?_
        refine Fl.take (some 62) (v := .agg #[.slice Am m.length cm]) rfl rfl (Fl.ld 0 rfl (by rfl) _ _ rfl rfl Try.underlying32 rfl (by kernel_rfl)) ?_
        simp only [Act.put, Fl.z1, Fl.z2, Fl.z3]
        refine Fl.take (some 63) (v := .pointer (some ⟨gc, 0, none⟩)) rfl rfl (Or.inl ⟨by rfl, fun _ _ => by rfl⟩) ?_
        simp only [Act.put, Fl.z1, Fl.z2, Fl.z3]
        refine Fl.take (some 64) (v := .agg #[.slice Am m.length cm]) rfl rfl (Fl.ld 0 rfl (by rfl) _ _ rfl rfl Try.underlying32 rfl (by kernel_rfl)) ?_
        simp only [Act.put, Fl.z1, Fl.z2, Fl.z3]
        refine Fl.take (some 66) (v := .pointer (some ⟨gc, 0, none⟩)) rfl rfl (Or.inl ⟨by rfl, fun _ _ => by rfl⟩) ?_
        simp only [Act.put, Fl.z1, Fl.z2, Fl.z3]
        refine Fl.call (some 65) Try.func57 (by kernel_rfl) rfl #[.pointer (some ⟨gc, 0, none⟩), .agg #[.slice Am m.length cm]] rfl rfl rfl (by rfl) rfl (fun E2 W2 hE2 hi => ?_)
        refine (spec_l1Cur_window.calls k3 gc l0 j2 t2 Am cm m wa ws wl wc j3 t3 w W2 (spec_l1Cur_key9.got hi (i := 0) rfl) hi.bel (fun W_ hK_ => spec_DrawKeyAt.past hi hK_ 0 rfl) (hi.lS 1 rfl) HW.out).mono ?_
        rintro e W' ⟨rfl, hI2, hB2, hK2⟩
        refine Fl.keepI (F := []) (v := .agg #[.int .i64 wa, .int .i64 ws, .int .i64 wl, .int .i64 wc]) (F' := [spec_l1Cur_key9.curF w gc l0 (j3 : Int) t3, Lv.rowsF (Kd.slice 5 (Kd.int .u8)) 43 w.heap.size (.slice Am m.length cm) m, Lv.boxF g2 #[.slice none 0 0] 32, Lv.boxF g3 #[.int .i64 0, .int .i64 0, .int .i64 0, .int .i64 0] 54]) (spec_l1Cur_key9.on hi (i := 0) rfl hI2 hB2 hK2) ?_
        clear hi hI2 hB2 hK2 hE2
        simp only [Act.put, Fl.z1, Fl.z2, Fl.z3]
        refine Fm.fin1 (fun bl => ?_)
        simp only [Act.put, Fl.z1, Fl.z2, Fl.z3]
        refine Fl.call (some 68) Try.func55 (by kernel_rfl) rfl #[.pointer (some ⟨gc, 0, none⟩), .slice (some ⟨bl, 0, none⟩) 6 6] rfl rfl rfl (by rfl) rfl (fun E2 W2 hE2 hi => ?_)
        refine (spec_l1Cur_among.calls gc l0 j3 t3 (some ⟨bl, 0, none⟩) 6 [0, 1, 2, (-1), 48, 4611686018427387904] v3 j4 t4 w W2 (spec_l1Cur_key9.got hi (i := 0) rfl) hi.bel (spec_l1Cur_key9.laid [0, 1, 2, (-1), 48, 4611686018427387904] (hi.front 4 rfl) (n := 6) rfl (by decide)) (Nat.le_refl _) (fun ad e _ => by cases e; exact ((spec_l1Cur_key9.got hi (i := 0) rfl).ne_blk (hi.blk 4 rfl) (by decide)).symm) HAM.out).mono ?_
        rintro e W' ⟨rfl, hI2, hB2, hK2⟩
        refine Fl.keepI (F := []) (v := .int .i64 v3) (F' := [spec_l1Cur_key9.curF w gc l0 (j4 : Int) t4, Lv.rowsF (Kd.slice 5 (Kd.int .u8)) 43 w.heap.size (.slice Am m.length cm) m, Lv.boxF g2 #[.slice none 0 0] 32, Lv.boxF g3 #[.int .i64 0, .int .i64 0, .int .i64 0, .int .i64 0] 54, Lv.boxF bl #[.int .i64 0, .int .i64 1, .int .i64 2, .int .i64 (-1), .int .i64 48, .int .i64 4611686018427387904] 3]) (spec_l1Cur_key9.on hi (i := 0) rfl hI2 hB2 hK2) ?_
        clear hi hI2 hB2 hK2 hE2
        simp only [Act.put, Fl.z1, Fl.z2, Fl.z3]
        refine Fl.store 2 #[.slice Am m.length cm] rfl rfl rfl rfl _ _ _ rfl rfl rfl (by rfl) rfl (by kernel_rfl) (by simp [Value.oneCell']) ?_
        refine Fl.store 3 #[.int .i64 wa, .int .i64 ws, .int .i64 wl, .int .i64 wc] rfl rfl rfl rfl _ _ _ rfl rfl rfl (by rfl) rfl (by kernel_rfl) (by simp [Value.oneCell']) ?_
        refine Fl.take (some 4) (v := .int .i64 v3) rfl rfl (Or.inl ⟨by rfl, fun _ _ => by rfl⟩) ?_
        simp only [Act.put, Fl.z1, Fl.z2, Fl.z3]
        refine Fl.stopN (fun W hi => ?_)
        replace HI := Lib.hid hi
        clear hi
        go_wp2
        refine bodyPost_ret (v := .tuple #[.agg #[.slice Am m.length cm], .agg #[.int .i64 wa, .int .i64 ws, .int .i64 wl, .int .i64 wc], .int .i64 v3]) (results_list (rs := [.cell 2 32, .cell 3 54, .tmp 4]) rfl (by simp) (.cell _ _ _ (0, 0) _ rfl (HI.out.blk 2 rfl) Try.underlying32 rfl (by kernel_rfl) (.cell _ _ _ (0, 0) _ rfl (HI.out.blk 3 rfl) Try.underlying54 rfl (by kernel_rfl) (.tmp .nil)))) rfl ?_
        obtain ⟨S_, _, hR_⟩ := HI.out.get 1 rfl
        unfold spec_DrawKeyAt.Post
        exact ⟨Am, cm, m, wa, ws, wl, wc, v3, rfl, by have := HML2.out; omega, Kd.S_mono hR_ (fun _ _ => trivial), HI.out.bel⟩

open Go.Proofs.Ytkifenbcepicjaa.Cp
/-! ### impl_within: function 59 -/
def impl_within.f (a0 : Int) (a1 : Int) (a2 : Int) : Option (Bool) := if a0 ≥ a1 then (some (decide (a0 ≤ a2))) else (some false)
set_option maxHeartbeats 8000000 in
set_option maxRecDepth 100000 in
theorem impl_within.calls (a0 : Int) (a1 : Int) (a2 : Int) (r : Bool) (w : World) (h : impl_within.f a0 a1 a2 = some r) :
  Calls Try.prog 59 #[.int .i64 a0, .int .i64 a1, .int .i64 a2] w fun e w' => e = .returned (.bool r) ∧ Drawn0 w w' := by
 have H : (if a0 ≥ a1 then (some (decide (a0 ≤ a2))) else (some false)) = some r := h
 clear h
 by_cases c4 : a0 ≥ a1
 ·rw [if_pos c4] at H
  have c4b0 : decide (a1 ≤ a0) = true := decide_eq_true c4
  clear c4
  obtain rfl := Option.some.inj H
  go_enter Try.func59, Try.ntmps59
  go_wp2
  go_ret
  exact ⟨by first | rfl | (simp; done) | (simp [*]; done), by repeat (first | exact Drawn0.refl _ | apply Drawn0.step)⟩
 ·rw [if_neg c4] at H
  have c4b0 : decide (a1 ≤ a0) = false := decide_eq_false c4
  clear c4
  obtain rfl := Option.some.inj H
  go_enter Try.func59, Try.ntmps59
  go_wp2
  go_ret
  exact ⟨by first | rfl | (simp; done) | (simp [*]; done), by repeat (first | exact Drawn0.refl _ | apply Drawn0.step)⟩

open Go.Proofs.Ytkifenbcepicjaa.Cp
/-! ### impl_IsMemory: function 68 -/
def impl_IsMemory.l0 : Nat → List (List Int) → Int → Int → List (List Int) → Option (Bool)
 | 0, _, _, _, _ => none
 | k + 1, x6, x7, x8, x251000 => if x8 < x7 then (if 0 ≤ x8 then (if x8 < (x6.length : Int) then ((impl_within.f ((rd_L2 x6 x8).length : Int) 1 64).bind fun t252 => (if t252 = true then (impl_IsMemory.l0 k x6 x7 (wrap64 (x8 + 1)) x251000) else (some false))) else (none)) else (none)) else (some (decide ((x251000.length : Int) ≤ 16)))
def impl_IsMemory.f (k : Nat) (l0_0 : List (List Int)) : Option (Bool) := impl_IsMemory.l0 k l0_0 (l0_0.length : Int) 0 l0_0
theorem impl_IsMemory.mono_l : ∀ k, (∀ y0 y1 y2 y3, LeO (impl_IsMemory.l0 k y0 y1 y2 y3) (impl_IsMemory.l0 (k + 1) y0 y1 y2 y3))
 | 0 => fun _ _ _ _ r h => by simp [impl_IsMemory.l0] at h
 | k + 1 => by
  have ih0 := impl_IsMemory.mono_l k
  ·intro y0 y1 y2 y3
   unfold impl_IsMemory.l0
   repeat' first
   | (with_reducible exact ih0 _ _ _ _)
   | (with_reducible exact LeO.refl _)
   | (with_reducible exact LeO.none _)
   | (with_reducible refine LeO.ite ?_ ?_)
   | (with_reducible refine LeO.bind ?_ (fun _ => ?_))
   | exact ih0 _ _ _ _
   | exact LeO.none _
   | refine LeO.ite ?_ ?_
   | refine LeO.bind ?_ (fun _ => ?_)
theorem impl_IsMemory.mono : ∀ a0 k, LeO (impl_IsMemory.f k a0) (impl_IsMemory.f (k + 1) a0) := by
 intro a0 k
 have ih0 := impl_IsMemory.mono_l k
 unfold impl_IsMemory.f
 repeat' first
   | (with_reducible exact ih0 _ _ _ _)
   | (with_reducible exact LeO.refl _)
   | (with_reducible exact LeO.none _)
   | (with_reducible refine LeO.ite ?_ ?_)
   | (with_reducible refine LeO.bind ?_ (fun _ => ?_))
   | exact ih0 _ _ _ _
   | exact LeO.none _
   | refine LeO.ite ?_ ?_
   | refine LeO.bind ?_ (fun _ => ?_)
set_option maxHeartbeats 8000000 in
set_option maxRecDepth 100000 in
theorem impl_IsMemory.calls (k : Nat) (A0_0 : Option Addr) (c0_0 : Nat) (l0_0 : List (List Int)) (r : Bool) (w : World) (hr0_0 : Kd.C (Kd.slice 5 (Kd.int .u8)) w A0_0 l0_0.length l0_0) (hc0_0 : l0_0.length ≤ c0_0) (h : impl_IsMemory.f k l0_0 = some r) :
  Calls Try.prog 68 #[.agg #[.slice A0_0 l0_0.length c0_0]] w fun e w' => e = .returned (.bool r) ∧ Below w.heap.size w w' := by
 have hu32 := Try.underlying32
 have HR0_0 := Aside0.mk hr0_0
 have HC0_0 := Aside0.mk hc0_0
 clear hr0_0 hc0_0
 have HB := Aside0.mk (Below.refl w.heap.size w)
 have H : (impl_IsMemory.l0 k l0_0 (l0_0.length : Int) 0 l0_0) = some r := h
 clear h
 have H' := Aside0.mk H
 clear H
 go_enter Try.func68, Try.ntmps68
 go_wp2_with (first | ((with_reducible refine gate_dst (N := 1) rfl ?_); refine box_event ?hg (N := 1) ?hd (cs := #[.slice A0_0 l0_0.length c0_0]) (t := 32) ?hr ?_; (case hd => rfl); (case hg => rfl); (case hr => first | (go_simp; done) | (go_simp; rfl)); intro gb250 hg w2 hbox hb; have BK250 := Aside0.mk (hbox); have GW250 := zge HB hg; have GE250 := zge HB hg; replace HB := zhs HB hb; clear hb hbox hg; have hcz3_0 := zc0 BK250 0 rfl; have hfz3_0 := blk_frozen BK250.out 0))
 go_loopg [8] k (fun kq v8 w' => ∃ (x8_1 : Int), v8 = .int .i64 x8_1 ∧ Aside0 (impl_IsMemory.l0 kq l0_0 (l0_0.length : Int) x8_1 l0_0 = some r) ∧ Aside0 (kq ≤ k) ∧ Aside0 (w'.heap[gb250]? = some (.cells #[(.slice A0_0 l0_0.length c0_0)] 32 (0, 0))) ∧ Aside0 (Below w.heap.size w w'))
 case atStart => exact ⟨(0), (by first | rfl | (simp; done) | (simp [*]; done)), H', ⟨Nat.le_refl _⟩, ⟨zk0 BK250⟩, ⟨by repeat (first | exact zh0 HB | refine below_set ?_ GE250.out)⟩⟩
 case round =>
  clear H'
  try clear p2
  try clear hcz3_0
  try clear hfz3_0
  obtain ⟨x8_1, rfl, HA, HK1, BK250, HB⟩ := hrel
  cases gk with
  | zero => exact absurd HA.out (by simp [impl_IsMemory.l0])
  | succ k1 =>
   have H := HA.out
   clear HA
   simp only [impl_IsMemory.l0] at H
   by_cases c4 : x8_1 < (l0_0.length : Int)
   ·rw [if_pos c4] at H
    have c4b0 : decide (x8_1 < (l0_0.length : Int)) = true := decide_eq_true c4
    clear c4
    by_cases c5 : 0 ≤ x8_1
    ·rw [if_pos c5] at H
     have c5b0 : decide (0 ≤ x8_1) = true := decide_eq_true c5
     clear c5
     by_cases c6 : x8_1 < (l0_0.length : Int)
     ·rw [if_pos c6] at H
      have c6b0 : decide (x8_1 < (l0_0.length : Int)) = true := decide_eq_true c6
      clear c6
      replace H := Option.bind_eq_some_iff.mp H
      obtain ⟨t252, A70, H⟩ := H
      replace H : (if t252 = true then (impl_IsMemory.l0 k1 l0_0 (l0_0.length : Int) (wrap64 (x8_1 + 1)) l0_0) else (some false)) = some r := H
      have A7 := Aside0.mk A70
      clear A70
      by_cases c8 : t252 = true
      ·subst c8
       have H1 : (impl_IsMemory.l0 k1 l0_0 (l0_0.length : Int) (wrap64 (x8_1 + 1)) l0_0) = some r := by rw [if_pos rfl] at H; exact H
       clear H
       have H := H1
       clear H1
       have H' := Aside0.mk H
       clear H
       have p251 : 0 ≤ (x8_1 : Int) := of_decide_eq_true (by first | (with_reducible assumption) | assumption)
       have q251 : x8_1 < (l0_0.length : Int) := of_decide_eq_true (by first | (with_reducible assumption) | assumption)
       obtain ⟨ad251, A251_0, c251_0, e251, hx251_0, hl251_0, hi251_0⟩ := at_L2 HR0_0.out x8_1 p251 q251
       cases e251
       replace hx251_0 := (HB.out.cell (World.block_lt_of_cell? w _ hx251_0)).trans hx251_0
       have HR251_0 := Aside0.mk hi251_0
       have HC251_0 := Aside0.mk hl251_0
       clear hi251_0 hl251_0
       replace p251 := eq_true p251
       replace q251 := eq_true q251
       go_wp2_with (first | ((with_reducible refine gate_callee (f := 59) rfl ?_); refine goesL_ (some 14) rfl rfl Try.func59 (by kernel_rfl) rfl #[.int .i64 ((rd_L2 l0_0 x8_1).length : Int), .int .i64 1, .int .i64 64] rfl (by (try simp only [zq1, zq2, zq3]); first | done | rfl | (simp only [List.length_drop, List.length_take]; rfl)) ?_; (with_reducible refine (impl_within.calls ((rd_L2 l0_0 x8_1).length : Int) 1 64 true _ A7.out).mono ?_); rintro e w' ⟨rfl, ⟨nd, rfl⟩⟩; refine ⟨_, rfl, ?_⟩))
       go_roundg k1
       case measure => have := HK1.out; omega
       case rel => exact ⟨(wrap64 (x8_1 + 1)), (by first | rfl | (simp; done) | (simp [*]; done)), H', ⟨by have := HK1.out; omega⟩, ⟨zk0 BK250⟩, ⟨by repeat (first | exact zh0 HB | refine below_set ?_ GE250.out)⟩⟩
      ·replace c8 := Bool.eq_false_iff.mpr c8
       subst c8
       have H1 : (some false) = some r := by rw [if_neg (show ¬ (false = true) by decide)] at H; exact H
       clear H
       have H := H1
       clear H1
       obtain rfl := Option.some.inj H
       have p251 : 0 ≤ (x8_1 : Int) := of_decide_eq_true (by first | (with_reducible assumption) | assumption)
       have q251 : x8_1 < (l0_0.length : Int) := of_decide_eq_true (by first | (with_reducible assumption) | assumption)
       obtain ⟨ad251, A251_0, c251_0, e251, hx251_0, hl251_0, hi251_0⟩ := at_L2 HR0_0.out x8_1 p251 q251
       cases e251
       replace hx251_0 := (HB.out.cell (World.block_lt_of_cell? w _ hx251_0)).trans hx251_0
       have HR251_0 := Aside0.mk hi251_0
       have HC251_0 := Aside0.mk hl251_0
       clear hi251_0 hl251_0
       replace p251 := eq_true p251
       replace q251 := eq_true q251
       go_wp2_with (first | ((with_reducible refine gate_callee (f := 59) rfl ?_); refine goesL_ (some 14) rfl rfl Try.func59 (by kernel_rfl) rfl #[.int .i64 ((rd_L2 l0_0 x8_1).length : Int), .int .i64 1, .int .i64 64] rfl (by (try simp only [zq1, zq2, zq3]); first | done | rfl | (simp only [List.length_drop, List.length_take]; rfl)) ?_; (with_reducible refine (impl_within.calls ((rd_L2 l0_0 x8_1).length : Int) 1 64 false _ A7.out).mono ?_); rintro e w' ⟨rfl, ⟨nd, rfl⟩⟩; refine ⟨_, rfl, ?_⟩))
       go_ret
       exact ⟨by first | rfl | (simp <;> rfl) | (simp [*] <;> rfl), by repeat (first | exact zh0 HB | refine below_set ?_ GE250.out)⟩
     ·rw [if_neg c6] at H
      exact absurd H (by simp)
    ·rw [if_neg c5] at H
     exact absurd H (by simp)
   ·rw [if_neg c4] at H
    have c4b0 : decide (x8_1 < (l0_0.length : Int)) = false := decide_eq_false c4
    clear c4
    obtain rfl := Option.some.inj H
    have hcz9_0 := zc0 BK250 0 rfl
    have hfz9_0 := blk_frozen BK250.out 0
    go_wp2
    go_ret
    exact ⟨by first | rfl | (simp <;> rfl) | (simp [*] <;> rfl), by repeat (first | exact zh0 HB | refine below_set ?_ GE250.out)⟩

end Go.Proofs.Ytkifenbcepicjaa.PFnKeys
