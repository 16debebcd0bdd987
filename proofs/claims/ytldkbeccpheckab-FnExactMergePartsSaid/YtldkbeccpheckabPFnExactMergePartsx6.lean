/- What is proved here: each Go function that is named below answers, and leaves memory, as the theorem of its name says; no condition beyond those that each theorem states. Laid by this session's own program (wip/driver.py) over the kit's print. -/
import Derived.Test.YtldkbeccpheckabPFnExactMergePartsx0
import Derived.Test.YtldkbeccpheckabPFnExactMergePartsx5
namespace Go.Proofs.Ytldkbeccpheckab.PFnExactMergeParts
open Go.RowKit Go.Proofs.YtldkbeccpheckabW.PrintWords Go.Proofs.YtldkbeccpheckabW.PrintLast Go.Proofs.YtldkbeccpheckabW.PrintMore
attribute [local go_sem] max2_int min2_int max_two min_two max_three min_three max_four min_four   -- for this text's walks alone
set_option linter.unusedVariables false
set_option linter.unusedSimpArgs false

open Go.Proofs.Ytldkbeccpheckab.Cp
/-! ### impl_MergeParts: function 26 -/
def impl_MergeParts.l0 : Nat → List (S61) → List (S61) → Int → Int → Option ((List (S61)) × Bool)
 | 0, _, _, _, _ => none
 | k + 1, x6, x17, x18, x19 => if x19 < x18 then (if 0 ≤ x19 then (if x19 < (x17.length : Int) then (if ((rd_T61 x17 x19).f2) = 0 then (impl_MergeParts.l0 k x6 x17 x18 (wrap64 (x19 + 1))) else (if (x6.length : Int) > 0 then (if 0 ≤ (wrap64 ((x6.length : Int) - 1)) then (if (wrap64 ((x6.length : Int) - 1)) < (x6.length : Int) then (if ((rd_T61 x6 (wrap64 ((x6.length : Int) - 1))).f0) = ((rd_T61 x17 x19).f0) then (if (wrap64 (((rd_T61 x6 (wrap64 ((x6.length : Int) - 1))).f1) + ((rd_T61 x6 (wrap64 ((x6.length : Int) - 1))).f2))) = ((rd_T61 x17 x19).f1) then ((impl_Window_part.f ((rd_T61 x6 (wrap64 ((x6.length : Int) - 1))).f0) ((rd_T61 x6 (wrap64 ((x6.length : Int) - 1))).f1) ((rd_T61 x6 (wrap64 ((x6.length : Int) - 1))).f2) ((rd_T61 x6 (wrap64 ((x6.length : Int) - 1))).f3) 0 (wrap64 (((rd_T61 x6 (wrap64 ((x6.length : Int) - 1))).f2) + ((rd_T61 x17 x19).f2)))).bind fun bt246 => (impl_MergeParts.l0 k (x6.set ((wrap64 ((x6.length : Int) - 1)) : Int).toNat (⟨bt246.1, bt246.2.1, bt246.2.2.1, bt246.2.2.2⟩ : S61)) x17 x18 (wrap64 (x19 + 1)))) else (if x6.length < 4398046511104 then (impl_MergeParts.l0 k (x6 ++ [(⟨(rd_T61 x17 x19).f0, (rd_T61 x17 x19).f1, (rd_T61 x17 x19).f2, (rd_T61 x17 x19).f3⟩ : S61)]) x17 x18 (wrap64 (x19 + 1))) else (none))) else (if x6.length < 4398046511104 then (impl_MergeParts.l0 k (x6 ++ [(⟨(rd_T61 x17 x19).f0, (rd_T61 x17 x19).f1, (rd_T61 x17 x19).f2, (rd_T61 x17 x19).f3⟩ : S61)]) x17 x18 (wrap64 (x19 + 1))) else (none))) else (none)) else (none)) else (if x6.length < 4398046511104 then (impl_MergeParts.l0 k (x6 ++ [(⟨(rd_T61 x17 x19).f0, (rd_T61 x17 x19).f1, (rd_T61 x17 x19).f2, (rd_T61 x17 x19).f3⟩ : S61)]) x17 x18 (wrap64 (x19 + 1))) else (none)))) else (none)) else (none)) else (some (x6, true))
def impl_MergeParts.f (k : Nat) (l0_0 : List (List Int)) (l1_0 : List (S61)) : Option ((List (S61)) × Bool) := (impl_isRope.f k l0_0 l1_0).bind fun t235 => (if t235 = true then (impl_MergeParts.l0 k (([] : List (S61))) l1_0 (l1_0.length : Int) 0) else (some (([] : List (S61)), false)))
theorem impl_MergeParts.mono_l : ∀ k, (∀ y0 y1 y2 y3, LeO (impl_MergeParts.l0 k y0 y1 y2 y3) (impl_MergeParts.l0 (k + 1) y0 y1 y2 y3))
 | 0 => fun _ _ _ _ r h => by simp [impl_MergeParts.l0] at h
 | k + 1 => by
  have ih0 := impl_MergeParts.mono_l k
  ·intro y0 y1 y2 y3
   unfold impl_MergeParts.l0
   repeat' first
   | (with_reducible exact ih0 _ _ _ _)
   | (with_reducible exact impl_isRope.mono _ _ _)
   | (with_reducible exact LeO.refl _)
   | (with_reducible exact LeO.none _)
   | (with_reducible refine LeO.ite ?_ ?_)
   | (with_reducible refine LeO.bind ?_ (fun _ => ?_))
   | exact ih0 _ _ _ _
   | exact impl_isRope.mono _ _ _
   | exact LeO.none _
   | refine LeO.ite ?_ ?_
   | refine LeO.bind ?_ (fun _ => ?_)
theorem impl_MergeParts.mono : ∀ a0 a1 k, LeO (impl_MergeParts.f k a0 a1) (impl_MergeParts.f (k + 1) a0 a1) := by
 intro a0 a1 k
 have ih0 := impl_MergeParts.mono_l k
 unfold impl_MergeParts.f
 repeat' first
   | (with_reducible exact ih0 _ _ _ _)
   | (with_reducible exact impl_isRope.mono _ _ _)
   | (with_reducible exact LeO.refl _)
   | (with_reducible exact LeO.none _)
   | (with_reducible refine LeO.ite ?_ ?_)
   | (with_reducible refine LeO.bind ?_ (fun _ => ?_))
   | exact ih0 _ _ _ _
   | exact impl_isRope.mono _ _ _
   | exact LeO.none _
   | refine LeO.ite ?_ ?_
   | refine LeO.bind ?_ (fun _ => ?_)
def impl_MergeParts.T10 : Bool × List (List Nat × List Nat) := (true, [([], []), ([0], [0]), ([1], [1]), ([2], [2]), ([2], [2]), ([4, 2], [2, 4]), ([3, 5, 2], [2, 3, 5]), ([6, 2], [2, 6]), ([7, 2], [2, 7]), ([2], [2]), ([9, 2], [2, 9]), ([8, 10, 2], [2, 8, 10]), ([2, 11], [2, 11]), ([12, 2], [12]), ([13], [13]), ([13], [13]), ([15, 13], [13, 15]), ([14, 16, 13], [13, 14, 16]), ([17, 13], [13, 17]), ([18, 13], [13, 18]), ([13], [13]), ([13], [13]), ([21, 13], [13, 21]), ([20, 22, 13], [13, 20, 22]), ([23, 13], [13, 23]), ([24, 13], [13, 24]), ([19, 25, 13], [13, 19, 25]), ([13], [13]), ([27, 13], [13, 27]), ([26, 28, 13], [13, 26, 28]), ([13, 29], [13, 29]), ([30, 13], [30])])
def impl_MergeParts.B10 : List Nat := [0, 1, 3, 7, 7, 23, 63, 127, 255, 7, 519, 2047, 4095, 8191, 16383, 16383, 49151, 131071, 262143, 524287, 16383, 16383, 2113535, 7356415, 15745023, 32522239, 67108863, 16383, 134234111, 536870911, 1073741823, 2147483647]
theorem impl_MergeParts.tab10 : rtab .any (opsOf Try.f26 10) = impl_MergeParts.T10 := by kernel_rfl
theorem impl_MergeParts.bits10 : waitsOk impl_MergeParts.T10.2 impl_MergeParts.B10 = true := by kernel_rfl
def impl_MergeParts.T11 : Bool × List (List Nat × List Nat) := (true, [([], []), ([], []), ([1], [1]), ([], []), ([], []), ([4], [4]), ([3, 5], [3, 5]), ([6], [6]), ([], []), ([], []), ([9], [9]), ([8, 10], [8, 10]), ([11], [11]), ([12], [12]), ([], []), ([14], [14]), ([13, 15], [13, 15]), ([7, 16], [7, 16]), ([0, 2, 0, 1, 2, 3, 4, 5, 6, 7, 8, 9, 10, 11, 12, 13, 14, 15, 16, 17], [0, 2]), ([18, 17, 17, 0, 1, 2, 3, 4, 5, 6, 7, 8, 9, 10, 11, 12, 13, 14, 15, 16, 17], [17, 18])])
def impl_MergeParts.B11 : List Nat := [0, 0, 2, 0, 0, 16, 56, 120, 0, 0, 512, 1792, 3840, 7936, 0, 16384, 65280, 131064, 262143, 524287]
theorem impl_MergeParts.tab11 : rtab .any (opsOf Try.f26 11) = impl_MergeParts.T11 := by kernel_rfl
theorem impl_MergeParts.bits11 : waitsOk impl_MergeParts.T11.2 impl_MergeParts.B11 = true := by kernel_rfl
set_option maxHeartbeats 8000000 in
set_option maxRecDepth 100000 in
theorem impl_MergeParts.calls (k : Nat) (A0_0 : Option Addr) (c0_0 : Nat) (l0_0 : List (List Int)) (A1_0 : Option Addr) (c1_0 : Nat) (l1_0 : List (S61)) (r1 : List (S61)) (r2 : Bool) (w : World) (hr0_0 : Kd.C (Kd.slice 5 (Kd.int .u8)) w A0_0 l0_0.length l0_0) (hc0_0 : l0_0.length ≤ c0_0) (hr1_0 : Kd.C k61 w A1_0 l1_0.length l1_0) (hc1_0 : l1_0.length ≤ c1_0) (h : impl_MergeParts.f k l0_0 l1_0 = some (r1, r2)) :
  Calls Try.prog 26 #[.agg #[.slice A0_0 l0_0.length c0_0], .agg #[.slice A1_0 l1_0.length c1_0]] w fun e w' => ∃ v0_ : Value, e = .returned (.tuple #[.agg #[v0_], .bool r2]) ∧ Kd.R k61 61 w' w.heap.size (fun _ => True) v0_ r1 ∧ Below w.heap.size w w' := by
 have hu35 := Try.underlying35
 have hu32 := Try.underlying32
 have hu61 := Try.underlying61
 have HR0_0 := Aside0.mk hr0_0
 have HC0_0 := Aside0.mk hc0_0
 clear hr0_0 hc0_0
 have HR1_0 := Aside0.mk hr1_0
 have HC1_0 := Aside0.mk hc1_0
 clear hr1_0 hc1_0
 have HB := Aside0.mk (Below.refl w.heap.size w)
 have H : ((impl_isRope.f k l0_0 l1_0).bind fun t235 => (if t235 = true then (impl_MergeParts.l0 k (([] : List (S61))) l1_0 (l1_0.length : Int) 0) else (some (([] : List (S61)), false)))) = some (r1, r2) := h
 clear h
 replace H := Option.bind_eq_some_iff.mp H
 obtain ⟨t235, A30, H⟩ := H
 replace H : (if t235 = true then (impl_MergeParts.l0 k (([] : List (S61))) l1_0 (l1_0.length : Int) 0) else (some (([] : List (S61)), false))) = some (r1, r2) := H
 have A3 := Aside0.mk A30
 clear A30
 by_cases c4 : t235 = true
 ·subst c4
  have H1 : (impl_MergeParts.l0 k (([] : List (S61))) l1_0 (l1_0.length : Int) 0) = some (r1, r2) := by rw [if_pos rfl] at H; exact H
  clear H
  have H := H1
  clear H1
  obtain ⟨y236, hy236⟩ : ∃ y_ : List (S61), y_ = (([] : List (S61))) := ⟨_, rfl⟩
  replace H : (impl_MergeParts.l0 k y236 l1_0 (l1_0.length : Int) 0) = some (r1, r2) := by first | (rw [hy236]; with_reducible exact H) | (have H2_ := (Option.bind_some _ _).symm.trans H; rw [hy236]; with_reducible exact H2_) | (have H2_ := (Option.bind_some _ _).symm.trans H; with_reducible exact H2_) | with_reducible exact H | (rw [hy236]; exact H) | exact H
  have Ny236 := Aside0.mk hy236
  clear hy236
  have H' := Aside0.mk H
  clear H
  go_enter Try.func26, Try.ntmps26
  go_wp2_with (first | ((with_reducible refine gate_dst (N := 2) rfl ?_); refine box_event ?hg (N := 2) ?hd (cs := #[.slice A0_0 l0_0.length c0_0]) (t := 35) ?hr ?_; (case hd => rfl); (case hg => rfl); (case hr => first | (go_simp; done) | (go_simp; rfl)); intro gb232 hg w5 hbox hb; have BK232 := Aside0.mk (hbox); have GW232 := zge HB hg; have GE232 := zge HB hg; replace HB := zhs HB hb; clear hb hbox hg) | ((with_reducible refine gate_dst (N := 3) rfl ?_); refine box_event ?hg (N := 3) ?hd (cs := #[.slice A1_0 l1_0.length c1_0]) (t := 32) ?hr ?_; (case hd => rfl); (case hg => rfl); (case hr => first | (go_simp; done) | (go_simp; rfl)); intro gb233 hg w6 hbox hb; have BK233 := Aside0.mk (hbox); have GW233 := zge HB hg; have GE233 := zge HB hg; have NB232_233 := znl BK232 hg; have NB233_232 := znr BK232 hg; replace BK232 := zb0 BK232 hb; replace HB := zhs HB hb; clear hb hbox hg) | ((with_reducible refine gate_dst (N := 4) rfl ?_); refine box_event ?hg (N := 4) ?hd (cs := #[.slice none 0 0]) (t := 32) ?hr ?_; (case hd => rfl); (case hg => rfl); (case hr => first | (go_simp; done) | (go_simp; rfl)); intro gb234 hg w7 hbox hb; have BK234 := Aside0.mk (hbox); have GW234 := zge HB hg; have GE234 := zge HB hg; have NB232_234 := znl BK232 hg; have NB234_232 := znr BK232 hg; have NB233_234 := znl BK233 hg; have NB234_233 := znr BK233 hg; replace BK232 := zb0 BK232 hb; replace BK233 := zb0 BK233 hb; replace HB := zhs HB hb; clear hb hbox hg; have hnb8 := NB232_233.out; have hnc8 := NB233_232.out; have hnb9 := NB232_234.out; have hnc9 := NB234_232.out; have hcz10_0 := zc0 BK232 0 rfl; have hfz10_0 := blk_frozen BK232.out 0; have hnb11 := NB233_234.out; have hnc11 := NB234_233.out; have hcz12_0 := zc0 BK233 0 rfl; have hfz12_0 := blk_frozen BK233.out 0) | ((with_reducible refine gate_callee (f := 93) rfl ?_); refine goesL_ (some 12) rfl rfl Try.func93 (by kernel_rfl) rfl #[.agg #[.slice A0_0 l0_0.length c0_0], .agg #[.slice A1_0 l1_0.length c1_0]] rfl (by (try simp only [zq1, zq2, zq3]); first | done | rfl | (simp only [List.length_drop, List.length_take]; rfl)) ?_; (with_reducible refine (impl_isRope.calls k _ _ l0_0 _ _ l1_0 true _ ?side1 ?side2 ?side3 ?side4 A3.out).mono ?_); (case side1 => exact Kd.C_below HR0_0.out (zh0 HB)); (case side2 => exact HC0_0.out); (case side3 => exact Kd.C_below HR1_0.out (zh0 HB)); (case side4 => exact HC1_0.out); rintro e w13 ⟨rfl, hb⟩; refine ⟨_, rfl, ?_⟩; replace BK232 := zb0 BK232 hb; replace BK233 := zb0 BK233 hb; replace BK234 := zb0 BK234 hb; replace HB := zhs HB hb; (try clear hb); (try clear hb2); (try clear hk); (try clear hi)) | ((with_reducible refine gate_dst (N := 15) rfl ?_); refine Kd.R_lit k61 _ 61 ?hg (N := 15) ?hd (xs := ([] : List (S61))) (inner := []) (ok := fun _ => True) (okp := fun _ => True) ?hr ?hp (fun _ hk => hk) trivial (Below.refl _ _) (Nat.le_refl _) (by simp) ?_; (case hd => rfl); (case hg => rfl); (case hr => first | (go_simp; done) | (go_simp; rfl)); (case hp => exact (Reps.none _ _)); intro v237 w14 ho15 hb hg_ hnew_; clear hg_ hnew_; (first | rw [← Ny236.out] at ho15 | (simp only [Int.reduceToNat] at ho15; rw [← Ny236.out] at ho15)); have HO238 := Aside0.mk (Kd.R_lower ho15 (below_size (zh0 HB))); replace BK232 := zb0 BK232 hb; replace BK233 := zb0 BK233 hb; replace BK234 := zb0 BK234 hb; replace HB := zhs HB hb; clear hb ho15; have hcz16_0 := zc0 BK233 0 rfl; have hfz16_0 := blk_frozen BK233.out 0))
  go_loopg [6, 19] k (fun kq v6 v19 w' => ∃ (x6_1 : List (S61)) (x19_1 : Int), v19 = .int .i64 x19_1 ∧ Aside0 (impl_MergeParts.l0 kq x6_1 l1_0 (l1_0.length : Int) x19_1 = some (r1, r2)) ∧ Aside0 (kq ≤ k) ∧ Aside0 (Kd.R k61 61 w' w.heap.size (fun _ => True) v6 x6_1) ∧ Aside0 (w'.heap[gb232]? = some (.cells #[(.slice A0_0 l0_0.length c0_0)] 35 (0, 0))) ∧ Aside0 (w'.heap[gb233]? = some (.cells #[(.slice A1_0 l1_0.length c1_0)] 32 (0, 0))) ∧ Aside0 (w'.heap[gb234]? = some (.cells #[(.slice none 0 0)] 32 (0, 0))) ∧ Aside0 (Below w.heap.size w w'))
  case atStart => exact ⟨(y236), (0), (by first | rfl | (simp; done) | (simp [*]; done)), H', ⟨Nat.le_refl _⟩, ⟨zr0 HO238⟩, ⟨zk0 BK232⟩, ⟨zk0 BK233⟩, ⟨zk0 BK234⟩, ⟨by repeat (first | exact zh0 HB | refine below_set ?_ GE232.out | refine below_set ?_ GE233.out | refine below_set ?_ GE234.out)⟩⟩
  case round =>
   clear H'
   try clear c1
   try clear c2
   try clear p2
   try clear c4
   try clear c8
   try clear c9
   try clear c11
   try clear hcz10_0
   try clear hcz12_0
   try clear hcz16_0
   try clear hfz10_0
   try clear hfz12_0
   try clear hfz16_0
   obtain ⟨x6_1, x19_1, rfl, HA, HK1, HO_6, BK232, BK233, BK234, HB⟩ := hrel
   cases gk with
   | zero => exact absurd HA.out (by simp [impl_MergeParts.l0])
   | succ k1 =>
    have H := HA.out
    clear HA
    simp only [impl_MergeParts.l0] at H
    by_cases c17 : x19_1 < (l1_0.length : Int)
    ·rw [if_pos c17] at H
     have c17b0 : decide (x19_1 < (l1_0.length : Int)) = true := decide_eq_true c17
     clear c17
     by_cases c18 : 0 ≤ x19_1
     ·rw [if_pos c18] at H
      have c18b0 : decide (0 ≤ x19_1) = true := decide_eq_true c18
      clear c18
      by_cases c19 : x19_1 < (l1_0.length : Int)
      ·rw [if_pos c19] at H
       have c19b0 : decide (x19_1 < (l1_0.length : Int)) = true := decide_eq_true c19
       clear c19
       by_cases c20 : ((rd_T61 l1_0 x19_1).f2) = 0
       ·rw [if_pos c20] at H
        have c20b0 : (((rd_T61 l1_0 x19_1).f2) == 0) = true := beq_iff_eq.mpr c20
        have c20b1 : (((rd_T61 l1_0 x19_1).f2) != 0) = false := bne_eq_false_iff_eq.mpr c20
        clear c20
        have H' := Aside0.mk H
        clear H
        have p239 : 0 ≤ (x19_1 : Int) := of_decide_eq_true (by first | (with_reducible assumption) | assumption)
        have q239 : x19_1 < (l1_0.length : Int) := of_decide_eq_true (by first | (with_reducible assumption) | assumption)
        obtain ⟨ad239, e239, hx239_0, hx239_1, hx239_2, hx239_3⟩ := at_T61 HR1_0.out x19_1 p239 q239
        cases e239
        replace hx239_0 := (HB.out.cell (World.block_lt_of_cell? w _ hx239_0)).trans hx239_0
        replace hx239_1 := (HB.out.cell (World.block_lt_of_cell? w _ hx239_1)).trans hx239_1
        replace hx239_2 := (HB.out.cell (World.block_lt_of_cell? w _ hx239_2)).trans hx239_2
        replace hx239_3 := (HB.out.cell (World.block_lt_of_cell? w _ hx239_3)).trans hx239_3
        replace p239 := eq_true p239
        replace q239 := eq_true q239
        go_wp2_with (first | ((with_reducible refine gate_dst (N := 8) rfl ?_); refine box_event ?hg (N := 8) ?hd (cs := #[.int .i64 0, .int .i64 0, .int .i64 0, .int .i64 0]) (t := 61) ?hr ?_; (case hd => rfl); (case hg => rfl); (case hr => first | (go_simp; done) | (go_simp; rfl)); intro gb240 hg w21 hbox hb; have BK240 := Aside0.mk (hbox); have GW240 := Aside0.mk ((by rw [hg]; exact (below_size (by repeat (first | exact zh0 HB | refine below_set ?_ GE232.out | refine below_set ?_ GE233.out | refine below_set ?_ GE234.out))) : w.heap.size ≤ gb240)); have GE240 := Aside0.mk ((by rw [hg]; exact (below_size (by repeat (first | exact zh0 HB | refine below_set ?_ GE232.out | refine below_set ?_ GE233.out | refine below_set ?_ GE234.out))) : w.heap.size ≤ gb240)); have NB232_240 := znl BK232 hg; have NB240_232 := znr BK232 hg; have NB233_240 := znl BK233 hg; have NB240_233 := znr BK233 hg; have NB234_240 := znl BK234 hg; have NB240_234 := znr BK234 hg; replace HO_6 := Aside0.mk (Kd.R_below (Kd.R_elderB (zr0 HO_6) gb240 (Nat.le_of_eq hg.symm)) hb); replace BK232 := zb0 BK232 hb; replace BK233 := zb0 BK233 hb; replace BK234 := zb0 BK234 hb; replace HB := Aside0.mk (below_step (by repeat (first | exact zh0 HB | refine below_set ?_ GE232.out | refine below_set ?_ GE233.out | refine below_set ?_ GE234.out)) hb); clear hb hbox hg; have hnb22 := NB240_232.out; have hnc22 := NB232_240.out; have hnb23 := NB240_233.out; have hnc23 := NB233_240.out; have hnb24 := NB240_234.out; have hnc24 := NB234_240.out; have hcz25_0 := zc0 BK240 0 rfl; have hcz25_1 := zc0 BK240 1 rfl; have hcz25_2 := zc0 BK240 2 rfl; have hcz25_3 := zc0 BK240 3 rfl; have hfz25_0 := blk_frozen BK240.out 0; have hfz25_1 := blk_frozen BK240.out 1; have hfz25_2 := blk_frozen BK240.out 2; have hfz25_3 := blk_frozen BK240.out 3; obtain ⟨Ao26, co26, eo26⟩ := Kd.R_slice HO_6.out; subst eo26))
        go_roundg k1
        case measure => have := HK1.out; omega
        case rel => exact ⟨(x6_1), (wrap64 (x19_1 + 1)), (by first | rfl | (simp; done) | (simp [*]; done)), H', ⟨by have := HK1.out; omega⟩, ⟨by (with_reducible repeat (first | apply Kd.R_alloc | apply Kd.R_drewN | apply Kd.R_drew)); exact Kd.R_mono (Kd.R_far (p := ⟨gb240, 3, none⟩) (Kd.R_far (p := ⟨gb240, 2, none⟩) (Kd.R_far (p := ⟨gb240, 1, none⟩) (Kd.R_far (p := ⟨gb240, 0, none⟩) (Kd.R_mono HO_6.out (fun k_ hk => (⟨hk, hk.2⟩ : _ ∧ k_ ≠ gb240))) (fun _ hk => hk.2) (.int .i64 ((rd_T61 l1_0 x19_1).f0))) (fun _ hk => hk.2) (.int .i64 ((rd_T61 l1_0 x19_1).f1))) (fun _ hk => hk.2) (.int .i64 ((rd_T61 l1_0 x19_1).f2))) (fun _ hk => hk.2) (.int .i64 ((rd_T61 l1_0 x19_1).f3))) (fun _ hk => trivial)⟩, ⟨by (with_reducible repeat (first | refine blk_drewN ?_ _ | refine blk_drew ?_ | refine blk_alloc ?_ _)); refine blk_far ?_ NB232_240.out _; refine blk_far ?_ NB232_240.out _; refine blk_far ?_ NB232_240.out _; refine blk_far ?_ NB232_240.out _; (with_reducible repeat (first | refine blk_drewN ?_ _ | refine blk_drew ?_ | refine blk_alloc ?_ _)); exact BK232.out⟩, ⟨by (with_reducible repeat (first | refine blk_drewN ?_ _ | refine blk_drew ?_ | refine blk_alloc ?_ _)); refine blk_far ?_ NB233_240.out _; refine blk_far ?_ NB233_240.out _; refine blk_far ?_ NB233_240.out _; refine blk_far ?_ NB233_240.out _; (with_reducible repeat (first | refine blk_drewN ?_ _ | refine blk_drew ?_ | refine blk_alloc ?_ _)); exact BK233.out⟩, ⟨by (with_reducible repeat (first | refine blk_drewN ?_ _ | refine blk_drew ?_ | refine blk_alloc ?_ _)); refine blk_far ?_ NB234_240.out _; refine blk_far ?_ NB234_240.out _; refine blk_far ?_ NB234_240.out _; refine blk_far ?_ NB234_240.out _; (with_reducible repeat (first | refine blk_drewN ?_ _ | refine blk_drew ?_ | refine blk_alloc ?_ _)); exact BK234.out⟩, ⟨by repeat (first | exact zh0 HB | refine below_set ?_ GE232.out | refine below_set ?_ GE233.out | refine below_set ?_ GE234.out | refine below_set ?_ GE240.out)⟩⟩
       ·rw [if_neg c20] at H
        have c20b0 : (((rd_T61 l1_0 x19_1).f2) == 0) = false := beq_eq_false_iff_ne.mpr c20
        have c20b1 : (((rd_T61 l1_0 x19_1).f2) != 0) = true := bne_iff_ne.mpr c20
        by_cases c27 : (x6_1.length : Int) > 0
        ·rw [if_pos c27] at H
         have c27b0 : decide (0 < (x6_1.length : Int)) = true := decide_eq_true c27
         have c27b1 : decide (0 < x6_1.length) = true := decide_eq_true (by omega)
         clear c27
         obtain ⟨ji28, hji28⟩ : ∃ j_ : Int, (wrap64 ((x6_1.length : Int) - 1)) = j_ := ⟨_, rfl⟩
         replace H : (if 0 ≤ (ji28) then (if (ji28) < (x6_1.length : Int) then (if ((rd_T61 x6_1 (ji28)).f0) = ((rd_T61 l1_0 x19_1).f0) then (if (wrap64 (((rd_T61 x6_1 (ji28)).f1) + ((rd_T61 x6_1 (ji28)).f2))) = ((rd_T61 l1_0 x19_1).f1) then ((impl_Window_part.f ((rd_T61 x6_1 (ji28)).f0) ((rd_T61 x6_1 (ji28)).f1) ((rd_T61 x6_1 (ji28)).f2) ((rd_T61 x6_1 (ji28)).f3) 0 (wrap64 (((rd_T61 x6_1 (ji28)).f2) + ((rd_T61 l1_0 x19_1).f2)))).bind fun bt246 => (impl_MergeParts.l0 k1 (x6_1.set ((ji28) : Int).toNat (⟨bt246.1, bt246.2.1, bt246.2.2.1, bt246.2.2.2⟩ : S61)) l1_0 (l1_0.length : Int) (wrap64 (x19_1 + 1)))) else (if x6_1.length < 4398046511104 then (impl_MergeParts.l0 k1 (x6_1 ++ [(⟨(rd_T61 l1_0 x19_1).f0, (rd_T61 l1_0 x19_1).f1, (rd_T61 l1_0 x19_1).f2, (rd_T61 l1_0 x19_1).f3⟩ : S61)]) l1_0 (l1_0.length : Int) (wrap64 (x19_1 + 1))) else (none))) else (if x6_1.length < 4398046511104 then (impl_MergeParts.l0 k1 (x6_1 ++ [(⟨(rd_T61 l1_0 x19_1).f0, (rd_T61 l1_0 x19_1).f1, (rd_T61 l1_0 x19_1).f2, (rd_T61 l1_0 x19_1).f3⟩ : S61)]) l1_0 (l1_0.length : Int) (wrap64 (x19_1 + 1))) else (none))) else (none)) else (none)) = some (r1, r2) := by first | (rw [hji28] at H; exact H) | (simp only [hji28] at H ⊢; exact H)
         have hji28w : (IntKind.i64.wrap ((x6_1.length : Int) - 1)) = ji28 := (i64_w _).trans hji28
         by_cases c29 : 0 ≤ (ji28)
         ·rw [if_pos c29] at H
          have c29b0 : decide (0 ≤ (ji28)) = true := decide_eq_true c29
          clear c29
          by_cases c30 : (ji28) < (x6_1.length : Int)
          ·rw [if_pos c30] at H
           have c30b0 : decide ((ji28) < (x6_1.length : Int)) = true := decide_eq_true c30
           clear c30
           by_cases c31 : ((rd_T61 x6_1 (ji28)).f0) = ((rd_T61 l1_0 x19_1).f0)
           ·rw [if_pos c31] at H
            have c31b0 : (((rd_T61 x6_1 (ji28)).f0) == ((rd_T61 l1_0 x19_1).f0)) = true := beq_iff_eq.mpr c31
            have c31b1 : (((rd_T61 x6_1 (ji28)).f0) != ((rd_T61 l1_0 x19_1).f0)) = false := bne_eq_false_iff_eq.mpr c31
            clear c31
            by_cases c32 : (wrap64 (((rd_T61 x6_1 (ji28)).f1) + ((rd_T61 x6_1 (ji28)).f2))) = ((rd_T61 l1_0 x19_1).f1)
            ·rw [if_pos c32] at H
             have c32b0 : ((wrap64 (((rd_T61 x6_1 (ji28)).f1) + ((rd_T61 x6_1 (ji28)).f2))) == ((rd_T61 l1_0 x19_1).f1)) = true := beq_iff_eq.mpr c32
             have c32b1 : ((wrap64 (((rd_T61 x6_1 (ji28)).f1) + ((rd_T61 x6_1 (ji28)).f2))) != ((rd_T61 l1_0 x19_1).f1)) = false := bne_eq_false_iff_eq.mpr c32
             clear c32
             replace H := Option.bind_eq_some_iff.mp H
             obtain ⟨⟨t246, t247, t248, t249⟩, A330, H⟩ := H
             replace H : (impl_MergeParts.l0 k1 (x6_1.set ((ji28) : Int).toNat (⟨t246, t247, t248, t249⟩ : S61)) l1_0 (l1_0.length : Int) (wrap64 (x19_1 + 1))) = some (r1, r2) := H
             have A33 := Aside0.mk A330
             clear A330
             obtain ⟨y250, hy250⟩ : ∃ y_ : List (S61), y_ = (x6_1.set ((ji28) : Int).toNat (⟨t246, t247, t248, t249⟩ : S61)) := ⟨_, rfl⟩
             replace H : (impl_MergeParts.l0 k1 y250 l1_0 (l1_0.length : Int) (wrap64 (x19_1 + 1))) = some (r1, r2) := by first | (rw [hy250]; with_reducible exact H) | (have H2_ := (Option.bind_some _ _).symm.trans H; rw [hy250]; with_reducible exact H2_) | (have H2_ := (Option.bind_some _ _).symm.trans H; with_reducible exact H2_) | with_reducible exact H | (rw [hy250]; exact H) | exact H
             have Ny250 := Aside0.mk hy250
             clear hy250
             have H' := Aside0.mk H
             clear H
             have p239 : 0 ≤ (x19_1 : Int) := of_decide_eq_true (by first | (with_reducible assumption) | assumption)
             have q239 : x19_1 < (l1_0.length : Int) := of_decide_eq_true (by first | (with_reducible assumption) | assumption)
             obtain ⟨ad239, e239, hx239_0, hx239_1, hx239_2, hx239_3⟩ := at_T61 HR1_0.out x19_1 p239 q239
             cases e239
             replace hx239_0 := (HB.out.cell (World.block_lt_of_cell? w _ hx239_0)).trans hx239_0
             replace hx239_1 := (HB.out.cell (World.block_lt_of_cell? w _ hx239_1)).trans hx239_1
             replace hx239_2 := (HB.out.cell (World.block_lt_of_cell? w _ hx239_2)).trans hx239_2
             replace hx239_3 := (HB.out.cell (World.block_lt_of_cell? w _ hx239_3)).trans hx239_3
             replace p239 := eq_true p239
             replace q239 := eq_true q239
             try go_wp2_with (first | ((with_reducible refine gate_dst (N := 8) rfl ?_); refine box_event ?hg (N := 8) ?hd (cs := #[.int .i64 0, .int .i64 0, .int .i64 0, .int .i64 0]) (t := 61) ?hr ?_; (case hd => rfl); (case hg => rfl); (case hr => first | (go_simp; done) | (go_simp; rfl)); intro gb240 hg w35 hbox hb; have BK240 := Aside0.mk (hbox); have GW240 := Aside0.mk ((by rw [hg]; exact (below_size (by repeat (first | exact zh0 HB | refine below_set ?_ GE232.out | refine below_set ?_ GE233.out | refine below_set ?_ GE234.out))) : w.heap.size ≤ gb240)); have GE240 := Aside0.mk ((by rw [hg]; exact (below_size (by repeat (first | exact zh0 HB | refine below_set ?_ GE232.out | refine below_set ?_ GE233.out | refine below_set ?_ GE234.out))) : w.heap.size ≤ gb240)); have NB232_240 := znl BK232 hg; have NB240_232 := znr BK232 hg; have NB233_240 := znl BK233 hg; have NB240_233 := znr BK233 hg; have NB234_240 := znl BK234 hg; have NB240_234 := znr BK234 hg; replace HO_6 := Aside0.mk (Kd.R_below (Kd.R_elderB (zr0 HO_6) gb240 (Nat.le_of_eq hg.symm)) hb); replace BK232 := zb0 BK232 hb; replace BK233 := zb0 BK233 hb; replace BK234 := zb0 BK234 hb; replace HB := Aside0.mk (below_step (by repeat (first | exact zh0 HB | refine below_set ?_ GE232.out | refine below_set ?_ GE233.out | refine below_set ?_ GE234.out)) hb); clear hb hbox hg; have hnb36 := NB240_232.out; have hnc36 := NB232_240.out; have hnb37 := NB240_233.out; have hnc37 := NB233_240.out; have hnb38 := NB240_234.out; have hnc38 := NB234_240.out; have hcz39_0 := zc0 BK240 0 rfl; have hcz39_1 := zc0 BK240 1 rfl; have hcz39_2 := zc0 BK240 2 rfl; have hcz39_3 := zc0 BK240 3 rfl; have hfz39_0 := blk_frozen BK240.out 0; have hfz39_1 := blk_frozen BK240.out 1; have hfz39_2 := blk_frozen BK240.out 2; have hfz39_3 := blk_frozen BK240.out 3; obtain ⟨Ao40, co40, eo40⟩ := Kd.R_slice HO_6.out; subst eo40))
             have n0_ : Aside0 (Kd.R k61 61 ((((w35.setCell ⟨gb240, 0, none⟩ (.int .i64 ((rd_T61 l1_0 x19_1).f0))).setCell ⟨gb240, 1, none⟩ (.int .i64 ((rd_T61 l1_0 x19_1).f1))).setCell ⟨gb240, 2, none⟩ (.int .i64 ((rd_T61 l1_0 x19_1).f2))).setCell ⟨gb240, 3, none⟩ (.int .i64 ((rd_T61 l1_0 x19_1).f3))) w.heap.size (fun k_ => k_ ≠ gb240) (.slice Ao40 x6_1.length co40) x6_1) := ⟨by (with_reducible repeat (first | apply Kd.R_alloc | apply Kd.R_drewN | apply Kd.R_drew)); exact Kd.R_mono (Kd.R_far (p := ⟨gb240, 3, none⟩) (Kd.R_far (p := ⟨gb240, 2, none⟩) (Kd.R_far (p := ⟨gb240, 1, none⟩) (Kd.R_far (p := ⟨gb240, 0, none⟩) (Kd.R_mono HO_6.out (fun k_ hk => (⟨hk, hk.2⟩ : _ ∧ k_ ≠ gb240))) (fun _ hk => hk.2) (.int .i64 ((rd_T61 l1_0 x19_1).f0))) (fun _ hk => hk.2) (.int .i64 ((rd_T61 l1_0 x19_1).f1))) (fun _ hk => hk.2) (.int .i64 ((rd_T61 l1_0 x19_1).f2))) (fun _ hk => hk.2) (.int .i64 ((rd_T61 l1_0 x19_1).f3))) (fun _ hk => hk.1.2)⟩
             have n1_ : Aside0 (((((w35.setCell ⟨gb240, 0, none⟩ (.int .i64 ((rd_T61 l1_0 x19_1).f0))).setCell ⟨gb240, 1, none⟩ (.int .i64 ((rd_T61 l1_0 x19_1).f1))).setCell ⟨gb240, 2, none⟩ (.int .i64 ((rd_T61 l1_0 x19_1).f2))).setCell ⟨gb240, 3, none⟩ (.int .i64 ((rd_T61 l1_0 x19_1).f3))).heap[gb232]? = some (.cells #[.slice A0_0 l0_0.length c0_0] 35 (0, 0))) := ⟨by (with_reducible repeat (first | refine blk_drewN ?_ _ | refine blk_drew ?_ | refine blk_alloc ?_ _)); refine blk_far ?_ NB232_240.out _; refine blk_far ?_ NB232_240.out _; refine blk_far ?_ NB232_240.out _; refine blk_far ?_ NB232_240.out _; (with_reducible repeat (first | refine blk_drewN ?_ _ | refine blk_drew ?_ | refine blk_alloc ?_ _)); exact BK232.out⟩
             have n2_ : Aside0 (((((w35.setCell ⟨gb240, 0, none⟩ (.int .i64 ((rd_T61 l1_0 x19_1).f0))).setCell ⟨gb240, 1, none⟩ (.int .i64 ((rd_T61 l1_0 x19_1).f1))).setCell ⟨gb240, 2, none⟩ (.int .i64 ((rd_T61 l1_0 x19_1).f2))).setCell ⟨gb240, 3, none⟩ (.int .i64 ((rd_T61 l1_0 x19_1).f3))).heap[gb233]? = some (.cells #[.slice (some ad239) l1_0.length c1_0] 32 (0, 0))) := ⟨by (with_reducible repeat (first | refine blk_drewN ?_ _ | refine blk_drew ?_ | refine blk_alloc ?_ _)); refine blk_far ?_ NB233_240.out _; refine blk_far ?_ NB233_240.out _; refine blk_far ?_ NB233_240.out _; refine blk_far ?_ NB233_240.out _; (with_reducible repeat (first | refine blk_drewN ?_ _ | refine blk_drew ?_ | refine blk_alloc ?_ _)); exact BK233.out⟩
             have n3_ : Aside0 (((((w35.setCell ⟨gb240, 0, none⟩ (.int .i64 ((rd_T61 l1_0 x19_1).f0))).setCell ⟨gb240, 1, none⟩ (.int .i64 ((rd_T61 l1_0 x19_1).f1))).setCell ⟨gb240, 2, none⟩ (.int .i64 ((rd_T61 l1_0 x19_1).f2))).setCell ⟨gb240, 3, none⟩ (.int .i64 ((rd_T61 l1_0 x19_1).f3))).heap[gb234]? = some (.cells #[.slice none 0 0] 32 (0, 0))) := ⟨by (with_reducible repeat (first | refine blk_drewN ?_ _ | refine blk_drew ?_ | refine blk_alloc ?_ _)); refine blk_far ?_ NB234_240.out _; refine blk_far ?_ NB234_240.out _; refine blk_far ?_ NB234_240.out _; refine blk_far ?_ NB234_240.out _; (with_reducible repeat (first | refine blk_drewN ?_ _ | refine blk_drew ?_ | refine blk_alloc ?_ _)); exact BK234.out⟩
             have n4_ : Aside0 (((((w35.setCell ⟨gb240, 0, none⟩ (.int .i64 ((rd_T61 l1_0 x19_1).f0))).setCell ⟨gb240, 1, none⟩ (.int .i64 ((rd_T61 l1_0 x19_1).f1))).setCell ⟨gb240, 2, none⟩ (.int .i64 ((rd_T61 l1_0 x19_1).f2))).setCell ⟨gb240, 3, none⟩ (.int .i64 ((rd_T61 l1_0 x19_1).f3))).heap[gb240]? = some (.cells #[.int .i64 ((rd_T61 l1_0 x19_1).f0), .int .i64 ((rd_T61 l1_0 x19_1).f1), .int .i64 ((rd_T61 l1_0 x19_1).f2), .int .i64 ((rd_T61 l1_0 x19_1).f3)] 61 (0, 0))) := ⟨by (with_reducible repeat (first | refine blk_drewN ?_ _ | refine blk_drew ?_ | refine blk_alloc ?_ _)); refine blk_put (cs := #[.int .i64 ((rd_T61 l1_0 x19_1).f0), .int .i64 ((rd_T61 l1_0 x19_1).f1), .int .i64 ((rd_T61 l1_0 x19_1).f2), .int .i64 0]) ?_ 3 _ rfl; refine blk_put (cs := #[.int .i64 ((rd_T61 l1_0 x19_1).f0), .int .i64 ((rd_T61 l1_0 x19_1).f1), .int .i64 0, .int .i64 0]) ?_ 2 _ rfl; refine blk_put (cs := #[.int .i64 ((rd_T61 l1_0 x19_1).f0), .int .i64 0, .int .i64 0, .int .i64 0]) ?_ 1 _ rfl; refine blk_put (cs := #[.int .i64 0, .int .i64 0, .int .i64 0, .int .i64 0]) ?_ 0 _ rfl; (with_reducible repeat (first | refine blk_drewN ?_ _ | refine blk_drew ?_ | refine blk_alloc ?_ _)); exact BK240.out⟩
             have n5_ : Aside0 (Below w.heap.size w ((((w35.setCell ⟨gb240, 0, none⟩ (.int .i64 ((rd_T61 l1_0 x19_1).f0))).setCell ⟨gb240, 1, none⟩ (.int .i64 ((rd_T61 l1_0 x19_1).f1))).setCell ⟨gb240, 2, none⟩ (.int .i64 ((rd_T61 l1_0 x19_1).f2))).setCell ⟨gb240, 3, none⟩ (.int .i64 ((rd_T61 l1_0 x19_1).f3)))) := ⟨by repeat (first | exact zh0 HB | refine below_set ?_ GE232.out | refine below_set ?_ GE233.out | refine below_set ?_ GE234.out | refine below_set ?_ GE240.out)⟩
             (try clear HO_6)
             (try clear BK232)
             (try clear BK233)
             (try clear BK234)
             (try clear BK240)
             (try clear HB)
             generalize ((((w35.setCell ⟨gb240, 0, none⟩ (.int .i64 ((rd_T61 l1_0 x19_1).f0))).setCell ⟨gb240, 1, none⟩ (.int .i64 ((rd_T61 l1_0 x19_1).f1))).setCell ⟨gb240, 2, none⟩ (.int .i64 ((rd_T61 l1_0 x19_1).f2))).setCell ⟨gb240, 3, none⟩ (.int .i64 ((rd_T61 l1_0 x19_1).f3))) = w41 at n0_ n1_ n2_ n3_ n4_ n5_ ⊢
             have HO_6 := n0_
             have BK232 := n1_
             have BK233 := n2_
             have BK234 := n3_
             have BK240 := n4_
             have HB := n5_
             clear n0_ n1_ n2_ n3_ n4_ n5_
             replace HO_6 := Aside0.mk (Kd.R_drew HO_6.out)
             replace BK232 := Aside0.mk (blk_drew BK232.out)
             replace BK233 := Aside0.mk (blk_drew BK233.out)
             replace BK234 := Aside0.mk (blk_drew BK234.out)
             replace BK240 := Aside0.mk (blk_drew BK240.out)
             replace HB := Aside0.mk (below_drew1 HB.out)
             have p241 : 0 ≤ ((ji28) : Int) := of_decide_eq_true (by first | (with_reducible assumption) | assumption)
             have q241 : (ji28) < (x6_1.length : Int) := of_decide_eq_true (by first | (with_reducible assumption) | assumption)
             obtain ⟨ad241, e241, hx241_0, hx241_1, hx241_2, hx241_3⟩ := at_T61 (Kd.R_reads' HO_6.out).2.2 (ji28) p241 q241
             cases e241
             replace p241 := eq_true p241
             replace q241 := eq_true q241
             have p242 : 0 ≤ ((ji28) : Int) := of_decide_eq_true (by first | (with_reducible assumption) | assumption)
             have q242 : (ji28) < (x6_1.length : Int) := of_decide_eq_true (by first | (with_reducible assumption) | assumption)
             obtain ⟨ad242, e242, hx242_0, hx242_1, hx242_2, hx242_3⟩ := at_T61 (Kd.R_reads' HO_6.out).2.2 (ji28) p242 q242
             obtain rfl : ad241 = ad242 := (by injection e242)
             replace p242 := eq_true p242
             replace q242 := eq_true q242
             have p243 : 0 ≤ ((ji28) : Int) := of_decide_eq_true (by first | (with_reducible assumption) | assumption)
             have q243 : (ji28) < (x6_1.length : Int) := of_decide_eq_true (by first | (with_reducible assumption) | assumption)
             obtain ⟨ad243, e243, hx243_0, hx243_1, hx243_2, hx243_3⟩ := at_T61 (Kd.R_reads' HO_6.out).2.2 (ji28) p243 q243
             obtain rfl : ad241 = ad243 := (by injection e243)
             replace p243 := eq_true p243
             replace q243 := eq_true q243
             refine start_ (n := 32) (S := fun w' => w'.cell? ⟨gb240, 0, none⟩ = some (.int .i64 ((rd_T61 l1_0 x19_1).f0)) ∧ w'.cell? ⟨gb240, 1, none⟩ = some (.int .i64 ((rd_T61 l1_0 x19_1).f1)) ∧ w'.cell? ⟨gb240, 2, none⟩ = some (.int .i64 ((rd_T61 l1_0 x19_1).f2)) ∧ w'.cell? ⟨gb240, 3, none⟩ = some (.int .i64 ((rd_T61 l1_0 x19_1).f3)) ∧ w'.cell? (ad241.add (((ji28)).toNat * 4)) = some (.int .i64 ((rd_T61 x6_1 (ji28)).f0)) ∧ w'.cell? ⟨(ad241.add (((ji28)).toNat * 4)).block, (ad241.add (((ji28)).toNat * 4)).off + 1, none⟩ = some (.int .i64 ((rd_T61 x6_1 (ji28)).f1)) ∧ w'.cell? ⟨(ad241.add (((ji28)).toNat * 4)).block, (ad241.add (((ji28)).toNat * 4)).off + 2, none⟩ = some (.int .i64 ((rd_T61 x6_1 (ji28)).f2)) ∧ w'.cell? ⟨(ad241.add (((ji28)).toNat * 4)).block, (ad241.add (((ji28)).toNat * 4)).off + 3, none⟩ = some (.int .i64 ((rd_T61 x6_1 (ji28)).f3)) ∧ w'.cell? (ad241.add (((ji28)).toNat * 4)) = some (.int .i64 ((rd_T61 x6_1 (ji28)).f0)) ∧ w'.cell? ⟨(ad241.add (((ji28)).toNat * 4)).block, (ad241.add (((ji28)).toNat * 4)).off + 1, none⟩ = some (.int .i64 ((rd_T61 x6_1 (ji28)).f1)) ∧ w'.cell? ⟨(ad241.add (((ji28)).toNat * 4)).block, (ad241.add (((ji28)).toNat * 4)).off + 2, none⟩ = some (.int .i64 ((rd_T61 x6_1 (ji28)).f2)) ∧ w'.cell? ⟨(ad241.add (((ji28)).toNat * 4)).block, (ad241.add (((ji28)).toNat * 4)).off + 3, none⟩ = some (.int .i64 ((rd_T61 x6_1 (ji28)).f3)) ∧ w'.cell? (ad241.add (((ji28)).toNat * 4)) = some (.int .i64 ((rd_T61 x6_1 (ji28)).f0)) ∧ w'.cell? ⟨(ad241.add (((ji28)).toNat * 4)).block, (ad241.add (((ji28)).toNat * 4)).off + 1, none⟩ = some (.int .i64 ((rd_T61 x6_1 (ji28)).f1)) ∧ w'.cell? ⟨(ad241.add (((ji28)).toNat * 4)).block, (ad241.add (((ji28)).toNat * 4)).off + 2, none⟩ = some (.int .i64 ((rd_T61 x6_1 (ji28)).f2)) ∧ w'.cell? ⟨(ad241.add (((ji28)).toNat * 4)).block, (ad241.add (((ji28)).toNat * 4)).off + 3, none⟩ = some (.int .i64 ((rd_T61 x6_1 (ji28)).f3))) (ds := []) #[zF, zF, zF, zF, zF, zF, zF, zF, zF, zF, zF, zF, zF, zF, zF, zF, zF, zF, zF, zF, zF, zF, zF, zF, zF, zF, zF, zF, zF, zF, zF, zF] (by kernel_rfl) rfl rfl ⟨zc0 BK240 0 rfl, zc0 BK240 1 rfl, zc0 BK240 2 rfl, zc0 BK240 3 rfl, hx241_0, hx241_1, hx241_2, hx241_3, hx242_0, hx242_1, hx242_2, hx242_3, hx243_0, hx243_1, hx243_2, hx243_3⟩ (fun hHeld => ?_); refine with_tabW impl_MergeParts.tab10 impl_MergeParts.bits10 (fun HT_ HW_ => ?_)
             generalize w41.drew = w42 at HO_6 BK232 BK233 BK234 BK240 HB hx241_0 hx241_1 hx241_2 hx241_3 hx242_0 hx242_1 hx242_2 hx242_3 hx243_0 hx243_1 hx243_2 hx243_3 hHeld ⊢
             refine pure_ (i := 0) (N := some 34) (v := ?_) (a' := ?_) #[zT, zF, zF, zF, zF, zF, zF, zF, zF, zF, zF, zF, zF, zF, zF, zF, zF, zF, zF, zF, zF, zF, zF, zF, zF, zF, zF, zF, zF, zF, zF, zF] rfl rfl (any_of HT_.out (by kernel_rfl)) (fun _ _ _ h => h) (Or.inl ⟨by rfl, ?_⟩) ?_ ?_
             rotate_left
             ·intro w'
              go_simp
              with_reducible rfl
             rotate_left
             ·simp only [Act.put, zp1, zp2, zp3, i64_w, i32_w]
              rfl
             refine pure_ (i := 1) (N := some 35) (v := ?_) (a' := ?_) #[zT, zT, zF, zF, zF, zF, zF, zF, zF, zF, zF, zF, zF, zF, zF, zF, zF, zF, zF, zF, zF, zF, zF, zF, zF, zF, zF, zF, zF, zF, zF, zF] rfl rfl (any_of HT_.out (by kernel_rfl)) (fun _ _ _ h => h) (Or.inl ⟨by rfl, ?_⟩) ?_ ?_
             rotate_left
             ·intro w'
              go_simp
              with_reducible rfl
             rotate_left
             ·simp only [Act.put, zp1, zp2, zp3, i64_w, i32_w]
              rfl
             refine pure_ (i := 2) (N := some 36) (v := ?_) (a' := ?_) #[zT, zT, zT, zF, zF, zF, zF, zF, zF, zF, zF, zF, zF, zF, zF, zF, zF, zF, zF, zF, zF, zF, zF, zF, zF, zF, zF, zF, zF, zF, zF, zF] rfl rfl (any_of HT_.out (by kernel_rfl)) (fun _ _ _ h => h) (Or.inl ⟨by rfl, ?_⟩) ?_ ?_
             rotate_left
             ·intro w'
              go_simp
              with_reducible rfl
             rotate_left
             ·simp only [Act.put, zp1, zp2, zp3, i64_w, i32_w]
              rfl
             refine pure_ (i := 3) (N := some 37) (v := ?_) (a' := ?_) #[zT, zT, zT, zT, zF, zF, zF, zF, zF, zF, zF, zF, zF, zF, zF, zF, zF, zF, zF, zF, zF, zF, zF, zF, zF, zF, zF, zF, zF, zF, zF, zF] rfl rfl (any_of HT_.out (by kernel_rfl)) (fun _ _ _ h => h) (Or.inl ⟨by rfl, ?_⟩) ?_ ?_
             rotate_left
             ·intro w'
              go_simp
              with_reducible rfl
             rotate_left
             ·simp only [Act.put, zp1, zp2, zp3, i64_w, i32_w]
              rfl
             refine pure_ (i := 4) (N := some 38) (v := ?_) (a' := ?_) #[zT, zT, zT, zT, zT, zF, zF, zF, zF, zF, zF, zF, zF, zF, zF, zF, zF, zF, zF, zF, zF, zF, zF, zF, zF, zF, zF, zF, zF, zF, zF, zF] rfl rfl (any_of HT_.out (by kernel_rfl)) (fun _ _ _ h => h) (Or.inl ⟨by rfl, ?_⟩) ?_ ?_
             rotate_left
             ·intro w'
              go_simp
              with_reducible rfl
             rotate_left
             ·simp only [Act.put, zp1, zp2, zp3, i64_w, i32_w]
              rfl
             refine pure_ (i := 5) (N := some 39) (v := ?_) (a' := ?_) #[zT, zT, zT, zT, zT, zT, zF, zF, zF, zF, zF, zF, zF, zF, zF, zF, zF, zF, zF, zF, zF, zF, zF, zF, zF, zF, zF, zF, zF, zF, zF, zF] rfl rfl (any_of HT_.out (by kernel_rfl)) (fun _ _ _ h => h) (Or.inl ⟨by rfl, ?_⟩) ?_ ?_
             rotate_left
             ·intro w'
              go_simp
              with_reducible rfl
             rotate_left
             ·simp only [Act.put, zp1, zp2, zp3, i64_w, i32_w]
              rfl
             refine pure_ (i := 6) (N := some 40) (v := ?_) (a' := ?_) #[zT, zT, zT, zT, zT, zT, zT, zF, zF, zF, zF, zF, zF, zF, zF, zF, zF, zF, zF, zF, zF, zF, zF, zF, zF, zF, zF, zF, zF, zF, zF, zF] rfl rfl (any_of HT_.out (by kernel_rfl)) (fun _ _ _ h => h) (Or.inl ⟨by rfl, ?_⟩) ?_ ?_
             rotate_left
             ·intro w'
              go_simp
              with_reducible rfl
             rotate_left
             ·simp only [Act.put, zp1, zp2, zp3, i64_w, i32_w]
              rfl
             refine pure_ (i := 7) (N := some 41) (v := ?_) (a' := ?_) #[zT, zT, zT, zT, zT, zT, zT, zT, zF, zF, zF, zF, zF, zF, zF, zF, zF, zF, zF, zF, zF, zF, zF, zF, zF, zF, zF, zF, zF, zF, zF, zF] rfl rfl (any_of HT_.out (by kernel_rfl)) (fun _ _ _ h => h) (Or.inl ⟨by rfl, ?_⟩) ?_ ?_
             rotate_left
             ·intro w'
              go_simp
              with_reducible rfl
             rotate_left
             ·simp only [Act.put, zp1, zp2, zp3, i64_w, i32_w]
              rfl
             refine pure_ (i := 9) (N := some 43) (v := ?_) (a' := ?_) #[zT, zT, zT, zT, zT, zT, zT, zT, zF, zT, zF, zF, zF, zF, zF, zF, zF, zF, zF, zF, zF, zF, zF, zF, zF, zF, zF, zF, zF, zF, zF, zF] rfl rfl (any_of HT_.out (by kernel_rfl)) (fun _ _ _ h => h) (Or.inl ⟨by rfl, ?_⟩) ?_ ?_
             rotate_left
             ·intro w'
              go_simp
              with_reducible rfl
             rotate_left
             ·simp only [Act.put, zp1, zp2, zp3, i64_w, i32_w]
              rfl
             refine take_ (i := 8) (N := some 42) (v := ?_) (a' := ?_) #[zT, zT, zT, zT, zT, zT, zT, zT, zT, zT, zF, zF, zF, zF, zF, zF, zF, zF, zF, zF, zF, zF, zF, zF, zF, zF, zF, zF, zF, zF, zF, zF] rfl rfl (take_ofW HT_.out HW_.out (by kernel_rfl)) (fun _ _ _ h => h) (Or.inl ⟨by rfl, ?_⟩) hHeld ?_ ?_
             rotate_left
             ·rintro w' ⟨s0, s1, s2, s3, s4, s5, s6, s7, s8, s9, s10, s11, s12, s13, s14, s15⟩
              go_simp
              with_reducible rfl
             rotate_left
             ·simp only [Act.put, zp1, zp2, zp3, i64_w, i32_w]
              rfl
             refine take_ (i := 10) (N := some 44) (v := ?_) (a' := ?_) #[zT, zT, zT, zT, zT, zT, zT, zT, zT, zT, zT, zF, zF, zF, zF, zF, zF, zF, zF, zF, zF, zF, zF, zF, zF, zF, zF, zF, zF, zF, zF, zF] rfl rfl (take_ofW HT_.out HW_.out (by kernel_rfl)) (fun _ _ _ h => h) (Or.inl ⟨by rfl, ?_⟩) hHeld ?_ ?_
             rotate_left
             ·rintro w' ⟨s0, s1, s2, s3, s4, s5, s6, s7, s8, s9, s10, s11, s12, s13, s14, s15⟩
              go_simp
              with_reducible rfl
             rotate_left
             ·simp only [Act.put, zp1, zp2, zp3, i64_w, i32_w]
              rfl
             refine pure_ (i := 11) (N := some 45) (v := ?_) (a' := ?_) #[zT, zT, zT, zT, zT, zT, zT, zT, zT, zT, zT, zT, zF, zF, zF, zF, zF, zF, zF, zF, zF, zF, zF, zF, zF, zF, zF, zF, zF, zF, zF, zF] rfl rfl (any_of HT_.out (by kernel_rfl)) (fun _ _ _ h => h) (Or.inl ⟨by rfl, ?_⟩) ?_ ?_
             rotate_left
             ·intro w'
              go_simp
              with_reducible rfl
             rotate_left
             ·simp only [Act.put, zp1, zp2, zp3, i64_w, i32_w]
              rfl
             refine pure_ (i := 12) (N := some 46) (v := ?_) (a' := ?_) #[zT, zT, zT, zT, zT, zT, zT, zT, zT, zT, zT, zT, zT, zF, zF, zF, zF, zF, zF, zF, zF, zF, zF, zF, zF, zF, zF, zF, zF, zF, zF, zF] rfl rfl (any_of HT_.out (by kernel_rfl)) (fun _ _ _ h => h) (Or.inl ⟨by rfl, ?_⟩) ?_ ?_
             rotate_left
             ·intro w'
              go_simp
              with_reducible rfl
             rotate_left
             ·simp only [Act.put, zp1, zp2, zp3, i64_w, i32_w]
              rfl
             refine pure_ (i := 13) (N := some 47) (v := ?_) (a' := ?_) #[zT, zT, zT, zT, zT, zT, zT, zT, zT, zT, zT, zT, zT, zT, zF, zF, zF, zF, zF, zF, zF, zF, zF, zF, zF, zF, zF, zF, zF, zF, zF, zF] rfl rfl (any_of HT_.out (by kernel_rfl)) (fun _ _ _ h => h) (Or.inl ⟨by rfl, ?_⟩) ?_ ?_
             rotate_left
             ·intro w'
              go_simp
              with_reducible rfl
             rotate_left
             ·simp only [Act.put, zp1, zp2, zp3, i64_w, i32_w]
              rfl
             refine pure_ (i := 14) (N := some 48) (v := ?_) (a' := ?_) #[zT, zT, zT, zT, zT, zT, zT, zT, zT, zT, zT, zT, zT, zT, zT, zF, zF, zF, zF, zF, zF, zF, zF, zF, zF, zF, zF, zF, zF, zF, zF, zF] rfl rfl (any_of HT_.out (by kernel_rfl)) (fun _ _ _ h => h) (Or.inl ⟨by rfl, ?_⟩) ?_ ?_
             rotate_left
             ·intro w'
              go_simp
              with_reducible rfl
             rotate_left
             ·simp only [Act.put, zp1, zp2, zp3, i64_w, i32_w]
              rfl
             refine pure_ (i := 15) (N := some 49) (v := ?_) (a' := ?_) #[zT, zT, zT, zT, zT, zT, zT, zT, zT, zT, zT, zT, zT, zT, zT, zT, zF, zF, zF, zF, zF, zF, zF, zF, zF, zF, zF, zF, zF, zF, zF, zF] rfl rfl (any_of HT_.out (by kernel_rfl)) (fun _ _ _ h => h) (Or.inl ⟨by rfl, ?_⟩) ?_ ?_
             rotate_left
             ·intro w'
              go_simp
              with_reducible rfl
             rotate_left
             ·simp only [Act.put, zp1, zp2, zp3, i64_w, i32_w]
              rfl
             refine pure_ (i := 16) (N := some 50) (v := ?_) (a' := ?_) #[zT, zT, zT, zT, zT, zT, zT, zT, zT, zT, zT, zT, zT, zT, zT, zT, zT, zF, zF, zF, zF, zF, zF, zF, zF, zF, zF, zF, zF, zF, zF, zF] rfl rfl (any_of HT_.out (by kernel_rfl)) (fun _ _ _ h => h) (Or.inl ⟨by rfl, ?_⟩) ?_ ?_
             rotate_left
             ·intro w'
              go_simp
              with_reducible rfl
             rotate_left
             ·simp only [Act.put, zp1, zp2, zp3, i64_w, i32_w]
              rfl
             refine pure_ (i := 17) (N := some 51) (v := ?_) (a' := ?_) #[zT, zT, zT, zT, zT, zT, zT, zT, zT, zT, zT, zT, zT, zT, zT, zT, zT, zT, zF, zF, zF, zF, zF, zF, zF, zF, zF, zF, zF, zF, zF, zF] rfl rfl (any_of HT_.out (by kernel_rfl)) (fun _ _ _ h => h) (Or.inl ⟨by rfl, ?_⟩) ?_ ?_
             rotate_left
             ·intro w'
              go_simp
              with_reducible rfl
             rotate_left
             ·simp only [Act.put, zp1, zp2, zp3, i64_w, i32_w]
              rfl
             refine pure_ (i := 18) (N := some 52) (v := ?_) (a' := ?_) #[zT, zT, zT, zT, zT, zT, zT, zT, zT, zT, zT, zT, zT, zT, zT, zT, zT, zT, zT, zF, zF, zF, zF, zF, zF, zF, zF, zF, zF, zF, zF, zF] rfl rfl (any_of HT_.out (by kernel_rfl)) (fun _ _ _ h => h) (Or.inl ⟨by rfl, ?_⟩) ?_ ?_
             rotate_left
             ·intro w'
              go_simp
              with_reducible rfl
             rotate_left
             ·simp only [Act.put, zp1, zp2, zp3, i64_w, i32_w]
              rfl
             refine pure_ (i := 20) (N := some 54) (v := ?_) (a' := ?_) #[zT, zT, zT, zT, zT, zT, zT, zT, zT, zT, zT, zT, zT, zT, zT, zT, zT, zT, zT, zF, zT, zF, zF, zF, zF, zF, zF, zF, zF, zF, zF, zF] rfl rfl (any_of HT_.out (by kernel_rfl)) (fun _ _ _ h => h) (Or.inl ⟨by rfl, ?_⟩) ?_ ?_
             rotate_left
             ·intro w'
              go_simp
              with_reducible rfl
             rotate_left
             ·simp only [Act.put, zp1, zp2, zp3, i64_w, i32_w]
              rfl
             refine pure_ (i := 21) (N := some 55) (v := ?_) (a' := ?_) #[zT, zT, zT, zT, zT, zT, zT, zT, zT, zT, zT, zT, zT, zT, zT, zT, zT, zT, zT, zF, zT, zT, zF, zF, zF, zF, zF, zF, zF, zF, zF, zF] rfl rfl (any_of HT_.out (by kernel_rfl)) (fun _ _ _ h => h) (Or.inl ⟨by rfl, ?_⟩) ?_ ?_
             rotate_left
             ·intro w'
              go_simp
              with_reducible rfl
             rotate_left
             ·simp only [Act.put, zp1, zp2, zp3, i64_w, i32_w]
              rfl
             refine pure_ (i := 22) (N := some 56) (v := ?_) (a' := ?_) #[zT, zT, zT, zT, zT, zT, zT, zT, zT, zT, zT, zT, zT, zT, zT, zT, zT, zT, zT, zF, zT, zT, zT, zF, zF, zF, zF, zF, zF, zF, zF, zF] rfl rfl (any_of HT_.out (by kernel_rfl)) (fun _ _ _ h => h) (Or.inl ⟨by rfl, ?_⟩) ?_ ?_
             rotate_left
             ·intro w'
              go_simp
              with_reducible rfl
             rotate_left
             ·simp only [Act.put, zp1, zp2, zp3, i64_w, i32_w]
              rfl
             refine pure_ (i := 23) (N := some 57) (v := ?_) (a' := ?_) #[zT, zT, zT, zT, zT, zT, zT, zT, zT, zT, zT, zT, zT, zT, zT, zT, zT, zT, zT, zF, zT, zT, zT, zT, zF, zF, zF, zF, zF, zF, zF, zF] rfl rfl (any_of HT_.out (by kernel_rfl)) (fun _ _ _ h => h) (Or.inl ⟨by rfl, ?_⟩) ?_ ?_
             rotate_left
             ·intro w'
              go_simp
              with_reducible rfl
             rotate_left
             ·simp only [Act.put, zp1, zp2, zp3, i64_w, i32_w]
              rfl
             refine pure_ (i := 24) (N := some 58) (v := ?_) (a' := ?_) #[zT, zT, zT, zT, zT, zT, zT, zT, zT, zT, zT, zT, zT, zT, zT, zT, zT, zT, zT, zF, zT, zT, zT, zT, zT, zF, zF, zF, zF, zF, zF, zF] rfl rfl (any_of HT_.out (by kernel_rfl)) (fun _ _ _ h => h) (Or.inl ⟨by rfl, ?_⟩) ?_ ?_
             rotate_left
             ·intro w'
              go_simp
              with_reducible rfl
             rotate_left
             ·simp only [Act.put, zp1, zp2, zp3, i64_w, i32_w]
              rfl
             refine pure_ (i := 27) (N := some 61) (v := ?_) (a' := ?_) #[zT, zT, zT, zT, zT, zT, zT, zT, zT, zT, zT, zT, zT, zT, zT, zT, zT, zT, zT, zF, zT, zT, zT, zT, zT, zF, zF, zT, zF, zF, zF, zF] rfl rfl (any_of HT_.out (by kernel_rfl)) (fun _ _ _ h => h) (Or.inl ⟨by rfl, ?_⟩) ?_ ?_
             rotate_left
             ·intro w'
              go_simp
              with_reducible rfl
             rotate_left
             ·simp only [Act.put, zp1, zp2, zp3, i64_w, i32_w]
              rfl
             refine take_ (i := 19) (N := some 53) (v := ?_) (a' := ?_) #[zT, zT, zT, zT, zT, zT, zT, zT, zT, zT, zT, zT, zT, zT, zT, zT, zT, zT, zT, zT, zT, zT, zT, zT, zT, zF, zF, zT, zF, zF, zF, zF] rfl rfl (take_ofW HT_.out HW_.out (by kernel_rfl)) (fun _ _ _ h => h) (Or.inl ⟨by rfl, ?_⟩) hHeld ?_ ?_
             rotate_left
             ·rintro w' ⟨s0, s1, s2, s3, s4, s5, s6, s7, s8, s9, s10, s11, s12, s13, s14, s15⟩
              go_simp
              with_reducible rfl
             rotate_left
             ·simp only [Act.put, zp1, zp2, zp3, i64_w, i32_w]
              rfl
             refine take_ (i := 25) (N := some 59) (v := ?_) (a' := ?_) #[zT, zT, zT, zT, zT, zT, zT, zT, zT, zT, zT, zT, zT, zT, zT, zT, zT, zT, zT, zT, zT, zT, zT, zT, zT, zT, zF, zT, zF, zF, zF, zF] rfl rfl (take_ofW HT_.out HW_.out (by kernel_rfl)) (fun _ _ _ h => h) (Or.inl ⟨by rfl, ?_⟩) hHeld ?_ ?_
             rotate_left
             ·rintro w' ⟨s0, s1, s2, s3, s4, s5, s6, s7, s8, s9, s10, s11, s12, s13, s14, s15⟩
              go_simp
              with_reducible rfl
             rotate_left
             ·simp only [Act.put, zp1, zp2, zp3, i64_w, i32_w]
              rfl
             refine pure_ (i := 26) (N := some 60) (v := ?_) (a' := ?_) #[zT, zT, zT, zT, zT, zT, zT, zT, zT, zT, zT, zT, zT, zT, zT, zT, zT, zT, zT, zT, zT, zT, zT, zT, zT, zT, zT, zT, zF, zF, zF, zF] rfl rfl (any_of HT_.out (by kernel_rfl)) (fun _ _ _ h => h) (Or.inl ⟨by rfl, ?_⟩) ?_ ?_
             rotate_left
             ·intro w'
              go_simp
              with_reducible rfl
             rotate_left
             ·simp only [Act.put, zp1, zp2, zp3, i64_w, i32_w]
              rfl
             refine take_ (i := 28) (N := some 62) (v := ?_) (a' := ?_) #[zT, zT, zT, zT, zT, zT, zT, zT, zT, zT, zT, zT, zT, zT, zT, zT, zT, zT, zT, zT, zT, zT, zT, zT, zT, zT, zT, zT, zT, zF, zF, zF] rfl rfl (take_ofW HT_.out HW_.out (by kernel_rfl)) (fun _ _ _ h => h) (Or.inl ⟨by rfl, ?_⟩) hHeld ?_ ?_
             rotate_left
             ·rintro w' ⟨s0, s1, s2, s3, s4, s5, s6, s7, s8, s9, s10, s11, s12, s13, s14, s15⟩
              go_simp
              with_reducible rfl
             rotate_left
             ·simp only [Act.put, zp1, zp2, zp3, i64_w, i32_w]
              rfl
             refine pure_ (i := 29) (N := some 63) (v := ?_) (a' := ?_) #[zT, zT, zT, zT, zT, zT, zT, zT, zT, zT, zT, zT, zT, zT, zT, zT, zT, zT, zT, zT, zT, zT, zT, zT, zT, zT, zT, zT, zT, zT, zF, zF] rfl rfl (any_of HT_.out (by kernel_rfl)) (fun _ _ _ h => h) (Or.inl ⟨by rfl, ?_⟩) ?_ ?_
             rotate_left
             ·intro w'
              go_simp
              with_reducible rfl
             rotate_left
             ·simp only [Act.put, zp1, zp2, zp3, i64_w, i32_w]
              rfl
             refine pure_ (i := 30) (N := some 64) (v := ?_) (a' := ?_) #[zT, zT, zT, zT, zT, zT, zT, zT, zT, zT, zT, zT, zT, zT, zT, zT, zT, zT, zT, zT, zT, zT, zT, zT, zT, zT, zT, zT, zT, zT, zT, zF] rfl rfl (any_of HT_.out (by kernel_rfl)) (fun _ _ _ h => h) (Or.inl ⟨by rfl, ?_⟩) ?_ ?_
             rotate_left
             ·intro w'
              go_simp
              with_reducible rfl
             rotate_left
             ·simp only [Act.put, zp1, zp2, zp3, i64_w, i32_w]
              rfl
             refine pure_ (i := 31) (N := some 33) (v := ?_) (a' := ?_) #[zT, zT, zT, zT, zT, zT, zT, zT, zT, zT, zT, zT, zT, zT, zT, zT, zT, zT, zT, zT, zT, zT, zT, zT, zT, zT, zT, zT, zT, zT, zT, zT] rfl rfl (any_of HT_.out (by kernel_rfl)) (fun _ _ _ h => h) (Or.inl ⟨by rfl, ?_⟩) ?_ ?_
             rotate_left
             ·intro w'
              go_simp
              with_reducible rfl
             rotate_left
             ·simp only [Act.put, zp1, zp2, zp3, i64_w, i32_w]
              rfl
             refine done_ (done_of HT_.out (by kernel_rfl)) ?_
             try go_wp2
             replace HO_6 := Aside0.mk (Kd.R_drew HO_6.out)
             replace BK232 := Aside0.mk (blk_drew BK232.out)
             replace BK233 := Aside0.mk (blk_drew BK233.out)
             replace BK234 := Aside0.mk (blk_drew BK234.out)
             replace BK240 := Aside0.mk (blk_drew BK240.out)
             replace HB := Aside0.mk (below_drew1 HB.out)
             have p244 : 0 ≤ ((ji28) : Int) := of_decide_eq_true (by first | (with_reducible assumption) | assumption)
             have q244 : (ji28) < (x6_1.length : Int) := of_decide_eq_true (by first | (with_reducible assumption) | assumption)
             obtain ⟨ad244, e244, hx244_0, hx244_1, hx244_2, hx244_3⟩ := at_T61 (Kd.R_reads' HO_6.out).2.2 (ji28) p244 q244
             obtain rfl : ad241 = ad244 := (by injection e244)
             replace p244 := eq_true p244
             replace q244 := eq_true q244
             have p245 : 0 ≤ ((ji28) : Int) := of_decide_eq_true (by first | (with_reducible assumption) | assumption)
             have q245 : (ji28) < (x6_1.length : Int) := of_decide_eq_true (by first | (with_reducible assumption) | assumption)
             obtain ⟨ad245, e245, hx245_0, hx245_1, hx245_2, hx245_3⟩ := at_T61 (Kd.R_reads' HO_6.out).2.2 (ji28) p245 q245
             obtain rfl : ad241 = ad245 := (by injection e245)
             replace p245 := eq_true p245
             replace q245 := eq_true q245
             refine start_ (n := 20) (S := fun w' => w'.cell? ⟨gb240, 0, none⟩ = some (.int .i64 ((rd_T61 l1_0 x19_1).f0)) ∧ w'.cell? ⟨gb240, 1, none⟩ = some (.int .i64 ((rd_T61 l1_0 x19_1).f1)) ∧ w'.cell? ⟨gb240, 2, none⟩ = some (.int .i64 ((rd_T61 l1_0 x19_1).f2)) ∧ w'.cell? ⟨gb240, 3, none⟩ = some (.int .i64 ((rd_T61 l1_0 x19_1).f3)) ∧ w'.cell? (ad241.add (((ji28)).toNat * 4)) = some (.int .i64 ((rd_T61 x6_1 (ji28)).f0)) ∧ w'.cell? ⟨(ad241.add (((ji28)).toNat * 4)).block, (ad241.add (((ji28)).toNat * 4)).off + 1, none⟩ = some (.int .i64 ((rd_T61 x6_1 (ji28)).f1)) ∧ w'.cell? ⟨(ad241.add (((ji28)).toNat * 4)).block, (ad241.add (((ji28)).toNat * 4)).off + 2, none⟩ = some (.int .i64 ((rd_T61 x6_1 (ji28)).f2)) ∧ w'.cell? ⟨(ad241.add (((ji28)).toNat * 4)).block, (ad241.add (((ji28)).toNat * 4)).off + 3, none⟩ = some (.int .i64 ((rd_T61 x6_1 (ji28)).f3)) ∧ w'.cell? (ad241.add (((ji28)).toNat * 4)) = some (.int .i64 ((rd_T61 x6_1 (ji28)).f0)) ∧ w'.cell? ⟨(ad241.add (((ji28)).toNat * 4)).block, (ad241.add (((ji28)).toNat * 4)).off + 1, none⟩ = some (.int .i64 ((rd_T61 x6_1 (ji28)).f1)) ∧ w'.cell? ⟨(ad241.add (((ji28)).toNat * 4)).block, (ad241.add (((ji28)).toNat * 4)).off + 2, none⟩ = some (.int .i64 ((rd_T61 x6_1 (ji28)).f2)) ∧ w'.cell? ⟨(ad241.add (((ji28)).toNat * 4)).block, (ad241.add (((ji28)).toNat * 4)).off + 3, none⟩ = some (.int .i64 ((rd_T61 x6_1 (ji28)).f3))) (ds := [19]) #[zF, zF, zF, zF, zF, zF, zF, zF, zF, zF, zF, zF, zF, zF, zF, zF, zF, zF, zF, zF] (by kernel_rfl) rfl rfl ⟨zc0 BK240 0 rfl, zc0 BK240 1 rfl, zc0 BK240 2 rfl, zc0 BK240 3 rfl, hx244_0, hx244_1, hx244_2, hx244_3, hx245_0, hx245_1, hx245_2, hx245_3⟩ (fun hHeld => ?_); refine with_tabW impl_MergeParts.tab11 impl_MergeParts.bits11 (fun HT_ HW_ => ?_)
             generalize w42.drew = w43 at HO_6 BK232 BK233 BK234 BK240 HB hx244_0 hx244_1 hx244_2 hx244_3 hx245_0 hx245_1 hx245_2 hx245_3 hHeld ⊢
             refine pure_ (i := 0) (N := some 65) (v := ?_) (a' := ?_) #[zT, zF, zF, zF, zF, zF, zF, zF, zF, zF, zF, zF, zF, zF, zF, zF, zF, zF, zF, zF] rfl rfl (any_of HT_.out (by kernel_rfl)) (fun _ _ _ h => h) (Or.inl ⟨by rfl, ?_⟩) ?_ ?_
             rotate_left
             ·intro w'
              go_simp
              with_reducible rfl
             rotate_left
             ·simp only [Act.put, zp1, zp2, zp3, i64_w, i32_w]
              rfl
             refine pure_ (i := 1) (N := some 66) (v := ?_) (a' := ?_) #[zT, zT, zF, zF, zF, zF, zF, zF, zF, zF, zF, zF, zF, zF, zF, zF, zF, zF, zF, zF] rfl rfl (any_of HT_.out (by kernel_rfl)) (fun _ _ _ h => h) (Or.inl ⟨by rfl, ?_⟩) ?_ ?_
             rotate_left
             ·intro w'
              go_simp
              with_reducible rfl
             rotate_left
             ·simp only [Act.put, zp1, zp2, zp3, i64_w, i32_w]
              rfl
             refine pure_ (i := 2) (N := some 67) (v := ?_) (a' := ?_) #[zT, zT, zT, zF, zF, zF, zF, zF, zF, zF, zF, zF, zF, zF, zF, zF, zF, zF, zF, zF] rfl rfl (any_of HT_.out (by kernel_rfl)) (fun _ _ _ h => h) (Or.inl ⟨by rfl, ?_⟩) ?_ ?_
             rotate_left
             ·intro w'
              go_simp
              with_reducible rfl
             rotate_left
             ·simp only [Act.put, zp1, zp2, zp3, i64_w, i32_w]
              rfl
             refine pure_ (i := 3) (N := some 68) (v := ?_) (a' := ?_) #[zT, zT, zT, zT, zF, zF, zF, zF, zF, zF, zF, zF, zF, zF, zF, zF, zF, zF, zF, zF] rfl rfl (any_of HT_.out (by kernel_rfl)) (fun _ _ _ h => h) (Or.inl ⟨by rfl, ?_⟩) ?_ ?_
             rotate_left
             ·intro w'
              go_simp
              with_reducible rfl
             rotate_left
             ·simp only [Act.put, zp1, zp2, zp3, i64_w, i32_w]
              rfl
             refine pure_ (i := 4) (N := some 69) (v := ?_) (a' := ?_) #[zT, zT, zT, zT, zT, zF, zF, zF, zF, zF, zF, zF, zF, zF, zF, zF, zF, zF, zF, zF] rfl rfl (any_of HT_.out (by kernel_rfl)) (fun _ _ _ h => h) (Or.inl ⟨by rfl, ?_⟩) ?_ ?_
             rotate_left
             ·intro w'
              go_simp
              with_reducible rfl
             rotate_left
             ·simp only [Act.put, zp1, zp2, zp3, i64_w, i32_w]
              rfl
             refine pure_ (i := 5) (N := some 70) (v := ?_) (a' := ?_) #[zT, zT, zT, zT, zT, zT, zF, zF, zF, zF, zF, zF, zF, zF, zF, zF, zF, zF, zF, zF] rfl rfl (any_of HT_.out (by kernel_rfl)) (fun _ _ _ h => h) (Or.inl ⟨by rfl, ?_⟩) ?_ ?_
             rotate_left
             ·intro w'
              go_simp
              with_reducible rfl
             rotate_left
             ·simp only [Act.put, zp1, zp2, zp3, i64_w, i32_w]
              rfl
             refine pure_ (i := 6) (N := some 71) (v := ?_) (a' := ?_) #[zT, zT, zT, zT, zT, zT, zT, zF, zF, zF, zF, zF, zF, zF, zF, zF, zF, zF, zF, zF] rfl rfl (any_of HT_.out (by kernel_rfl)) (fun _ _ _ h => h) (Or.inl ⟨by rfl, ?_⟩) ?_ ?_
             rotate_left
             ·intro w'
              go_simp
              with_reducible rfl
             rotate_left
             ·simp only [Act.put, zp1, zp2, zp3, i64_w, i32_w]
              rfl
             refine pure_ (i := 8) (N := some 73) (v := ?_) (a' := ?_) #[zT, zT, zT, zT, zT, zT, zT, zF, zT, zF, zF, zF, zF, zF, zF, zF, zF, zF, zF, zF] rfl rfl (any_of HT_.out (by kernel_rfl)) (fun _ _ _ h => h) (Or.inl ⟨by rfl, ?_⟩) ?_ ?_
             rotate_left
             ·intro w'
              go_simp
              with_reducible rfl
             rotate_left
             ·simp only [Act.put, zp1, zp2, zp3, i64_w, i32_w]
              rfl
             refine pure_ (i := 9) (N := some 74) (v := ?_) (a' := ?_) #[zT, zT, zT, zT, zT, zT, zT, zF, zT, zT, zF, zF, zF, zF, zF, zF, zF, zF, zF, zF] rfl rfl (any_of HT_.out (by kernel_rfl)) (fun _ _ _ h => h) (Or.inl ⟨by rfl, ?_⟩) ?_ ?_
             rotate_left
             ·intro w'
              go_simp
              with_reducible rfl
             rotate_left
             ·simp only [Act.put, zp1, zp2, zp3, i64_w, i32_w]
              rfl
             refine pure_ (i := 10) (N := some 75) (v := ?_) (a' := ?_) #[zT, zT, zT, zT, zT, zT, zT, zF, zT, zT, zT, zF, zF, zF, zF, zF, zF, zF, zF, zF] rfl rfl (any_of HT_.out (by kernel_rfl)) (fun _ _ _ h => h) (Or.inl ⟨by rfl, ?_⟩) ?_ ?_
             rotate_left
             ·intro w'
              go_simp
              with_reducible rfl
             rotate_left
             ·simp only [Act.put, zp1, zp2, zp3, i64_w, i32_w]
              rfl
             refine pure_ (i := 11) (N := some 76) (v := ?_) (a' := ?_) #[zT, zT, zT, zT, zT, zT, zT, zF, zT, zT, zT, zT, zF, zF, zF, zF, zF, zF, zF, zF] rfl rfl (any_of HT_.out (by kernel_rfl)) (fun _ _ _ h => h) (Or.inl ⟨by rfl, ?_⟩) ?_ ?_
             rotate_left
             ·intro w'
              go_simp
              with_reducible rfl
             rotate_left
             ·simp only [Act.put, zp1, zp2, zp3, i64_w, i32_w]
              rfl
             refine pure_ (i := 12) (N := some 77) (v := ?_) (a' := ?_) #[zT, zT, zT, zT, zT, zT, zT, zF, zT, zT, zT, zT, zT, zF, zF, zF, zF, zF, zF, zF] rfl rfl (any_of HT_.out (by kernel_rfl)) (fun _ _ _ h => h) (Or.inl ⟨by rfl, ?_⟩) ?_ ?_
             rotate_left
             ·intro w'
              go_simp
              with_reducible rfl
             rotate_left
             ·simp only [Act.put, zp1, zp2, zp3, i64_w, i32_w]
              rfl
             refine pure_ (i := 14) (N := some 79) (v := ?_) (a' := ?_) #[zT, zT, zT, zT, zT, zT, zT, zF, zT, zT, zT, zT, zT, zF, zT, zF, zF, zF, zF, zF] rfl rfl (any_of HT_.out (by kernel_rfl)) (fun _ _ _ h => h) (Or.inl ⟨by rfl, ?_⟩) ?_ ?_
             rotate_left
             ·intro w'
              go_simp
              with_reducible rfl
             rotate_left
             ·simp only [Act.put, zp1, zp2, zp3, i64_w, i32_w]
              rfl
             refine take_ (i := 7) (N := some 72) (v := ?_) (a' := ?_) #[zT, zT, zT, zT, zT, zT, zT, zT, zT, zT, zT, zT, zT, zF, zT, zF, zF, zF, zF, zF] rfl rfl (take_ofW HT_.out HW_.out (by kernel_rfl)) (fun _ _ _ h => h) (Or.inl ⟨by rfl, ?_⟩) hHeld ?_ ?_
             rotate_left
             ·rintro w' ⟨s0, s1, s2, s3, s4, s5, s6, s7, s8, s9, s10, s11⟩
              go_simp
              with_reducible rfl
             rotate_left
             ·simp only [Act.put, zp1, zp2, zp3, i64_w, i32_w]
              rfl
             refine take_ (i := 13) (N := some 78) (v := ?_) (a' := ?_) #[zT, zT, zT, zT, zT, zT, zT, zT, zT, zT, zT, zT, zT, zT, zT, zF, zF, zF, zF, zF] rfl rfl (take_ofW HT_.out HW_.out (by kernel_rfl)) (fun _ _ _ h => h) (Or.inl ⟨by rfl, ?_⟩) hHeld ?_ ?_
             rotate_left
             ·rintro w' ⟨s0, s1, s2, s3, s4, s5, s6, s7, s8, s9, s10, s11⟩
              go_simp
              with_reducible rfl
             rotate_left
             ·simp only [Act.put, zp1, zp2, zp3, i64_w, i32_w]
              rfl
             refine take_ (i := 15) (N := some 80) (v := ?_) (a' := ?_) #[zT, zT, zT, zT, zT, zT, zT, zT, zT, zT, zT, zT, zT, zT, zT, zT, zF, zF, zF, zF] rfl rfl (take_ofW HT_.out HW_.out (by kernel_rfl)) (fun _ _ _ h => h) (Or.inl ⟨by rfl, ?_⟩) hHeld ?_ ?_
             rotate_left
             ·rintro w' ⟨s0, s1, s2, s3, s4, s5, s6, s7, s8, s9, s10, s11⟩
              go_simp
              with_reducible rfl
             rotate_left
             ·simp only [Act.put, zp1, zp2, zp3, i64_w, i32_w]
              rfl
             refine pure_ (i := 16) (N := some 81) (v := ?_) (a' := ?_) #[zT, zT, zT, zT, zT, zT, zT, zT, zT, zT, zT, zT, zT, zT, zT, zT, zT, zF, zF, zF] rfl rfl (any_of HT_.out (by kernel_rfl)) (fun _ _ _ h => h) (Or.inl ⟨by rfl, ?_⟩) ?_ ?_
             rotate_left
             ·intro w'
              go_simp
              with_reducible rfl
             rotate_left
             ·simp only [Act.put, zp1, zp2, zp3, i64_w, i32_w]
              rfl
             refine one_ (i := 17) (N := some 82) #[zT, zT, zT, zT, zT, zT, zT, zT, zT, zT, zT, zT, zT, zT, zT, zT, zT, zT, zF, zF] rfl rfl (one_of HT_.out (by kernel_rfl)) (by decide) (fun K hK => ?_)
             refine goes_ Try.func103 (by kernel_rfl) rfl #[.agg #[.int .i64 ((rd_T61 x6_1 (ji28)).f0), .int .i64 ((rd_T61 x6_1 (ji28)).f1), .int .i64 ((rd_T61 x6_1 (ji28)).f2), .int .i64 ((rd_T61 x6_1 (ji28)).f3)], .int .i64 0, .int .i64 (wrap64 (((rd_T61 x6_1 (ji28)).f2) + ((rd_T61 l1_0 x19_1).f2)))] (by rfl) rfl rfl (by (try simp only [zq1, zq2, zq3]); first | done | (simp only [hji28]; rfl) | rfl | (simp only [List.length_drop, List.length_take]; rfl)) ?_
             with_reducible refine (impl_Window_part.calls ((rd_T61 x6_1 (ji28)).f0) ((rd_T61 x6_1 (ji28)).f1) ((rd_T61 x6_1 (ji28)).f2) ((rd_T61 x6_1 (ji28)).f3) 0 (wrap64 (((rd_T61 x6_1 (ji28)).f2) + ((rd_T61 l1_0 x19_1).f2))) t246 t247 t248 t249 _ A33.out).mono ?_
             rintro e w44 ⟨rfl, hb⟩
             have HS4_ := (hb.cell (World.block_lt_of_cell? _ _ (hHeld.2.2.2.2.1))).trans (hHeld.2.2.2.2.1)
             have HS5_ := (hb.cell (World.block_lt_of_cell? _ _ (hHeld.2.2.2.2.2.1))).trans (hHeld.2.2.2.2.2.1)
             have HS6_ := (hb.cell (World.block_lt_of_cell? _ _ (hHeld.2.2.2.2.2.2.1))).trans (hHeld.2.2.2.2.2.2.1)
             have HS7_ := (hb.cell (World.block_lt_of_cell? _ _ (hHeld.2.2.2.2.2.2.2.1))).trans (hHeld.2.2.2.2.2.2.2.1)
             have HS8_ := (hb.cell (World.block_lt_of_cell? _ _ (hHeld.2.2.2.2.2.2.2.2.1))).trans (hHeld.2.2.2.2.2.2.2.2.1)
             have HS9_ := (hb.cell (World.block_lt_of_cell? _ _ (hHeld.2.2.2.2.2.2.2.2.2.1))).trans (hHeld.2.2.2.2.2.2.2.2.2.1)
             have HS10_ := (hb.cell (World.block_lt_of_cell? _ _ (hHeld.2.2.2.2.2.2.2.2.2.2.1))).trans (hHeld.2.2.2.2.2.2.2.2.2.2.1)
             have HS11_ := (hb.cell (World.block_lt_of_cell? _ _ (hHeld.2.2.2.2.2.2.2.2.2.2.2))).trans (hHeld.2.2.2.2.2.2.2.2.2.2.2)
             refine ⟨_, rfl, ?_⟩
             replace HO_6 := zrb HO_6 hb
             replace BK232 := zb0 BK232 hb
             replace BK233 := zb0 BK233 hb
             replace BK234 := zb0 BK234 hb
             replace BK240 := zb0 BK240 hb
             replace HB := zhs HB hb
             (try clear hb)
             (try clear hb2)
             (try clear hk)
             (try clear hi)
             have p34 : 0 ≤ ((ji28) : Int) := of_decide_eq_true (by first | (with_reducible assumption) | assumption)
             have q34 : ((ji28) : Int) < ((x6_1.length : Int) : Int) := of_decide_eq_true (by first | (with_reducible assumption) | assumption)
             obtain ⟨go34, co34, eo34, gb34, gl34, cl34, HG34⟩ := Kd.R_form HO_6.out (by omega)
             (first | cases eo34 | (injection eo34 with ea_ en_ ec_; (first | subst ea_ | (injection ea_ with ea_; subst ea_)); subst ec_; clear en_))
             have GB34 := Aside0.mk gb34
             have GG34 := Aside0.mk HG34
             clear gb34 gl34 HG34
             (first | simp only [add_plain] at hx241_0 | skip)
             (first | simp only [add_plain] at hx241_1 | skip)
             (first | simp only [add_plain] at hx241_2 | skip)
             (first | simp only [add_plain] at hx241_3 | skip)
             (first | simp only [add_plain] at hx242_0 | skip)
             (first | simp only [add_plain] at hx242_1 | skip)
             (first | simp only [add_plain] at hx242_2 | skip)
             (first | simp only [add_plain] at hx242_3 | skip)
             (first | simp only [add_plain] at hx243_0 | skip)
             (first | simp only [add_plain] at hx243_1 | skip)
             (first | simp only [add_plain] at hx243_2 | skip)
             (first | simp only [add_plain] at hx243_3 | skip)
             (first | simp only [add_plain] at hx244_0 | skip)
             (first | simp only [add_plain] at hx244_1 | skip)
             (first | simp only [add_plain] at hx244_2 | skip)
             (first | simp only [add_plain] at hx244_3 | skip)
             (first | simp only [add_plain] at hx245_0 | skip)
             (first | simp only [add_plain] at hx245_1 | skip)
             (first | simp only [add_plain] at hx245_2 | skip)
             (first | simp only [add_plain] at hx245_3 | skip)
             obtain ⟨ce34, hcl34, hM34, hcc34, hfr34⟩ := Kd.R_elem HO_6.out z61 ((ji28) : Int) p34 q34
             obtain rfl := k61_openM hM34
             have hx34_0 : World.cell? _ ⟨go34, ((ji28) : Int).toNat * 4, none⟩ = some (.int .i64 ((rd_T61 x6_1 (ji28)).f0)) := hcc34 0 _ rfl
             have hx34_1 : World.cell? _ ⟨go34, ((ji28) : Int).toNat * 4 + 1, none⟩ = some (.int .i64 ((rd_T61 x6_1 (ji28)).f1)) := hcc34 1 _ rfl
             have hx34_2 : World.cell? _ ⟨go34, ((ji28) : Int).toNat * 4 + 2, none⟩ = some (.int .i64 ((rd_T61 x6_1 (ji28)).f2)) := hcc34 2 _ rfl
             have hx34_3 : World.cell? _ ⟨go34, ((ji28) : Int).toNat * 4 + 3, none⟩ = some (.int .i64 ((rd_T61 x6_1 (ji28)).f3)) := hcc34 3 _ rfl
             have hf34_0 : World.frozen? _ ⟨go34, ((ji28) : Int).toNat * 4, none⟩ = false := hfr34 0
             have hf34_1 : World.frozen? _ ⟨go34, ((ji28) : Int).toNat * 4 + 1, none⟩ = false := hfr34 1
             have hf34_2 : World.frozen? _ ⟨go34, ((ji28) : Int).toNat * 4 + 2, none⟩ = false := hfr34 2
             have hf34_3 : World.frozen? _ ⟨go34, ((ji28) : Int).toNat * 4 + 3, none⟩ = false := hfr34 3
             clear hcl34 hcc34 hfr34; (try clear hM34)
             replace p34 := eq_true p34
             replace q34 := eq_true q34
             obtain ⟨ce45, hcl45, hM45, hcc45, hfr45⟩ := Kd.R_elem HO_6.out z61 ((ji28) : Int) (of_decide_eq_true (by first | (with_reducible assumption) | assumption)) (by have h_ : ((ji28) : Int) < ((x6_1.length : Int) : Int) := of_decide_eq_true (by first | (with_reducible assumption) | assumption); first | exact h_ | (have e_ := (Kd.R_reads' HO_6.out).1; omega) | simpa using h_)
             obtain rfl := k61_openM hM45
             have HP45 := (Kd.R_seg HO_6.out ((ji28) : Int) (of_decide_eq_true (by first | (with_reducible assumption) | assumption)) (by have h_ : ((ji28) : Int) < ((x6_1.length : Int) : Int) := of_decide_eq_true (by first | (with_reducible assumption) | assumption); first | exact h_ | (have e_ := (Kd.R_reads' HO_6.out).1; omega) | simpa using h_) (seg := [.int .i64 t246, .int .i64 t247, .int .i64 t248, .int .i64 t249]) (j := 0) hcl45 hcc45 (show 4 ≤ 4 from by decide) (x' := (⟨t246, t247, t248, t249⟩ : S61)) (k61_mkM _ _ _ (⟨t246, t247, t248, t249⟩ : S61) ) (fun _ hk => hk)).1
             rw [← Ny250.out] at HP45
             have HQ45 := Aside0.mk HP45
             clear hcl45 hcc45 hfr45 HP45; (try clear hM45)
             refine hK.out _ _ ⟨zc0 BK240 0 rfl, zc0 BK240 1 rfl, zc0 BK240 2 rfl, zc0 BK240 3 rfl, HS4_, HS5_, HS6_, HS7_, HS8_, HS9_, HS10_, HS11_⟩ (fun hHeld => ?_)
             clear hK K
             refine norm_ (a' := ?_) ?_ ?_
             rotate_left
             ·show Act.put _ (some 82) _ = _
              simp only [Act.put, zp1, zp2, zp3, i64_w, i32_w]
              rfl
             refine pure_ (i := 18) (N := some 83) (v := ?_) (a' := ?_) #[zT, zT, zT, zT, zT, zT, zT, zT, zT, zT, zT, zT, zT, zT, zT, zT, zT, zT, zT, zF] rfl rfl (any_of HT_.out (by kernel_rfl)) (fun _ _ _ h => h) (Or.inl ⟨by rfl, ?_⟩) ?_ ?_
             rotate_left
             ·intro w'
              go_simp
              with_reducible rfl
             rotate_left
             ·simp only [Act.put, zp1, zp2, zp3, i64_w, i32_w]
              rfl
             refine last_ (i := 19) (N := none) #[zT, zT, zT, zT, zT, zT, zT, zT, zT, zT, zT, zT, zT, zT, zT, zT, zT, zT, zT, zT] rfl rfl (one_of HT_.out (by kernel_rfl)) (by decide) (fun K hK => ?_)
             refine skip_ (w1 := ?_) (by rfl) rfl ?_ ?_
             rotate_left
             ·go_simp
              rfl
             refine hK.out _ _ ?_
             clear hK K
             refine done_ (done_of HT_.out (by kernel_rfl)) ?_
             try go_wp2
             go_roundg k1
             case measure => have := HK1.out; omega
             case rel => exact ⟨(y250), (wrap64 (x19_1 + 1)), (by first | rfl | (simp; done) | (simp [*]; done)), H', ⟨by have := HK1.out; omega⟩, ⟨by (with_reducible repeat (first | apply Kd.R_alloc | apply Kd.R_drewN | apply Kd.R_drew)); exact Kd.R_mono HQ45.out (fun _ hk => trivial)⟩, ⟨by (with_reducible repeat (first | refine blk_drewN ?_ _ | refine blk_drew ?_ | refine blk_alloc ?_ _)); refine blk_far ?_ (by have h_ := Kd.R_ne HO_6.out BK232.out (by decide); intro e_; exact h_ (by rw [e_]; rfl)) _; (with_reducible repeat (first | refine blk_drewN ?_ _ | refine blk_drew ?_ | refine blk_alloc ?_ _)); refine blk_far ?_ (by have h_ := Kd.R_ne HO_6.out BK232.out (by decide); intro e_; exact h_ (by rw [e_]; rfl)) _; (with_reducible repeat (first | refine blk_drewN ?_ _ | refine blk_drew ?_ | refine blk_alloc ?_ _)); refine blk_far ?_ (by have h_ := Kd.R_ne HO_6.out BK232.out (by decide); intro e_; exact h_ (by rw [e_]; rfl)) _; (with_reducible repeat (first | refine blk_drewN ?_ _ | refine blk_drew ?_ | refine blk_alloc ?_ _)); refine blk_far ?_ (by have h_ := Kd.R_ne HO_6.out BK232.out (by decide); intro e_; exact h_ (by rw [e_]; rfl)) _; (with_reducible repeat (first | refine blk_drewN ?_ _ | refine blk_drew ?_ | refine blk_alloc ?_ _)); exact BK232.out⟩, ⟨by (with_reducible repeat (first | refine blk_drewN ?_ _ | refine blk_drew ?_ | refine blk_alloc ?_ _)); refine blk_far ?_ (by have h_ := Kd.R_ne HO_6.out BK233.out (by decide); intro e_; exact h_ (by rw [e_]; rfl)) _; (with_reducible repeat (first | refine blk_drewN ?_ _ | refine blk_drew ?_ | refine blk_alloc ?_ _)); refine blk_far ?_ (by have h_ := Kd.R_ne HO_6.out BK233.out (by decide); intro e_; exact h_ (by rw [e_]; rfl)) _; (with_reducible repeat (first | refine blk_drewN ?_ _ | refine blk_drew ?_ | refine blk_alloc ?_ _)); refine blk_far ?_ (by have h_ := Kd.R_ne HO_6.out BK233.out (by decide); intro e_; exact h_ (by rw [e_]; rfl)) _; (with_reducible repeat (first | refine blk_drewN ?_ _ | refine blk_drew ?_ | refine blk_alloc ?_ _)); refine blk_far ?_ (by have h_ := Kd.R_ne HO_6.out BK233.out (by decide); intro e_; exact h_ (by rw [e_]; rfl)) _; (with_reducible repeat (first | refine blk_drewN ?_ _ | refine blk_drew ?_ | refine blk_alloc ?_ _)); exact BK233.out⟩, ⟨by (with_reducible repeat (first | refine blk_drewN ?_ _ | refine blk_drew ?_ | refine blk_alloc ?_ _)); refine blk_far ?_ (by have h_ := Kd.R_ne HO_6.out BK234.out (by decide); intro e_; exact h_ (by rw [e_]; rfl)) _; (with_reducible repeat (first | refine blk_drewN ?_ _ | refine blk_drew ?_ | refine blk_alloc ?_ _)); refine blk_far ?_ (by have h_ := Kd.R_ne HO_6.out BK234.out (by decide); intro e_; exact h_ (by rw [e_]; rfl)) _; (with_reducible repeat (first | refine blk_drewN ?_ _ | refine blk_drew ?_ | refine blk_alloc ?_ _)); refine blk_far ?_ (by have h_ := Kd.R_ne HO_6.out BK234.out (by decide); intro e_; exact h_ (by rw [e_]; rfl)) _; (with_reducible repeat (first | refine blk_drewN ?_ _ | refine blk_drew ?_ | refine blk_alloc ?_ _)); refine blk_far ?_ (by have h_ := Kd.R_ne HO_6.out BK234.out (by decide); intro e_; exact h_ (by rw [e_]; rfl)) _; (with_reducible repeat (first | refine blk_drewN ?_ _ | refine blk_drew ?_ | refine blk_alloc ?_ _)); exact BK234.out⟩, ⟨by repeat (first | (with_reducible first | exact HB.out | apply below_alloc | apply pw_below_drewN | apply below_drew1 | refine below_set ?_ GB34.out | refine below_set ?_ GB34.out | refine below_set ?_ GB34.out | refine below_set ?_ GB34.out | refine below_set ?_ GE232.out | refine below_set ?_ GE233.out | refine below_set ?_ GE234.out | refine below_set ?_ GE240.out) | exact HB.out)⟩⟩
            ·rw [if_neg c32] at H
             have c32b0 : ((wrap64 (((rd_T61 x6_1 (ji28)).f1) + ((rd_T61 x6_1 (ji28)).f2))) == ((rd_T61 l1_0 x19_1).f1)) = false := beq_eq_false_iff_ne.mpr c32
             have c32b1 : ((wrap64 (((rd_T61 x6_1 (ji28)).f1) + ((rd_T61 x6_1 (ji28)).f2))) != ((rd_T61 l1_0 x19_1).f1)) = true := bne_iff_ne.mpr c32
             by_cases c46 : x6_1.length < 4398046511104
             ·rw [if_pos c46] at H
              have LMc46 := Aside0.mk c46
              clear c46
              obtain ⟨y251, hy251⟩ : ∃ y_ : List (S61), y_ = (x6_1 ++ [(⟨(rd_T61 l1_0 x19_1).f0, (rd_T61 l1_0 x19_1).f1, (rd_T61 l1_0 x19_1).f2, (rd_T61 l1_0 x19_1).f3⟩ : S61)]) := ⟨_, rfl⟩
              replace H : (impl_MergeParts.l0 k1 y251 l1_0 (l1_0.length : Int) (wrap64 (x19_1 + 1))) = some (r1, r2) := by first | (rw [hy251]; with_reducible exact H) | (have H2_ := (Option.bind_some _ _).symm.trans H; rw [hy251]; with_reducible exact H2_) | (have H2_ := (Option.bind_some _ _).symm.trans H; with_reducible exact H2_) | with_reducible exact H | (rw [hy251]; exact H) | exact H
              have Ny251 := Aside0.mk hy251
              clear hy251
              have H' := Aside0.mk H
              clear H
              have p239 : 0 ≤ (x19_1 : Int) := of_decide_eq_true (by first | (with_reducible assumption) | assumption)
              have q239 : x19_1 < (l1_0.length : Int) := of_decide_eq_true (by first | (with_reducible assumption) | assumption)
              obtain ⟨ad239, e239, hx239_0, hx239_1, hx239_2, hx239_3⟩ := at_T61 HR1_0.out x19_1 p239 q239
              cases e239
              replace hx239_0 := (HB.out.cell (World.block_lt_of_cell? w _ hx239_0)).trans hx239_0
              replace hx239_1 := (HB.out.cell (World.block_lt_of_cell? w _ hx239_1)).trans hx239_1
              replace hx239_2 := (HB.out.cell (World.block_lt_of_cell? w _ hx239_2)).trans hx239_2
              replace hx239_3 := (HB.out.cell (World.block_lt_of_cell? w _ hx239_3)).trans hx239_3
              replace p239 := eq_true p239
              replace q239 := eq_true q239
              try go_wp2_with (first | ((with_reducible refine gate_dst (N := 8) rfl ?_); refine box_event ?hg (N := 8) ?hd (cs := #[.int .i64 0, .int .i64 0, .int .i64 0, .int .i64 0]) (t := 61) ?hr ?_; (case hd => rfl); (case hg => rfl); (case hr => first | (go_simp; done) | (go_simp; rfl)); intro gb240 hg w47 hbox hb; have BK240 := Aside0.mk (hbox); have GW240 := Aside0.mk ((by rw [hg]; exact (below_size (by repeat (first | exact zh0 HB | refine below_set ?_ GE232.out | refine below_set ?_ GE233.out | refine below_set ?_ GE234.out))) : w.heap.size ≤ gb240)); have GE240 := Aside0.mk ((by rw [hg]; exact (below_size (by repeat (first | exact zh0 HB | refine below_set ?_ GE232.out | refine below_set ?_ GE233.out | refine below_set ?_ GE234.out))) : w.heap.size ≤ gb240)); have NB232_240 := znl BK232 hg; have NB240_232 := znr BK232 hg; have NB233_240 := znl BK233 hg; have NB240_233 := znr BK233 hg; have NB234_240 := znl BK234 hg; have NB240_234 := znr BK234 hg; replace HO_6 := Aside0.mk (Kd.R_below (Kd.R_elderB (zr0 HO_6) gb240 (Nat.le_of_eq hg.symm)) hb); replace BK232 := zb0 BK232 hb; replace BK233 := zb0 BK233 hb; replace BK234 := zb0 BK234 hb; replace HB := Aside0.mk (below_step (by repeat (first | exact zh0 HB | refine below_set ?_ GE232.out | refine below_set ?_ GE233.out | refine below_set ?_ GE234.out)) hb); clear hb hbox hg; have hnb48 := NB240_232.out; have hnc48 := NB232_240.out; have hnb49 := NB240_233.out; have hnc49 := NB233_240.out; have hnb50 := NB240_234.out; have hnc50 := NB234_240.out; have hcz51_0 := zc0 BK240 0 rfl; have hcz51_1 := zc0 BK240 1 rfl; have hcz51_2 := zc0 BK240 2 rfl; have hcz51_3 := zc0 BK240 3 rfl; have hfz51_0 := blk_frozen BK240.out 0; have hfz51_1 := blk_frozen BK240.out 1; have hfz51_2 := blk_frozen BK240.out 2; have hfz51_3 := blk_frozen BK240.out 3; obtain ⟨Ao52, co52, eo52⟩ := Kd.R_slice HO_6.out; subst eo52))
              have n0_ : Aside0 (Kd.R k61 61 ((((w47.setCell ⟨gb240, 0, none⟩ (.int .i64 ((rd_T61 l1_0 x19_1).f0))).setCell ⟨gb240, 1, none⟩ (.int .i64 ((rd_T61 l1_0 x19_1).f1))).setCell ⟨gb240, 2, none⟩ (.int .i64 ((rd_T61 l1_0 x19_1).f2))).setCell ⟨gb240, 3, none⟩ (.int .i64 ((rd_T61 l1_0 x19_1).f3))) w.heap.size (fun k_ => k_ ≠ gb240) (.slice Ao52 x6_1.length co52) x6_1) := ⟨by (with_reducible repeat (first | apply Kd.R_alloc | apply Kd.R_drewN | apply Kd.R_drew)); exact Kd.R_mono (Kd.R_far (p := ⟨gb240, 3, none⟩) (Kd.R_far (p := ⟨gb240, 2, none⟩) (Kd.R_far (p := ⟨gb240, 1, none⟩) (Kd.R_far (p := ⟨gb240, 0, none⟩) (Kd.R_mono HO_6.out (fun k_ hk => (⟨hk, hk.2⟩ : _ ∧ k_ ≠ gb240))) (fun _ hk => hk.2) (.int .i64 ((rd_T61 l1_0 x19_1).f0))) (fun _ hk => hk.2) (.int .i64 ((rd_T61 l1_0 x19_1).f1))) (fun _ hk => hk.2) (.int .i64 ((rd_T61 l1_0 x19_1).f2))) (fun _ hk => hk.2) (.int .i64 ((rd_T61 l1_0 x19_1).f3))) (fun _ hk => hk.1.2)⟩
              have n1_ : Aside0 (((((w47.setCell ⟨gb240, 0, none⟩ (.int .i64 ((rd_T61 l1_0 x19_1).f0))).setCell ⟨gb240, 1, none⟩ (.int .i64 ((rd_T61 l1_0 x19_1).f1))).setCell ⟨gb240, 2, none⟩ (.int .i64 ((rd_T61 l1_0 x19_1).f2))).setCell ⟨gb240, 3, none⟩ (.int .i64 ((rd_T61 l1_0 x19_1).f3))).heap[gb232]? = some (.cells #[.slice A0_0 l0_0.length c0_0] 35 (0, 0))) := ⟨by (with_reducible repeat (first | refine blk_drewN ?_ _ | refine blk_drew ?_ | refine blk_alloc ?_ _)); refine blk_far ?_ NB232_240.out _; refine blk_far ?_ NB232_240.out _; refine blk_far ?_ NB232_240.out _; refine blk_far ?_ NB232_240.out _; (with_reducible repeat (first | refine blk_drewN ?_ _ | refine blk_drew ?_ | refine blk_alloc ?_ _)); exact BK232.out⟩
              have n2_ : Aside0 (((((w47.setCell ⟨gb240, 0, none⟩ (.int .i64 ((rd_T61 l1_0 x19_1).f0))).setCell ⟨gb240, 1, none⟩ (.int .i64 ((rd_T61 l1_0 x19_1).f1))).setCell ⟨gb240, 2, none⟩ (.int .i64 ((rd_T61 l1_0 x19_1).f2))).setCell ⟨gb240, 3, none⟩ (.int .i64 ((rd_T61 l1_0 x19_1).f3))).heap[gb233]? = some (.cells #[.slice (some ad239) l1_0.length c1_0] 32 (0, 0))) := ⟨by (with_reducible repeat (first | refine blk_drewN ?_ _ | refine blk_drew ?_ | refine blk_alloc ?_ _)); refine blk_far ?_ NB233_240.out _; refine blk_far ?_ NB233_240.out _; refine blk_far ?_ NB233_240.out _; refine blk_far ?_ NB233_240.out _; (with_reducible repeat (first | refine blk_drewN ?_ _ | refine blk_drew ?_ | refine blk_alloc ?_ _)); exact BK233.out⟩
              have n3_ : Aside0 (((((w47.setCell ⟨gb240, 0, none⟩ (.int .i64 ((rd_T61 l1_0 x19_1).f0))).setCell ⟨gb240, 1, none⟩ (.int .i64 ((rd_T61 l1_0 x19_1).f1))).setCell ⟨gb240, 2, none⟩ (.int .i64 ((rd_T61 l1_0 x19_1).f2))).setCell ⟨gb240, 3, none⟩ (.int .i64 ((rd_T61 l1_0 x19_1).f3))).heap[gb234]? = some (.cells #[.slice none 0 0] 32 (0, 0))) := ⟨by (with_reducible repeat (first | refine blk_drewN ?_ _ | refine blk_drew ?_ | refine blk_alloc ?_ _)); refine blk_far ?_ NB234_240.out _; refine blk_far ?_ NB234_240.out _; refine blk_far ?_ NB234_240.out _; refine blk_far ?_ NB234_240.out _; (with_reducible repeat (first | refine blk_drewN ?_ _ | refine blk_drew ?_ | refine blk_alloc ?_ _)); exact BK234.out⟩
              have n4_ : Aside0 (((((w47.setCell ⟨gb240, 0, none⟩ (.int .i64 ((rd_T61 l1_0 x19_1).f0))).setCell ⟨gb240, 1, none⟩ (.int .i64 ((rd_T61 l1_0 x19_1).f1))).setCell ⟨gb240, 2, none⟩ (.int .i64 ((rd_T61 l1_0 x19_1).f2))).setCell ⟨gb240, 3, none⟩ (.int .i64 ((rd_T61 l1_0 x19_1).f3))).heap[gb240]? = some (.cells #[.int .i64 ((rd_T61 l1_0 x19_1).f0), .int .i64 ((rd_T61 l1_0 x19_1).f1), .int .i64 ((rd_T61 l1_0 x19_1).f2), .int .i64 ((rd_T61 l1_0 x19_1).f3)] 61 (0, 0))) := ⟨by (with_reducible repeat (first | refine blk_drewN ?_ _ | refine blk_drew ?_ | refine blk_alloc ?_ _)); refine blk_put (cs := #[.int .i64 ((rd_T61 l1_0 x19_1).f0), .int .i64 ((rd_T61 l1_0 x19_1).f1), .int .i64 ((rd_T61 l1_0 x19_1).f2), .int .i64 0]) ?_ 3 _ rfl; refine blk_put (cs := #[.int .i64 ((rd_T61 l1_0 x19_1).f0), .int .i64 ((rd_T61 l1_0 x19_1).f1), .int .i64 0, .int .i64 0]) ?_ 2 _ rfl; refine blk_put (cs := #[.int .i64 ((rd_T61 l1_0 x19_1).f0), .int .i64 0, .int .i64 0, .int .i64 0]) ?_ 1 _ rfl; refine blk_put (cs := #[.int .i64 0, .int .i64 0, .int .i64 0, .int .i64 0]) ?_ 0 _ rfl; (with_reducible repeat (first | refine blk_drewN ?_ _ | refine blk_drew ?_ | refine blk_alloc ?_ _)); exact BK240.out⟩
              have n5_ : Aside0 (Below w.heap.size w ((((w47.setCell ⟨gb240, 0, none⟩ (.int .i64 ((rd_T61 l1_0 x19_1).f0))).setCell ⟨gb240, 1, none⟩ (.int .i64 ((rd_T61 l1_0 x19_1).f1))).setCell ⟨gb240, 2, none⟩ (.int .i64 ((rd_T61 l1_0 x19_1).f2))).setCell ⟨gb240, 3, none⟩ (.int .i64 ((rd_T61 l1_0 x19_1).f3)))) := ⟨by repeat (first | exact zh0 HB | refine below_set ?_ GE232.out | refine below_set ?_ GE233.out | refine below_set ?_ GE234.out | refine below_set ?_ GE240.out)⟩
              (try clear HO_6)
              (try clear BK232)
              (try clear BK233)
              (try clear BK234)
              (try clear BK240)
              (try clear HB)
              generalize ((((w47.setCell ⟨gb240, 0, none⟩ (.int .i64 ((rd_T61 l1_0 x19_1).f0))).setCell ⟨gb240, 1, none⟩ (.int .i64 ((rd_T61 l1_0 x19_1).f1))).setCell ⟨gb240, 2, none⟩ (.int .i64 ((rd_T61 l1_0 x19_1).f2))).setCell ⟨gb240, 3, none⟩ (.int .i64 ((rd_T61 l1_0 x19_1).f3))) = w53 at n0_ n1_ n2_ n3_ n4_ n5_ ⊢
              have HO_6 := n0_
              have BK232 := n1_
              have BK233 := n2_
              have BK234 := n3_
              have BK240 := n4_
              have HB := n5_
              clear n0_ n1_ n2_ n3_ n4_ n5_
              replace HO_6 := Aside0.mk (Kd.R_drew HO_6.out)
              replace BK232 := Aside0.mk (blk_drew BK232.out)
              replace BK233 := Aside0.mk (blk_drew BK233.out)
              replace BK234 := Aside0.mk (blk_drew BK234.out)
              replace BK240 := Aside0.mk (blk_drew BK240.out)
              replace HB := Aside0.mk (below_drew1 HB.out)
              have p241 : 0 ≤ ((ji28) : Int) := of_decide_eq_true (by first | (with_reducible assumption) | assumption)
              have q241 : (ji28) < (x6_1.length : Int) := of_decide_eq_true (by first | (with_reducible assumption) | assumption)
              obtain ⟨ad241, e241, hx241_0, hx241_1, hx241_2, hx241_3⟩ := at_T61 (Kd.R_reads' HO_6.out).2.2 (ji28) p241 q241
              cases e241
              replace p241 := eq_true p241
              replace q241 := eq_true q241
              have p242 : 0 ≤ ((ji28) : Int) := of_decide_eq_true (by first | (with_reducible assumption) | assumption)
              have q242 : (ji28) < (x6_1.length : Int) := of_decide_eq_true (by first | (with_reducible assumption) | assumption)
              obtain ⟨ad242, e242, hx242_0, hx242_1, hx242_2, hx242_3⟩ := at_T61 (Kd.R_reads' HO_6.out).2.2 (ji28) p242 q242
              obtain rfl : ad241 = ad242 := (by injection e242)
              replace p242 := eq_true p242
              replace q242 := eq_true q242
              have p243 : 0 ≤ ((ji28) : Int) := of_decide_eq_true (by first | (with_reducible assumption) | assumption)
              have q243 : (ji28) < (x6_1.length : Int) := of_decide_eq_true (by first | (with_reducible assumption) | assumption)
              obtain ⟨ad243, e243, hx243_0, hx243_1, hx243_2, hx243_3⟩ := at_T61 (Kd.R_reads' HO_6.out).2.2 (ji28) p243 q243
              obtain rfl : ad241 = ad243 := (by injection e243)
              replace p243 := eq_true p243
              replace q243 := eq_true q243
              refine start_ (n := 32) (S := fun w' => w'.cell? ⟨gb240, 0, none⟩ = some (.int .i64 ((rd_T61 l1_0 x19_1).f0)) ∧ w'.cell? ⟨gb240, 1, none⟩ = some (.int .i64 ((rd_T61 l1_0 x19_1).f1)) ∧ w'.cell? ⟨gb240, 2, none⟩ = some (.int .i64 ((rd_T61 l1_0 x19_1).f2)) ∧ w'.cell? ⟨gb240, 3, none⟩ = some (.int .i64 ((rd_T61 l1_0 x19_1).f3)) ∧ w'.cell? (ad241.add (((ji28)).toNat * 4)) = some (.int .i64 ((rd_T61 x6_1 (ji28)).f0)) ∧ w'.cell? ⟨(ad241.add (((ji28)).toNat * 4)).block, (ad241.add (((ji28)).toNat * 4)).off + 1, none⟩ = some (.int .i64 ((rd_T61 x6_1 (ji28)).f1)) ∧ w'.cell? ⟨(ad241.add (((ji28)).toNat * 4)).block, (ad241.add (((ji28)).toNat * 4)).off + 2, none⟩ = some (.int .i64 ((rd_T61 x6_1 (ji28)).f2)) ∧ w'.cell? ⟨(ad241.add (((ji28)).toNat * 4)).block, (ad241.add (((ji28)).toNat * 4)).off + 3, none⟩ = some (.int .i64 ((rd_T61 x6_1 (ji28)).f3)) ∧ w'.cell? (ad241.add (((ji28)).toNat * 4)) = some (.int .i64 ((rd_T61 x6_1 (ji28)).f0)) ∧ w'.cell? ⟨(ad241.add (((ji28)).toNat * 4)).block, (ad241.add (((ji28)).toNat * 4)).off + 1, none⟩ = some (.int .i64 ((rd_T61 x6_1 (ji28)).f1)) ∧ w'.cell? ⟨(ad241.add (((ji28)).toNat * 4)).block, (ad241.add (((ji28)).toNat * 4)).off + 2, none⟩ = some (.int .i64 ((rd_T61 x6_1 (ji28)).f2)) ∧ w'.cell? ⟨(ad241.add (((ji28)).toNat * 4)).block, (ad241.add (((ji28)).toNat * 4)).off + 3, none⟩ = some (.int .i64 ((rd_T61 x6_1 (ji28)).f3)) ∧ w'.cell? (ad241.add (((ji28)).toNat * 4)) = some (.int .i64 ((rd_T61 x6_1 (ji28)).f0)) ∧ w'.cell? ⟨(ad241.add (((ji28)).toNat * 4)).block, (ad241.add (((ji28)).toNat * 4)).off + 1, none⟩ = some (.int .i64 ((rd_T61 x6_1 (ji28)).f1)) ∧ w'.cell? ⟨(ad241.add (((ji28)).toNat * 4)).block, (ad241.add (((ji28)).toNat * 4)).off + 2, none⟩ = some (.int .i64 ((rd_T61 x6_1 (ji28)).f2)) ∧ w'.cell? ⟨(ad241.add (((ji28)).toNat * 4)).block, (ad241.add (((ji28)).toNat * 4)).off + 3, none⟩ = some (.int .i64 ((rd_T61 x6_1 (ji28)).f3))) (ds := []) #[zF, zF, zF, zF, zF, zF, zF, zF, zF, zF, zF, zF, zF, zF, zF, zF, zF, zF, zF, zF, zF, zF, zF, zF, zF, zF, zF, zF, zF, zF, zF, zF] (by kernel_rfl) rfl rfl ⟨zc0 BK240 0 rfl, zc0 BK240 1 rfl, zc0 BK240 2 rfl, zc0 BK240 3 rfl, hx241_0, hx241_1, hx241_2, hx241_3, hx242_0, hx242_1, hx242_2, hx242_3, hx243_0, hx243_1, hx243_2, hx243_3⟩ (fun hHeld => ?_); refine with_tabW impl_MergeParts.tab10 impl_MergeParts.bits10 (fun HT_ HW_ => ?_)
              generalize w53.drew = w54 at HO_6 BK232 BK233 BK234 BK240 HB hx241_0 hx241_1 hx241_2 hx241_3 hx242_0 hx242_1 hx242_2 hx242_3 hx243_0 hx243_1 hx243_2 hx243_3 hHeld ⊢
              refine pure_ (i := 0) (N := some 34) (v := ?_) (a' := ?_) #[zT, zF, zF, zF, zF, zF, zF, zF, zF, zF, zF, zF, zF, zF, zF, zF, zF, zF, zF, zF, zF, zF, zF, zF, zF, zF, zF, zF, zF, zF, zF, zF] rfl rfl (any_of HT_.out (by kernel_rfl)) (fun _ _ _ h => h) (Or.inl ⟨by rfl, ?_⟩) ?_ ?_
              rotate_left
              ·intro w'
               go_simp
               with_reducible rfl
              rotate_left
              ·simp only [Act.put, zp1, zp2, zp3, i64_w, i32_w]
               rfl
              refine pure_ (i := 1) (N := some 35) (v := ?_) (a' := ?_) #[zT, zT, zF, zF, zF, zF, zF, zF, zF, zF, zF, zF, zF, zF, zF, zF, zF, zF, zF, zF, zF, zF, zF, zF, zF, zF, zF, zF, zF, zF, zF, zF] rfl rfl (any_of HT_.out (by kernel_rfl)) (fun _ _ _ h => h) (Or.inl ⟨by rfl, ?_⟩) ?_ ?_
              rotate_left
              ·intro w'
               go_simp
               with_reducible rfl
              rotate_left
              ·simp only [Act.put, zp1, zp2, zp3, i64_w, i32_w]
               rfl
              refine pure_ (i := 2) (N := some 36) (v := ?_) (a' := ?_) #[zT, zT, zT, zF, zF, zF, zF, zF, zF, zF, zF, zF, zF, zF, zF, zF, zF, zF, zF, zF, zF, zF, zF, zF, zF, zF, zF, zF, zF, zF, zF, zF] rfl rfl (any_of HT_.out (by kernel_rfl)) (fun _ _ _ h => h) (Or.inl ⟨by rfl, ?_⟩) ?_ ?_
              rotate_left
              ·intro w'
               go_simp
               with_reducible rfl
              rotate_left
              ·simp only [Act.put, zp1, zp2, zp3, i64_w, i32_w]
               rfl
              refine pure_ (i := 3) (N := some 37) (v := ?_) (a' := ?_) #[zT, zT, zT, zT, zF, zF, zF, zF, zF, zF, zF, zF, zF, zF, zF, zF, zF, zF, zF, zF, zF, zF, zF, zF, zF, zF, zF, zF, zF, zF, zF, zF] rfl rfl (any_of HT_.out (by kernel_rfl)) (fun _ _ _ h => h) (Or.inl ⟨by rfl, ?_⟩) ?_ ?_
              rotate_left
              ·intro w'
               go_simp
               with_reducible rfl
              rotate_left
              ·simp only [Act.put, zp1, zp2, zp3, i64_w, i32_w]
               rfl
              refine pure_ (i := 4) (N := some 38) (v := ?_) (a' := ?_) #[zT, zT, zT, zT, zT, zF, zF, zF, zF, zF, zF, zF, zF, zF, zF, zF, zF, zF, zF, zF, zF, zF, zF, zF, zF, zF, zF, zF, zF, zF, zF, zF] rfl rfl (any_of HT_.out (by kernel_rfl)) (fun _ _ _ h => h) (Or.inl ⟨by rfl, ?_⟩) ?_ ?_
              rotate_left
              ·intro w'
               go_simp
               with_reducible rfl
              rotate_left
              ·simp only [Act.put, zp1, zp2, zp3, i64_w, i32_w]
               rfl
              refine pure_ (i := 5) (N := some 39) (v := ?_) (a' := ?_) #[zT, zT, zT, zT, zT, zT, zF, zF, zF, zF, zF, zF, zF, zF, zF, zF, zF, zF, zF, zF, zF, zF, zF, zF, zF, zF, zF, zF, zF, zF, zF, zF] rfl rfl (any_of HT_.out (by kernel_rfl)) (fun _ _ _ h => h) (Or.inl ⟨by rfl, ?_⟩) ?_ ?_
              rotate_left
              ·intro w'
               go_simp
               with_reducible rfl
              rotate_left
              ·simp only [Act.put, zp1, zp2, zp3, i64_w, i32_w]
               rfl
              refine pure_ (i := 6) (N := some 40) (v := ?_) (a' := ?_) #[zT, zT, zT, zT, zT, zT, zT, zF, zF, zF, zF, zF, zF, zF, zF, zF, zF, zF, zF, zF, zF, zF, zF, zF, zF, zF, zF, zF, zF, zF, zF, zF] rfl rfl (any_of HT_.out (by kernel_rfl)) (fun _ _ _ h => h) (Or.inl ⟨by rfl, ?_⟩) ?_ ?_
              rotate_left
              ·intro w'
               go_simp
               with_reducible rfl
              rotate_left
              ·simp only [Act.put, zp1, zp2, zp3, i64_w, i32_w]
               rfl
              refine pure_ (i := 7) (N := some 41) (v := ?_) (a' := ?_) #[zT, zT, zT, zT, zT, zT, zT, zT, zF, zF, zF, zF, zF, zF, zF, zF, zF, zF, zF, zF, zF, zF, zF, zF, zF, zF, zF, zF, zF, zF, zF, zF] rfl rfl (any_of HT_.out (by kernel_rfl)) (fun _ _ _ h => h) (Or.inl ⟨by rfl, ?_⟩) ?_ ?_
              rotate_left
              ·intro w'
               go_simp
               with_reducible rfl
              rotate_left
              ·simp only [Act.put, zp1, zp2, zp3, i64_w, i32_w]
               rfl
              refine pure_ (i := 9) (N := some 43) (v := ?_) (a' := ?_) #[zT, zT, zT, zT, zT, zT, zT, zT, zF, zT, zF, zF, zF, zF, zF, zF, zF, zF, zF, zF, zF, zF, zF, zF, zF, zF, zF, zF, zF, zF, zF, zF] rfl rfl (any_of HT_.out (by kernel_rfl)) (fun _ _ _ h => h) (Or.inl ⟨by rfl, ?_⟩) ?_ ?_
              rotate_left
              ·intro w'
               go_simp
               with_reducible rfl
              rotate_left
              ·simp only [Act.put, zp1, zp2, zp3, i64_w, i32_w]
               rfl
              refine take_ (i := 8) (N := some 42) (v := ?_) (a' := ?_) #[zT, zT, zT, zT, zT, zT, zT, zT, zT, zT, zF, zF, zF, zF, zF, zF, zF, zF, zF, zF, zF, zF, zF, zF, zF, zF, zF, zF, zF, zF, zF, zF] rfl rfl (take_ofW HT_.out HW_.out (by kernel_rfl)) (fun _ _ _ h => h) (Or.inl ⟨by rfl, ?_⟩) hHeld ?_ ?_
              rotate_left
              ·rintro w' ⟨s0, s1, s2, s3, s4, s5, s6, s7, s8, s9, s10, s11, s12, s13, s14, s15⟩
               go_simp
               with_reducible rfl
              rotate_left
              ·simp only [Act.put, zp1, zp2, zp3, i64_w, i32_w]
               rfl
              refine take_ (i := 10) (N := some 44) (v := ?_) (a' := ?_) #[zT, zT, zT, zT, zT, zT, zT, zT, zT, zT, zT, zF, zF, zF, zF, zF, zF, zF, zF, zF, zF, zF, zF, zF, zF, zF, zF, zF, zF, zF, zF, zF] rfl rfl (take_ofW HT_.out HW_.out (by kernel_rfl)) (fun _ _ _ h => h) (Or.inl ⟨by rfl, ?_⟩) hHeld ?_ ?_
              rotate_left
              ·rintro w' ⟨s0, s1, s2, s3, s4, s5, s6, s7, s8, s9, s10, s11, s12, s13, s14, s15⟩
               go_simp
               with_reducible rfl
              rotate_left
              ·simp only [Act.put, zp1, zp2, zp3, i64_w, i32_w]
               rfl
              refine pure_ (i := 11) (N := some 45) (v := ?_) (a' := ?_) #[zT, zT, zT, zT, zT, zT, zT, zT, zT, zT, zT, zT, zF, zF, zF, zF, zF, zF, zF, zF, zF, zF, zF, zF, zF, zF, zF, zF, zF, zF, zF, zF] rfl rfl (any_of HT_.out (by kernel_rfl)) (fun _ _ _ h => h) (Or.inl ⟨by rfl, ?_⟩) ?_ ?_
              rotate_left
              ·intro w'
               go_simp
               with_reducible rfl
              rotate_left
              ·simp only [Act.put, zp1, zp2, zp3, i64_w, i32_w]
               rfl
              refine pure_ (i := 12) (N := some 46) (v := ?_) (a' := ?_) #[zT, zT, zT, zT, zT, zT, zT, zT, zT, zT, zT, zT, zT, zF, zF, zF, zF, zF, zF, zF, zF, zF, zF, zF, zF, zF, zF, zF, zF, zF, zF, zF] rfl rfl (any_of HT_.out (by kernel_rfl)) (fun _ _ _ h => h) (Or.inl ⟨by rfl, ?_⟩) ?_ ?_
              rotate_left
              ·intro w'
               go_simp
               with_reducible rfl
              rotate_left
              ·simp only [Act.put, zp1, zp2, zp3, i64_w, i32_w]
               rfl
              refine pure_ (i := 13) (N := some 47) (v := ?_) (a' := ?_) #[zT, zT, zT, zT, zT, zT, zT, zT, zT, zT, zT, zT, zT, zT, zF, zF, zF, zF, zF, zF, zF, zF, zF, zF, zF, zF, zF, zF, zF, zF, zF, zF] rfl rfl (any_of HT_.out (by kernel_rfl)) (fun _ _ _ h => h) (Or.inl ⟨by rfl, ?_⟩) ?_ ?_
              rotate_left
              ·intro w'
               go_simp
               with_reducible rfl
              rotate_left
              ·simp only [Act.put, zp1, zp2, zp3, i64_w, i32_w]
               rfl
              refine pure_ (i := 14) (N := some 48) (v := ?_) (a' := ?_) #[zT, zT, zT, zT, zT, zT, zT, zT, zT, zT, zT, zT, zT, zT, zT, zF, zF, zF, zF, zF, zF, zF, zF, zF, zF, zF, zF, zF, zF, zF, zF, zF] rfl rfl (any_of HT_.out (by kernel_rfl)) (fun _ _ _ h => h) (Or.inl ⟨by rfl, ?_⟩) ?_ ?_
              rotate_left
              ·intro w'
               go_simp
               with_reducible rfl
              rotate_left
              ·simp only [Act.put, zp1, zp2, zp3, i64_w, i32_w]
               rfl
              refine pure_ (i := 15) (N := some 49) (v := ?_) (a' := ?_) #[zT, zT, zT, zT, zT, zT, zT, zT, zT, zT, zT, zT, zT, zT, zT, zT, zF, zF, zF, zF, zF, zF, zF, zF, zF, zF, zF, zF, zF, zF, zF, zF] rfl rfl (any_of HT_.out (by kernel_rfl)) (fun _ _ _ h => h) (Or.inl ⟨by rfl, ?_⟩) ?_ ?_
              rotate_left
              ·intro w'
               go_simp
               with_reducible rfl
              rotate_left
              ·simp only [Act.put, zp1, zp2, zp3, i64_w, i32_w]
               rfl
              refine pure_ (i := 16) (N := some 50) (v := ?_) (a' := ?_) #[zT, zT, zT, zT, zT, zT, zT, zT, zT, zT, zT, zT, zT, zT, zT, zT, zT, zF, zF, zF, zF, zF, zF, zF, zF, zF, zF, zF, zF, zF, zF, zF] rfl rfl (any_of HT_.out (by kernel_rfl)) (fun _ _ _ h => h) (Or.inl ⟨by rfl, ?_⟩) ?_ ?_
              rotate_left
              ·intro w'
               go_simp
               with_reducible rfl
              rotate_left
              ·simp only [Act.put, zp1, zp2, zp3, i64_w, i32_w]
               rfl
              refine pure_ (i := 17) (N := some 51) (v := ?_) (a' := ?_) #[zT, zT, zT, zT, zT, zT, zT, zT, zT, zT, zT, zT, zT, zT, zT, zT, zT, zT, zF, zF, zF, zF, zF, zF, zF, zF, zF, zF, zF, zF, zF, zF] rfl rfl (any_of HT_.out (by kernel_rfl)) (fun _ _ _ h => h) (Or.inl ⟨by rfl, ?_⟩) ?_ ?_
              rotate_left
              ·intro w'
               go_simp
               with_reducible rfl
              rotate_left
              ·simp only [Act.put, zp1, zp2, zp3, i64_w, i32_w]
               rfl
              refine pure_ (i := 18) (N := some 52) (v := ?_) (a' := ?_) #[zT, zT, zT, zT, zT, zT, zT, zT, zT, zT, zT, zT, zT, zT, zT, zT, zT, zT, zT, zF, zF, zF, zF, zF, zF, zF, zF, zF, zF, zF, zF, zF] rfl rfl (any_of HT_.out (by kernel_rfl)) (fun _ _ _ h => h) (Or.inl ⟨by rfl, ?_⟩) ?_ ?_
              rotate_left
              ·intro w'
               go_simp
               with_reducible rfl
              rotate_left
              ·simp only [Act.put, zp1, zp2, zp3, i64_w, i32_w]
               rfl
              refine pure_ (i := 20) (N := some 54) (v := ?_) (a' := ?_) #[zT, zT, zT, zT, zT, zT, zT, zT, zT, zT, zT, zT, zT, zT, zT, zT, zT, zT, zT, zF, zT, zF, zF, zF, zF, zF, zF, zF, zF, zF, zF, zF] rfl rfl (any_of HT_.out (by kernel_rfl)) (fun _ _ _ h => h) (Or.inl ⟨by rfl, ?_⟩) ?_ ?_
              rotate_left
              ·intro w'
               go_simp
               with_reducible rfl
              rotate_left
              ·simp only [Act.put, zp1, zp2, zp3, i64_w, i32_w]
               rfl
              refine pure_ (i := 21) (N := some 55) (v := ?_) (a' := ?_) #[zT, zT, zT, zT, zT, zT, zT, zT, zT, zT, zT, zT, zT, zT, zT, zT, zT, zT, zT, zF, zT, zT, zF, zF, zF, zF, zF, zF, zF, zF, zF, zF] rfl rfl (any_of HT_.out (by kernel_rfl)) (fun _ _ _ h => h) (Or.inl ⟨by rfl, ?_⟩) ?_ ?_
              rotate_left
              ·intro w'
               go_simp
               with_reducible rfl
              rotate_left
              ·simp only [Act.put, zp1, zp2, zp3, i64_w, i32_w]
               rfl
              refine pure_ (i := 22) (N := some 56) (v := ?_) (a' := ?_) #[zT, zT, zT, zT, zT, zT, zT, zT, zT, zT, zT, zT, zT, zT, zT, zT, zT, zT, zT, zF, zT, zT, zT, zF, zF, zF, zF, zF, zF, zF, zF, zF] rfl rfl (any_of HT_.out (by kernel_rfl)) (fun _ _ _ h => h) (Or.inl ⟨by rfl, ?_⟩) ?_ ?_
              rotate_left
              ·intro w'
               go_simp
               with_reducible rfl
              rotate_left
              ·simp only [Act.put, zp1, zp2, zp3, i64_w, i32_w]
               rfl
              refine pure_ (i := 23) (N := some 57) (v := ?_) (a' := ?_) #[zT, zT, zT, zT, zT, zT, zT, zT, zT, zT, zT, zT, zT, zT, zT, zT, zT, zT, zT, zF, zT, zT, zT, zT, zF, zF, zF, zF, zF, zF, zF, zF] rfl rfl (any_of HT_.out (by kernel_rfl)) (fun _ _ _ h => h) (Or.inl ⟨by rfl, ?_⟩) ?_ ?_
              rotate_left
              ·intro w'
               go_simp
               with_reducible rfl
              rotate_left
              ·simp only [Act.put, zp1, zp2, zp3, i64_w, i32_w]
               rfl
              refine pure_ (i := 24) (N := some 58) (v := ?_) (a' := ?_) #[zT, zT, zT, zT, zT, zT, zT, zT, zT, zT, zT, zT, zT, zT, zT, zT, zT, zT, zT, zF, zT, zT, zT, zT, zT, zF, zF, zF, zF, zF, zF, zF] rfl rfl (any_of HT_.out (by kernel_rfl)) (fun _ _ _ h => h) (Or.inl ⟨by rfl, ?_⟩) ?_ ?_
              rotate_left
              ·intro w'
               go_simp
               with_reducible rfl
              rotate_left
              ·simp only [Act.put, zp1, zp2, zp3, i64_w, i32_w]
               rfl
              refine pure_ (i := 27) (N := some 61) (v := ?_) (a' := ?_) #[zT, zT, zT, zT, zT, zT, zT, zT, zT, zT, zT, zT, zT, zT, zT, zT, zT, zT, zT, zF, zT, zT, zT, zT, zT, zF, zF, zT, zF, zF, zF, zF] rfl rfl (any_of HT_.out (by kernel_rfl)) (fun _ _ _ h => h) (Or.inl ⟨by rfl, ?_⟩) ?_ ?_
              rotate_left
              ·intro w'
               go_simp
               with_reducible rfl
              rotate_left
              ·simp only [Act.put, zp1, zp2, zp3, i64_w, i32_w]
               rfl
              refine take_ (i := 19) (N := some 53) (v := ?_) (a' := ?_) #[zT, zT, zT, zT, zT, zT, zT, zT, zT, zT, zT, zT, zT, zT, zT, zT, zT, zT, zT, zT, zT, zT, zT, zT, zT, zF, zF, zT, zF, zF, zF, zF] rfl rfl (take_ofW HT_.out HW_.out (by kernel_rfl)) (fun _ _ _ h => h) (Or.inl ⟨by rfl, ?_⟩) hHeld ?_ ?_
              rotate_left
              ·rintro w' ⟨s0, s1, s2, s3, s4, s5, s6, s7, s8, s9, s10, s11, s12, s13, s14, s15⟩
               go_simp
               with_reducible rfl
              rotate_left
              ·simp only [Act.put, zp1, zp2, zp3, i64_w, i32_w]
               rfl
              refine take_ (i := 25) (N := some 59) (v := ?_) (a' := ?_) #[zT, zT, zT, zT, zT, zT, zT, zT, zT, zT, zT, zT, zT, zT, zT, zT, zT, zT, zT, zT, zT, zT, zT, zT, zT, zT, zF, zT, zF, zF, zF, zF] rfl rfl (take_ofW HT_.out HW_.out (by kernel_rfl)) (fun _ _ _ h => h) (Or.inl ⟨by rfl, ?_⟩) hHeld ?_ ?_
              rotate_left
              ·rintro w' ⟨s0, s1, s2, s3, s4, s5, s6, s7, s8, s9, s10, s11, s12, s13, s14, s15⟩
               go_simp
               with_reducible rfl
              rotate_left
              ·simp only [Act.put, zp1, zp2, zp3, i64_w, i32_w]
               rfl
              refine pure_ (i := 26) (N := some 60) (v := ?_) (a' := ?_) #[zT, zT, zT, zT, zT, zT, zT, zT, zT, zT, zT, zT, zT, zT, zT, zT, zT, zT, zT, zT, zT, zT, zT, zT, zT, zT, zT, zT, zF, zF, zF, zF] rfl rfl (any_of HT_.out (by kernel_rfl)) (fun _ _ _ h => h) (Or.inl ⟨by rfl, ?_⟩) ?_ ?_
              rotate_left
              ·intro w'
               go_simp
               with_reducible rfl
              rotate_left
              ·simp only [Act.put, zp1, zp2, zp3, i64_w, i32_w]
               rfl
              refine take_ (i := 28) (N := some 62) (v := ?_) (a' := ?_) #[zT, zT, zT, zT, zT, zT, zT, zT, zT, zT, zT, zT, zT, zT, zT, zT, zT, zT, zT, zT, zT, zT, zT, zT, zT, zT, zT, zT, zT, zF, zF, zF] rfl rfl (take_ofW HT_.out HW_.out (by kernel_rfl)) (fun _ _ _ h => h) (Or.inl ⟨by rfl, ?_⟩) hHeld ?_ ?_
              rotate_left
              ·rintro w' ⟨s0, s1, s2, s3, s4, s5, s6, s7, s8, s9, s10, s11, s12, s13, s14, s15⟩
               go_simp
               with_reducible rfl
              rotate_left
              ·simp only [Act.put, zp1, zp2, zp3, i64_w, i32_w]
               rfl
              refine pure_ (i := 29) (N := some 63) (v := ?_) (a' := ?_) #[zT, zT, zT, zT, zT, zT, zT, zT, zT, zT, zT, zT, zT, zT, zT, zT, zT, zT, zT, zT, zT, zT, zT, zT, zT, zT, zT, zT, zT, zT, zF, zF] rfl rfl (any_of HT_.out (by kernel_rfl)) (fun _ _ _ h => h) (Or.inl ⟨by rfl, ?_⟩) ?_ ?_
              rotate_left
              ·intro w'
               go_simp
               with_reducible rfl
              rotate_left
              ·simp only [Act.put, zp1, zp2, zp3, i64_w, i32_w]
               rfl
              refine pure_ (i := 30) (N := some 64) (v := ?_) (a' := ?_) #[zT, zT, zT, zT, zT, zT, zT, zT, zT, zT, zT, zT, zT, zT, zT, zT, zT, zT, zT, zT, zT, zT, zT, zT, zT, zT, zT, zT, zT, zT, zT, zF] rfl rfl (any_of HT_.out (by kernel_rfl)) (fun _ _ _ h => h) (Or.inl ⟨by rfl, ?_⟩) ?_ ?_
              rotate_left
              ·intro w'
               go_simp
               with_reducible rfl
              rotate_left
              ·simp only [Act.put, zp1, zp2, zp3, i64_w, i32_w]
               rfl
              refine pure_ (i := 31) (N := some 33) (v := ?_) (a' := ?_) #[zT, zT, zT, zT, zT, zT, zT, zT, zT, zT, zT, zT, zT, zT, zT, zT, zT, zT, zT, zT, zT, zT, zT, zT, zT, zT, zT, zT, zT, zT, zT, zT] rfl rfl (any_of HT_.out (by kernel_rfl)) (fun _ _ _ h => h) (Or.inl ⟨by rfl, ?_⟩) ?_ ?_
              rotate_left
              ·intro w'
               go_simp
               with_reducible rfl
              rotate_left
              ·simp only [Act.put, zp1, zp2, zp3, i64_w, i32_w]
               rfl
              refine done_ (done_of HT_.out (by kernel_rfl)) ?_
              have hcz55_0 := zc0 BK240 0 rfl
              have hcz55_1 := zc0 BK240 1 rfl
              have hcz55_2 := zc0 BK240 2 rfl
              have hcz55_3 := zc0 BK240 3 rfl
              have hfz55_0 := blk_frozen BK240.out 0
              have hfz55_1 := blk_frozen BK240.out 1
              have hfz55_2 := blk_frozen BK240.out 2
              have hfz55_3 := blk_frozen BK240.out 3
              try go_wp2_with (first | ((with_reducible refine gate_builtin (b := .append) (xs := #[.tmp 25, .tmp 27]) rfl ?_); at_builtin; refine Kd.R_append k61 (w0 := w) w.heap.size rfl (.tmp 25) (.tmp 27) 30 61 (.agg #[(.int .i64 0), (.int .i64 0), (.int .i64 0), (.int .i64 0)]) 32 rfl Try.underlying30 info61 rfl (by decide) (by omega) (.slice (some ad241) x6_1.length co52) x6_1 (⟨(rd_T61 l1_0 x19_1).f0, (rd_T61 l1_0 x19_1).f1, (rd_T61 l1_0 x19_1).f2, (rd_T61 l1_0 x19_1).f3⟩ : S61) [.int .i64 ((rd_T61 l1_0 x19_1).f0), .int .i64 ((rd_T61 l1_0 x19_1).f1), .int .i64 ((rd_T61 l1_0 x19_1).f2), .int .i64 ((rd_T61 l1_0 x19_1).f3)] (fun k_ => k_ ≠ gb240) (fun _ => False) rfl rfl ?aP (fun _ hk => hk.elim) ?aF ?aO ?aB ?aS ?aL ?_; (case aP => exact k61_mkM _ _ _ (⟨(rd_T61 l1_0 x19_1).f0, (rd_T61 l1_0 x19_1).f1, (rd_T61 l1_0 x19_1).f2, (rd_T61 l1_0 x19_1).f3⟩ : S61)); (case aB => exact (zh0 HB)); (case aF => exact (fun k_ hk => Kd.freshB (g := gb240) (o := .cells #[.int .i64 ((rd_T61 l1_0 x19_1).f0), .int .i64 ((rd_T61 l1_0 x19_1).f1), .int .i64 ((rd_T61 l1_0 x19_1).f2), .int .i64 ((rd_T61 l1_0 x19_1).f3)] 61 (0, 0)) (zk0 BK240) k_ hk)); (case aO => exact (zr0 HO_6)); (case aS => exact (below_size (zh0 HB))); (case aL => have := LMc46.out; omega); intro v252 w56 ho hb hg hat; rw [← Ny251.out] at ho; have n0_ := Aside0.mk (blk_grown (g := gb232) (o := .cells #[.slice A0_0 l0_0.length c0_0] 35 (0, 0)) (zk0 BK232) hg (Kd.R_ne HO_6.out BK232.out (by decide))); have n1_ := Aside0.mk (blk_grown (g := gb233) (o := .cells #[.slice (some ad239) l1_0.length c1_0] 32 (0, 0)) (zk0 BK233) hg (Kd.R_ne HO_6.out BK233.out (by decide))); have n2_ := Aside0.mk (blk_grown (g := gb234) (o := .cells #[.slice none 0 0] 32 (0, 0)) (zk0 BK234) hg (Kd.R_ne HO_6.out BK234.out (by decide))); have n3_ := Aside0.mk (blk_grown (g := gb240) (o := .cells #[.int .i64 ((rd_T61 l1_0 x19_1).f0), .int .i64 ((rd_T61 l1_0 x19_1).f1), .int .i64 ((rd_T61 l1_0 x19_1).f2), .int .i64 ((rd_T61 l1_0 x19_1).f3)] 61 (0, 0)) (zk0 BK240) hg (Kd.R_away HO_6.out (fun _ hk => hk))); have n4_ := Aside0.mk (hb); have n5_ := Aside0.mk (ho); clear BK232; clear BK233; clear BK234; clear BK240; clear HB; clear HO_6; have BK232 := n0_; have BK233 := n1_; have BK234 := n2_; have BK240 := n3_; have HB := n4_; have HO253 := n5_; clear n0_ n1_ n2_ n3_ n4_ n5_; clear ho hb hg hat))
              go_roundg k1
              case measure => have := HK1.out; omega
              case rel => exact ⟨(y251), (wrap64 (x19_1 + 1)), (by first | rfl | (simp; done) | (simp [*]; done)), H', ⟨by have := HK1.out; omega⟩, ⟨by (with_reducible repeat (first | apply Kd.R_alloc | apply Kd.R_drewN | apply Kd.R_drew)); exact Kd.R_mono HO253.out (fun _ hk => trivial)⟩, ⟨zk0 BK232⟩, ⟨zk0 BK233⟩, ⟨zk0 BK234⟩, ⟨by repeat (first | exact zh0 HB | refine below_set ?_ GE232.out | refine below_set ?_ GE233.out | refine below_set ?_ GE234.out | refine below_set ?_ GE240.out)⟩⟩
             ·rw [if_neg c46] at H
              exact absurd H (by simp)
           ·rw [if_neg c31] at H
            have c31b0 : (((rd_T61 x6_1 (ji28)).f0) == ((rd_T61 l1_0 x19_1).f0)) = false := beq_eq_false_iff_ne.mpr c31
            have c31b1 : (((rd_T61 x6_1 (ji28)).f0) != ((rd_T61 l1_0 x19_1).f0)) = true := bne_iff_ne.mpr c31
            by_cases c57 : x6_1.length < 4398046511104
            ·rw [if_pos c57] at H
             have LMc57 := Aside0.mk c57
             clear c57
             obtain ⟨y254, hy254⟩ : ∃ y_ : List (S61), y_ = (x6_1 ++ [(⟨(rd_T61 l1_0 x19_1).f0, (rd_T61 l1_0 x19_1).f1, (rd_T61 l1_0 x19_1).f2, (rd_T61 l1_0 x19_1).f3⟩ : S61)]) := ⟨_, rfl⟩
             replace H : (impl_MergeParts.l0 k1 y254 l1_0 (l1_0.length : Int) (wrap64 (x19_1 + 1))) = some (r1, r2) := by first | (rw [hy254]; with_reducible exact H) | (have H2_ := (Option.bind_some _ _).symm.trans H; rw [hy254]; with_reducible exact H2_) | (have H2_ := (Option.bind_some _ _).symm.trans H; with_reducible exact H2_) | with_reducible exact H | (rw [hy254]; exact H) | exact H
             have Ny254 := Aside0.mk hy254
             clear hy254
             have H' := Aside0.mk H
             clear H
             have p239 : 0 ≤ (x19_1 : Int) := of_decide_eq_true (by first | (with_reducible assumption) | assumption)
             have q239 : x19_1 < (l1_0.length : Int) := of_decide_eq_true (by first | (with_reducible assumption) | assumption)
             obtain ⟨ad239, e239, hx239_0, hx239_1, hx239_2, hx239_3⟩ := at_T61 HR1_0.out x19_1 p239 q239
             cases e239
             replace hx239_0 := (HB.out.cell (World.block_lt_of_cell? w _ hx239_0)).trans hx239_0
             replace hx239_1 := (HB.out.cell (World.block_lt_of_cell? w _ hx239_1)).trans hx239_1
             replace hx239_2 := (HB.out.cell (World.block_lt_of_cell? w _ hx239_2)).trans hx239_2
             replace hx239_3 := (HB.out.cell (World.block_lt_of_cell? w _ hx239_3)).trans hx239_3
             replace p239 := eq_true p239
             replace q239 := eq_true q239
             try go_wp2_with (first | ((with_reducible refine gate_dst (N := 8) rfl ?_); refine box_event ?hg (N := 8) ?hd (cs := #[.int .i64 0, .int .i64 0, .int .i64 0, .int .i64 0]) (t := 61) ?hr ?_; (case hd => rfl); (case hg => rfl); (case hr => first | (go_simp; done) | (go_simp; rfl)); intro gb240 hg w58 hbox hb; have BK240 := Aside0.mk (hbox); have GW240 := Aside0.mk ((by rw [hg]; exact (below_size (by repeat (first | exact zh0 HB | refine below_set ?_ GE232.out | refine below_set ?_ GE233.out | refine below_set ?_ GE234.out))) : w.heap.size ≤ gb240)); have GE240 := Aside0.mk ((by rw [hg]; exact (below_size (by repeat (first | exact zh0 HB | refine below_set ?_ GE232.out | refine below_set ?_ GE233.out | refine below_set ?_ GE234.out))) : w.heap.size ≤ gb240)); have NB232_240 := znl BK232 hg; have NB240_232 := znr BK232 hg; have NB233_240 := znl BK233 hg; have NB240_233 := znr BK233 hg; have NB234_240 := znl BK234 hg; have NB240_234 := znr BK234 hg; replace HO_6 := Aside0.mk (Kd.R_below (Kd.R_elderB (zr0 HO_6) gb240 (Nat.le_of_eq hg.symm)) hb); replace BK232 := zb0 BK232 hb; replace BK233 := zb0 BK233 hb; replace BK234 := zb0 BK234 hb; replace HB := Aside0.mk (below_step (by repeat (first | exact zh0 HB | refine below_set ?_ GE232.out | refine below_set ?_ GE233.out | refine below_set ?_ GE234.out)) hb); clear hb hbox hg; have hnb59 := NB240_232.out; have hnc59 := NB232_240.out; have hnb60 := NB240_233.out; have hnc60 := NB233_240.out; have hnb61 := NB240_234.out; have hnc61 := NB234_240.out; have hcz62_0 := zc0 BK240 0 rfl; have hcz62_1 := zc0 BK240 1 rfl; have hcz62_2 := zc0 BK240 2 rfl; have hcz62_3 := zc0 BK240 3 rfl; have hfz62_0 := blk_frozen BK240.out 0; have hfz62_1 := blk_frozen BK240.out 1; have hfz62_2 := blk_frozen BK240.out 2; have hfz62_3 := blk_frozen BK240.out 3; obtain ⟨Ao63, co63, eo63⟩ := Kd.R_slice HO_6.out; subst eo63))
             have n0_ : Aside0 (Kd.R k61 61 ((((w58.setCell ⟨gb240, 0, none⟩ (.int .i64 ((rd_T61 l1_0 x19_1).f0))).setCell ⟨gb240, 1, none⟩ (.int .i64 ((rd_T61 l1_0 x19_1).f1))).setCell ⟨gb240, 2, none⟩ (.int .i64 ((rd_T61 l1_0 x19_1).f2))).setCell ⟨gb240, 3, none⟩ (.int .i64 ((rd_T61 l1_0 x19_1).f3))) w.heap.size (fun k_ => k_ ≠ gb240) (.slice Ao63 x6_1.length co63) x6_1) := ⟨by (with_reducible repeat (first | apply Kd.R_alloc | apply Kd.R_drewN | apply Kd.R_drew)); exact Kd.R_mono (Kd.R_far (p := ⟨gb240, 3, none⟩) (Kd.R_far (p := ⟨gb240, 2, none⟩) (Kd.R_far (p := ⟨gb240, 1, none⟩) (Kd.R_far (p := ⟨gb240, 0, none⟩) (Kd.R_mono HO_6.out (fun k_ hk => (⟨hk, hk.2⟩ : _ ∧ k_ ≠ gb240))) (fun _ hk => hk.2) (.int .i64 ((rd_T61 l1_0 x19_1).f0))) (fun _ hk => hk.2) (.int .i64 ((rd_T61 l1_0 x19_1).f1))) (fun _ hk => hk.2) (.int .i64 ((rd_T61 l1_0 x19_1).f2))) (fun _ hk => hk.2) (.int .i64 ((rd_T61 l1_0 x19_1).f3))) (fun _ hk => hk.1.2)⟩
             have n1_ : Aside0 (((((w58.setCell ⟨gb240, 0, none⟩ (.int .i64 ((rd_T61 l1_0 x19_1).f0))).setCell ⟨gb240, 1, none⟩ (.int .i64 ((rd_T61 l1_0 x19_1).f1))).setCell ⟨gb240, 2, none⟩ (.int .i64 ((rd_T61 l1_0 x19_1).f2))).setCell ⟨gb240, 3, none⟩ (.int .i64 ((rd_T61 l1_0 x19_1).f3))).heap[gb232]? = some (.cells #[.slice A0_0 l0_0.length c0_0] 35 (0, 0))) := ⟨by (with_reducible repeat (first | refine blk_drewN ?_ _ | refine blk_drew ?_ | refine blk_alloc ?_ _)); refine blk_far ?_ NB232_240.out _; refine blk_far ?_ NB232_240.out _; refine blk_far ?_ NB232_240.out _; refine blk_far ?_ NB232_240.out _; (with_reducible repeat (first | refine blk_drewN ?_ _ | refine blk_drew ?_ | refine blk_alloc ?_ _)); exact BK232.out⟩
             have n2_ : Aside0 (((((w58.setCell ⟨gb240, 0, none⟩ (.int .i64 ((rd_T61 l1_0 x19_1).f0))).setCell ⟨gb240, 1, none⟩ (.int .i64 ((rd_T61 l1_0 x19_1).f1))).setCell ⟨gb240, 2, none⟩ (.int .i64 ((rd_T61 l1_0 x19_1).f2))).setCell ⟨gb240, 3, none⟩ (.int .i64 ((rd_T61 l1_0 x19_1).f3))).heap[gb233]? = some (.cells #[.slice (some ad239) l1_0.length c1_0] 32 (0, 0))) := ⟨by (with_reducible repeat (first | refine blk_drewN ?_ _ | refine blk_drew ?_ | refine blk_alloc ?_ _)); refine blk_far ?_ NB233_240.out _; refine blk_far ?_ NB233_240.out _; refine blk_far ?_ NB233_240.out _; refine blk_far ?_ NB233_240.out _; (with_reducible repeat (first | refine blk_drewN ?_ _ | refine blk_drew ?_ | refine blk_alloc ?_ _)); exact BK233.out⟩
             have n3_ : Aside0 (((((w58.setCell ⟨gb240, 0, none⟩ (.int .i64 ((rd_T61 l1_0 x19_1).f0))).setCell ⟨gb240, 1, none⟩ (.int .i64 ((rd_T61 l1_0 x19_1).f1))).setCell ⟨gb240, 2, none⟩ (.int .i64 ((rd_T61 l1_0 x19_1).f2))).setCell ⟨gb240, 3, none⟩ (.int .i64 ((rd_T61 l1_0 x19_1).f3))).heap[gb234]? = some (.cells #[.slice none 0 0] 32 (0, 0))) := ⟨by (with_reducible repeat (first | refine blk_drewN ?_ _ | refine blk_drew ?_ | refine blk_alloc ?_ _)); refine blk_far ?_ NB234_240.out _; refine blk_far ?_ NB234_240.out _; refine blk_far ?_ NB234_240.out _; refine blk_far ?_ NB234_240.out _; (with_reducible repeat (first | refine blk_drewN ?_ _ | refine blk_drew ?_ | refine blk_alloc ?_ _)); exact BK234.out⟩
             have n4_ : Aside0 (((((w58.setCell ⟨gb240, 0, none⟩ (.int .i64 ((rd_T61 l1_0 x19_1).f0))).setCell ⟨gb240, 1, none⟩ (.int .i64 ((rd_T61 l1_0 x19_1).f1))).setCell ⟨gb240, 2, none⟩ (.int .i64 ((rd_T61 l1_0 x19_1).f2))).setCell ⟨gb240, 3, none⟩ (.int .i64 ((rd_T61 l1_0 x19_1).f3))).heap[gb240]? = some (.cells #[.int .i64 ((rd_T61 l1_0 x19_1).f0), .int .i64 ((rd_T61 l1_0 x19_1).f1), .int .i64 ((rd_T61 l1_0 x19_1).f2), .int .i64 ((rd_T61 l1_0 x19_1).f3)] 61 (0, 0))) := ⟨by (with_reducible repeat (first | refine blk_drewN ?_ _ | refine blk_drew ?_ | refine blk_alloc ?_ _)); refine blk_put (cs := #[.int .i64 ((rd_T61 l1_0 x19_1).f0), .int .i64 ((rd_T61 l1_0 x19_1).f1), .int .i64 ((rd_T61 l1_0 x19_1).f2), .int .i64 0]) ?_ 3 _ rfl; refine blk_put (cs := #[.int .i64 ((rd_T61 l1_0 x19_1).f0), .int .i64 ((rd_T61 l1_0 x19_1).f1), .int .i64 0, .int .i64 0]) ?_ 2 _ rfl; refine blk_put (cs := #[.int .i64 ((rd_T61 l1_0 x19_1).f0), .int .i64 0, .int .i64 0, .int .i64 0]) ?_ 1 _ rfl; refine blk_put (cs := #[.int .i64 0, .int .i64 0, .int .i64 0, .int .i64 0]) ?_ 0 _ rfl; (with_reducible repeat (first | refine blk_drewN ?_ _ | refine blk_drew ?_ | refine blk_alloc ?_ _)); exact BK240.out⟩
             have n5_ : Aside0 (Below w.heap.size w ((((w58.setCell ⟨gb240, 0, none⟩ (.int .i64 ((rd_T61 l1_0 x19_1).f0))).setCell ⟨gb240, 1, none⟩ (.int .i64 ((rd_T61 l1_0 x19_1).f1))).setCell ⟨gb240, 2, none⟩ (.int .i64 ((rd_T61 l1_0 x19_1).f2))).setCell ⟨gb240, 3, none⟩ (.int .i64 ((rd_T61 l1_0 x19_1).f3)))) := ⟨by repeat (first | exact zh0 HB | refine below_set ?_ GE232.out | refine below_set ?_ GE233.out | refine below_set ?_ GE234.out | refine below_set ?_ GE240.out)⟩
             (try clear HO_6)
             (try clear BK232)
             (try clear BK233)
             (try clear BK234)
             (try clear BK240)
             (try clear HB)
             generalize ((((w58.setCell ⟨gb240, 0, none⟩ (.int .i64 ((rd_T61 l1_0 x19_1).f0))).setCell ⟨gb240, 1, none⟩ (.int .i64 ((rd_T61 l1_0 x19_1).f1))).setCell ⟨gb240, 2, none⟩ (.int .i64 ((rd_T61 l1_0 x19_1).f2))).setCell ⟨gb240, 3, none⟩ (.int .i64 ((rd_T61 l1_0 x19_1).f3))) = w64 at n0_ n1_ n2_ n3_ n4_ n5_ ⊢
             have HO_6 := n0_
             have BK232 := n1_
             have BK233 := n2_
             have BK234 := n3_
             have BK240 := n4_
             have HB := n5_
             clear n0_ n1_ n2_ n3_ n4_ n5_
             replace HO_6 := Aside0.mk (Kd.R_drew HO_6.out)
             replace BK232 := Aside0.mk (blk_drew BK232.out)
             replace BK233 := Aside0.mk (blk_drew BK233.out)
             replace BK234 := Aside0.mk (blk_drew BK234.out)
             replace BK240 := Aside0.mk (blk_drew BK240.out)
             replace HB := Aside0.mk (below_drew1 HB.out)
             have p241 : 0 ≤ ((ji28) : Int) := of_decide_eq_true (by first | (with_reducible assumption) | assumption)
             have q241 : (ji28) < (x6_1.length : Int) := of_decide_eq_true (by first | (with_reducible assumption) | assumption)
             obtain ⟨ad241, e241, hx241_0, hx241_1, hx241_2, hx241_3⟩ := at_T61 (Kd.R_reads' HO_6.out).2.2 (ji28) p241 q241
             cases e241
             replace p241 := eq_true p241
             replace q241 := eq_true q241
             refine start_ (n := 32) (S := fun w' => w'.cell? ⟨gb240, 0, none⟩ = some (.int .i64 ((rd_T61 l1_0 x19_1).f0)) ∧ w'.cell? ⟨gb240, 1, none⟩ = some (.int .i64 ((rd_T61 l1_0 x19_1).f1)) ∧ w'.cell? ⟨gb240, 2, none⟩ = some (.int .i64 ((rd_T61 l1_0 x19_1).f2)) ∧ w'.cell? ⟨gb240, 3, none⟩ = some (.int .i64 ((rd_T61 l1_0 x19_1).f3)) ∧ w'.cell? (ad241.add (((ji28)).toNat * 4)) = some (.int .i64 ((rd_T61 x6_1 (ji28)).f0)) ∧ w'.cell? ⟨(ad241.add (((ji28)).toNat * 4)).block, (ad241.add (((ji28)).toNat * 4)).off + 1, none⟩ = some (.int .i64 ((rd_T61 x6_1 (ji28)).f1)) ∧ w'.cell? ⟨(ad241.add (((ji28)).toNat * 4)).block, (ad241.add (((ji28)).toNat * 4)).off + 2, none⟩ = some (.int .i64 ((rd_T61 x6_1 (ji28)).f2)) ∧ w'.cell? ⟨(ad241.add (((ji28)).toNat * 4)).block, (ad241.add (((ji28)).toNat * 4)).off + 3, none⟩ = some (.int .i64 ((rd_T61 x6_1 (ji28)).f3))) (ds := []) #[zF, zF, zF, zF, zF, zF, zF, zF, zF, zF, zF, zF, zF, zF, zF, zF, zF, zF, zF, zF, zF, zF, zF, zF, zF, zF, zF, zF, zF, zF, zF, zF] (by kernel_rfl) rfl rfl ⟨zc0 BK240 0 rfl, zc0 BK240 1 rfl, zc0 BK240 2 rfl, zc0 BK240 3 rfl, hx241_0, hx241_1, hx241_2, hx241_3⟩ (fun hHeld => ?_); refine with_tabW impl_MergeParts.tab10 impl_MergeParts.bits10 (fun HT_ HW_ => ?_)
             generalize w64.drew = w65 at HO_6 BK232 BK233 BK234 BK240 HB hx241_0 hx241_1 hx241_2 hx241_3 hHeld ⊢
             refine pure_ (i := 0) (N := some 34) (v := ?_) (a' := ?_) #[zT, zF, zF, zF, zF, zF, zF, zF, zF, zF, zF, zF, zF, zF, zF, zF, zF, zF, zF, zF, zF, zF, zF, zF, zF, zF, zF, zF, zF, zF, zF, zF] rfl rfl (any_of HT_.out (by kernel_rfl)) (fun _ _ _ h => h) (Or.inl ⟨by rfl, ?_⟩) ?_ ?_
             rotate_left
             ·intro w'
              go_simp
              with_reducible rfl
             rotate_left
             ·simp only [Act.put, zp1, zp2, zp3, i64_w, i32_w]
              rfl
             refine pure_ (i := 1) (N := some 35) (v := ?_) (a' := ?_) #[zT, zT, zF, zF, zF, zF, zF, zF, zF, zF, zF, zF, zF, zF, zF, zF, zF, zF, zF, zF, zF, zF, zF, zF, zF, zF, zF, zF, zF, zF, zF, zF] rfl rfl (any_of HT_.out (by kernel_rfl)) (fun _ _ _ h => h) (Or.inl ⟨by rfl, ?_⟩) ?_ ?_
             rotate_left
             ·intro w'
              go_simp
              with_reducible rfl
             rotate_left
             ·simp only [Act.put, zp1, zp2, zp3, i64_w, i32_w]
              rfl
             refine pure_ (i := 2) (N := some 36) (v := ?_) (a' := ?_) #[zT, zT, zT, zF, zF, zF, zF, zF, zF, zF, zF, zF, zF, zF, zF, zF, zF, zF, zF, zF, zF, zF, zF, zF, zF, zF, zF, zF, zF, zF, zF, zF] rfl rfl (any_of HT_.out (by kernel_rfl)) (fun _ _ _ h => h) (Or.inl ⟨by rfl, ?_⟩) ?_ ?_
             rotate_left
             ·intro w'
              go_simp
              with_reducible rfl
             rotate_left
             ·simp only [Act.put, zp1, zp2, zp3, i64_w, i32_w]
              rfl
             refine pure_ (i := 3) (N := some 37) (v := ?_) (a' := ?_) #[zT, zT, zT, zT, zF, zF, zF, zF, zF, zF, zF, zF, zF, zF, zF, zF, zF, zF, zF, zF, zF, zF, zF, zF, zF, zF, zF, zF, zF, zF, zF, zF] rfl rfl (any_of HT_.out (by kernel_rfl)) (fun _ _ _ h => h) (Or.inl ⟨by rfl, ?_⟩) ?_ ?_
             rotate_left
             ·intro w'
              go_simp
              with_reducible rfl
             rotate_left
             ·simp only [Act.put, zp1, zp2, zp3, i64_w, i32_w]
              rfl
             refine pure_ (i := 4) (N := some 38) (v := ?_) (a' := ?_) #[zT, zT, zT, zT, zT, zF, zF, zF, zF, zF, zF, zF, zF, zF, zF, zF, zF, zF, zF, zF, zF, zF, zF, zF, zF, zF, zF, zF, zF, zF, zF, zF] rfl rfl (any_of HT_.out (by kernel_rfl)) (fun _ _ _ h => h) (Or.inl ⟨by rfl, ?_⟩) ?_ ?_
             rotate_left
             ·intro w'
              go_simp
              with_reducible rfl
             rotate_left
             ·simp only [Act.put, zp1, zp2, zp3, i64_w, i32_w]
              rfl
             refine pure_ (i := 5) (N := some 39) (v := ?_) (a' := ?_) #[zT, zT, zT, zT, zT, zT, zF, zF, zF, zF, zF, zF, zF, zF, zF, zF, zF, zF, zF, zF, zF, zF, zF, zF, zF, zF, zF, zF, zF, zF, zF, zF] rfl rfl (any_of HT_.out (by kernel_rfl)) (fun _ _ _ h => h) (Or.inl ⟨by rfl, ?_⟩) ?_ ?_
             rotate_left
             ·intro w'
              go_simp
              with_reducible rfl
             rotate_left
             ·simp only [Act.put, zp1, zp2, zp3, i64_w, i32_w]
              rfl
             refine pure_ (i := 6) (N := some 40) (v := ?_) (a' := ?_) #[zT, zT, zT, zT, zT, zT, zT, zF, zF, zF, zF, zF, zF, zF, zF, zF, zF, zF, zF, zF, zF, zF, zF, zF, zF, zF, zF, zF, zF, zF, zF, zF] rfl rfl (any_of HT_.out (by kernel_rfl)) (fun _ _ _ h => h) (Or.inl ⟨by rfl, ?_⟩) ?_ ?_
             rotate_left
             ·intro w'
              go_simp
              with_reducible rfl
             rotate_left
             ·simp only [Act.put, zp1, zp2, zp3, i64_w, i32_w]
              rfl
             refine pure_ (i := 7) (N := some 41) (v := ?_) (a' := ?_) #[zT, zT, zT, zT, zT, zT, zT, zT, zF, zF, zF, zF, zF, zF, zF, zF, zF, zF, zF, zF, zF, zF, zF, zF, zF, zF, zF, zF, zF, zF, zF, zF] rfl rfl (any_of HT_.out (by kernel_rfl)) (fun _ _ _ h => h) (Or.inl ⟨by rfl, ?_⟩) ?_ ?_
             rotate_left
             ·intro w'
              go_simp
              with_reducible rfl
             rotate_left
             ·simp only [Act.put, zp1, zp2, zp3, i64_w, i32_w]
              rfl
             refine pure_ (i := 9) (N := some 43) (v := ?_) (a' := ?_) #[zT, zT, zT, zT, zT, zT, zT, zT, zF, zT, zF, zF, zF, zF, zF, zF, zF, zF, zF, zF, zF, zF, zF, zF, zF, zF, zF, zF, zF, zF, zF, zF] rfl rfl (any_of HT_.out (by kernel_rfl)) (fun _ _ _ h => h) (Or.inl ⟨by rfl, ?_⟩) ?_ ?_
             rotate_left
             ·intro w'
              go_simp
              with_reducible rfl
             rotate_left
             ·simp only [Act.put, zp1, zp2, zp3, i64_w, i32_w]
              rfl
             refine take_ (i := 8) (N := some 42) (v := ?_) (a' := ?_) #[zT, zT, zT, zT, zT, zT, zT, zT, zT, zT, zF, zF, zF, zF, zF, zF, zF, zF, zF, zF, zF, zF, zF, zF, zF, zF, zF, zF, zF, zF, zF, zF] rfl rfl (take_ofW HT_.out HW_.out (by kernel_rfl)) (fun _ _ _ h => h) (Or.inl ⟨by rfl, ?_⟩) hHeld ?_ ?_
             rotate_left
             ·rintro w' ⟨s0, s1, s2, s3, s4, s5, s6, s7⟩
              go_simp
              with_reducible rfl
             rotate_left
             ·simp only [Act.put, zp1, zp2, zp3, i64_w, i32_w]
              rfl
             refine take_ (i := 10) (N := some 44) (v := ?_) (a' := ?_) #[zT, zT, zT, zT, zT, zT, zT, zT, zT, zT, zT, zF, zF, zF, zF, zF, zF, zF, zF, zF, zF, zF, zF, zF, zF, zF, zF, zF, zF, zF, zF, zF] rfl rfl (take_ofW HT_.out HW_.out (by kernel_rfl)) (fun _ _ _ h => h) (Or.inl ⟨by rfl, ?_⟩) hHeld ?_ ?_
             rotate_left
             ·rintro w' ⟨s0, s1, s2, s3, s4, s5, s6, s7⟩
              go_simp
              with_reducible rfl
             rotate_left
             ·simp only [Act.put, zp1, zp2, zp3, i64_w, i32_w]
              rfl
             refine pure_ (i := 11) (N := some 45) (v := ?_) (a' := ?_) #[zT, zT, zT, zT, zT, zT, zT, zT, zT, zT, zT, zT, zF, zF, zF, zF, zF, zF, zF, zF, zF, zF, zF, zF, zF, zF, zF, zF, zF, zF, zF, zF] rfl rfl (any_of HT_.out (by kernel_rfl)) (fun _ _ _ h => h) (Or.inl ⟨by rfl, ?_⟩) ?_ ?_
             rotate_left
             ·intro w'
              go_simp
              with_reducible rfl
             rotate_left
             ·simp only [Act.put, zp1, zp2, zp3, i64_w, i32_w]
              rfl
             refine pure_ (i := 12) (N := some 46) (v := ?_) (a' := ?_) #[zT, zT, zT, zT, zT, zT, zT, zT, zT, zT, zT, zT, zT, zF, zF, zF, zF, zF, zF, zF, zF, zF, zF, zF, zF, zF, zF, zF, zF, zF, zF, zF] rfl rfl (any_of HT_.out (by kernel_rfl)) (fun _ _ _ h => h) (Or.inl ⟨by rfl, ?_⟩) ?_ ?_
             rotate_left
             ·intro w'
              go_simp
              with_reducible rfl
             rotate_left
             ·simp only [Act.put, zp1, zp2, zp3, i64_w, i32_w]
              rfl
             refine pure_ (i := 13) (N := some 47) (v := ?_) (a' := ?_) #[zT, zT, zT, zT, zT, zT, zT, zT, zT, zT, zT, zT, zT, zT, zF, zF, zF, zF, zF, zF, zF, zF, zF, zF, zF, zF, zF, zF, zF, zF, zF, zF] rfl rfl (any_of HT_.out (by kernel_rfl)) (fun _ _ _ h => h) (Or.inl ⟨by rfl, ?_⟩) ?_ ?_
             rotate_left
             ·intro w'
              go_simp
              with_reducible rfl
             rotate_left
             ·simp only [Act.put, zp1, zp2, zp3, i64_w, i32_w]
              rfl
             refine pure_ (i := 14) (N := some 48) (v := undef) (a' := ?_) #[zT, zT, zT, zT, zT, zT, zT, zT, zT, zT, zT, zT, zT, zT, zT, zF, zF, zF, zF, zF, zF, zF, zF, zF, zF, zF, zF, zF, zF, zF, zF, zF] rfl rfl (any_of HT_.out (by kernel_rfl)) (fun _ _ _ h => h) (Or.inr ⟨by rfl, rfl⟩) ?_ ?_
             rotate_left
             ·simp only [Act.put, zp1, zp2, zp3, i64_w, i32_w]
              rfl
             refine pure_ (i := 15) (N := some 49) (v := undef) (a' := ?_) #[zT, zT, zT, zT, zT, zT, zT, zT, zT, zT, zT, zT, zT, zT, zT, zT, zF, zF, zF, zF, zF, zF, zF, zF, zF, zF, zF, zF, zF, zF, zF, zF] rfl rfl (any_of HT_.out (by kernel_rfl)) (fun _ _ _ h => h) (Or.inr ⟨by rfl, rfl⟩) ?_ ?_
             rotate_left
             ·simp only [Act.put, zp1, zp2, zp3, i64_w, i32_w]
              rfl
             refine pure_ (i := 16) (N := some 50) (v := undef) (a' := ?_) #[zT, zT, zT, zT, zT, zT, zT, zT, zT, zT, zT, zT, zT, zT, zT, zT, zT, zF, zF, zF, zF, zF, zF, zF, zF, zF, zF, zF, zF, zF, zF, zF] rfl rfl (any_of HT_.out (by kernel_rfl)) (fun _ _ _ h => h) (Or.inr ⟨by rfl, rfl⟩) ?_ ?_
             rotate_left
             ·simp only [Act.put, zp1, zp2, zp3, i64_w, i32_w]
              rfl
             refine pure_ (i := 17) (N := some 51) (v := undef) (a' := ?_) #[zT, zT, zT, zT, zT, zT, zT, zT, zT, zT, zT, zT, zT, zT, zT, zT, zT, zT, zF, zF, zF, zF, zF, zF, zF, zF, zF, zF, zF, zF, zF, zF] rfl rfl (any_of HT_.out (by kernel_rfl)) (fun _ _ _ h => h) (Or.inr ⟨by rfl, rfl⟩) ?_ ?_
             rotate_left
             ·simp only [Act.put, zp1, zp2, zp3, i64_w, i32_w]
              rfl
             refine pure_ (i := 18) (N := some 52) (v := undef) (a' := ?_) #[zT, zT, zT, zT, zT, zT, zT, zT, zT, zT, zT, zT, zT, zT, zT, zT, zT, zT, zT, zF, zF, zF, zF, zF, zF, zF, zF, zF, zF, zF, zF, zF] rfl rfl (any_of HT_.out (by kernel_rfl)) (fun _ _ _ h => h) (Or.inr ⟨by rfl, rfl⟩) ?_ ?_
             rotate_left
             ·simp only [Act.put, zp1, zp2, zp3, i64_w, i32_w]
              rfl
             refine pure_ (i := 19) (N := some 53) (v := undef) (a' := ?_) #[zT, zT, zT, zT, zT, zT, zT, zT, zT, zT, zT, zT, zT, zT, zT, zT, zT, zT, zT, zT, zF, zF, zF, zF, zF, zF, zF, zF, zF, zF, zF, zF] rfl rfl (any_of HT_.out (by kernel_rfl)) (fun _ _ _ h => h) (Or.inr ⟨by rfl, rfl⟩) ?_ ?_
             rotate_left
             ·simp only [Act.put, zp1, zp2, zp3, i64_w, i32_w]
              rfl
             refine pure_ (i := 20) (N := some 54) (v := undef) (a' := ?_) #[zT, zT, zT, zT, zT, zT, zT, zT, zT, zT, zT, zT, zT, zT, zT, zT, zT, zT, zT, zT, zT, zF, zF, zF, zF, zF, zF, zF, zF, zF, zF, zF] rfl rfl (any_of HT_.out (by kernel_rfl)) (fun _ _ _ h => h) (Or.inr ⟨by rfl, rfl⟩) ?_ ?_
             rotate_left
             ·simp only [Act.put, zp1, zp2, zp3, i64_w, i32_w]
              rfl
             refine pure_ (i := 21) (N := some 55) (v := undef) (a' := ?_) #[zT, zT, zT, zT, zT, zT, zT, zT, zT, zT, zT, zT, zT, zT, zT, zT, zT, zT, zT, zT, zT, zT, zF, zF, zF, zF, zF, zF, zF, zF, zF, zF] rfl rfl (any_of HT_.out (by kernel_rfl)) (fun _ _ _ h => h) (Or.inr ⟨by rfl, rfl⟩) ?_ ?_
             rotate_left
             ·simp only [Act.put, zp1, zp2, zp3, i64_w, i32_w]
              rfl
             refine pure_ (i := 22) (N := some 56) (v := undef) (a' := ?_) #[zT, zT, zT, zT, zT, zT, zT, zT, zT, zT, zT, zT, zT, zT, zT, zT, zT, zT, zT, zT, zT, zT, zT, zF, zF, zF, zF, zF, zF, zF, zF, zF] rfl rfl (any_of HT_.out (by kernel_rfl)) (fun _ _ _ h => h) (Or.inr ⟨by rfl, rfl⟩) ?_ ?_
             rotate_left
             ·simp only [Act.put, zp1, zp2, zp3, i64_w, i32_w]
              rfl
             refine pure_ (i := 23) (N := some 57) (v := undef) (a' := ?_) #[zT, zT, zT, zT, zT, zT, zT, zT, zT, zT, zT, zT, zT, zT, zT, zT, zT, zT, zT, zT, zT, zT, zT, zT, zF, zF, zF, zF, zF, zF, zF, zF] rfl rfl (any_of HT_.out (by kernel_rfl)) (fun _ _ _ h => h) (Or.inr ⟨by rfl, rfl⟩) ?_ ?_
             rotate_left
             ·simp only [Act.put, zp1, zp2, zp3, i64_w, i32_w]
              rfl
             refine pure_ (i := 24) (N := some 58) (v := undef) (a' := ?_) #[zT, zT, zT, zT, zT, zT, zT, zT, zT, zT, zT, zT, zT, zT, zT, zT, zT, zT, zT, zT, zT, zT, zT, zT, zT, zF, zF, zF, zF, zF, zF, zF] rfl rfl (any_of HT_.out (by kernel_rfl)) (fun _ _ _ h => h) (Or.inr ⟨by rfl, rfl⟩) ?_ ?_
             rotate_left
             ·simp only [Act.put, zp1, zp2, zp3, i64_w, i32_w]
              rfl
             refine pure_ (i := 25) (N := some 59) (v := undef) (a' := ?_) #[zT, zT, zT, zT, zT, zT, zT, zT, zT, zT, zT, zT, zT, zT, zT, zT, zT, zT, zT, zT, zT, zT, zT, zT, zT, zT, zF, zF, zF, zF, zF, zF] rfl rfl (any_of HT_.out (by kernel_rfl)) (fun _ _ _ h => h) (Or.inr ⟨by rfl, rfl⟩) ?_ ?_
             rotate_left
             ·simp only [Act.put, zp1, zp2, zp3, i64_w, i32_w]
              rfl
             refine pure_ (i := 26) (N := some 60) (v := undef) (a' := ?_) #[zT, zT, zT, zT, zT, zT, zT, zT, zT, zT, zT, zT, zT, zT, zT, zT, zT, zT, zT, zT, zT, zT, zT, zT, zT, zT, zT, zF, zF, zF, zF, zF] rfl rfl (any_of HT_.out (by kernel_rfl)) (fun _ _ _ h => h) (Or.inr ⟨by rfl, rfl⟩) ?_ ?_
             rotate_left
             ·simp only [Act.put, zp1, zp2, zp3, i64_w, i32_w]
              rfl
             refine pure_ (i := 27) (N := some 61) (v := undef) (a' := ?_) #[zT, zT, zT, zT, zT, zT, zT, zT, zT, zT, zT, zT, zT, zT, zT, zT, zT, zT, zT, zT, zT, zT, zT, zT, zT, zT, zT, zT, zF, zF, zF, zF] rfl rfl (any_of HT_.out (by kernel_rfl)) (fun _ _ _ h => h) (Or.inr ⟨by rfl, rfl⟩) ?_ ?_
             rotate_left
             ·simp only [Act.put, zp1, zp2, zp3, i64_w, i32_w]
              rfl
             refine pure_ (i := 28) (N := some 62) (v := undef) (a' := ?_) #[zT, zT, zT, zT, zT, zT, zT, zT, zT, zT, zT, zT, zT, zT, zT, zT, zT, zT, zT, zT, zT, zT, zT, zT, zT, zT, zT, zT, zT, zF, zF, zF] rfl rfl (any_of HT_.out (by kernel_rfl)) (fun _ _ _ h => h) (Or.inr ⟨by rfl, rfl⟩) ?_ ?_
             rotate_left
             ·simp only [Act.put, zp1, zp2, zp3, i64_w, i32_w]
              rfl
             refine pure_ (i := 29) (N := some 63) (v := undef) (a' := ?_) #[zT, zT, zT, zT, zT, zT, zT, zT, zT, zT, zT, zT, zT, zT, zT, zT, zT, zT, zT, zT, zT, zT, zT, zT, zT, zT, zT, zT, zT, zT, zF, zF] rfl rfl (any_of HT_.out (by kernel_rfl)) (fun _ _ _ h => h) (Or.inr ⟨by rfl, rfl⟩) ?_ ?_
             rotate_left
             ·simp only [Act.put, zp1, zp2, zp3, i64_w, i32_w]
              rfl
             refine pure_ (i := 30) (N := some 64) (v := ?_) (a' := ?_) #[zT, zT, zT, zT, zT, zT, zT, zT, zT, zT, zT, zT, zT, zT, zT, zT, zT, zT, zT, zT, zT, zT, zT, zT, zT, zT, zT, zT, zT, zT, zT, zF] rfl rfl (any_of HT_.out (by kernel_rfl)) (fun _ _ _ h => h) (Or.inl ⟨by rfl, ?_⟩) ?_ ?_
             rotate_left
             ·intro w'
              go_simp
              with_reducible rfl
             rotate_left
             ·simp only [Act.put, zp1, zp2, zp3, i64_w, i32_w]
              rfl
             refine pure_ (i := 31) (N := some 33) (v := ?_) (a' := ?_) #[zT, zT, zT, zT, zT, zT, zT, zT, zT, zT, zT, zT, zT, zT, zT, zT, zT, zT, zT, zT, zT, zT, zT, zT, zT, zT, zT, zT, zT, zT, zT, zT] rfl rfl (any_of HT_.out (by kernel_rfl)) (fun _ _ _ h => h) (Or.inl ⟨by rfl, ?_⟩) ?_ ?_
             rotate_left
             ·intro w'
              go_simp
              with_reducible rfl
             rotate_left
             ·simp only [Act.put, zp1, zp2, zp3, i64_w, i32_w]
              rfl
             refine done_ (done_of HT_.out (by kernel_rfl)) ?_
             have hcz66_0 := zc0 BK240 0 rfl
             have hcz66_1 := zc0 BK240 1 rfl
             have hcz66_2 := zc0 BK240 2 rfl
             have hcz66_3 := zc0 BK240 3 rfl
             have hfz66_0 := blk_frozen BK240.out 0
             have hfz66_1 := blk_frozen BK240.out 1
             have hfz66_2 := blk_frozen BK240.out 2
             have hfz66_3 := blk_frozen BK240.out 3
             try go_wp2_with (first | ((with_reducible refine gate_builtin (b := .append) (xs := #[.tmp 25, .tmp 27]) rfl ?_); at_builtin; refine Kd.R_append k61 (w0 := w) w.heap.size rfl (.tmp 25) (.tmp 27) 30 61 (.agg #[(.int .i64 0), (.int .i64 0), (.int .i64 0), (.int .i64 0)]) 32 rfl Try.underlying30 info61 rfl (by decide) (by omega) (.slice (some ad241) x6_1.length co63) x6_1 (⟨(rd_T61 l1_0 x19_1).f0, (rd_T61 l1_0 x19_1).f1, (rd_T61 l1_0 x19_1).f2, (rd_T61 l1_0 x19_1).f3⟩ : S61) [.int .i64 ((rd_T61 l1_0 x19_1).f0), .int .i64 ((rd_T61 l1_0 x19_1).f1), .int .i64 ((rd_T61 l1_0 x19_1).f2), .int .i64 ((rd_T61 l1_0 x19_1).f3)] (fun k_ => k_ ≠ gb240) (fun _ => False) rfl rfl ?aP (fun _ hk => hk.elim) ?aF ?aO ?aB ?aS ?aL ?_; (case aP => exact k61_mkM _ _ _ (⟨(rd_T61 l1_0 x19_1).f0, (rd_T61 l1_0 x19_1).f1, (rd_T61 l1_0 x19_1).f2, (rd_T61 l1_0 x19_1).f3⟩ : S61)); (case aB => exact (zh0 HB)); (case aF => exact (fun k_ hk => Kd.freshB (g := gb240) (o := .cells #[.int .i64 ((rd_T61 l1_0 x19_1).f0), .int .i64 ((rd_T61 l1_0 x19_1).f1), .int .i64 ((rd_T61 l1_0 x19_1).f2), .int .i64 ((rd_T61 l1_0 x19_1).f3)] 61 (0, 0)) (zk0 BK240) k_ hk)); (case aO => exact (zr0 HO_6)); (case aS => exact (below_size (zh0 HB))); (case aL => have := LMc57.out; omega); intro v255 w67 ho hb hg hat; rw [← Ny254.out] at ho; have n0_ := Aside0.mk (blk_grown (g := gb232) (o := .cells #[.slice A0_0 l0_0.length c0_0] 35 (0, 0)) (zk0 BK232) hg (Kd.R_ne HO_6.out BK232.out (by decide))); have n1_ := Aside0.mk (blk_grown (g := gb233) (o := .cells #[.slice (some ad239) l1_0.length c1_0] 32 (0, 0)) (zk0 BK233) hg (Kd.R_ne HO_6.out BK233.out (by decide))); have n2_ := Aside0.mk (blk_grown (g := gb234) (o := .cells #[.slice none 0 0] 32 (0, 0)) (zk0 BK234) hg (Kd.R_ne HO_6.out BK234.out (by decide))); have n3_ := Aside0.mk (blk_grown (g := gb240) (o := .cells #[.int .i64 ((rd_T61 l1_0 x19_1).f0), .int .i64 ((rd_T61 l1_0 x19_1).f1), .int .i64 ((rd_T61 l1_0 x19_1).f2), .int .i64 ((rd_T61 l1_0 x19_1).f3)] 61 (0, 0)) (zk0 BK240) hg (Kd.R_away HO_6.out (fun _ hk => hk))); have n4_ := Aside0.mk (hb); have n5_ := Aside0.mk (ho); clear BK232; clear BK233; clear BK234; clear BK240; clear HB; clear HO_6; have BK232 := n0_; have BK233 := n1_; have BK234 := n2_; have BK240 := n3_; have HB := n4_; have HO256 := n5_; clear n0_ n1_ n2_ n3_ n4_ n5_; clear ho hb hg hat))
             go_roundg k1
             case measure => have := HK1.out; omega
             case rel => exact ⟨(y254), (wrap64 (x19_1 + 1)), (by first | rfl | (simp; done) | (simp [*]; done)), H', ⟨by have := HK1.out; omega⟩, ⟨by (with_reducible repeat (first | apply Kd.R_alloc | apply Kd.R_drewN | apply Kd.R_drew)); exact Kd.R_mono HO256.out (fun _ hk => trivial)⟩, ⟨zk0 BK232⟩, ⟨zk0 BK233⟩, ⟨zk0 BK234⟩, ⟨by repeat (first | exact zh0 HB | refine below_set ?_ GE232.out | refine below_set ?_ GE233.out | refine below_set ?_ GE234.out | refine below_set ?_ GE240.out)⟩⟩
            ·rw [if_neg c57] at H
             exact absurd H (by simp)
          ·rw [if_neg c30] at H
           exact absurd H (by simp)
         ·rw [if_neg c29] at H
          exact absurd H (by simp)
        ·rw [if_neg c27] at H
         have c27b0 : decide (0 < (x6_1.length : Int)) = false := decide_eq_false c27
         have c27b1 : decide (0 < x6_1.length) = false := decide_eq_false (by omega)
         clear c27
         by_cases c68 : x6_1.length < 4398046511104
         ·rw [if_pos c68] at H
          have LMc68 := Aside0.mk c68
          clear c68
          obtain ⟨y257, hy257⟩ : ∃ y_ : List (S61), y_ = (x6_1 ++ [(⟨(rd_T61 l1_0 x19_1).f0, (rd_T61 l1_0 x19_1).f1, (rd_T61 l1_0 x19_1).f2, (rd_T61 l1_0 x19_1).f3⟩ : S61)]) := ⟨_, rfl⟩
          replace H : (impl_MergeParts.l0 k1 y257 l1_0 (l1_0.length : Int) (wrap64 (x19_1 + 1))) = some (r1, r2) := by first | (rw [hy257]; with_reducible exact H) | (have H2_ := (Option.bind_some _ _).symm.trans H; rw [hy257]; with_reducible exact H2_) | (have H2_ := (Option.bind_some _ _).symm.trans H; with_reducible exact H2_) | with_reducible exact H | (rw [hy257]; exact H) | exact H
          have Ny257 := Aside0.mk hy257
          clear hy257
          have H' := Aside0.mk H
          clear H
          have p239 : 0 ≤ (x19_1 : Int) := of_decide_eq_true (by first | (with_reducible assumption) | assumption)
          have q239 : x19_1 < (l1_0.length : Int) := of_decide_eq_true (by first | (with_reducible assumption) | assumption)
          obtain ⟨ad239, e239, hx239_0, hx239_1, hx239_2, hx239_3⟩ := at_T61 HR1_0.out x19_1 p239 q239
          cases e239
          replace hx239_0 := (HB.out.cell (World.block_lt_of_cell? w _ hx239_0)).trans hx239_0
          replace hx239_1 := (HB.out.cell (World.block_lt_of_cell? w _ hx239_1)).trans hx239_1
          replace hx239_2 := (HB.out.cell (World.block_lt_of_cell? w _ hx239_2)).trans hx239_2
          replace hx239_3 := (HB.out.cell (World.block_lt_of_cell? w _ hx239_3)).trans hx239_3
          replace p239 := eq_true p239
          replace q239 := eq_true q239
          try go_wp2_with (first | ((with_reducible refine gate_dst (N := 8) rfl ?_); refine box_event ?hg (N := 8) ?hd (cs := #[.int .i64 0, .int .i64 0, .int .i64 0, .int .i64 0]) (t := 61) ?hr ?_; (case hd => rfl); (case hg => rfl); (case hr => first | (go_simp; done) | (go_simp; rfl)); intro gb240 hg w69 hbox hb; have BK240 := Aside0.mk (hbox); have GW240 := Aside0.mk ((by rw [hg]; exact (below_size (by repeat (first | exact zh0 HB | refine below_set ?_ GE232.out | refine below_set ?_ GE233.out | refine below_set ?_ GE234.out))) : w.heap.size ≤ gb240)); have GE240 := Aside0.mk ((by rw [hg]; exact (below_size (by repeat (first | exact zh0 HB | refine below_set ?_ GE232.out | refine below_set ?_ GE233.out | refine below_set ?_ GE234.out))) : w.heap.size ≤ gb240)); have NB232_240 := znl BK232 hg; have NB240_232 := znr BK232 hg; have NB233_240 := znl BK233 hg; have NB240_233 := znr BK233 hg; have NB234_240 := znl BK234 hg; have NB240_234 := znr BK234 hg; replace HO_6 := Aside0.mk (Kd.R_below (Kd.R_elderB (zr0 HO_6) gb240 (Nat.le_of_eq hg.symm)) hb); replace BK232 := zb0 BK232 hb; replace BK233 := zb0 BK233 hb; replace BK234 := zb0 BK234 hb; replace HB := Aside0.mk (below_step (by repeat (first | exact zh0 HB | refine below_set ?_ GE232.out | refine below_set ?_ GE233.out | refine below_set ?_ GE234.out)) hb); clear hb hbox hg; have hnb70 := NB240_232.out; have hnc70 := NB232_240.out; have hnb71 := NB240_233.out; have hnc71 := NB233_240.out; have hnb72 := NB240_234.out; have hnc72 := NB234_240.out; have hcz73_0 := zc0 BK240 0 rfl; have hcz73_1 := zc0 BK240 1 rfl; have hcz73_2 := zc0 BK240 2 rfl; have hcz73_3 := zc0 BK240 3 rfl; have hfz73_0 := blk_frozen BK240.out 0; have hfz73_1 := blk_frozen BK240.out 1; have hfz73_2 := blk_frozen BK240.out 2; have hfz73_3 := blk_frozen BK240.out 3; obtain ⟨Ao74, co74, eo74⟩ := Kd.R_slice HO_6.out; subst eo74))
          have n0_ : Aside0 (Kd.R k61 61 ((((w69.setCell ⟨gb240, 0, none⟩ (.int .i64 ((rd_T61 l1_0 x19_1).f0))).setCell ⟨gb240, 1, none⟩ (.int .i64 ((rd_T61 l1_0 x19_1).f1))).setCell ⟨gb240, 2, none⟩ (.int .i64 ((rd_T61 l1_0 x19_1).f2))).setCell ⟨gb240, 3, none⟩ (.int .i64 ((rd_T61 l1_0 x19_1).f3))) w.heap.size (fun k_ => k_ ≠ gb240) (.slice Ao74 x6_1.length co74) x6_1) := ⟨by (with_reducible repeat (first | apply Kd.R_alloc | apply Kd.R_drewN | apply Kd.R_drew)); exact Kd.R_mono (Kd.R_far (p := ⟨gb240, 3, none⟩) (Kd.R_far (p := ⟨gb240, 2, none⟩) (Kd.R_far (p := ⟨gb240, 1, none⟩) (Kd.R_far (p := ⟨gb240, 0, none⟩) (Kd.R_mono HO_6.out (fun k_ hk => (⟨hk, hk.2⟩ : _ ∧ k_ ≠ gb240))) (fun _ hk => hk.2) (.int .i64 ((rd_T61 l1_0 x19_1).f0))) (fun _ hk => hk.2) (.int .i64 ((rd_T61 l1_0 x19_1).f1))) (fun _ hk => hk.2) (.int .i64 ((rd_T61 l1_0 x19_1).f2))) (fun _ hk => hk.2) (.int .i64 ((rd_T61 l1_0 x19_1).f3))) (fun _ hk => hk.1.2)⟩
          have n1_ : Aside0 (((((w69.setCell ⟨gb240, 0, none⟩ (.int .i64 ((rd_T61 l1_0 x19_1).f0))).setCell ⟨gb240, 1, none⟩ (.int .i64 ((rd_T61 l1_0 x19_1).f1))).setCell ⟨gb240, 2, none⟩ (.int .i64 ((rd_T61 l1_0 x19_1).f2))).setCell ⟨gb240, 3, none⟩ (.int .i64 ((rd_T61 l1_0 x19_1).f3))).heap[gb232]? = some (.cells #[.slice A0_0 l0_0.length c0_0] 35 (0, 0))) := ⟨by (with_reducible repeat (first | refine blk_drewN ?_ _ | refine blk_drew ?_ | refine blk_alloc ?_ _)); refine blk_far ?_ NB232_240.out _; refine blk_far ?_ NB232_240.out _; refine blk_far ?_ NB232_240.out _; refine blk_far ?_ NB232_240.out _; (with_reducible repeat (first | refine blk_drewN ?_ _ | refine blk_drew ?_ | refine blk_alloc ?_ _)); exact BK232.out⟩
          have n2_ : Aside0 (((((w69.setCell ⟨gb240, 0, none⟩ (.int .i64 ((rd_T61 l1_0 x19_1).f0))).setCell ⟨gb240, 1, none⟩ (.int .i64 ((rd_T61 l1_0 x19_1).f1))).setCell ⟨gb240, 2, none⟩ (.int .i64 ((rd_T61 l1_0 x19_1).f2))).setCell ⟨gb240, 3, none⟩ (.int .i64 ((rd_T61 l1_0 x19_1).f3))).heap[gb233]? = some (.cells #[.slice (some ad239) l1_0.length c1_0] 32 (0, 0))) := ⟨by (with_reducible repeat (first | refine blk_drewN ?_ _ | refine blk_drew ?_ | refine blk_alloc ?_ _)); refine blk_far ?_ NB233_240.out _; refine blk_far ?_ NB233_240.out _; refine blk_far ?_ NB233_240.out _; refine blk_far ?_ NB233_240.out _; (with_reducible repeat (first | refine blk_drewN ?_ _ | refine blk_drew ?_ | refine blk_alloc ?_ _)); exact BK233.out⟩
          have n3_ : Aside0 (((((w69.setCell ⟨gb240, 0, none⟩ (.int .i64 ((rd_T61 l1_0 x19_1).f0))).setCell ⟨gb240, 1, none⟩ (.int .i64 ((rd_T61 l1_0 x19_1).f1))).setCell ⟨gb240, 2, none⟩ (.int .i64 ((rd_T61 l1_0 x19_1).f2))).setCell ⟨gb240, 3, none⟩ (.int .i64 ((rd_T61 l1_0 x19_1).f3))).heap[gb234]? = some (.cells #[.slice none 0 0] 32 (0, 0))) := ⟨by (with_reducible repeat (first | refine blk_drewN ?_ _ | refine blk_drew ?_ | refine blk_alloc ?_ _)); refine blk_far ?_ NB234_240.out _; refine blk_far ?_ NB234_240.out _; refine blk_far ?_ NB234_240.out _; refine blk_far ?_ NB234_240.out _; (with_reducible repeat (first | refine blk_drewN ?_ _ | refine blk_drew ?_ | refine blk_alloc ?_ _)); exact BK234.out⟩
          have n4_ : Aside0 (((((w69.setCell ⟨gb240, 0, none⟩ (.int .i64 ((rd_T61 l1_0 x19_1).f0))).setCell ⟨gb240, 1, none⟩ (.int .i64 ((rd_T61 l1_0 x19_1).f1))).setCell ⟨gb240, 2, none⟩ (.int .i64 ((rd_T61 l1_0 x19_1).f2))).setCell ⟨gb240, 3, none⟩ (.int .i64 ((rd_T61 l1_0 x19_1).f3))).heap[gb240]? = some (.cells #[.int .i64 ((rd_T61 l1_0 x19_1).f0), .int .i64 ((rd_T61 l1_0 x19_1).f1), .int .i64 ((rd_T61 l1_0 x19_1).f2), .int .i64 ((rd_T61 l1_0 x19_1).f3)] 61 (0, 0))) := ⟨by (with_reducible repeat (first | refine blk_drewN ?_ _ | refine blk_drew ?_ | refine blk_alloc ?_ _)); refine blk_put (cs := #[.int .i64 ((rd_T61 l1_0 x19_1).f0), .int .i64 ((rd_T61 l1_0 x19_1).f1), .int .i64 ((rd_T61 l1_0 x19_1).f2), .int .i64 0]) ?_ 3 _ rfl; refine blk_put (cs := #[.int .i64 ((rd_T61 l1_0 x19_1).f0), .int .i64 ((rd_T61 l1_0 x19_1).f1), .int .i64 0, .int .i64 0]) ?_ 2 _ rfl; refine blk_put (cs := #[.int .i64 ((rd_T61 l1_0 x19_1).f0), .int .i64 0, .int .i64 0, .int .i64 0]) ?_ 1 _ rfl; refine blk_put (cs := #[.int .i64 0, .int .i64 0, .int .i64 0, .int .i64 0]) ?_ 0 _ rfl; (with_reducible repeat (first | refine blk_drewN ?_ _ | refine blk_drew ?_ | refine blk_alloc ?_ _)); exact BK240.out⟩
          have n5_ : Aside0 (Below w.heap.size w ((((w69.setCell ⟨gb240, 0, none⟩ (.int .i64 ((rd_T61 l1_0 x19_1).f0))).setCell ⟨gb240, 1, none⟩ (.int .i64 ((rd_T61 l1_0 x19_1).f1))).setCell ⟨gb240, 2, none⟩ (.int .i64 ((rd_T61 l1_0 x19_1).f2))).setCell ⟨gb240, 3, none⟩ (.int .i64 ((rd_T61 l1_0 x19_1).f3)))) := ⟨by repeat (first | exact zh0 HB | refine below_set ?_ GE232.out | refine below_set ?_ GE233.out | refine below_set ?_ GE234.out | refine below_set ?_ GE240.out)⟩
          (try clear HO_6)
          (try clear BK232)
          (try clear BK233)
          (try clear BK234)
          (try clear BK240)
          (try clear HB)
          generalize ((((w69.setCell ⟨gb240, 0, none⟩ (.int .i64 ((rd_T61 l1_0 x19_1).f0))).setCell ⟨gb240, 1, none⟩ (.int .i64 ((rd_T61 l1_0 x19_1).f1))).setCell ⟨gb240, 2, none⟩ (.int .i64 ((rd_T61 l1_0 x19_1).f2))).setCell ⟨gb240, 3, none⟩ (.int .i64 ((rd_T61 l1_0 x19_1).f3))) = w75 at n0_ n1_ n2_ n3_ n4_ n5_ ⊢
          have HO_6 := n0_
          have BK232 := n1_
          have BK233 := n2_
          have BK234 := n3_
          have BK240 := n4_
          have HB := n5_
          clear n0_ n1_ n2_ n3_ n4_ n5_
          replace HO_6 := Aside0.mk (Kd.R_drew HO_6.out)
          replace BK232 := Aside0.mk (blk_drew BK232.out)
          replace BK233 := Aside0.mk (blk_drew BK233.out)
          replace BK234 := Aside0.mk (blk_drew BK234.out)
          replace BK240 := Aside0.mk (blk_drew BK240.out)
          replace HB := Aside0.mk (below_drew1 HB.out)
          refine start_ (n := 32) (S := fun w' => True) (ds := []) #[zF, zF, zF, zF, zF, zF, zF, zF, zF, zF, zF, zF, zF, zF, zF, zF, zF, zF, zF, zF, zF, zF, zF, zF, zF, zF, zF, zF, zF, zF, zF, zF] (by kernel_rfl) rfl rfl trivial (fun hHeld => ?_); refine with_tabW impl_MergeParts.tab10 impl_MergeParts.bits10 (fun HT_ HW_ => ?_)
          generalize w75.drew = w76 at HO_6 BK232 BK233 BK234 BK240 HB hHeld ⊢
          refine pure_ (i := 0) (N := some 34) (v := ?_) (a' := ?_) #[zT, zF, zF, zF, zF, zF, zF, zF, zF, zF, zF, zF, zF, zF, zF, zF, zF, zF, zF, zF, zF, zF, zF, zF, zF, zF, zF, zF, zF, zF, zF, zF] rfl rfl (any_of HT_.out (by kernel_rfl)) (fun _ _ _ h => h) (Or.inl ⟨by rfl, ?_⟩) ?_ ?_
          rotate_left
          ·intro w'
           go_simp
           with_reducible rfl
          rotate_left
          ·simp only [Act.put, zp1, zp2, zp3, i64_w, i32_w]
           rfl
          refine pure_ (i := 1) (N := some 35) (v := ?_) (a' := ?_) #[zT, zT, zF, zF, zF, zF, zF, zF, zF, zF, zF, zF, zF, zF, zF, zF, zF, zF, zF, zF, zF, zF, zF, zF, zF, zF, zF, zF, zF, zF, zF, zF] rfl rfl (any_of HT_.out (by kernel_rfl)) (fun _ _ _ h => h) (Or.inl ⟨by rfl, ?_⟩) ?_ ?_
          rotate_left
          ·intro w'
           go_simp
           with_reducible rfl
          rotate_left
          ·simp only [Act.put, zp1, zp2, zp3, i64_w, i32_w]
           rfl
          refine pure_ (i := 2) (N := some 36) (v := ?_) (a' := ?_) #[zT, zT, zT, zF, zF, zF, zF, zF, zF, zF, zF, zF, zF, zF, zF, zF, zF, zF, zF, zF, zF, zF, zF, zF, zF, zF, zF, zF, zF, zF, zF, zF] rfl rfl (any_of HT_.out (by kernel_rfl)) (fun _ _ _ h => h) (Or.inl ⟨by rfl, ?_⟩) ?_ ?_
          rotate_left
          ·intro w'
           go_simp
           with_reducible rfl
          rotate_left
          ·simp only [Act.put, zp1, zp2, zp3, i64_w, i32_w]
           rfl
          refine pure_ (i := 3) (N := some 37) (v := undef) (a' := ?_) #[zT, zT, zT, zT, zF, zF, zF, zF, zF, zF, zF, zF, zF, zF, zF, zF, zF, zF, zF, zF, zF, zF, zF, zF, zF, zF, zF, zF, zF, zF, zF, zF] rfl rfl (any_of HT_.out (by kernel_rfl)) (fun _ _ _ h => h) (Or.inr ⟨by rfl, rfl⟩) ?_ ?_
          rotate_left
          ·simp only [Act.put, zp1, zp2, zp3, i64_w, i32_w]
           rfl
          refine pure_ (i := 4) (N := some 38) (v := undef) (a' := ?_) #[zT, zT, zT, zT, zT, zF, zF, zF, zF, zF, zF, zF, zF, zF, zF, zF, zF, zF, zF, zF, zF, zF, zF, zF, zF, zF, zF, zF, zF, zF, zF, zF] rfl rfl (any_of HT_.out (by kernel_rfl)) (fun _ _ _ h => h) (Or.inr ⟨by rfl, rfl⟩) ?_ ?_
          rotate_left
          ·simp only [Act.put, zp1, zp2, zp3, i64_w, i32_w]
           rfl
          refine pure_ (i := 5) (N := some 39) (v := undef) (a' := ?_) #[zT, zT, zT, zT, zT, zT, zF, zF, zF, zF, zF, zF, zF, zF, zF, zF, zF, zF, zF, zF, zF, zF, zF, zF, zF, zF, zF, zF, zF, zF, zF, zF] rfl rfl (any_of HT_.out (by kernel_rfl)) (fun _ _ _ h => h) (Or.inr ⟨by rfl, rfl⟩) ?_ ?_
          rotate_left
          ·simp only [Act.put, zp1, zp2, zp3, i64_w, i32_w]
           rfl
          refine pure_ (i := 6) (N := some 40) (v := undef) (a' := ?_) #[zT, zT, zT, zT, zT, zT, zT, zF, zF, zF, zF, zF, zF, zF, zF, zF, zF, zF, zF, zF, zF, zF, zF, zF, zF, zF, zF, zF, zF, zF, zF, zF] rfl rfl (any_of HT_.out (by kernel_rfl)) (fun _ _ _ h => h) (Or.inr ⟨by rfl, rfl⟩) ?_ ?_
          rotate_left
          ·simp only [Act.put, zp1, zp2, zp3, i64_w, i32_w]
           rfl
          refine pure_ (i := 7) (N := some 41) (v := undef) (a' := ?_) #[zT, zT, zT, zT, zT, zT, zT, zT, zF, zF, zF, zF, zF, zF, zF, zF, zF, zF, zF, zF, zF, zF, zF, zF, zF, zF, zF, zF, zF, zF, zF, zF] rfl rfl (any_of HT_.out (by kernel_rfl)) (fun _ _ _ h => h) (Or.inr ⟨by rfl, rfl⟩) ?_ ?_
          rotate_left
          ·simp only [Act.put, zp1, zp2, zp3, i64_w, i32_w]
           rfl
          refine pure_ (i := 8) (N := some 42) (v := undef) (a' := ?_) #[zT, zT, zT, zT, zT, zT, zT, zT, zT, zF, zF, zF, zF, zF, zF, zF, zF, zF, zF, zF, zF, zF, zF, zF, zF, zF, zF, zF, zF, zF, zF, zF] rfl rfl (any_of HT_.out (by kernel_rfl)) (fun _ _ _ h => h) (Or.inr ⟨by rfl, rfl⟩) ?_ ?_
          rotate_left
          ·simp only [Act.put, zp1, zp2, zp3, i64_w, i32_w]
           rfl
          refine pure_ (i := 9) (N := some 43) (v := undef) (a' := ?_) #[zT, zT, zT, zT, zT, zT, zT, zT, zT, zT, zF, zF, zF, zF, zF, zF, zF, zF, zF, zF, zF, zF, zF, zF, zF, zF, zF, zF, zF, zF, zF, zF] rfl rfl (any_of HT_.out (by kernel_rfl)) (fun _ _ _ h => h) (Or.inr ⟨by rfl, rfl⟩) ?_ ?_
          rotate_left
          ·simp only [Act.put, zp1, zp2, zp3, i64_w, i32_w]
           rfl
          refine pure_ (i := 10) (N := some 44) (v := undef) (a' := ?_) #[zT, zT, zT, zT, zT, zT, zT, zT, zT, zT, zT, zF, zF, zF, zF, zF, zF, zF, zF, zF, zF, zF, zF, zF, zF, zF, zF, zF, zF, zF, zF, zF] rfl rfl (any_of HT_.out (by kernel_rfl)) (fun _ _ _ h => h) (Or.inr ⟨by rfl, rfl⟩) ?_ ?_
          rotate_left
          ·simp only [Act.put, zp1, zp2, zp3, i64_w, i32_w]
           rfl
          refine pure_ (i := 11) (N := some 45) (v := undef) (a' := ?_) #[zT, zT, zT, zT, zT, zT, zT, zT, zT, zT, zT, zT, zF, zF, zF, zF, zF, zF, zF, zF, zF, zF, zF, zF, zF, zF, zF, zF, zF, zF, zF, zF] rfl rfl (any_of HT_.out (by kernel_rfl)) (fun _ _ _ h => h) (Or.inr ⟨by rfl, rfl⟩) ?_ ?_
          rotate_left
          ·simp only [Act.put, zp1, zp2, zp3, i64_w, i32_w]
           rfl
          refine pure_ (i := 12) (N := some 46) (v := ?_) (a' := ?_) #[zT, zT, zT, zT, zT, zT, zT, zT, zT, zT, zT, zT, zT, zF, zF, zF, zF, zF, zF, zF, zF, zF, zF, zF, zF, zF, zF, zF, zF, zF, zF, zF] rfl rfl (any_of HT_.out (by kernel_rfl)) (fun _ _ _ h => h) (Or.inl ⟨by rfl, ?_⟩) ?_ ?_
          rotate_left
          ·intro w'
           go_simp
           with_reducible rfl
          rotate_left
          ·simp only [Act.put, zp1, zp2, zp3, i64_w, i32_w]
           rfl
          refine pure_ (i := 13) (N := some 47) (v := ?_) (a' := ?_) #[zT, zT, zT, zT, zT, zT, zT, zT, zT, zT, zT, zT, zT, zT, zF, zF, zF, zF, zF, zF, zF, zF, zF, zF, zF, zF, zF, zF, zF, zF, zF, zF] rfl rfl (any_of HT_.out (by kernel_rfl)) (fun _ _ _ h => h) (Or.inl ⟨by rfl, ?_⟩) ?_ ?_
          rotate_left
          ·intro w'
           go_simp
           with_reducible rfl
          rotate_left
          ·simp only [Act.put, zp1, zp2, zp3, i64_w, i32_w]
           rfl
          refine pure_ (i := 14) (N := some 48) (v := undef) (a' := ?_) #[zT, zT, zT, zT, zT, zT, zT, zT, zT, zT, zT, zT, zT, zT, zT, zF, zF, zF, zF, zF, zF, zF, zF, zF, zF, zF, zF, zF, zF, zF, zF, zF] rfl rfl (any_of HT_.out (by kernel_rfl)) (fun _ _ _ h => h) (Or.inr ⟨by rfl, rfl⟩) ?_ ?_
          rotate_left
          ·simp only [Act.put, zp1, zp2, zp3, i64_w, i32_w]
           rfl
          refine pure_ (i := 15) (N := some 49) (v := undef) (a' := ?_) #[zT, zT, zT, zT, zT, zT, zT, zT, zT, zT, zT, zT, zT, zT, zT, zT, zF, zF, zF, zF, zF, zF, zF, zF, zF, zF, zF, zF, zF, zF, zF, zF] rfl rfl (any_of HT_.out (by kernel_rfl)) (fun _ _ _ h => h) (Or.inr ⟨by rfl, rfl⟩) ?_ ?_
          rotate_left
          ·simp only [Act.put, zp1, zp2, zp3, i64_w, i32_w]
           rfl
          refine pure_ (i := 16) (N := some 50) (v := undef) (a' := ?_) #[zT, zT, zT, zT, zT, zT, zT, zT, zT, zT, zT, zT, zT, zT, zT, zT, zT, zF, zF, zF, zF, zF, zF, zF, zF, zF, zF, zF, zF, zF, zF, zF] rfl rfl (any_of HT_.out (by kernel_rfl)) (fun _ _ _ h => h) (Or.inr ⟨by rfl, rfl⟩) ?_ ?_
          rotate_left
          ·simp only [Act.put, zp1, zp2, zp3, i64_w, i32_w]
           rfl
          refine pure_ (i := 17) (N := some 51) (v := undef) (a' := ?_) #[zT, zT, zT, zT, zT, zT, zT, zT, zT, zT, zT, zT, zT, zT, zT, zT, zT, zT, zF, zF, zF, zF, zF, zF, zF, zF, zF, zF, zF, zF, zF, zF] rfl rfl (any_of HT_.out (by kernel_rfl)) (fun _ _ _ h => h) (Or.inr ⟨by rfl, rfl⟩) ?_ ?_
          rotate_left
          ·simp only [Act.put, zp1, zp2, zp3, i64_w, i32_w]
           rfl
          refine pure_ (i := 18) (N := some 52) (v := undef) (a' := ?_) #[zT, zT, zT, zT, zT, zT, zT, zT, zT, zT, zT, zT, zT, zT, zT, zT, zT, zT, zT, zF, zF, zF, zF, zF, zF, zF, zF, zF, zF, zF, zF, zF] rfl rfl (any_of HT_.out (by kernel_rfl)) (fun _ _ _ h => h) (Or.inr ⟨by rfl, rfl⟩) ?_ ?_
          rotate_left
          ·simp only [Act.put, zp1, zp2, zp3, i64_w, i32_w]
           rfl
          refine pure_ (i := 19) (N := some 53) (v := undef) (a' := ?_) #[zT, zT, zT, zT, zT, zT, zT, zT, zT, zT, zT, zT, zT, zT, zT, zT, zT, zT, zT, zT, zF, zF, zF, zF, zF, zF, zF, zF, zF, zF, zF, zF] rfl rfl (any_of HT_.out (by kernel_rfl)) (fun _ _ _ h => h) (Or.inr ⟨by rfl, rfl⟩) ?_ ?_
          rotate_left
          ·simp only [Act.put, zp1, zp2, zp3, i64_w, i32_w]
           rfl
          refine pure_ (i := 20) (N := some 54) (v := undef) (a' := ?_) #[zT, zT, zT, zT, zT, zT, zT, zT, zT, zT, zT, zT, zT, zT, zT, zT, zT, zT, zT, zT, zT, zF, zF, zF, zF, zF, zF, zF, zF, zF, zF, zF] rfl rfl (any_of HT_.out (by kernel_rfl)) (fun _ _ _ h => h) (Or.inr ⟨by rfl, rfl⟩) ?_ ?_
          rotate_left
          ·simp only [Act.put, zp1, zp2, zp3, i64_w, i32_w]
           rfl
          refine pure_ (i := 21) (N := some 55) (v := undef) (a' := ?_) #[zT, zT, zT, zT, zT, zT, zT, zT, zT, zT, zT, zT, zT, zT, zT, zT, zT, zT, zT, zT, zT, zT, zF, zF, zF, zF, zF, zF, zF, zF, zF, zF] rfl rfl (any_of HT_.out (by kernel_rfl)) (fun _ _ _ h => h) (Or.inr ⟨by rfl, rfl⟩) ?_ ?_
          rotate_left
          ·simp only [Act.put, zp1, zp2, zp3, i64_w, i32_w]
           rfl
          refine pure_ (i := 22) (N := some 56) (v := undef) (a' := ?_) #[zT, zT, zT, zT, zT, zT, zT, zT, zT, zT, zT, zT, zT, zT, zT, zT, zT, zT, zT, zT, zT, zT, zT, zF, zF, zF, zF, zF, zF, zF, zF, zF] rfl rfl (any_of HT_.out (by kernel_rfl)) (fun _ _ _ h => h) (Or.inr ⟨by rfl, rfl⟩) ?_ ?_
          rotate_left
          ·simp only [Act.put, zp1, zp2, zp3, i64_w, i32_w]
           rfl
          refine pure_ (i := 23) (N := some 57) (v := undef) (a' := ?_) #[zT, zT, zT, zT, zT, zT, zT, zT, zT, zT, zT, zT, zT, zT, zT, zT, zT, zT, zT, zT, zT, zT, zT, zT, zF, zF, zF, zF, zF, zF, zF, zF] rfl rfl (any_of HT_.out (by kernel_rfl)) (fun _ _ _ h => h) (Or.inr ⟨by rfl, rfl⟩) ?_ ?_
          rotate_left
          ·simp only [Act.put, zp1, zp2, zp3, i64_w, i32_w]
           rfl
          refine pure_ (i := 24) (N := some 58) (v := undef) (a' := ?_) #[zT, zT, zT, zT, zT, zT, zT, zT, zT, zT, zT, zT, zT, zT, zT, zT, zT, zT, zT, zT, zT, zT, zT, zT, zT, zF, zF, zF, zF, zF, zF, zF] rfl rfl (any_of HT_.out (by kernel_rfl)) (fun _ _ _ h => h) (Or.inr ⟨by rfl, rfl⟩) ?_ ?_
          rotate_left
          ·simp only [Act.put, zp1, zp2, zp3, i64_w, i32_w]
           rfl
          refine pure_ (i := 25) (N := some 59) (v := undef) (a' := ?_) #[zT, zT, zT, zT, zT, zT, zT, zT, zT, zT, zT, zT, zT, zT, zT, zT, zT, zT, zT, zT, zT, zT, zT, zT, zT, zT, zF, zF, zF, zF, zF, zF] rfl rfl (any_of HT_.out (by kernel_rfl)) (fun _ _ _ h => h) (Or.inr ⟨by rfl, rfl⟩) ?_ ?_
          rotate_left
          ·simp only [Act.put, zp1, zp2, zp3, i64_w, i32_w]
           rfl
          refine pure_ (i := 26) (N := some 60) (v := undef) (a' := ?_) #[zT, zT, zT, zT, zT, zT, zT, zT, zT, zT, zT, zT, zT, zT, zT, zT, zT, zT, zT, zT, zT, zT, zT, zT, zT, zT, zT, zF, zF, zF, zF, zF] rfl rfl (any_of HT_.out (by kernel_rfl)) (fun _ _ _ h => h) (Or.inr ⟨by rfl, rfl⟩) ?_ ?_
          rotate_left
          ·simp only [Act.put, zp1, zp2, zp3, i64_w, i32_w]
           rfl
          refine pure_ (i := 27) (N := some 61) (v := undef) (a' := ?_) #[zT, zT, zT, zT, zT, zT, zT, zT, zT, zT, zT, zT, zT, zT, zT, zT, zT, zT, zT, zT, zT, zT, zT, zT, zT, zT, zT, zT, zF, zF, zF, zF] rfl rfl (any_of HT_.out (by kernel_rfl)) (fun _ _ _ h => h) (Or.inr ⟨by rfl, rfl⟩) ?_ ?_
          rotate_left
          ·simp only [Act.put, zp1, zp2, zp3, i64_w, i32_w]
           rfl
          refine pure_ (i := 28) (N := some 62) (v := undef) (a' := ?_) #[zT, zT, zT, zT, zT, zT, zT, zT, zT, zT, zT, zT, zT, zT, zT, zT, zT, zT, zT, zT, zT, zT, zT, zT, zT, zT, zT, zT, zT, zF, zF, zF] rfl rfl (any_of HT_.out (by kernel_rfl)) (fun _ _ _ h => h) (Or.inr ⟨by rfl, rfl⟩) ?_ ?_
          rotate_left
          ·simp only [Act.put, zp1, zp2, zp3, i64_w, i32_w]
           rfl
          refine pure_ (i := 29) (N := some 63) (v := undef) (a' := ?_) #[zT, zT, zT, zT, zT, zT, zT, zT, zT, zT, zT, zT, zT, zT, zT, zT, zT, zT, zT, zT, zT, zT, zT, zT, zT, zT, zT, zT, zT, zT, zF, zF] rfl rfl (any_of HT_.out (by kernel_rfl)) (fun _ _ _ h => h) (Or.inr ⟨by rfl, rfl⟩) ?_ ?_
          rotate_left
          ·simp only [Act.put, zp1, zp2, zp3, i64_w, i32_w]
           rfl
          refine pure_ (i := 30) (N := some 64) (v := ?_) (a' := ?_) #[zT, zT, zT, zT, zT, zT, zT, zT, zT, zT, zT, zT, zT, zT, zT, zT, zT, zT, zT, zT, zT, zT, zT, zT, zT, zT, zT, zT, zT, zT, zT, zF] rfl rfl (any_of HT_.out (by kernel_rfl)) (fun _ _ _ h => h) (Or.inl ⟨by rfl, ?_⟩) ?_ ?_
          rotate_left
          ·intro w'
           go_simp
           with_reducible rfl
          rotate_left
          ·simp only [Act.put, zp1, zp2, zp3, i64_w, i32_w]
           rfl
          refine pure_ (i := 31) (N := some 33) (v := ?_) (a' := ?_) #[zT, zT, zT, zT, zT, zT, zT, zT, zT, zT, zT, zT, zT, zT, zT, zT, zT, zT, zT, zT, zT, zT, zT, zT, zT, zT, zT, zT, zT, zT, zT, zT] rfl rfl (any_of HT_.out (by kernel_rfl)) (fun _ _ _ h => h) (Or.inl ⟨by rfl, ?_⟩) ?_ ?_
          rotate_left
          ·intro w'
           go_simp
           with_reducible rfl
          rotate_left
          ·simp only [Act.put, zp1, zp2, zp3, i64_w, i32_w]
           rfl
          refine done_ (done_of HT_.out (by kernel_rfl)) ?_
          have hcz77_0 := zc0 BK240 0 rfl
          have hcz77_1 := zc0 BK240 1 rfl
          have hcz77_2 := zc0 BK240 2 rfl
          have hcz77_3 := zc0 BK240 3 rfl
          have hfz77_0 := blk_frozen BK240.out 0
          have hfz77_1 := blk_frozen BK240.out 1
          have hfz77_2 := blk_frozen BK240.out 2
          have hfz77_3 := blk_frozen BK240.out 3
          try go_wp2_with (first | ((with_reducible refine gate_builtin (b := .append) (xs := #[.tmp 25, .tmp 27]) rfl ?_); at_builtin; refine Kd.R_append k61 (w0 := w) w.heap.size rfl (.tmp 25) (.tmp 27) 30 61 (.agg #[(.int .i64 0), (.int .i64 0), (.int .i64 0), (.int .i64 0)]) 32 rfl Try.underlying30 info61 rfl (by decide) (by omega) (.slice Ao74 x6_1.length co74) x6_1 (⟨(rd_T61 l1_0 x19_1).f0, (rd_T61 l1_0 x19_1).f1, (rd_T61 l1_0 x19_1).f2, (rd_T61 l1_0 x19_1).f3⟩ : S61) [.int .i64 ((rd_T61 l1_0 x19_1).f0), .int .i64 ((rd_T61 l1_0 x19_1).f1), .int .i64 ((rd_T61 l1_0 x19_1).f2), .int .i64 ((rd_T61 l1_0 x19_1).f3)] (fun k_ => k_ ≠ gb240) (fun _ => False) rfl rfl ?aP (fun _ hk => hk.elim) ?aF ?aO ?aB ?aS ?aL ?_; (case aP => exact k61_mkM _ _ _ (⟨(rd_T61 l1_0 x19_1).f0, (rd_T61 l1_0 x19_1).f1, (rd_T61 l1_0 x19_1).f2, (rd_T61 l1_0 x19_1).f3⟩ : S61)); (case aB => exact (by repeat (first | exact zh0 HB | refine below_set ?_ GE232.out | refine below_set ?_ GE233.out | refine below_set ?_ GE234.out | refine below_set ?_ GE240.out))); (case aF => exact (fun k_ hk => Kd.freshB (g := gb240) (o := .cells #[.int .i64 ((rd_T61 l1_0 x19_1).f0), .int .i64 ((rd_T61 l1_0 x19_1).f1), .int .i64 ((rd_T61 l1_0 x19_1).f2), .int .i64 ((rd_T61 l1_0 x19_1).f3)] 61 (0, 0)) (zk0 BK240) k_ hk)); (case aO => exact (zr0 HO_6)); (case aS => exact (below_size (by repeat (first | exact zh0 HB | refine below_set ?_ GE232.out | refine below_set ?_ GE233.out | refine below_set ?_ GE234.out | refine below_set ?_ GE240.out)))); (case aL => have := LMc68.out; omega); intro v258 w78 ho hb hg hat; rw [← Ny257.out] at ho; have n0_ := Aside0.mk (blk_grown (g := gb232) (o := .cells #[.slice A0_0 l0_0.length c0_0] 35 (0, 0)) (zk0 BK232) hg (Kd.R_ne HO_6.out BK232.out (by decide))); have n1_ := Aside0.mk (blk_grown (g := gb233) (o := .cells #[.slice (some ad239) l1_0.length c1_0] 32 (0, 0)) (zk0 BK233) hg (Kd.R_ne HO_6.out BK233.out (by decide))); have n2_ := Aside0.mk (blk_grown (g := gb234) (o := .cells #[.slice none 0 0] 32 (0, 0)) (zk0 BK234) hg (Kd.R_ne HO_6.out BK234.out (by decide))); have n3_ := Aside0.mk (blk_grown (g := gb240) (o := .cells #[.int .i64 ((rd_T61 l1_0 x19_1).f0), .int .i64 ((rd_T61 l1_0 x19_1).f1), .int .i64 ((rd_T61 l1_0 x19_1).f2), .int .i64 ((rd_T61 l1_0 x19_1).f3)] 61 (0, 0)) (zk0 BK240) hg (Kd.R_away HO_6.out (fun _ hk => hk))); have n4_ := Aside0.mk (hb); have n5_ := Aside0.mk (ho); clear BK232; clear BK233; clear BK234; clear BK240; clear HB; clear HO_6; have BK232 := n0_; have BK233 := n1_; have BK234 := n2_; have BK240 := n3_; have HB := n4_; have HO259 := n5_; clear n0_ n1_ n2_ n3_ n4_ n5_; clear ho hb hg hat))
          go_roundg k1
          case measure => have := HK1.out; omega
          case rel => exact ⟨(y257), (wrap64 (x19_1 + 1)), (by first | rfl | (simp; done) | (simp [*]; done)), H', ⟨by have := HK1.out; omega⟩, ⟨by (with_reducible repeat (first | apply Kd.R_alloc | apply Kd.R_drewN | apply Kd.R_drew)); exact Kd.R_mono HO259.out (fun _ hk => trivial)⟩, ⟨zk0 BK232⟩, ⟨zk0 BK233⟩, ⟨zk0 BK234⟩, ⟨by repeat (first | exact zh0 HB | refine below_set ?_ GE232.out | refine below_set ?_ GE233.out | refine below_set ?_ GE234.out | refine below_set ?_ GE240.out)⟩⟩
         ·rw [if_neg c68] at H
          exact absurd H (by simp)
      ·rw [if_neg c19] at H
       exact absurd H (by simp)
     ·rw [if_neg c18] at H
      exact absurd H (by simp)
    ·rw [if_neg c17] at H
     have c17b0 : decide (x19_1 < (l1_0.length : Int)) = false := decide_eq_false c17
     clear c17
     simp only [Option.some.injEq, Prod.mk.injEq] at H
     obtain ⟨rfl, rfl⟩ := H
     obtain ⟨Ao79, co79, eo79⟩ := Kd.R_slice HO_6.out
     subst eo79
     have hnb80 := NB234_232.out
     have hnc80 := NB232_234.out
     have hnb81 := NB234_233.out
     have hnc81 := NB233_234.out
     have hcz82_0 := zc0 BK234 0 rfl
     have hfz82_0 := blk_frozen BK234.out 0
     go_wp2
     refine bodyPost_ret (results_ct rfl _ _ gb234 32 #[.slice Ao79 x6_1.length co79] (0, 0) _ rfl (by (with_reducible repeat (first | refine blk_drewN ?_ _ | refine blk_drew ?_ | refine blk_alloc ?_ _)); refine blk_put (cs := #[.slice none 0 0]) ?_ 0 _ rfl; (with_reducible repeat (first | refine blk_drewN ?_ _ | refine blk_drew ?_ | refine blk_alloc ?_ _)); exact BK234.out) Try.underlying32 rfl (by kernel_rfl)) rfl ?_
     exact ⟨_, by first | rfl | (simp <;> rfl) | (simp [*] <;> rfl), by (with_reducible repeat (first | apply Kd.R_alloc | apply Kd.R_drewN | apply Kd.R_drew)); exact Kd.R_mono (Kd.R_far (p := ⟨gb234, 0, none⟩) (Kd.R_types HO_6.out BK234.out (by decide)) (fun _ hk => hk.2) (.slice Ao79 x6_1.length co79)) (fun _ hk => trivial), by repeat (first | exact zh0 HB | refine below_set ?_ GE232.out | refine below_set ?_ GE233.out | refine below_set ?_ GE234.out)⟩
 ·replace c4 := Bool.eq_false_iff.mpr c4
  subst c4
  have H1 : (some (([] : List (S61)), false)) = some (r1, r2) := by rw [if_neg (show ¬ (false = true) by decide)] at H; exact H
  clear H
  have H := H1
  clear H1
  simp only [Option.some.injEq, Prod.mk.injEq] at H
  obtain ⟨rfl, rfl⟩ := H
  go_enter Try.func26, Try.ntmps26
  go_wp2_with (first | ((with_reducible refine gate_dst (N := 2) rfl ?_); refine box_event ?hg (N := 2) ?hd (cs := #[.slice A0_0 l0_0.length c0_0]) (t := 35) ?hr ?_; (case hd => rfl); (case hg => rfl); (case hr => first | (go_simp; done) | (go_simp; rfl)); intro gb232 hg w83 hbox hb; have BK232 := Aside0.mk (hbox); have GW232 := zge HB hg; have GE232 := zge HB hg; replace HB := zhs HB hb; clear hb hbox hg) | ((with_reducible refine gate_dst (N := 3) rfl ?_); refine box_event ?hg (N := 3) ?hd (cs := #[.slice A1_0 l1_0.length c1_0]) (t := 32) ?hr ?_; (case hd => rfl); (case hg => rfl); (case hr => first | (go_simp; done) | (go_simp; rfl)); intro gb233 hg w84 hbox hb; have BK233 := Aside0.mk (hbox); have GW233 := zge HB hg; have GE233 := zge HB hg; have NB232_233 := znl BK232 hg; have NB233_232 := znr BK232 hg; replace BK232 := zb0 BK232 hb; replace HB := zhs HB hb; clear hb hbox hg) | ((with_reducible refine gate_dst (N := 4) rfl ?_); refine box_event ?hg (N := 4) ?hd (cs := #[.slice none 0 0]) (t := 32) ?hr ?_; (case hd => rfl); (case hg => rfl); (case hr => first | (go_simp; done) | (go_simp; rfl)); intro gb234 hg w85 hbox hb; have BK234 := Aside0.mk (hbox); have GW234 := zge HB hg; have GE234 := zge HB hg; have NB232_234 := znl BK232 hg; have NB234_232 := znr BK232 hg; have NB233_234 := znl BK233 hg; have NB234_233 := znr BK233 hg; replace BK232 := zb0 BK232 hb; replace BK233 := zb0 BK233 hb; replace HB := zhs HB hb; clear hb hbox hg; have hnb86 := NB232_233.out; have hnc86 := NB233_232.out; have hnb87 := NB232_234.out; have hnc87 := NB234_232.out; have hcz88_0 := zc0 BK232 0 rfl; have hfz88_0 := blk_frozen BK232.out 0; have hnb89 := NB233_234.out; have hnc89 := NB234_233.out; have hcz90_0 := zc0 BK233 0 rfl; have hfz90_0 := blk_frozen BK233.out 0) | ((with_reducible refine gate_callee (f := 93) rfl ?_); refine goesL_ (some 12) rfl rfl Try.func93 (by kernel_rfl) rfl #[.agg #[.slice A0_0 l0_0.length c0_0], .agg #[.slice A1_0 l1_0.length c1_0]] rfl (by (try simp only [zq1, zq2, zq3]); first | done | rfl | (simp only [List.length_drop, List.length_take]; rfl)) ?_; (with_reducible refine (impl_isRope.calls k _ _ l0_0 _ _ l1_0 false _ ?side1 ?side2 ?side3 ?side4 A3.out).mono ?_); (case side1 => exact Kd.C_below HR0_0.out (zh0 HB)); (case side2 => exact HC0_0.out); (case side3 => exact Kd.C_below HR1_0.out (zh0 HB)); (case side4 => exact HC1_0.out); rintro e w91 ⟨rfl, hb⟩; refine ⟨_, rfl, ?_⟩; replace BK232 := zb0 BK232 hb; replace BK233 := zb0 BK233 hb; replace BK234 := zb0 BK234 hb; replace HB := Aside0.mk (below_step (by repeat (first | exact zh0 HB | refine below_set ?_ GE232.out | refine below_set ?_ GE233.out | refine below_set ?_ GE234.out)) hb); (try clear hb); (try clear hb2); (try clear hk); (try clear hi); have hcz92_0 := zc0 BK234 0 rfl; have hfz92_0 := blk_frozen BK234.out 0))
  refine bodyPost_ret (results_ct rfl _ _ gb234 32 #[.slice none 0 0] (0, 0) _ rfl (by (with_reducible repeat (first | refine blk_drewN ?_ _ | refine blk_drew ?_ | refine blk_alloc ?_ _)); refine blk_put (cs := #[.slice none 0 0]) ?_ 0 _ rfl; (with_reducible repeat (first | refine blk_drewN ?_ _ | refine blk_drew ?_ | refine blk_alloc ?_ _)); exact BK234.out) Try.underlying32 rfl (by kernel_rfl)) rfl ?_
  exact ⟨_, by first | rfl | (simp <;> rfl) | (simp [*] <;> rfl), by first | exact Kd.R_nil _ _ _ _ _ | exact Kd.N_nil _ _ _ _ _ | exact Kd.V_nil _ _ _ _ _ | exact Kd.Q_nil _ _ _ _ _ | exact Kd.S_nil _ _ _ _ _, by repeat (first | exact zh0 HB | refine below_set ?_ GE232.out | refine below_set ?_ GE233.out | refine below_set ?_ GE234.out)⟩

end Go.Proofs.Ytldkbeccpheckab.PFnExactMergeParts
