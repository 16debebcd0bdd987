/- What is proved here: each Go function that is named below answers, and leaves memory, as the theorem of its name says; no condition beyond those that each theorem states. Laid by this session's own program (wip/driver.py) over the kit's print. -/
import Derived.Test.YtldkbeccpheckabPFnExactMergePartsx0
import Derived.Test.YtldkbeccpheckabPFnExactMergePartsx3
namespace Go.Proofs.Ytldkbeccpheckab.PFnExactMergeParts
open Go.RowKit Go.Proofs.YtldkbeccpheckabW.PrintWords Go.Proofs.YtldkbeccpheckabW.PrintLast Go.Proofs.YtldkbeccpheckabW.PrintMore
attribute [local go_sem] max2_int min2_int max_two min_two max_three min_three max_four min_four   -- for this text's walks alone
set_option linter.unusedVariables false
set_option linter.unusedSimpArgs false

open Go.Proofs.Ytldkbeccpheckab.Cp
/-! ### spec_MergeParts: function 25 -/
def spec_MergeParts.l0 : Nat → Int → List (S61) → List (S61) → Option ((List (S61)) × Bool)
 | 0, _, _, _ => none
 | k + 1, x7, x192000, x198000 => if x7 < (x192000.length : Int) then (if 0 ≤ x7 then (if ((rd_T61 x192000 x7).f2) = 0 then (spec_MergeParts.l0 k (wrap64 (x7 + 1)) x192000 x198000) else (if (x198000.length : Int) > 0 then (if 0 ≤ (wrap64 ((x198000.length : Int) - 1)) then (if (wrap64 ((x198000.length : Int) - 1)) < (x198000.length : Int) then (if ((rd_T61 x198000 (wrap64 ((x198000.length : Int) - 1))).f0) = ((rd_T61 x192000 x7).f0) then (if (wrap64 (((rd_T61 x198000 (wrap64 ((x198000.length : Int) - 1))).f1) + ((rd_T61 x198000 (wrap64 ((x198000.length : Int) - 1))).f2))) = ((rd_T61 x192000 x7).f1) then (spec_MergeParts.l0 k (wrap64 (x7 + 1)) x192000 (x198000.set ((wrap64 ((x198000.length : Int) - 1)) : Int).toNat (⟨(rd_T61 x192000 x7).f0, (rd_T61 x198000 (wrap64 ((x198000.length : Int) - 1))).f1, wrap64 (((rd_T61 x198000 (wrap64 ((x198000.length : Int) - 1))).f2) + ((rd_T61 x192000 x7).f2)), wrap64 (((rd_T61 x198000 (wrap64 ((x198000.length : Int) - 1))).f2) + ((rd_T61 x192000 x7).f2))⟩ : S61))) else (if x198000.length < 4398046511104 then (spec_MergeParts.l0 k (wrap64 (x7 + 1)) x192000 (x198000 ++ [(⟨(rd_T61 x192000 x7).f0, (rd_T61 x192000 x7).f1, (rd_T61 x192000 x7).f2, (rd_T61 x192000 x7).f3⟩ : S61)])) else (none))) else (if x198000.length < 4398046511104 then (spec_MergeParts.l0 k (wrap64 (x7 + 1)) x192000 (x198000 ++ [(⟨(rd_T61 x192000 x7).f0, (rd_T61 x192000 x7).f1, (rd_T61 x192000 x7).f2, (rd_T61 x192000 x7).f3⟩ : S61)])) else (none))) else (none)) else (none)) else (if x198000.length < 4398046511104 then (spec_MergeParts.l0 k (wrap64 (x7 + 1)) x192000 (x198000 ++ [(⟨(rd_T61 x192000 x7).f0, (rd_T61 x192000 x7).f1, (rd_T61 x192000 x7).f2, (rd_T61 x192000 x7).f3⟩ : S61)])) else (none)))) else (none)) else (some (x198000, true))
def spec_MergeParts.f (k : Nat) (l0_0 : List (List Int)) (l1_0 : List (S61)) : Option ((List (S61)) × Bool) := (spec_l7Rope.f k l0_0 l1_0).bind fun t193 => (if t193 = true then (spec_MergeParts.l0 k 0 l1_0 (([] : List (S61)))) else (some (([] : List (S61)), false)))
theorem spec_MergeParts.mono_l : ∀ k, (∀ y0 y1 y2, LeO (spec_MergeParts.l0 k y0 y1 y2) (spec_MergeParts.l0 (k + 1) y0 y1 y2))
 | 0 => fun _ _ _ r h => by simp [spec_MergeParts.l0] at h
 | k + 1 => by
  have ih0 := spec_MergeParts.mono_l k
  ·intro y0 y1 y2
   unfold spec_MergeParts.l0
   repeat' first
   | (with_reducible exact ih0 _ _ _)
   | (with_reducible exact spec_l7Rope.mono _ _ _)
   | (with_reducible exact LeO.refl _)
   | (with_reducible exact LeO.none _)
   | (with_reducible refine LeO.ite ?_ ?_)
   | (with_reducible refine LeO.bind ?_ (fun _ => ?_))
   | exact ih0 _ _ _
   | exact spec_l7Rope.mono _ _ _
   | exact LeO.none _
   | refine LeO.ite ?_ ?_
   | refine LeO.bind ?_ (fun _ => ?_)
theorem spec_MergeParts.mono : ∀ a0 a1 k, LeO (spec_MergeParts.f k a0 a1) (spec_MergeParts.f (k + 1) a0 a1) := by
 intro a0 a1 k
 have ih0 := spec_MergeParts.mono_l k
 unfold spec_MergeParts.f
 repeat' first
   | (with_reducible exact ih0 _ _ _)
   | (with_reducible exact spec_l7Rope.mono _ _ _)
   | (with_reducible exact LeO.refl _)
   | (with_reducible exact LeO.none _)
   | (with_reducible refine LeO.ite ?_ ?_)
   | (with_reducible refine LeO.bind ?_ (fun _ => ?_))
   | exact ih0 _ _ _
   | exact spec_l7Rope.mono _ _ _
   | exact LeO.none _
   | refine LeO.ite ?_ ?_
   | refine LeO.bind ?_ (fun _ => ?_)
def spec_MergeParts.T7 : Bool × List (List Nat × List Nat) := (true, [([], []), ([0], [0]), ([], []), ([1, 2], [1, 2]), ([3], [3]), ([], []), ([5], [5]), ([6], [6]), ([], []), ([8, 4, 0, 1, 2, 3, 4, 8], [4, 8]), ([7, 9, 0, 1, 2, 3, 4, 5, 6, 7, 8, 9], [7])])
def spec_MergeParts.B7 : List Nat := [0, 1, 0, 7, 15, 0, 32, 96, 0, 287, 1023]
theorem spec_MergeParts.tab7 : rtab .any (opsOf Try.f25 7) = spec_MergeParts.T7 := by kernel_rfl
theorem spec_MergeParts.bits7 : waitsOk spec_MergeParts.T7.2 spec_MergeParts.B7 = true := by kernel_rfl
def spec_MergeParts.T9 : Bool × List (List Nat × List Nat) := (true, [([], []), ([0], [0]), ([1], [1]), ([2], [2]), ([3, 2], [2, 3]), ([2], [2]), ([5, 2], [2, 5]), ([4, 6, 2], [2, 4, 6]), ([7, 2], [2, 7]), ([8, 2], [2, 8]), ([2], [2]), ([10, 2], [2, 10]), ([9, 11, 2], [2, 9, 11]), ([2, 12], [2, 12]), ([13, 2], [13]), ([14], [14]), ([15, 14], [14, 15]), ([14], [14]), ([17, 14], [14, 17]), ([16, 18, 14], [14, 16, 18]), ([19, 14], [14, 19]), ([20, 14], [14, 20]), ([14], [14]), ([22, 14], [14, 22]), ([14], [14]), ([24, 14], [14, 24]), ([23, 25, 14], [14, 23, 25]), ([26, 14], [14, 26]), ([27, 14], [14, 27]), ([21, 28, 14], [14, 21, 28]), ([14], [14]), ([30, 14], [14, 30]), ([29, 31, 14], [14, 29, 31]), ([14, 32], [14, 32])])
def spec_MergeParts.B9 : List Nat := [0, 1, 3, 7, 15, 7, 39, 127, 255, 511, 7, 1031, 4095, 8191, 16383, 32767, 65535, 32767, 163839, 524287, 1048575, 2097151, 32767, 4227071, 32767, 16809983, 62947327, 130056191, 264273919, 536870911, 32767, 1073774591, 4294967295, 8589934591]
theorem spec_MergeParts.tab9 : rtab .any (opsOf Try.f25 9) = spec_MergeParts.T9 := by kernel_rfl
theorem spec_MergeParts.bits9 : waitsOk spec_MergeParts.T9.2 spec_MergeParts.B9 = true := by kernel_rfl
def spec_MergeParts.T10 : Bool × List (List Nat × List Nat) := (true, [([], []), ([0], [0]), ([], []), ([2], [2]), ([1, 3], [1, 3]), ([4], [4]), ([5], [5]), ([], []), ([7], [7]), ([6, 8], [6, 8]), ([9, 0, 1, 2, 3, 4, 5, 6, 7, 8, 9], [9])])
def spec_MergeParts.B10 : List Nat := [0, 1, 0, 4, 15, 31, 63, 0, 128, 511, 1023]
theorem spec_MergeParts.tab10 : rtab .any (opsOf Try.f25 10) = spec_MergeParts.T10 := by kernel_rfl
theorem spec_MergeParts.bits10 : waitsOk spec_MergeParts.T10.2 spec_MergeParts.B10 = true := by kernel_rfl
def spec_MergeParts.T11 : Bool × List (List Nat × List Nat) := (true, [([], []), ([0], [0]), ([], []), ([2], [2]), ([], []), ([4], [4]), ([], []), ([6], [6]), ([], []), ([8], [8]), ([7, 9], [7, 9]), ([10], [10]), ([11], [11]), ([], []), ([], []), ([5, 12, 13, 14], [5, 12, 13, 14]), ([1, 3, 0, 1, 2, 3, 4, 5, 6, 7, 8, 9, 10, 11, 12, 13, 14, 15], [1, 3]), ([16, 15, 0, 1, 2, 3, 4, 5, 6, 7, 8, 9, 10, 11, 12, 13, 14, 15], [15, 16])])
def spec_MergeParts.B11 : List Nat := [0, 1, 0, 4, 0, 16, 0, 64, 0, 256, 960, 1984, 4032, 0, 0, 32752, 65535, 131071]
theorem spec_MergeParts.tab11 : rtab .any (opsOf Try.f25 11) = spec_MergeParts.T11 := by kernel_rfl
theorem spec_MergeParts.bits11 : waitsOk spec_MergeParts.T11.2 spec_MergeParts.B11 = true := by kernel_rfl
set_option maxHeartbeats 8000000 in
set_option maxRecDepth 100000 in
theorem spec_MergeParts.calls (k : Nat) (A0_0 : Option Addr) (c0_0 : Nat) (l0_0 : List (List Int)) (A1_0 : Option Addr) (c1_0 : Nat) (l1_0 : List (S61)) (r1 : List (S61)) (r2 : Bool) (w : World) (hr0_0 : Kd.C (Kd.slice 5 (Kd.int .u8)) w A0_0 l0_0.length l0_0) (hc0_0 : l0_0.length ≤ c0_0) (hr1_0 : Kd.C k61 w A1_0 l1_0.length l1_0) (hc1_0 : l1_0.length ≤ c1_0) (h : spec_MergeParts.f k l0_0 l1_0 = some (r1, r2)) :
  Calls Try.prog 25 #[.agg #[.slice A0_0 l0_0.length c0_0], .agg #[.slice A1_0 l1_0.length c1_0]] w fun e w' => ∃ v0_ : Value, e = .returned (.tuple #[.agg #[v0_], .bool r2]) ∧ Kd.R k61 61 w' w.heap.size (fun _ => True) v0_ r1 ∧ Below w.heap.size w w' := by
 have hu35 := Try.underlying35
 have hu32 := Try.underlying32
 have hu61 := Try.underlying61
 have HR0_0 := Aside0.mk hr0_0
 have HC0_0 := Aside0.mk hc0_0
 clear hr0_0 hc0_0
 have HR1_0 := Aside0.mk hr1_0
 have HC1_0 := Aside0.mk hc1_0
 clear hr1_0 hc1_0
 have HB := Aside0.mk (Below.refl w.heap.size w)
 have H : ((spec_l7Rope.f k l0_0 l1_0).bind fun t193 => (if t193 = true then (spec_MergeParts.l0 k 0 l1_0 (([] : List (S61)))) else (some (([] : List (S61)), false)))) = some (r1, r2) := h
 clear h
 replace H := Option.bind_eq_some_iff.mp H
 obtain ⟨t193, A30, H⟩ := H
 replace H : (if t193 = true then (spec_MergeParts.l0 k 0 l1_0 (([] : List (S61)))) else (some (([] : List (S61)), false))) = some (r1, r2) := H
 have A3 := Aside0.mk A30
 clear A30
 by_cases c4 : t193 = true
 ·subst c4
  have H1 : (spec_MergeParts.l0 k 0 l1_0 (([] : List (S61)))) = some (r1, r2) := by rw [if_pos rfl] at H; exact H
  clear H
  have H := H1
  clear H1
  obtain ⟨y194, hy194⟩ : ∃ y_ : List (S61), y_ = (([] : List (S61))) := ⟨_, rfl⟩
  replace H : (spec_MergeParts.l0 k 0 l1_0 y194) = some (r1, r2) := by first | (rw [hy194]; with_reducible exact H) | (have H2_ := (Option.bind_some _ _).symm.trans H; rw [hy194]; with_reducible exact H2_) | (have H2_ := (Option.bind_some _ _).symm.trans H; with_reducible exact H2_) | with_reducible exact H | (rw [hy194]; exact H) | exact H
  have Ny194 := Aside0.mk hy194
  clear hy194
  have H' := Aside0.mk H
  clear H
  go_enter Try.func25, Try.ntmps25
  go_wp2_with (first | ((with_reducible refine gate_dst (N := 2) rfl ?_); refine box_event ?hg (N := 2) ?hd (cs := #[.slice A0_0 l0_0.length c0_0]) (t := 35) ?hr ?_; (case hd => rfl); (case hg => rfl); (case hr => first | (go_simp; done) | (go_simp; rfl)); intro gb190 hg w5 hbox hb; have BK190 := Aside0.mk (hbox); have GW190 := zge HB hg; have GE190 := zge HB hg; replace HB := zhs HB hb; clear hb hbox hg) | ((with_reducible refine gate_dst (N := 3) rfl ?_); refine box_event ?hg (N := 3) ?hd (cs := #[.slice A1_0 l1_0.length c1_0]) (t := 32) ?hr ?_; (case hd => rfl); (case hg => rfl); (case hr => first | (go_simp; done) | (go_simp; rfl)); intro gb191 hg w6 hbox hb; have BK191 := Aside0.mk (hbox); have GW191 := zge HB hg; have GE191 := zge HB hg; have NB190_191 := znl BK190 hg; have NB191_190 := znr BK190 hg; replace BK190 := zb0 BK190 hb; replace HB := zhs HB hb; clear hb hbox hg) | ((with_reducible refine gate_dst (N := 4) rfl ?_); refine box_event ?hg (N := 4) ?hd (cs := #[.slice none 0 0]) (t := 32) ?hr ?_; (case hd => rfl); (case hg => rfl); (case hr => first | (go_simp; done) | (go_simp; rfl)); intro gb192 hg w7 hbox hb; have BK192 := Aside0.mk (hbox); have GW192 := zge HB hg; have GE192 := zge HB hg; have NB190_192 := znl BK190 hg; have NB192_190 := znr BK190 hg; have NB191_192 := znl BK191 hg; have NB192_191 := znr BK191 hg; replace BK190 := zb0 BK190 hb; replace BK191 := zb0 BK191 hb; replace HB := zhs HB hb; clear hb hbox hg; have hnb8 := NB190_191.out; have hnc8 := NB191_190.out; have hnb9 := NB190_192.out; have hnc9 := NB192_190.out; have hcz10_0 := zc0 BK190 0 rfl; have hfz10_0 := blk_frozen BK190.out 0; have hnb11 := NB191_192.out; have hnc11 := NB192_191.out; have hcz12_0 := zc0 BK191 0 rfl; have hfz12_0 := blk_frozen BK191.out 0) | ((with_reducible refine gate_callee (f := 89) rfl ?_); refine goesL_ (some 13) rfl rfl Try.func89 (by kernel_rfl) rfl #[.agg #[.slice A0_0 l0_0.length c0_0], .agg #[.slice A1_0 l1_0.length c1_0]] rfl (by (try simp only [zq1, zq2, zq3]); first | done | rfl | (simp only [List.length_drop, List.length_take]; rfl)) ?_; (with_reducible refine (spec_l7Rope.calls k _ _ l0_0 _ _ l1_0 true _ ?side1 ?side2 ?side3 ?side4 A3.out).mono ?_); (case side1 => exact Kd.C_below HR0_0.out (zh0 HB)); (case side2 => exact HC0_0.out); (case side3 => exact Kd.C_below HR1_0.out (zh0 HB)); (case side4 => exact HC1_0.out); rintro e w13 ⟨rfl, hb⟩; refine ⟨_, rfl, ?_⟩; replace BK190 := zb0 BK190 hb; replace BK191 := zb0 BK191 hb; replace BK192 := zb0 BK192 hb; replace HB := zhs HB hb; (try clear hb); (try clear hb2); (try clear hk); (try clear hi)) | ((with_reducible refine gate_dst (N := 16) rfl ?_); refine Kd.R_lit k61 _ 61 ?hg (N := 16) ?hd (xs := ([] : List (S61))) (inner := []) (ok := fun _ => True) (okp := fun _ => True) ?hr ?hp (fun _ hk => hk) trivial (Below.refl _ _) (Nat.le_refl _) (by simp) ?_; (case hd => rfl); (case hg => rfl); (case hr => first | (go_simp; done) | (go_simp; rfl)); (case hp => exact (Reps.none _ _)); intro v195 w14 ho15 hb hg_ hnew_; clear hg_ hnew_; (first | rw [← Ny194.out] at ho15 | (simp only [Int.reduceToNat] at ho15; rw [← Ny194.out] at ho15)); have HO196 := Aside0.mk (Kd.R_lower ho15 (below_size (zh0 HB))); replace BK190 := zb0 BK190 hb; replace BK191 := zb0 BK191 hb; replace BK192 := zb0 BK192 hb; replace HB := zhs HB hb; clear hb ho15; obtain ⟨Ao16, co16, eo16⟩ := Kd.R_slice HO196.out; subst eo16) | ((with_reducible refine gate_dst (N := 6) rfl ?_); refine box_event ?hg (N := 6) ?hd (cs := #[.slice none 0 0]) (t := 32) ?hr ?_; (case hd => rfl); (case hg => rfl); (case hr => first | (go_simp; done) | (go_simp; rfl)); intro gb197 hg w17 hbox hb; have BK197 := Aside0.mk (hbox); have GW197 := Aside0.mk ((by rw [hg]; exact (below_size (by repeat (first | exact zh0 HB | refine below_set ?_ GE190.out | refine below_set ?_ GE191.out | refine below_set ?_ GE192.out))) : w.heap.size ≤ gb197)); have GE197 := Aside0.mk ((by rw [hg]; exact (below_size (by repeat (first | exact zh0 HB | refine below_set ?_ GE190.out | refine below_set ?_ GE191.out | refine below_set ?_ GE192.out))) : w.heap.size ≤ gb197)); have NB190_197 := znl BK190 hg; have NB197_190 := znr BK190 hg; have NB191_197 := znl BK191 hg; have NB197_191 := znr BK191 hg; have NB192_197 := znl BK192 hg; have NB197_192 := znr BK192 hg; replace HO196 := zrb HO196 hb; replace BK190 := zb0 BK190 hb; replace BK191 := zb0 BK191 hb; replace BK192 := zb0 BK192 hb; replace HB := Aside0.mk (below_step (by repeat (first | exact zh0 HB | refine below_set ?_ GE190.out | refine below_set ?_ GE191.out | refine below_set ?_ GE192.out)) hb); clear hb hbox hg; have hnb18 := NB197_190.out; have hnc18 := NB190_197.out; have hnb19 := NB197_191.out; have hnc19 := NB191_197.out; have hnb20 := NB197_192.out; have hnc20 := NB192_197.out; have hcz21_0 := zc0 BK197 0 rfl; have hfz21_0 := blk_frozen BK197.out 0))
  go_loopg [7] k (fun kq v7 w' => ∃ (x7_1 : Int) (x198000_1 : List (S61)) (u198000 : Value), v7 = .int .i64 x7_1 ∧ Aside0 (spec_MergeParts.l0 kq x7_1 l1_0 x198000_1 = some (r1, r2)) ∧ Aside0 (kq ≤ k) ∧ Aside0 (Kd.R k61 61 w' w.heap.size (fun _ => True) u198000 x198000_1) ∧ Aside0 (w'.heap[gb190]? = some (.cells #[(.slice A0_0 l0_0.length c0_0)] 35 (0, 0))) ∧ Aside0 (w'.heap[gb191]? = some (.cells #[(.slice A1_0 l1_0.length c1_0)] 32 (0, 0))) ∧ Aside0 (w'.heap[gb192]? = some (.cells #[(.slice none 0 0)] 32 (0, 0))) ∧ Aside0 (w'.heap[gb197]? = some (.cells #[u198000] 32 (0, 0))) ∧ Aside0 (Below w.heap.size w w'))
  case atStart => exact ⟨(0), (y194), (.slice Ao16 y194.length co16), (by first | rfl | (simp; done) | (simp [*]; done)), H', ⟨Nat.le_refl _⟩, ⟨by (with_reducible repeat (first | apply Kd.R_alloc | apply Kd.R_drewN | apply Kd.R_drew)); exact Kd.R_mono (Kd.R_far (p := ⟨gb197, 0, none⟩) (Kd.R_types HO196.out BK197.out (by decide)) (fun _ hk => hk.2) (.slice Ao16 y194.length co16)) (fun _ hk => trivial)⟩, ⟨by (with_reducible repeat (first | refine blk_drewN ?_ _ | refine blk_drew ?_ | refine blk_alloc ?_ _)); refine blk_far ?_ NB190_197.out _; (with_reducible repeat (first | refine blk_drewN ?_ _ | refine blk_drew ?_ | refine blk_alloc ?_ _)); exact BK190.out⟩, ⟨by (with_reducible repeat (first | refine blk_drewN ?_ _ | refine blk_drew ?_ | refine blk_alloc ?_ _)); refine blk_far ?_ NB191_197.out _; (with_reducible repeat (first | refine blk_drewN ?_ _ | refine blk_drew ?_ | refine blk_alloc ?_ _)); exact BK191.out⟩, ⟨by (with_reducible repeat (first | refine blk_drewN ?_ _ | refine blk_drew ?_ | refine blk_alloc ?_ _)); refine blk_far ?_ NB192_197.out _; (with_reducible repeat (first | refine blk_drewN ?_ _ | refine blk_drew ?_ | refine blk_alloc ?_ _)); exact BK192.out⟩, ⟨by (with_reducible repeat (first | refine blk_drewN ?_ _ | refine blk_drew ?_ | refine blk_alloc ?_ _)); refine blk_put (cs := #[.slice none 0 0]) ?_ 0 _ rfl; (with_reducible repeat (first | refine blk_drewN ?_ _ | refine blk_drew ?_ | refine blk_alloc ?_ _)); exact BK197.out⟩, ⟨by repeat (first | exact zh0 HB | refine below_set ?_ GE190.out | refine below_set ?_ GE191.out | refine below_set ?_ GE192.out | refine below_set ?_ GE197.out)⟩⟩
  case round =>
   clear H'
   try clear c1
   try clear c2
   try clear p2
   try clear c4
   try clear c8
   try clear c9
   try clear c11
   try clear c18
   try clear c19
   try clear c20
   try clear hcz10_0
   try clear hcz12_0
   try clear hcz21_0
   try clear hfz10_0
   try clear hfz12_0
   try clear hfz21_0
   obtain ⟨x7_1, x198000_1, u198000, rfl, HA, HK1, HO_198000, BK190, BK191, BK192, BK197, HB⟩ := hrel
   cases gk with
   | zero => exact absurd HA.out (by simp [spec_MergeParts.l0])
   | succ k1 =>
    have H := HA.out
    clear HA
    simp only [spec_MergeParts.l0] at H
    by_cases c22 : x7_1 < (l1_0.length : Int)
    ·rw [if_pos c22] at H
     have c22b0 : decide (x7_1 < (l1_0.length : Int)) = true := decide_eq_true c22
     clear c22
     by_cases c23 : 0 ≤ x7_1
     ·rw [if_pos c23] at H
      have c23b0 : decide (0 ≤ x7_1) = true := decide_eq_true c23
      clear c23
      by_cases c24 : ((rd_T61 l1_0 x7_1).f2) = 0
      ·rw [if_pos c24] at H
       have c24b0 : (((rd_T61 l1_0 x7_1).f2) == 0) = true := beq_iff_eq.mpr c24
       have c24b1 : (((rd_T61 l1_0 x7_1).f2) != 0) = false := bne_eq_false_iff_eq.mpr c24
       clear c24
       have H' := Aside0.mk H
       clear H
       have hnb25 := NB191_190.out
       have hnc25 := NB190_191.out
       have hnb26 := NB191_192.out
       have hnc26 := NB192_191.out
       have hnb27 := NB191_197.out
       have hnc27 := NB197_191.out
       have hcz28_0 := zc0 BK191 0 rfl
       have hfz28_0 := blk_frozen BK191.out 0
       try go_wp2
       replace HO_198000 := Aside0.mk (Kd.R_drew HO_198000.out)
       replace BK190 := Aside0.mk (blk_drew BK190.out)
       replace BK191 := Aside0.mk (blk_drew BK191.out)
       replace BK192 := Aside0.mk (blk_drew BK192.out)
       replace BK197 := Aside0.mk (blk_drew BK197.out)
       replace HB := Aside0.mk (below_drew1 HB.out)
       have p198 : 0 ≤ (x7_1 : Int) := of_decide_eq_true (by first | (with_reducible assumption) | assumption)
       have q198 : x7_1 < (l1_0.length : Int) := of_decide_eq_true (by first | (with_reducible assumption) | assumption)
       obtain ⟨ad198, e198, hx198_0, hx198_1, hx198_2, hx198_3⟩ := at_T61 HR1_0.out x7_1 p198 q198
       have hw198_3 := hx198_3
       have hw198_2 := hx198_2
       have hw198_1 := hx198_1
       have hw198_0 := hx198_0
       cases e198
       replace hx198_0 := (HB.out.cell (World.block_lt_of_cell? w _ hx198_0)).trans hx198_0
       replace hx198_1 := (HB.out.cell (World.block_lt_of_cell? w _ hx198_1)).trans hx198_1
       replace hx198_2 := (HB.out.cell (World.block_lt_of_cell? w _ hx198_2)).trans hx198_2
       replace hx198_3 := (HB.out.cell (World.block_lt_of_cell? w _ hx198_3)).trans hx198_3
       replace p198 := eq_true p198
       replace q198 := eq_true q198
       obtain ⟨Ao30, co30, eo30⟩ := Kd.R_slice HO_198000.out
       (first | subst eo30 | (injection eo30 with f1_ f2_ f3_; have f4_ := f1_.symm; have f5_ := f3_.symm; clear f1_ f2_ f3_; subst f4_; subst f5_))
       refine start_ (n := 11) (S := fun w' => w'.cell? ⟨gb191, 0, none⟩ = some (.slice (some ad198) l1_0.length c1_0) ∧ w'.cell? ⟨gb197, 0, none⟩ = some (.slice Ao30 x198000_1.length co30) ∧ w'.cell? (ad198.add ((x7_1).toNat * 4)) = some (.int .i64 ((rd_T61 l1_0 x7_1).f0)) ∧ w'.cell? ⟨(ad198.add ((x7_1).toNat * 4)).block, (ad198.add ((x7_1).toNat * 4)).off + 1, none⟩ = some (.int .i64 ((rd_T61 l1_0 x7_1).f1)) ∧ w'.cell? ⟨(ad198.add ((x7_1).toNat * 4)).block, (ad198.add ((x7_1).toNat * 4)).off + 2, none⟩ = some (.int .i64 ((rd_T61 l1_0 x7_1).f2)) ∧ w'.cell? ⟨(ad198.add ((x7_1).toNat * 4)).block, (ad198.add ((x7_1).toNat * 4)).off + 3, none⟩ = some (.int .i64 ((rd_T61 l1_0 x7_1).f3))) (ds := []) #[zF, zF, zF, zF, zF, zF, zF, zF, zF, zF, zF] (by kernel_rfl) rfl rfl ⟨zc0 BK191 0 rfl, zc0 BK197 0 rfl, ((HB.out.cell (World.block_lt_of_cell? w _ hw198_0)).trans hw198_0), ((HB.out.cell (World.block_lt_of_cell? w _ hw198_1)).trans hw198_1), ((HB.out.cell (World.block_lt_of_cell? w _ hw198_2)).trans hw198_2), ((HB.out.cell (World.block_lt_of_cell? w _ hw198_3)).trans hw198_3)⟩ (fun hHeld => ?_); refine with_tabW spec_MergeParts.tab7 spec_MergeParts.bits7 (fun HT_ HW_ => ?_)
       generalize wr.drew = w29 at HO_198000 BK190 BK191 BK192 BK197 HB hx198_0 hx198_1 hx198_2 hx198_3 hHeld ⊢
       refine pure_ (i := 0) (N := some 25) (v := ?_) (a' := ?_) #[zT, zF, zF, zF, zF, zF, zF, zF, zF, zF, zF] rfl rfl (any_of HT_.out (by kernel_rfl)) (fun _ _ _ h => h) (Or.inl ⟨by rfl, ?_⟩) ?_ ?_
       rotate_left
       ·intro w'
        go_simp
        with_reducible rfl
       rotate_left
       ·simp only [Act.put, zp1, zp2, zp3, i64_w, i32_w]
        rfl
       refine pure_ (i := 2) (N := some 27) (v := ?_) (a' := ?_) #[zT, zF, zT, zF, zF, zF, zF, zF, zF, zF, zF] rfl rfl (any_of HT_.out (by kernel_rfl)) (fun _ _ _ h => h) (Or.inl ⟨by rfl, ?_⟩) ?_ ?_
       rotate_left
       ·intro w'
        go_simp
        with_reducible rfl
       rotate_left
       ·simp only [Act.put, zp1, zp2, zp3, i64_w, i32_w]
        rfl
       refine pure_ (i := 5) (N := some 30) (v := ?_) (a' := ?_) #[zT, zF, zT, zF, zF, zT, zF, zF, zF, zF, zF] rfl rfl (any_of HT_.out (by kernel_rfl)) (fun _ _ _ h => h) (Or.inl ⟨by rfl, ?_⟩) ?_ ?_
       rotate_left
       ·intro w'
        go_simp
        with_reducible rfl
       rotate_left
       ·simp only [Act.put, zp1, zp2, zp3, i64_w, i32_w]
        rfl
       refine take_ (i := 1) (N := some 26) (v := ?_) (a' := ?_) #[zT, zT, zT, zF, zF, zT, zF, zF, zF, zF, zF] rfl rfl (take_ofW HT_.out HW_.out (by kernel_rfl)) (fun _ _ _ h => h) (Or.inl ⟨by rfl, ?_⟩) hHeld ?_ ?_
       rotate_left
       ·rintro w' ⟨s0, s1, s2, s3, s4, s5⟩
        go_simp
        with_reducible rfl
       rotate_left
       ·simp only [Act.put, zp1, zp2, zp3, i64_w, i32_w]
        rfl
       refine pure_ (i := 3) (N := some 28) (v := ?_) (a' := ?_) #[zT, zT, zT, zT, zF, zT, zF, zF, zF, zF, zF] rfl rfl (any_of HT_.out (by kernel_rfl)) (fun _ _ _ h => h) (Or.inl ⟨by rfl, ?_⟩) ?_ ?_
       rotate_left
       ·intro w'
        go_simp
        with_reducible rfl
       rotate_left
       ·simp only [Act.put, zp1, zp2, zp3, i64_w, i32_w]
        rfl
       refine take_ (i := 4) (N := some 29) (v := ?_) (a' := ?_) #[zT, zT, zT, zT, zT, zT, zF, zF, zF, zF, zF] rfl rfl (take_ofW HT_.out HW_.out (by kernel_rfl)) (fun _ _ _ h => h) (Or.inl ⟨by rfl, ?_⟩) hHeld ?_ ?_
       rotate_left
       ·rintro w' ⟨s0, s1, s2, s3, s4, s5⟩
        go_simp
        with_reducible rfl
       rotate_left
       ·simp only [Act.put, zp1, zp2, zp3, i64_w, i32_w]
        rfl
       refine take_ (i := 6) (N := some 31) (v := ?_) (a' := ?_) #[zT, zT, zT, zT, zT, zT, zT, zF, zF, zF, zF] rfl rfl (take_ofW HT_.out HW_.out (by kernel_rfl)) (fun _ _ _ h => h) (Or.inl ⟨by rfl, ?_⟩) hHeld ?_ ?_
       rotate_left
       ·rintro w' ⟨s0, s1, s2, s3, s4, s5⟩
        go_simp
        with_reducible rfl
       rotate_left
       ·simp only [Act.put, zp1, zp2, zp3, i64_w, i32_w]
        rfl
       refine pure_ (i := 7) (N := some 32) (v := ?_) (a' := ?_) #[zT, zT, zT, zT, zT, zT, zT, zT, zF, zF, zF] rfl rfl (any_of HT_.out (by kernel_rfl)) (fun _ _ _ h => h) (Or.inl ⟨by rfl, ?_⟩) ?_ ?_
       rotate_left
       ·intro w'
        go_simp
        with_reducible rfl
       rotate_left
       ·simp only [Act.put, zp1, zp2, zp3, i64_w, i32_w]
        rfl
       refine one_ (i := 8) (N := some 8) #[zT, zT, zT, zT, zT, zT, zT, zT, zT, zF, zF] rfl rfl (one_of HT_.out (by kernel_rfl)) (by decide) (fun K hK => ?_)
       refine box_step ?hg (N := 8) ?hd (cs := #[.int .i64 0, .int .i64 0, .int .i64 0, .int .i64 0]) (t := 61) ?hr ?_; (case hd => rfl); (case hg => rfl); (case hr => first | (go_simp; done) | (go_simp; rfl))
       intro gb199 hg w31 hbox hb
       have BK199 := Aside0.mk (hbox)
       have GW199 := Aside0.mk ((by rw [hg]; exact (below_size (by repeat (first | exact zh0 HB | refine below_set ?_ GE190.out | refine below_set ?_ GE191.out | refine below_set ?_ GE192.out | refine below_set ?_ GE197.out))) : w.heap.size ≤ gb199))
       have GE199 := Aside0.mk ((by rw [hg]; exact (below_size (by repeat (first | exact zh0 HB | refine below_set ?_ GE190.out | refine below_set ?_ GE191.out | refine below_set ?_ GE192.out | refine below_set ?_ GE197.out))) : w.heap.size ≤ gb199))
       have NB190_199 := znl BK190 hg
       have NB199_190 := znr BK190 hg
       have NB191_199 := znl BK191 hg
       have NB199_191 := znr BK191 hg
       have NB192_199 := znl BK192 hg
       have NB199_192 := znr BK192 hg
       have NB197_199 := znl BK197 hg
       have NB199_197 := znr BK197 hg
       replace HO_198000 := Aside0.mk (Kd.R_below (Kd.R_elderB (zr0 HO_198000) gb199 (Nat.le_of_eq hg.symm)) hb)
       replace BK190 := zb0 BK190 hb
       replace BK191 := zb0 BK191 hb
       replace BK192 := zb0 BK192 hb
       replace BK197 := zb0 BK197 hb
       replace HB := Aside0.mk (below_step (by repeat (first | exact zh0 HB | refine below_set ?_ GE190.out | refine below_set ?_ GE191.out | refine below_set ?_ GE192.out | refine below_set ?_ GE197.out)) hb)
       clear hb hbox hg
       refine hK.out _ _ ⟨zc0 BK191 0 rfl, zc0 BK197 0 rfl, ((HB.out.cell (World.block_lt_of_cell? w _ hw198_0)).trans hw198_0), ((HB.out.cell (World.block_lt_of_cell? w _ hw198_1)).trans hw198_1), ((HB.out.cell (World.block_lt_of_cell? w _ hw198_2)).trans hw198_2), ((HB.out.cell (World.block_lt_of_cell? w _ hw198_3)).trans hw198_3)⟩ (fun hHeld => ?_)
       clear hK K
       refine norm_ (a' := ?_) ?_ ?_
       rotate_left
       ·show Act.put _ (some 8) _ = _
        simp only [Act.put, zp1, zp2, zp3, i64_w, i32_w]
        rfl
       refine one_ (i := 9) (N := none) #[zT, zT, zT, zT, zT, zT, zT, zT, zT, zT, zF] rfl rfl (one_of HT_.out (by kernel_rfl)) (by decide) (fun K hK => ?_)
       have hs32 : w31.cell? ⟨gb199, 0, none⟩ = some (.int .i64 0) := zc0 BK199 0 rfl
       have hfs32 := blk_frozen BK199.out 0
       have hns32_0 := NB190_199.out
       have hns32_1 := NB191_199.out
       have hns32_2 := NB192_199.out
       have hns32_3 := NB197_199.out
       have hms32_0 := NB199_190.out
       have hms32_1 := NB199_191.out
       have hms32_2 := NB199_192.out
       have hms32_3 := NB199_197.out
       have hs33 : w31.cell? ⟨gb199, 1, none⟩ = some (.int .i64 0) := zc0 BK199 1 rfl
       have hfs33 := blk_frozen BK199.out 1
       have hns33_0 := NB190_199.out
       have hns33_1 := NB191_199.out
       have hns33_2 := NB192_199.out
       have hns33_3 := NB197_199.out
       have hms33_0 := NB199_190.out
       have hms33_1 := NB199_191.out
       have hms33_2 := NB199_192.out
       have hms33_3 := NB199_197.out
       have hs34 : w31.cell? ⟨gb199, 2, none⟩ = some (.int .i64 0) := zc0 BK199 2 rfl
       have hfs34 := blk_frozen BK199.out 2
       have hns34_0 := NB190_199.out
       have hns34_1 := NB191_199.out
       have hns34_2 := NB192_199.out
       have hns34_3 := NB197_199.out
       have hms34_0 := NB199_190.out
       have hms34_1 := NB199_191.out
       have hms34_2 := NB199_192.out
       have hms34_3 := NB199_197.out
       have hs35 : w31.cell? ⟨gb199, 3, none⟩ = some (.int .i64 0) := zc0 BK199 3 rfl
       have hfs35 := blk_frozen BK199.out 3
       have hns35_0 := NB190_199.out
       have hns35_1 := NB191_199.out
       have hns35_2 := NB192_199.out
       have hns35_3 := NB197_199.out
       have hms35_0 := NB199_190.out
       have hms35_1 := NB199_191.out
       have hms35_2 := NB199_192.out
       have hms35_3 := NB199_197.out
       refine skip_ (w1 := ?_) (by rfl) rfl ?_ ?_
       rotate_left
       ·go_simp
        rfl
       refine hK.out _ _ ⟨((zfar NB191_199).trans (((zfar NB191_199).trans (((zfar NB191_199).trans (((zfar NB191_199).trans (hHeld.1)))))))), ((zfar NB197_199).trans (((zfar NB197_199).trans (((zfar NB197_199).trans (((zfar NB197_199).trans (hHeld.2.1)))))))), ((cell_far (p := ⟨gb199, _, none⟩) (znb hw198_0 GW199.out (by first | rfl | simp only [add_block])) _).trans (((cell_far (p := ⟨gb199, _, none⟩) (znb hw198_0 GW199.out (by first | rfl | simp only [add_block])) _).trans (((cell_far (p := ⟨gb199, _, none⟩) (znb hw198_0 GW199.out (by first | rfl | simp only [add_block])) _).trans (((cell_far (p := ⟨gb199, _, none⟩) (znb hw198_0 GW199.out (by first | rfl | simp only [add_block])) _).trans (hHeld.2.2.1)))))))), ((cell_far (p := ⟨gb199, _, none⟩) (znb hw198_1 GW199.out (by first | rfl | simp only [add_block])) _).trans (((cell_far (p := ⟨gb199, _, none⟩) (znb hw198_1 GW199.out (by first | rfl | simp only [add_block])) _).trans (((cell_far (p := ⟨gb199, _, none⟩) (znb hw198_1 GW199.out (by first | rfl | simp only [add_block])) _).trans (((cell_far (p := ⟨gb199, _, none⟩) (znb hw198_1 GW199.out (by first | rfl | simp only [add_block])) _).trans (hHeld.2.2.2.1)))))))), ((cell_far (p := ⟨gb199, _, none⟩) (znb hw198_2 GW199.out (by first | rfl | simp only [add_block])) _).trans (((cell_far (p := ⟨gb199, _, none⟩) (znb hw198_2 GW199.out (by first | rfl | simp only [add_block])) _).trans (((cell_far (p := ⟨gb199, _, none⟩) (znb hw198_2 GW199.out (by first | rfl | simp only [add_block])) _).trans (((cell_far (p := ⟨gb199, _, none⟩) (znb hw198_2 GW199.out (by first | rfl | simp only [add_block])) _).trans (hHeld.2.2.2.2.1)))))))), ((cell_far (p := ⟨gb199, _, none⟩) (znb hw198_3 GW199.out (by first | rfl | simp only [add_block])) _).trans (((cell_far (p := ⟨gb199, _, none⟩) (znb hw198_3 GW199.out (by first | rfl | simp only [add_block])) _).trans (((cell_far (p := ⟨gb199, _, none⟩) (znb hw198_3 GW199.out (by first | rfl | simp only [add_block])) _).trans (((cell_far (p := ⟨gb199, _, none⟩) (znb hw198_3 GW199.out (by first | rfl | simp only [add_block])) _).trans (hHeld.2.2.2.2.2))))))))⟩ (fun hHeld => ?_)
       clear hK K
       refine pure_ (i := 10) (N := some 9) (v := ?_) (a' := ?_) #[zT, zT, zT, zT, zT, zT, zT, zT, zT, zT, zT] rfl rfl (any_of HT_.out (by kernel_rfl)) (fun _ _ _ h => h) (Or.inl ⟨by rfl, ?_⟩) ?_ ?_
       rotate_left
       ·intro w'
        go_simp
        with_reducible rfl
       rotate_left
       ·simp only [Act.put, zp1, zp2, zp3, i64_w, i32_w]
        rfl
       refine done_ (done_of HT_.out (by kernel_rfl)) ?_
       have hnb36 := NB199_190.out
       have hnc36 := NB190_199.out
       have hnb37 := NB199_191.out
       have hnc37 := NB191_199.out
       have hnb38 := NB199_192.out
       have hnc38 := NB192_199.out
       have hnb39 := NB199_197.out
       have hnc39 := NB197_199.out
       have hcz40_0 := zc0 BK199 0 rfl
       have hcz40_1 := zc0 BK199 1 rfl
       have hcz40_2 := zc0 BK199 2 rfl
       have hcz40_3 := zc0 BK199 3 rfl
       have hfz40_0 := blk_frozen BK199.out 0
       have hfz40_1 := blk_frozen BK199.out 1
       have hfz40_2 := blk_frozen BK199.out 2
       have hfz40_3 := blk_frozen BK199.out 3
       try go_wp2
       go_roundg k1
       case measure => have := HK1.out; omega
       case rel => exact ⟨(wrap64 (x7_1 + 1)), (x198000_1), (.slice Ao30 x198000_1.length co30), (by first | rfl | (simp; done) | (simp [*]; done)), H', ⟨by have := HK1.out; omega⟩, ⟨by (with_reducible repeat (first | apply Kd.R_alloc | apply Kd.R_drewN | apply Kd.R_drew)); exact Kd.R_mono (Kd.R_far (p := ⟨gb199, 3, none⟩) (Kd.R_far (p := ⟨gb199, 2, none⟩) (Kd.R_far (p := ⟨gb199, 1, none⟩) (Kd.R_far (p := ⟨gb199, 0, none⟩) (Kd.R_mono HO_198000.out (fun k_ hk => (⟨hk, hk.2⟩ : _ ∧ k_ ≠ gb199))) (fun _ hk => hk.2) (.int .i64 ((rd_T61 l1_0 x7_1).f0))) (fun _ hk => hk.2) (.int .i64 ((rd_T61 l1_0 x7_1).f1))) (fun _ hk => hk.2) (.int .i64 ((rd_T61 l1_0 x7_1).f2))) (fun _ hk => hk.2) (.int .i64 ((rd_T61 l1_0 x7_1).f3))) (fun _ hk => trivial)⟩, ⟨by (with_reducible repeat (first | refine blk_drewN ?_ _ | refine blk_drew ?_ | refine blk_alloc ?_ _)); refine blk_far ?_ NB190_199.out _; refine blk_far ?_ NB190_199.out _; refine blk_far ?_ NB190_199.out _; refine blk_far ?_ NB190_199.out _; (with_reducible repeat (first | refine blk_drewN ?_ _ | refine blk_drew ?_ | refine blk_alloc ?_ _)); exact BK190.out⟩, ⟨by (with_reducible repeat (first | refine blk_drewN ?_ _ | refine blk_drew ?_ | refine blk_alloc ?_ _)); refine blk_far ?_ NB191_199.out _; refine blk_far ?_ NB191_199.out _; refine blk_far ?_ NB191_199.out _; refine blk_far ?_ NB191_199.out _; (with_reducible repeat (first | refine blk_drewN ?_ _ | refine blk_drew ?_ | refine blk_alloc ?_ _)); exact BK191.out⟩, ⟨by (with_reducible repeat (first | refine blk_drewN ?_ _ | refine blk_drew ?_ | refine blk_alloc ?_ _)); refine blk_far ?_ NB192_199.out _; refine blk_far ?_ NB192_199.out _; refine blk_far ?_ NB192_199.out _; refine blk_far ?_ NB192_199.out _; (with_reducible repeat (first | refine blk_drewN ?_ _ | refine blk_drew ?_ | refine blk_alloc ?_ _)); exact BK192.out⟩, ⟨by (with_reducible repeat (first | refine blk_drewN ?_ _ | refine blk_drew ?_ | refine blk_alloc ?_ _)); refine blk_far ?_ NB197_199.out _; refine blk_far ?_ NB197_199.out _; refine blk_far ?_ NB197_199.out _; refine blk_far ?_ NB197_199.out _; (with_reducible repeat (first | refine blk_drewN ?_ _ | refine blk_drew ?_ | refine blk_alloc ?_ _)); exact BK197.out⟩, ⟨by repeat (first | exact zh0 HB | refine below_set ?_ GE190.out | refine below_set ?_ GE191.out | refine below_set ?_ GE192.out | refine below_set ?_ GE197.out | refine below_set ?_ GE199.out)⟩⟩
      ·rw [if_neg c24] at H
       have c24b0 : (((rd_T61 l1_0 x7_1).f2) == 0) = false := beq_eq_false_iff_ne.mpr c24
       have c24b1 : (((rd_T61 l1_0 x7_1).f2) != 0) = true := bne_iff_ne.mpr c24
       by_cases c41 : (x198000_1.length : Int) > 0
       ·rw [if_pos c41] at H
        have c41b0 : decide (0 < (x198000_1.length : Int)) = true := decide_eq_true c41
        have c41b1 : decide (0 < x198000_1.length) = true := decide_eq_true (by omega)
        clear c41
        obtain ⟨ji42, hji42⟩ : ∃ j_ : Int, (wrap64 ((x198000_1.length : Int) - 1)) = j_ := ⟨_, rfl⟩
        replace H : (if 0 ≤ (ji42) then (if (ji42) < (x198000_1.length : Int) then (if ((rd_T61 x198000_1 (ji42)).f0) = ((rd_T61 l1_0 x7_1).f0) then (if (wrap64 (((rd_T61 x198000_1 (ji42)).f1) + ((rd_T61 x198000_1 (ji42)).f2))) = ((rd_T61 l1_0 x7_1).f1) then (spec_MergeParts.l0 k1 (wrap64 (x7_1 + 1)) l1_0 (x198000_1.set ((ji42) : Int).toNat (⟨(rd_T61 l1_0 x7_1).f0, (rd_T61 x198000_1 (ji42)).f1, wrap64 (((rd_T61 x198000_1 (ji42)).f2) + ((rd_T61 l1_0 x7_1).f2)), wrap64 (((rd_T61 x198000_1 (ji42)).f2) + ((rd_T61 l1_0 x7_1).f2))⟩ : S61))) else (if x198000_1.length < 4398046511104 then (spec_MergeParts.l0 k1 (wrap64 (x7_1 + 1)) l1_0 (x198000_1 ++ [(⟨(rd_T61 l1_0 x7_1).f0, (rd_T61 l1_0 x7_1).f1, (rd_T61 l1_0 x7_1).f2, (rd_T61 l1_0 x7_1).f3⟩ : S61)])) else (none))) else (if x198000_1.length < 4398046511104 then (spec_MergeParts.l0 k1 (wrap64 (x7_1 + 1)) l1_0 (x198000_1 ++ [(⟨(rd_T61 l1_0 x7_1).f0, (rd_T61 l1_0 x7_1).f1, (rd_T61 l1_0 x7_1).f2, (rd_T61 l1_0 x7_1).f3⟩ : S61)])) else (none))) else (none)) else (none)) = some (r1, r2) := by first | (rw [hji42] at H; exact H) | (simp only [hji42] at H ⊢; exact H)
        have hji42w : (IntKind.i64.wrap ((x198000_1.length : Int) - 1)) = ji42 := (i64_w _).trans hji42
        by_cases c43 : 0 ≤ (ji42)
        ·rw [if_pos c43] at H
         have c43b0 : decide (0 ≤ (ji42)) = true := decide_eq_true c43
         clear c43
         by_cases c44 : (ji42) < (x198000_1.length : Int)
         ·rw [if_pos c44] at H
          have c44b0 : decide ((ji42) < (x198000_1.length : Int)) = true := decide_eq_true c44
          clear c44
          by_cases c45 : ((rd_T61 x198000_1 (ji42)).f0) = ((rd_T61 l1_0 x7_1).f0)
          ·rw [if_pos c45] at H
           have c45b0 : (((rd_T61 x198000_1 (ji42)).f0) == ((rd_T61 l1_0 x7_1).f0)) = true := beq_iff_eq.mpr c45
           have c45b1 : (((rd_T61 x198000_1 (ji42)).f0) != ((rd_T61 l1_0 x7_1).f0)) = false := bne_eq_false_iff_eq.mpr c45
           clear c45
           by_cases c46 : (wrap64 (((rd_T61 x198000_1 (ji42)).f1) + ((rd_T61 x198000_1 (ji42)).f2))) = ((rd_T61 l1_0 x7_1).f1)
           ·rw [if_pos c46] at H
            have c46b0 : ((wrap64 (((rd_T61 x198000_1 (ji42)).f1) + ((rd_T61 x198000_1 (ji42)).f2))) == ((rd_T61 l1_0 x7_1).f1)) = true := beq_iff_eq.mpr c46
            have c46b1 : ((wrap64 (((rd_T61 x198000_1 (ji42)).f1) + ((rd_T61 x198000_1 (ji42)).f2))) != ((rd_T61 l1_0 x7_1).f1)) = false := bne_eq_false_iff_eq.mpr c46
            clear c46
            obtain ⟨y205, hy205⟩ : ∃ y_ : List (S61), y_ = (x198000_1.set ((ji42) : Int).toNat (⟨(rd_T61 l1_0 x7_1).f0, (rd_T61 x198000_1 (ji42)).f1, wrap64 (((rd_T61 x198000_1 (ji42)).f2) + ((rd_T61 l1_0 x7_1).f2)), wrap64 (((rd_T61 x198000_1 (ji42)).f2) + ((rd_T61 l1_0 x7_1).f2))⟩ : S61)) := ⟨_, rfl⟩
            replace H : (spec_MergeParts.l0 k1 (wrap64 (x7_1 + 1)) l1_0 y205) = some (r1, r2) := by first | (rw [hy205]; with_reducible exact H) | (have H2_ := (Option.bind_some _ _).symm.trans H; rw [hy205]; with_reducible exact H2_) | (have H2_ := (Option.bind_some _ _).symm.trans H; with_reducible exact H2_) | with_reducible exact H | (rw [hy205]; exact H) | exact H
            have Ny205 := Aside0.mk hy205
            clear hy205
            have H' := Aside0.mk H
            clear H
            have hnb48 := NB191_190.out
            have hnc48 := NB190_191.out
            have hnb49 := NB191_192.out
            have hnc49 := NB192_191.out
            have hnb50 := NB191_197.out
            have hnc50 := NB197_191.out
            have hcz51_0 := zc0 BK191 0 rfl
            have hfz51_0 := blk_frozen BK191.out 0
            try go_wp2
            replace HO_198000 := Aside0.mk (Kd.R_drew HO_198000.out)
            replace BK190 := Aside0.mk (blk_drew BK190.out)
            replace BK191 := Aside0.mk (blk_drew BK191.out)
            replace BK192 := Aside0.mk (blk_drew BK192.out)
            replace BK197 := Aside0.mk (blk_drew BK197.out)
            replace HB := Aside0.mk (below_drew1 HB.out)
            have p198 : 0 ≤ (x7_1 : Int) := of_decide_eq_true (by first | (with_reducible assumption) | assumption)
            have q198 : x7_1 < (l1_0.length : Int) := of_decide_eq_true (by first | (with_reducible assumption) | assumption)
            obtain ⟨ad198, e198, hx198_0, hx198_1, hx198_2, hx198_3⟩ := at_T61 HR1_0.out x7_1 p198 q198
            have hw198_3 := hx198_3
            have hw198_2 := hx198_2
            have hw198_1 := hx198_1
            have hw198_0 := hx198_0
            cases e198
            replace hx198_0 := (HB.out.cell (World.block_lt_of_cell? w _ hx198_0)).trans hx198_0
            replace hx198_1 := (HB.out.cell (World.block_lt_of_cell? w _ hx198_1)).trans hx198_1
            replace hx198_2 := (HB.out.cell (World.block_lt_of_cell? w _ hx198_2)).trans hx198_2
            replace hx198_3 := (HB.out.cell (World.block_lt_of_cell? w _ hx198_3)).trans hx198_3
            replace p198 := eq_true p198
            replace q198 := eq_true q198
            obtain ⟨Ao53, co53, eo53⟩ := Kd.R_slice HO_198000.out
            (first | subst eo53 | (injection eo53 with f1_ f2_ f3_; have f4_ := f1_.symm; have f5_ := f3_.symm; clear f1_ f2_ f3_; subst f4_; subst f5_))
            refine start_ (n := 11) (S := fun w' => w'.cell? ⟨gb191, 0, none⟩ = some (.slice (some ad198) l1_0.length c1_0) ∧ w'.cell? ⟨gb197, 0, none⟩ = some (.slice Ao53 x198000_1.length co53) ∧ w'.cell? (ad198.add ((x7_1).toNat * 4)) = some (.int .i64 ((rd_T61 l1_0 x7_1).f0)) ∧ w'.cell? ⟨(ad198.add ((x7_1).toNat * 4)).block, (ad198.add ((x7_1).toNat * 4)).off + 1, none⟩ = some (.int .i64 ((rd_T61 l1_0 x7_1).f1)) ∧ w'.cell? ⟨(ad198.add ((x7_1).toNat * 4)).block, (ad198.add ((x7_1).toNat * 4)).off + 2, none⟩ = some (.int .i64 ((rd_T61 l1_0 x7_1).f2)) ∧ w'.cell? ⟨(ad198.add ((x7_1).toNat * 4)).block, (ad198.add ((x7_1).toNat * 4)).off + 3, none⟩ = some (.int .i64 ((rd_T61 l1_0 x7_1).f3))) (ds := []) #[zF, zF, zF, zF, zF, zF, zF, zF, zF, zF, zF] (by kernel_rfl) rfl rfl ⟨zc0 BK191 0 rfl, zc0 BK197 0 rfl, ((HB.out.cell (World.block_lt_of_cell? w _ hw198_0)).trans hw198_0), ((HB.out.cell (World.block_lt_of_cell? w _ hw198_1)).trans hw198_1), ((HB.out.cell (World.block_lt_of_cell? w _ hw198_2)).trans hw198_2), ((HB.out.cell (World.block_lt_of_cell? w _ hw198_3)).trans hw198_3)⟩ (fun hHeld => ?_); refine with_tabW spec_MergeParts.tab7 spec_MergeParts.bits7 (fun HT_ HW_ => ?_)
            generalize wr.drew = w52 at HO_198000 BK190 BK191 BK192 BK197 HB hx198_0 hx198_1 hx198_2 hx198_3 hHeld ⊢
            refine pure_ (i := 0) (N := some 25) (v := ?_) (a' := ?_) #[zT, zF, zF, zF, zF, zF, zF, zF, zF, zF, zF] rfl rfl (any_of HT_.out (by kernel_rfl)) (fun _ _ _ h => h) (Or.inl ⟨by rfl, ?_⟩) ?_ ?_
            rotate_left
            ·intro w'
             go_simp
             with_reducible rfl
            rotate_left
            ·simp only [Act.put, zp1, zp2, zp3, i64_w, i32_w]
             rfl
            refine pure_ (i := 2) (N := some 27) (v := ?_) (a' := ?_) #[zT, zF, zT, zF, zF, zF, zF, zF, zF, zF, zF] rfl rfl (any_of HT_.out (by kernel_rfl)) (fun _ _ _ h => h) (Or.inl ⟨by rfl, ?_⟩) ?_ ?_
            rotate_left
            ·intro w'
             go_simp
             with_reducible rfl
            rotate_left
            ·simp only [Act.put, zp1, zp2, zp3, i64_w, i32_w]
             rfl
            refine pure_ (i := 5) (N := some 30) (v := ?_) (a' := ?_) #[zT, zF, zT, zF, zF, zT, zF, zF, zF, zF, zF] rfl rfl (any_of HT_.out (by kernel_rfl)) (fun _ _ _ h => h) (Or.inl ⟨by rfl, ?_⟩) ?_ ?_
            rotate_left
            ·intro w'
             go_simp
             with_reducible rfl
            rotate_left
            ·simp only [Act.put, zp1, zp2, zp3, i64_w, i32_w]
             rfl
            refine take_ (i := 1) (N := some 26) (v := ?_) (a' := ?_) #[zT, zT, zT, zF, zF, zT, zF, zF, zF, zF, zF] rfl rfl (take_ofW HT_.out HW_.out (by kernel_rfl)) (fun _ _ _ h => h) (Or.inl ⟨by rfl, ?_⟩) hHeld ?_ ?_
            rotate_left
            ·rintro w' ⟨s0, s1, s2, s3, s4, s5⟩
             go_simp
             with_reducible rfl
            rotate_left
            ·simp only [Act.put, zp1, zp2, zp3, i64_w, i32_w]
             rfl
            refine pure_ (i := 3) (N := some 28) (v := ?_) (a' := ?_) #[zT, zT, zT, zT, zF, zT, zF, zF, zF, zF, zF] rfl rfl (any_of HT_.out (by kernel_rfl)) (fun _ _ _ h => h) (Or.inl ⟨by rfl, ?_⟩) ?_ ?_
            rotate_left
            ·intro w'
             go_simp
             with_reducible rfl
            rotate_left
            ·simp only [Act.put, zp1, zp2, zp3, i64_w, i32_w]
             rfl
            refine take_ (i := 4) (N := some 29) (v := ?_) (a' := ?_) #[zT, zT, zT, zT, zT, zT, zF, zF, zF, zF, zF] rfl rfl (take_ofW HT_.out HW_.out (by kernel_rfl)) (fun _ _ _ h => h) (Or.inl ⟨by rfl, ?_⟩) hHeld ?_ ?_
            rotate_left
            ·rintro w' ⟨s0, s1, s2, s3, s4, s5⟩
             go_simp
             with_reducible rfl
            rotate_left
            ·simp only [Act.put, zp1, zp2, zp3, i64_w, i32_w]
             rfl
            refine take_ (i := 6) (N := some 31) (v := ?_) (a' := ?_) #[zT, zT, zT, zT, zT, zT, zT, zF, zF, zF, zF] rfl rfl (take_ofW HT_.out HW_.out (by kernel_rfl)) (fun _ _ _ h => h) (Or.inl ⟨by rfl, ?_⟩) hHeld ?_ ?_
            rotate_left
            ·rintro w' ⟨s0, s1, s2, s3, s4, s5⟩
             go_simp
             with_reducible rfl
            rotate_left
            ·simp only [Act.put, zp1, zp2, zp3, i64_w, i32_w]
             rfl
            refine pure_ (i := 7) (N := some 32) (v := ?_) (a' := ?_) #[zT, zT, zT, zT, zT, zT, zT, zT, zF, zF, zF] rfl rfl (any_of HT_.out (by kernel_rfl)) (fun _ _ _ h => h) (Or.inl ⟨by rfl, ?_⟩) ?_ ?_
            rotate_left
            ·intro w'
             go_simp
             with_reducible rfl
            rotate_left
            ·simp only [Act.put, zp1, zp2, zp3, i64_w, i32_w]
             rfl
            refine one_ (i := 8) (N := some 8) #[zT, zT, zT, zT, zT, zT, zT, zT, zT, zF, zF] rfl rfl (one_of HT_.out (by kernel_rfl)) (by decide) (fun K hK => ?_)
            refine box_step ?hg (N := 8) ?hd (cs := #[.int .i64 0, .int .i64 0, .int .i64 0, .int .i64 0]) (t := 61) ?hr ?_; (case hd => rfl); (case hg => rfl); (case hr => first | (go_simp; done) | (go_simp; rfl))
            intro gb199 hg w54 hbox hb
            have BK199 := Aside0.mk (hbox)
            have GW199 := Aside0.mk ((by rw [hg]; exact (below_size (by repeat (first | exact zh0 HB | refine below_set ?_ GE190.out | refine below_set ?_ GE191.out | refine below_set ?_ GE192.out | refine below_set ?_ GE197.out))) : w.heap.size ≤ gb199))
            have GE199 := Aside0.mk ((by rw [hg]; exact (below_size (by repeat (first | exact zh0 HB | refine below_set ?_ GE190.out | refine below_set ?_ GE191.out | refine below_set ?_ GE192.out | refine below_set ?_ GE197.out))) : w.heap.size ≤ gb199))
            have NB190_199 := znl BK190 hg
            have NB199_190 := znr BK190 hg
            have NB191_199 := znl BK191 hg
            have NB199_191 := znr BK191 hg
            have NB192_199 := znl BK192 hg
            have NB199_192 := znr BK192 hg
            have NB197_199 := znl BK197 hg
            have NB199_197 := znr BK197 hg
            replace HO_198000 := Aside0.mk (Kd.R_below (Kd.R_elderB (zr0 HO_198000) gb199 (Nat.le_of_eq hg.symm)) hb)
            replace BK190 := zb0 BK190 hb
            replace BK191 := zb0 BK191 hb
            replace BK192 := zb0 BK192 hb
            replace BK197 := zb0 BK197 hb
            replace HB := Aside0.mk (below_step (by repeat (first | exact zh0 HB | refine below_set ?_ GE190.out | refine below_set ?_ GE191.out | refine below_set ?_ GE192.out | refine below_set ?_ GE197.out)) hb)
            clear hb hbox hg
            refine hK.out _ _ ⟨zc0 BK191 0 rfl, zc0 BK197 0 rfl, ((HB.out.cell (World.block_lt_of_cell? w _ hw198_0)).trans hw198_0), ((HB.out.cell (World.block_lt_of_cell? w _ hw198_1)).trans hw198_1), ((HB.out.cell (World.block_lt_of_cell? w _ hw198_2)).trans hw198_2), ((HB.out.cell (World.block_lt_of_cell? w _ hw198_3)).trans hw198_3)⟩ (fun hHeld => ?_)
            clear hK K
            refine norm_ (a' := ?_) ?_ ?_
            rotate_left
            ·show Act.put _ (some 8) _ = _
             simp only [Act.put, zp1, zp2, zp3, i64_w, i32_w]
             rfl
            refine one_ (i := 9) (N := none) #[zT, zT, zT, zT, zT, zT, zT, zT, zT, zT, zF] rfl rfl (one_of HT_.out (by kernel_rfl)) (by decide) (fun K hK => ?_)
            have hs55 : w54.cell? ⟨gb199, 0, none⟩ = some (.int .i64 0) := zc0 BK199 0 rfl
            have hfs55 := blk_frozen BK199.out 0
            have hns55_0 := NB190_199.out
            have hns55_1 := NB191_199.out
            have hns55_2 := NB192_199.out
            have hns55_3 := NB197_199.out
            have hms55_0 := NB199_190.out
            have hms55_1 := NB199_191.out
            have hms55_2 := NB199_192.out
            have hms55_3 := NB199_197.out
            have hs56 : w54.cell? ⟨gb199, 1, none⟩ = some (.int .i64 0) := zc0 BK199 1 rfl
            have hfs56 := blk_frozen BK199.out 1
            have hns56_0 := NB190_199.out
            have hns56_1 := NB191_199.out
            have hns56_2 := NB192_199.out
            have hns56_3 := NB197_199.out
            have hms56_0 := NB199_190.out
            have hms56_1 := NB199_191.out
            have hms56_2 := NB199_192.out
            have hms56_3 := NB199_197.out
            have hs57 : w54.cell? ⟨gb199, 2, none⟩ = some (.int .i64 0) := zc0 BK199 2 rfl
            have hfs57 := blk_frozen BK199.out 2
            have hns57_0 := NB190_199.out
            have hns57_1 := NB191_199.out
            have hns57_2 := NB192_199.out
            have hns57_3 := NB197_199.out
            have hms57_0 := NB199_190.out
            have hms57_1 := NB199_191.out
            have hms57_2 := NB199_192.out
            have hms57_3 := NB199_197.out
            have hs58 : w54.cell? ⟨gb199, 3, none⟩ = some (.int .i64 0) := zc0 BK199 3 rfl
            have hfs58 := blk_frozen BK199.out 3
            have hns58_0 := NB190_199.out
            have hns58_1 := NB191_199.out
            have hns58_2 := NB192_199.out
            have hns58_3 := NB197_199.out
            have hms58_0 := NB199_190.out
            have hms58_1 := NB199_191.out
            have hms58_2 := NB199_192.out
            have hms58_3 := NB199_197.out
            refine skip_ (w1 := ?_) (by rfl) rfl ?_ ?_
            rotate_left
            ·go_simp
             rfl
            refine hK.out _ _ ⟨((zfar NB191_199).trans (((zfar NB191_199).trans (((zfar NB191_199).trans (((zfar NB191_199).trans (hHeld.1)))))))), ((zfar NB197_199).trans (((zfar NB197_199).trans (((zfar NB197_199).trans (((zfar NB197_199).trans (hHeld.2.1)))))))), ((cell_far (p := ⟨gb199, _, none⟩) (znb hw198_0 GW199.out (by first | rfl | simp only [add_block])) _).trans (((cell_far (p := ⟨gb199, _, none⟩) (znb hw198_0 GW199.out (by first | rfl | simp only [add_block])) _).trans (((cell_far (p := ⟨gb199, _, none⟩) (znb hw198_0 GW199.out (by first | rfl | simp only [add_block])) _).trans (((cell_far (p := ⟨gb199, _, none⟩) (znb hw198_0 GW199.out (by first | rfl | simp only [add_block])) _).trans (hHeld.2.2.1)))))))), ((cell_far (p := ⟨gb199, _, none⟩) (znb hw198_1 GW199.out (by first | rfl | simp only [add_block])) _).trans (((cell_far (p := ⟨gb199, _, none⟩) (znb hw198_1 GW199.out (by first | rfl | simp only [add_block])) _).trans (((cell_far (p := ⟨gb199, _, none⟩) (znb hw198_1 GW199.out (by first | rfl | simp only [add_block])) _).trans (((cell_far (p := ⟨gb199, _, none⟩) (znb hw198_1 GW199.out (by first | rfl | simp only [add_block])) _).trans (hHeld.2.2.2.1)))))))), ((cell_far (p := ⟨gb199, _, none⟩) (znb hw198_2 GW199.out (by first | rfl | simp only [add_block])) _).trans (((cell_far (p := ⟨gb199, _, none⟩) (znb hw198_2 GW199.out (by first | rfl | simp only [add_block])) _).trans (((cell_far (p := ⟨gb199, _, none⟩) (znb hw198_2 GW199.out (by first | rfl | simp only [add_block])) _).trans (((cell_far (p := ⟨gb199, _, none⟩) (znb hw198_2 GW199.out (by first | rfl | simp only [add_block])) _).trans (hHeld.2.2.2.2.1)))))))), ((cell_far (p := ⟨gb199, _, none⟩) (znb hw198_3 GW199.out (by first | rfl | simp only [add_block])) _).trans (((cell_far (p := ⟨gb199, _, none⟩) (znb hw198_3 GW199.out (by first | rfl | simp only [add_block])) _).trans (((cell_far (p := ⟨gb199, _, none⟩) (znb hw198_3 GW199.out (by first | rfl | simp only [add_block])) _).trans (((cell_far (p := ⟨gb199, _, none⟩) (znb hw198_3 GW199.out (by first | rfl | simp only [add_block])) _).trans (hHeld.2.2.2.2.2))))))))⟩ (fun hHeld => ?_)
            clear hK K
            refine pure_ (i := 10) (N := some 9) (v := ?_) (a' := ?_) #[zT, zT, zT, zT, zT, zT, zT, zT, zT, zT, zT] rfl rfl (any_of HT_.out (by kernel_rfl)) (fun _ _ _ h => h) (Or.inl ⟨by rfl, ?_⟩) ?_ ?_
            rotate_left
            ·intro w'
             go_simp
             with_reducible rfl
            rotate_left
            ·simp only [Act.put, zp1, zp2, zp3, i64_w, i32_w]
             rfl
            refine done_ (done_of HT_.out (by kernel_rfl)) ?_
            have hnb59 := NB199_190.out
            have hnc59 := NB190_199.out
            have hnb60 := NB199_191.out
            have hnc60 := NB191_199.out
            have hnb61 := NB199_192.out
            have hnc61 := NB192_199.out
            have hnb62 := NB199_197.out
            have hnc62 := NB197_199.out
            have hcz63_0 := zc0 BK199 0 rfl
            have hcz63_1 := zc0 BK199 1 rfl
            have hcz63_2 := zc0 BK199 2 rfl
            have hcz63_3 := zc0 BK199 3 rfl
            have hfz63_0 := blk_frozen BK199.out 0
            have hfz63_1 := blk_frozen BK199.out 1
            have hfz63_2 := blk_frozen BK199.out 2
            have hfz63_3 := blk_frozen BK199.out 3
            try go_wp2
            have n0_ : Aside0 (Kd.R k61 61 ((((w54.setCell ⟨gb199, 0, none⟩ (.int .i64 ((rd_T61 l1_0 x7_1).f0))).setCell ⟨gb199, 1, none⟩ (.int .i64 ((rd_T61 l1_0 x7_1).f1))).setCell ⟨gb199, 2, none⟩ (.int .i64 ((rd_T61 l1_0 x7_1).f2))).setCell ⟨gb199, 3, none⟩ (.int .i64 ((rd_T61 l1_0 x7_1).f3))) w.heap.size (fun k_ => k_ ≠ gb199) (.slice Ao53 x198000_1.length co53) x198000_1) := ⟨by (with_reducible repeat (first | apply Kd.R_alloc | apply Kd.R_drewN | apply Kd.R_drew)); exact Kd.R_mono (Kd.R_far (p := ⟨gb199, 3, none⟩) (Kd.R_far (p := ⟨gb199, 2, none⟩) (Kd.R_far (p := ⟨gb199, 1, none⟩) (Kd.R_far (p := ⟨gb199, 0, none⟩) (Kd.R_mono HO_198000.out (fun k_ hk => (⟨hk, hk.2⟩ : _ ∧ k_ ≠ gb199))) (fun _ hk => hk.2) (.int .i64 ((rd_T61 l1_0 x7_1).f0))) (fun _ hk => hk.2) (.int .i64 ((rd_T61 l1_0 x7_1).f1))) (fun _ hk => hk.2) (.int .i64 ((rd_T61 l1_0 x7_1).f2))) (fun _ hk => hk.2) (.int .i64 ((rd_T61 l1_0 x7_1).f3))) (fun _ hk => hk.1.2)⟩
            have n1_ : Aside0 (((((w54.setCell ⟨gb199, 0, none⟩ (.int .i64 ((rd_T61 l1_0 x7_1).f0))).setCell ⟨gb199, 1, none⟩ (.int .i64 ((rd_T61 l1_0 x7_1).f1))).setCell ⟨gb199, 2, none⟩ (.int .i64 ((rd_T61 l1_0 x7_1).f2))).setCell ⟨gb199, 3, none⟩ (.int .i64 ((rd_T61 l1_0 x7_1).f3))).heap[gb190]? = some (.cells #[.slice A0_0 l0_0.length c0_0] 35 (0, 0))) := ⟨by (with_reducible repeat (first | refine blk_drewN ?_ _ | refine blk_drew ?_ | refine blk_alloc ?_ _)); refine blk_far ?_ NB190_199.out _; refine blk_far ?_ NB190_199.out _; refine blk_far ?_ NB190_199.out _; refine blk_far ?_ NB190_199.out _; (with_reducible repeat (first | refine blk_drewN ?_ _ | refine blk_drew ?_ | refine blk_alloc ?_ _)); exact BK190.out⟩
            have n2_ : Aside0 (((((w54.setCell ⟨gb199, 0, none⟩ (.int .i64 ((rd_T61 l1_0 x7_1).f0))).setCell ⟨gb199, 1, none⟩ (.int .i64 ((rd_T61 l1_0 x7_1).f1))).setCell ⟨gb199, 2, none⟩ (.int .i64 ((rd_T61 l1_0 x7_1).f2))).setCell ⟨gb199, 3, none⟩ (.int .i64 ((rd_T61 l1_0 x7_1).f3))).heap[gb191]? = some (.cells #[.slice (some ad198) l1_0.length c1_0] 32 (0, 0))) := ⟨by (with_reducible repeat (first | refine blk_drewN ?_ _ | refine blk_drew ?_ | refine blk_alloc ?_ _)); refine blk_far ?_ NB191_199.out _; refine blk_far ?_ NB191_199.out _; refine blk_far ?_ NB191_199.out _; refine blk_far ?_ NB191_199.out _; (with_reducible repeat (first | refine blk_drewN ?_ _ | refine blk_drew ?_ | refine blk_alloc ?_ _)); exact BK191.out⟩
            have n3_ : Aside0 (((((w54.setCell ⟨gb199, 0, none⟩ (.int .i64 ((rd_T61 l1_0 x7_1).f0))).setCell ⟨gb199, 1, none⟩ (.int .i64 ((rd_T61 l1_0 x7_1).f1))).setCell ⟨gb199, 2, none⟩ (.int .i64 ((rd_T61 l1_0 x7_1).f2))).setCell ⟨gb199, 3, none⟩ (.int .i64 ((rd_T61 l1_0 x7_1).f3))).heap[gb192]? = some (.cells #[.slice none 0 0] 32 (0, 0))) := ⟨by (with_reducible repeat (first | refine blk_drewN ?_ _ | refine blk_drew ?_ | refine blk_alloc ?_ _)); refine blk_far ?_ NB192_199.out _; refine blk_far ?_ NB192_199.out _; refine blk_far ?_ NB192_199.out _; refine blk_far ?_ NB192_199.out _; (with_reducible repeat (first | refine blk_drewN ?_ _ | refine blk_drew ?_ | refine blk_alloc ?_ _)); exact BK192.out⟩
            have n4_ : Aside0 (((((w54.setCell ⟨gb199, 0, none⟩ (.int .i64 ((rd_T61 l1_0 x7_1).f0))).setCell ⟨gb199, 1, none⟩ (.int .i64 ((rd_T61 l1_0 x7_1).f1))).setCell ⟨gb199, 2, none⟩ (.int .i64 ((rd_T61 l1_0 x7_1).f2))).setCell ⟨gb199, 3, none⟩ (.int .i64 ((rd_T61 l1_0 x7_1).f3))).heap[gb197]? = some (.cells #[.slice Ao53 x198000_1.length co53] 32 (0, 0))) := ⟨by (with_reducible repeat (first | refine blk_drewN ?_ _ | refine blk_drew ?_ | refine blk_alloc ?_ _)); refine blk_far ?_ NB197_199.out _; refine blk_far ?_ NB197_199.out _; refine blk_far ?_ NB197_199.out _; refine blk_far ?_ NB197_199.out _; (with_reducible repeat (first | refine blk_drewN ?_ _ | refine blk_drew ?_ | refine blk_alloc ?_ _)); exact BK197.out⟩
            have n5_ : Aside0 (((((w54.setCell ⟨gb199, 0, none⟩ (.int .i64 ((rd_T61 l1_0 x7_1).f0))).setCell ⟨gb199, 1, none⟩ (.int .i64 ((rd_T61 l1_0 x7_1).f1))).setCell ⟨gb199, 2, none⟩ (.int .i64 ((rd_T61 l1_0 x7_1).f2))).setCell ⟨gb199, 3, none⟩ (.int .i64 ((rd_T61 l1_0 x7_1).f3))).heap[gb199]? = some (.cells #[.int .i64 ((rd_T61 l1_0 x7_1).f0), .int .i64 ((rd_T61 l1_0 x7_1).f1), .int .i64 ((rd_T61 l1_0 x7_1).f2), .int .i64 ((rd_T61 l1_0 x7_1).f3)] 61 (0, 0))) := ⟨by (with_reducible repeat (first | refine blk_drewN ?_ _ | refine blk_drew ?_ | refine blk_alloc ?_ _)); refine blk_put (cs := #[.int .i64 ((rd_T61 l1_0 x7_1).f0), .int .i64 ((rd_T61 l1_0 x7_1).f1), .int .i64 ((rd_T61 l1_0 x7_1).f2), .int .i64 0]) ?_ 3 _ rfl; refine blk_put (cs := #[.int .i64 ((rd_T61 l1_0 x7_1).f0), .int .i64 ((rd_T61 l1_0 x7_1).f1), .int .i64 0, .int .i64 0]) ?_ 2 _ rfl; refine blk_put (cs := #[.int .i64 ((rd_T61 l1_0 x7_1).f0), .int .i64 0, .int .i64 0, .int .i64 0]) ?_ 1 _ rfl; refine blk_put (cs := #[.int .i64 0, .int .i64 0, .int .i64 0, .int .i64 0]) ?_ 0 _ rfl; (with_reducible repeat (first | refine blk_drewN ?_ _ | refine blk_drew ?_ | refine blk_alloc ?_ _)); exact BK199.out⟩
            have n6_ : Aside0 (Below w.heap.size w ((((w54.setCell ⟨gb199, 0, none⟩ (.int .i64 ((rd_T61 l1_0 x7_1).f0))).setCell ⟨gb199, 1, none⟩ (.int .i64 ((rd_T61 l1_0 x7_1).f1))).setCell ⟨gb199, 2, none⟩ (.int .i64 ((rd_T61 l1_0 x7_1).f2))).setCell ⟨gb199, 3, none⟩ (.int .i64 ((rd_T61 l1_0 x7_1).f3)))) := ⟨by repeat (first | exact zh0 HB | refine below_set ?_ GE190.out | refine below_set ?_ GE191.out | refine below_set ?_ GE192.out | refine below_set ?_ GE197.out | refine below_set ?_ GE199.out)⟩
            (try clear HO_198000)
            (try clear BK190)
            (try clear BK191)
            (try clear BK192)
            (try clear BK197)
            (try clear BK199)
            (try clear HB)
            generalize ((((w54.setCell ⟨gb199, 0, none⟩ (.int .i64 ((rd_T61 l1_0 x7_1).f0))).setCell ⟨gb199, 1, none⟩ (.int .i64 ((rd_T61 l1_0 x7_1).f1))).setCell ⟨gb199, 2, none⟩ (.int .i64 ((rd_T61 l1_0 x7_1).f2))).setCell ⟨gb199, 3, none⟩ (.int .i64 ((rd_T61 l1_0 x7_1).f3))) = w64 at n0_ n1_ n2_ n3_ n4_ n5_ n6_ ⊢
            have HO_198000 := n0_
            have BK190 := n1_
            have BK191 := n2_
            have BK192 := n3_
            have BK197 := n4_
            have BK199 := n5_
            have HB := n6_
            clear n0_ n1_ n2_ n3_ n4_ n5_ n6_
            replace HO_198000 := Aside0.mk (Kd.R_drew HO_198000.out)
            replace BK190 := Aside0.mk (blk_drew BK190.out)
            replace BK191 := Aside0.mk (blk_drew BK191.out)
            replace BK192 := Aside0.mk (blk_drew BK192.out)
            replace BK197 := Aside0.mk (blk_drew BK197.out)
            replace BK199 := Aside0.mk (blk_drew BK199.out)
            replace HB := Aside0.mk (below_drew1 HB.out)
            have p200 : 0 ≤ ((ji42) : Int) := of_decide_eq_true (by first | (with_reducible assumption) | assumption)
            have q200 : (ji42) < (x198000_1.length : Int) := of_decide_eq_true (by first | (with_reducible assumption) | assumption)
            obtain ⟨ad200, e200, hx200_0, hx200_1, hx200_2, hx200_3⟩ := at_T61 (Kd.R_reads' HO_198000.out).2.2 (ji42) p200 q200
            cases e200
            replace p200 := eq_true p200
            replace q200 := eq_true q200
            have p201 : 0 ≤ ((ji42) : Int) := of_decide_eq_true (by first | (with_reducible assumption) | assumption)
            have q201 : (ji42) < (x198000_1.length : Int) := of_decide_eq_true (by first | (with_reducible assumption) | assumption)
            obtain ⟨ad201, e201, hx201_0, hx201_1, hx201_2, hx201_3⟩ := at_T61 (Kd.R_reads' HO_198000.out).2.2 (ji42) p201 q201
            obtain rfl : ad200 = ad201 := (by injection e201)
            replace p201 := eq_true p201
            replace q201 := eq_true q201
            have p202 : 0 ≤ ((ji42) : Int) := of_decide_eq_true (by first | (with_reducible assumption) | assumption)
            have q202 : (ji42) < (x198000_1.length : Int) := of_decide_eq_true (by first | (with_reducible assumption) | assumption)
            obtain ⟨ad202, e202, hx202_0, hx202_1, hx202_2, hx202_3⟩ := at_T61 (Kd.R_reads' HO_198000.out).2.2 (ji42) p202 q202
            obtain rfl : ad200 = ad202 := (by injection e202)
            replace p202 := eq_true p202
            replace q202 := eq_true q202
            refine start_ (n := 34) (S := fun w' => w'.cell? ⟨gb197, 0, none⟩ = some (.slice (some ad200) x198000_1.length co53) ∧ w'.cell? ⟨gb199, 0, none⟩ = some (.int .i64 ((rd_T61 l1_0 x7_1).f0)) ∧ w'.cell? ⟨gb199, 1, none⟩ = some (.int .i64 ((rd_T61 l1_0 x7_1).f1)) ∧ w'.cell? ⟨gb199, 2, none⟩ = some (.int .i64 ((rd_T61 l1_0 x7_1).f2)) ∧ w'.cell? ⟨gb199, 3, none⟩ = some (.int .i64 ((rd_T61 l1_0 x7_1).f3)) ∧ w'.cell? (ad200.add (((ji42)).toNat * 4)) = some (.int .i64 ((rd_T61 x198000_1 (ji42)).f0)) ∧ w'.cell? ⟨(ad200.add (((ji42)).toNat * 4)).block, (ad200.add (((ji42)).toNat * 4)).off + 1, none⟩ = some (.int .i64 ((rd_T61 x198000_1 (ji42)).f1)) ∧ w'.cell? ⟨(ad200.add (((ji42)).toNat * 4)).block, (ad200.add (((ji42)).toNat * 4)).off + 2, none⟩ = some (.int .i64 ((rd_T61 x198000_1 (ji42)).f2)) ∧ w'.cell? ⟨(ad200.add (((ji42)).toNat * 4)).block, (ad200.add (((ji42)).toNat * 4)).off + 3, none⟩ = some (.int .i64 ((rd_T61 x198000_1 (ji42)).f3)) ∧ w'.cell? (ad200.add (((ji42)).toNat * 4)) = some (.int .i64 ((rd_T61 x198000_1 (ji42)).f0)) ∧ w'.cell? ⟨(ad200.add (((ji42)).toNat * 4)).block, (ad200.add (((ji42)).toNat * 4)).off + 1, none⟩ = some (.int .i64 ((rd_T61 x198000_1 (ji42)).f1)) ∧ w'.cell? ⟨(ad200.add (((ji42)).toNat * 4)).block, (ad200.add (((ji42)).toNat * 4)).off + 2, none⟩ = some (.int .i64 ((rd_T61 x198000_1 (ji42)).f2)) ∧ w'.cell? ⟨(ad200.add (((ji42)).toNat * 4)).block, (ad200.add (((ji42)).toNat * 4)).off + 3, none⟩ = some (.int .i64 ((rd_T61 x198000_1 (ji42)).f3)) ∧ w'.cell? (ad200.add (((ji42)).toNat * 4)) = some (.int .i64 ((rd_T61 x198000_1 (ji42)).f0)) ∧ w'.cell? ⟨(ad200.add (((ji42)).toNat * 4)).block, (ad200.add (((ji42)).toNat * 4)).off + 1, none⟩ = some (.int .i64 ((rd_T61 x198000_1 (ji42)).f1)) ∧ w'.cell? ⟨(ad200.add (((ji42)).toNat * 4)).block, (ad200.add (((ji42)).toNat * 4)).off + 2, none⟩ = some (.int .i64 ((rd_T61 x198000_1 (ji42)).f2)) ∧ w'.cell? ⟨(ad200.add (((ji42)).toNat * 4)).block, (ad200.add (((ji42)).toNat * 4)).off + 3, none⟩ = some (.int .i64 ((rd_T61 x198000_1 (ji42)).f3))) (ds := []) #[zF, zF, zF, zF, zF, zF, zF, zF, zF, zF, zF, zF, zF, zF, zF, zF, zF, zF, zF, zF, zF, zF, zF, zF, zF, zF, zF, zF, zF, zF, zF, zF, zF, zF] (by kernel_rfl) rfl rfl ⟨zc0 BK197 0 rfl, zc0 BK199 0 rfl, zc0 BK199 1 rfl, zc0 BK199 2 rfl, zc0 BK199 3 rfl, hx200_0, hx200_1, hx200_2, hx200_3, hx201_0, hx201_1, hx201_2, hx201_3, hx202_0, hx202_1, hx202_2, hx202_3⟩ (fun hHeld => ?_); refine with_tabW spec_MergeParts.tab9 spec_MergeParts.bits9 (fun HT_ HW_ => ?_)
            generalize w64.drew = w65 at HO_198000 BK190 BK191 BK192 BK197 BK199 HB hx200_0 hx200_1 hx200_2 hx200_3 hx201_0 hx201_1 hx201_2 hx201_3 hx202_0 hx202_1 hx202_2 hx202_3 hHeld ⊢
            refine pure_ (i := 0) (N := some 36) (v := ?_) (a' := ?_) #[zT, zF, zF, zF, zF, zF, zF, zF, zF, zF, zF, zF, zF, zF, zF, zF, zF, zF, zF, zF, zF, zF, zF, zF, zF, zF, zF, zF, zF, zF, zF, zF, zF, zF] rfl rfl (any_of HT_.out (by kernel_rfl)) (fun _ _ _ h => h) (Or.inl ⟨by rfl, ?_⟩) ?_ ?_
            rotate_left
            ·intro w'
             go_simp
             with_reducible rfl
            rotate_left
            ·simp only [Act.put, zp1, zp2, zp3, i64_w, i32_w]
             rfl
            refine pure_ (i := 1) (N := some 37) (v := ?_) (a' := ?_) #[zT, zT, zF, zF, zF, zF, zF, zF, zF, zF, zF, zF, zF, zF, zF, zF, zF, zF, zF, zF, zF, zF, zF, zF, zF, zF, zF, zF, zF, zF, zF, zF, zF, zF] rfl rfl (any_of HT_.out (by kernel_rfl)) (fun _ _ _ h => h) (Or.inl ⟨by rfl, ?_⟩) ?_ ?_
            rotate_left
            ·intro w'
             go_simp
             with_reducible rfl
            rotate_left
            ·simp only [Act.put, zp1, zp2, zp3, i64_w, i32_w]
             rfl
            refine pure_ (i := 2) (N := some 38) (v := ?_) (a' := ?_) #[zT, zT, zT, zF, zF, zF, zF, zF, zF, zF, zF, zF, zF, zF, zF, zF, zF, zF, zF, zF, zF, zF, zF, zF, zF, zF, zF, zF, zF, zF, zF, zF, zF, zF] rfl rfl (any_of HT_.out (by kernel_rfl)) (fun _ _ _ h => h) (Or.inl ⟨by rfl, ?_⟩) ?_ ?_
            rotate_left
            ·intro w'
             go_simp
             with_reducible rfl
            rotate_left
            ·simp only [Act.put, zp1, zp2, zp3, i64_w, i32_w]
             rfl
            refine pure_ (i := 3) (N := some 39) (v := ?_) (a' := ?_) #[zT, zT, zT, zT, zF, zF, zF, zF, zF, zF, zF, zF, zF, zF, zF, zF, zF, zF, zF, zF, zF, zF, zF, zF, zF, zF, zF, zF, zF, zF, zF, zF, zF, zF] rfl rfl (any_of HT_.out (by kernel_rfl)) (fun _ _ _ h => h) (Or.inl ⟨by rfl, ?_⟩) ?_ ?_
            rotate_left
            ·intro w'
             go_simp
             with_reducible rfl
            rotate_left
            ·simp only [Act.put, zp1, zp2, zp3, i64_w, i32_w]
             rfl
            refine pure_ (i := 5) (N := some 41) (v := ?_) (a' := ?_) #[zT, zT, zT, zT, zF, zT, zF, zF, zF, zF, zF, zF, zF, zF, zF, zF, zF, zF, zF, zF, zF, zF, zF, zF, zF, zF, zF, zF, zF, zF, zF, zF, zF, zF] rfl rfl (any_of HT_.out (by kernel_rfl)) (fun _ _ _ h => h) (Or.inl ⟨by rfl, ?_⟩) ?_ ?_
            rotate_left
            ·intro w'
             go_simp
             with_reducible rfl
            rotate_left
            ·simp only [Act.put, zp1, zp2, zp3, i64_w, i32_w]
             rfl
            refine pure_ (i := 6) (N := some 42) (v := ?_) (a' := ?_) #[zT, zT, zT, zT, zF, zT, zT, zF, zF, zF, zF, zF, zF, zF, zF, zF, zF, zF, zF, zF, zF, zF, zF, zF, zF, zF, zF, zF, zF, zF, zF, zF, zF, zF] rfl rfl (any_of HT_.out (by kernel_rfl)) (fun _ _ _ h => h) (Or.inl ⟨by rfl, ?_⟩) ?_ ?_
            rotate_left
            ·intro w'
             go_simp
             with_reducible rfl
            rotate_left
            ·simp only [Act.put, zp1, zp2, zp3, i64_w, i32_w]
             rfl
            refine pure_ (i := 10) (N := some 46) (v := ?_) (a' := ?_) #[zT, zT, zT, zT, zF, zT, zT, zF, zF, zF, zT, zF, zF, zF, zF, zF, zF, zF, zF, zF, zF, zF, zF, zF, zF, zF, zF, zF, zF, zF, zF, zF, zF, zF] rfl rfl (any_of HT_.out (by kernel_rfl)) (fun _ _ _ h => h) (Or.inl ⟨by rfl, ?_⟩) ?_ ?_
            rotate_left
            ·intro w'
             go_simp
             with_reducible rfl
            rotate_left
            ·simp only [Act.put, zp1, zp2, zp3, i64_w, i32_w]
             rfl
            refine take_ (i := 4) (N := some 40) (v := ?_) (a' := ?_) #[zT, zT, zT, zT, zT, zT, zT, zF, zF, zF, zT, zF, zF, zF, zF, zF, zF, zF, zF, zF, zF, zF, zF, zF, zF, zF, zF, zF, zF, zF, zF, zF, zF, zF] rfl rfl (take_ofW HT_.out HW_.out (by kernel_rfl)) (fun _ _ _ h => h) (Or.inl ⟨by rfl, ?_⟩) hHeld ?_ ?_
            rotate_left
            ·rintro w' ⟨s0, s1, s2, s3, s4, s5, s6, s7, s8, s9, s10, s11, s12, s13, s14, s15, s16⟩
             go_simp
             with_reducible rfl
            rotate_left
            ·simp only [Act.put, zp1, zp2, zp3, i64_w, i32_w]
             rfl
            refine pure_ (i := 7) (N := some 43) (v := ?_) (a' := ?_) #[zT, zT, zT, zT, zT, zT, zT, zT, zF, zF, zT, zF, zF, zF, zF, zF, zF, zF, zF, zF, zF, zF, zF, zF, zF, zF, zF, zF, zF, zF, zF, zF, zF, zF] rfl rfl (any_of HT_.out (by kernel_rfl)) (fun _ _ _ h => h) (Or.inl ⟨by rfl, ?_⟩) ?_ ?_
            rotate_left
            ·intro w'
             go_simp
             with_reducible rfl
            rotate_left
            ·simp only [Act.put, zp1, zp2, zp3, i64_w, i32_w]
             rfl
            refine pure_ (i := 8) (N := some 44) (v := ?_) (a' := ?_) #[zT, zT, zT, zT, zT, zT, zT, zT, zT, zF, zT, zF, zF, zF, zF, zF, zF, zF, zF, zF, zF, zF, zF, zF, zF, zF, zF, zF, zF, zF, zF, zF, zF, zF] rfl rfl (any_of HT_.out (by kernel_rfl)) (fun _ _ _ h => h) (Or.inl ⟨by rfl, ?_⟩) ?_ ?_
            rotate_left
            ·intro w'
             go_simp
             with_reducible rfl
            rotate_left
            ·simp only [Act.put, zp1, zp2, zp3, i64_w, i32_w]
             rfl
            refine take_ (i := 9) (N := some 45) (v := ?_) (a' := ?_) #[zT, zT, zT, zT, zT, zT, zT, zT, zT, zT, zT, zF, zF, zF, zF, zF, zF, zF, zF, zF, zF, zF, zF, zF, zF, zF, zF, zF, zF, zF, zF, zF, zF, zF] rfl rfl (take_ofW HT_.out HW_.out (by kernel_rfl)) (fun _ _ _ h => h) (Or.inl ⟨by rfl, ?_⟩) hHeld ?_ ?_
            rotate_left
            ·rintro w' ⟨s0, s1, s2, s3, s4, s5, s6, s7, s8, s9, s10, s11, s12, s13, s14, s15, s16⟩
             go_simp
             with_reducible rfl
            rotate_left
            ·simp only [Act.put, zp1, zp2, zp3, i64_w, i32_w]
             rfl
            refine take_ (i := 11) (N := some 47) (v := ?_) (a' := ?_) #[zT, zT, zT, zT, zT, zT, zT, zT, zT, zT, zT, zT, zF, zF, zF, zF, zF, zF, zF, zF, zF, zF, zF, zF, zF, zF, zF, zF, zF, zF, zF, zF, zF, zF] rfl rfl (take_ofW HT_.out HW_.out (by kernel_rfl)) (fun _ _ _ h => h) (Or.inl ⟨by rfl, ?_⟩) hHeld ?_ ?_
            rotate_left
            ·rintro w' ⟨s0, s1, s2, s3, s4, s5, s6, s7, s8, s9, s10, s11, s12, s13, s14, s15, s16⟩
             go_simp
             with_reducible rfl
            rotate_left
            ·simp only [Act.put, zp1, zp2, zp3, i64_w, i32_w]
             rfl
            refine pure_ (i := 12) (N := some 48) (v := ?_) (a' := ?_) #[zT, zT, zT, zT, zT, zT, zT, zT, zT, zT, zT, zT, zT, zF, zF, zF, zF, zF, zF, zF, zF, zF, zF, zF, zF, zF, zF, zF, zF, zF, zF, zF, zF, zF] rfl rfl (any_of HT_.out (by kernel_rfl)) (fun _ _ _ h => h) (Or.inl ⟨by rfl, ?_⟩) ?_ ?_
            rotate_left
            ·intro w'
             go_simp
             with_reducible rfl
            rotate_left
            ·simp only [Act.put, zp1, zp2, zp3, i64_w, i32_w]
             rfl
            refine pure_ (i := 13) (N := some 49) (v := ?_) (a' := ?_) #[zT, zT, zT, zT, zT, zT, zT, zT, zT, zT, zT, zT, zT, zT, zF, zF, zF, zF, zF, zF, zF, zF, zF, zF, zF, zF, zF, zF, zF, zF, zF, zF, zF, zF] rfl rfl (any_of HT_.out (by kernel_rfl)) (fun _ _ _ h => h) (Or.inl ⟨by rfl, ?_⟩) ?_ ?_
            rotate_left
            ·intro w'
             go_simp
             with_reducible rfl
            rotate_left
            ·simp only [Act.put, zp1, zp2, zp3, i64_w, i32_w]
             rfl
            refine pure_ (i := 14) (N := some 50) (v := ?_) (a' := ?_) #[zT, zT, zT, zT, zT, zT, zT, zT, zT, zT, zT, zT, zT, zT, zT, zF, zF, zF, zF, zF, zF, zF, zF, zF, zF, zF, zF, zF, zF, zF, zF, zF, zF, zF] rfl rfl (any_of HT_.out (by kernel_rfl)) (fun _ _ _ h => h) (Or.inl ⟨by rfl, ?_⟩) ?_ ?_
            rotate_left
            ·intro w'
             go_simp
             with_reducible rfl
            rotate_left
            ·simp only [Act.put, zp1, zp2, zp3, i64_w, i32_w]
             rfl
            refine pure_ (i := 15) (N := some 51) (v := ?_) (a' := ?_) #[zT, zT, zT, zT, zT, zT, zT, zT, zT, zT, zT, zT, zT, zT, zT, zT, zF, zF, zF, zF, zF, zF, zF, zF, zF, zF, zF, zF, zF, zF, zF, zF, zF, zF] rfl rfl (any_of HT_.out (by kernel_rfl)) (fun _ _ _ h => h) (Or.inl ⟨by rfl, ?_⟩) ?_ ?_
            rotate_left
            ·intro w'
             go_simp
             with_reducible rfl
            rotate_left
            ·simp only [Act.put, zp1, zp2, zp3, i64_w, i32_w]
             rfl
            refine pure_ (i := 17) (N := some 53) (v := ?_) (a' := ?_) #[zT, zT, zT, zT, zT, zT, zT, zT, zT, zT, zT, zT, zT, zT, zT, zT, zF, zT, zF, zF, zF, zF, zF, zF, zF, zF, zF, zF, zF, zF, zF, zF, zF, zF] rfl rfl (any_of HT_.out (by kernel_rfl)) (fun _ _ _ h => h) (Or.inl ⟨by rfl, ?_⟩) ?_ ?_
            rotate_left
            ·intro w'
             go_simp
             with_reducible rfl
            rotate_left
            ·simp only [Act.put, zp1, zp2, zp3, i64_w, i32_w]
             rfl
            refine pure_ (i := 18) (N := some 54) (v := ?_) (a' := ?_) #[zT, zT, zT, zT, zT, zT, zT, zT, zT, zT, zT, zT, zT, zT, zT, zT, zF, zT, zT, zF, zF, zF, zF, zF, zF, zF, zF, zF, zF, zF, zF, zF, zF, zF] rfl rfl (any_of HT_.out (by kernel_rfl)) (fun _ _ _ h => h) (Or.inl ⟨by rfl, ?_⟩) ?_ ?_
            rotate_left
            ·intro w'
             go_simp
             with_reducible rfl
            rotate_left
            ·simp only [Act.put, zp1, zp2, zp3, i64_w, i32_w]
             rfl
            refine pure_ (i := 22) (N := some 58) (v := ?_) (a' := ?_) #[zT, zT, zT, zT, zT, zT, zT, zT, zT, zT, zT, zT, zT, zT, zT, zT, zF, zT, zT, zF, zF, zF, zT, zF, zF, zF, zF, zF, zF, zF, zF, zF, zF, zF] rfl rfl (any_of HT_.out (by kernel_rfl)) (fun _ _ _ h => h) (Or.inl ⟨by rfl, ?_⟩) ?_ ?_
            rotate_left
            ·intro w'
             go_simp
             with_reducible rfl
            rotate_left
            ·simp only [Act.put, zp1, zp2, zp3, i64_w, i32_w]
             rfl
            refine pure_ (i := 24) (N := some 60) (v := ?_) (a' := ?_) #[zT, zT, zT, zT, zT, zT, zT, zT, zT, zT, zT, zT, zT, zT, zT, zT, zF, zT, zT, zF, zF, zF, zT, zF, zT, zF, zF, zF, zF, zF, zF, zF, zF, zF] rfl rfl (any_of HT_.out (by kernel_rfl)) (fun _ _ _ h => h) (Or.inl ⟨by rfl, ?_⟩) ?_ ?_
            rotate_left
            ·intro w'
             go_simp
             with_reducible rfl
            rotate_left
            ·simp only [Act.put, zp1, zp2, zp3, i64_w, i32_w]
             rfl
            refine pure_ (i := 25) (N := some 61) (v := ?_) (a' := ?_) #[zT, zT, zT, zT, zT, zT, zT, zT, zT, zT, zT, zT, zT, zT, zT, zT, zF, zT, zT, zF, zF, zF, zT, zF, zT, zT, zF, zF, zF, zF, zF, zF, zF, zF] rfl rfl (any_of HT_.out (by kernel_rfl)) (fun _ _ _ h => h) (Or.inl ⟨by rfl, ?_⟩) ?_ ?_
            rotate_left
            ·intro w'
             go_simp
             with_reducible rfl
            rotate_left
            ·simp only [Act.put, zp1, zp2, zp3, i64_w, i32_w]
             rfl
            refine pure_ (i := 30) (N := some 66) (v := ?_) (a' := ?_) #[zT, zT, zT, zT, zT, zT, zT, zT, zT, zT, zT, zT, zT, zT, zT, zT, zF, zT, zT, zF, zF, zF, zT, zF, zT, zT, zF, zF, zF, zF, zT, zF, zF, zF] rfl rfl (any_of HT_.out (by kernel_rfl)) (fun _ _ _ h => h) (Or.inl ⟨by rfl, ?_⟩) ?_ ?_
            rotate_left
            ·intro w'
             go_simp
             with_reducible rfl
            rotate_left
            ·simp only [Act.put, zp1, zp2, zp3, i64_w, i32_w]
             rfl
            refine take_ (i := 16) (N := some 52) (v := ?_) (a' := ?_) #[zT, zT, zT, zT, zT, zT, zT, zT, zT, zT, zT, zT, zT, zT, zT, zT, zT, zT, zT, zF, zF, zF, zT, zF, zT, zT, zF, zF, zF, zF, zT, zF, zF, zF] rfl rfl (take_ofW HT_.out HW_.out (by kernel_rfl)) (fun _ _ _ h => h) (Or.inl ⟨by rfl, ?_⟩) hHeld ?_ ?_
            rotate_left
            ·rintro w' ⟨s0, s1, s2, s3, s4, s5, s6, s7, s8, s9, s10, s11, s12, s13, s14, s15, s16⟩
             go_simp
             with_reducible rfl
            rotate_left
            ·simp only [Act.put, zp1, zp2, zp3, i64_w, i32_w]
             rfl
            refine pure_ (i := 19) (N := some 55) (v := ?_) (a' := ?_) #[zT, zT, zT, zT, zT, zT, zT, zT, zT, zT, zT, zT, zT, zT, zT, zT, zT, zT, zT, zT, zF, zF, zT, zF, zT, zT, zF, zF, zF, zF, zT, zF, zF, zF] rfl rfl (any_of HT_.out (by kernel_rfl)) (fun _ _ _ h => h) (Or.inl ⟨by rfl, ?_⟩) ?_ ?_
            rotate_left
            ·intro w'
             go_simp
             with_reducible rfl
            rotate_left
            ·simp only [Act.put, zp1, zp2, zp3, i64_w, i32_w]
             rfl
            refine pure_ (i := 20) (N := some 56) (v := ?_) (a' := ?_) #[zT, zT, zT, zT, zT, zT, zT, zT, zT, zT, zT, zT, zT, zT, zT, zT, zT, zT, zT, zT, zT, zF, zT, zF, zT, zT, zF, zF, zF, zF, zT, zF, zF, zF] rfl rfl (any_of HT_.out (by kernel_rfl)) (fun _ _ _ h => h) (Or.inl ⟨by rfl, ?_⟩) ?_ ?_
            rotate_left
            ·intro w'
             go_simp
             with_reducible rfl
            rotate_left
            ·simp only [Act.put, zp1, zp2, zp3, i64_w, i32_w]
             rfl
            refine take_ (i := 21) (N := some 57) (v := ?_) (a' := ?_) #[zT, zT, zT, zT, zT, zT, zT, zT, zT, zT, zT, zT, zT, zT, zT, zT, zT, zT, zT, zT, zT, zT, zT, zF, zT, zT, zF, zF, zF, zF, zT, zF, zF, zF] rfl rfl (take_ofW HT_.out HW_.out (by kernel_rfl)) (fun _ _ _ h => h) (Or.inl ⟨by rfl, ?_⟩) hHeld ?_ ?_
            rotate_left
            ·rintro w' ⟨s0, s1, s2, s3, s4, s5, s6, s7, s8, s9, s10, s11, s12, s13, s14, s15, s16⟩
             go_simp
             with_reducible rfl
            rotate_left
            ·simp only [Act.put, zp1, zp2, zp3, i64_w, i32_w]
             rfl
            refine take_ (i := 23) (N := some 59) (v := ?_) (a' := ?_) #[zT, zT, zT, zT, zT, zT, zT, zT, zT, zT, zT, zT, zT, zT, zT, zT, zT, zT, zT, zT, zT, zT, zT, zT, zT, zT, zF, zF, zF, zF, zT, zF, zF, zF] rfl rfl (take_ofW HT_.out HW_.out (by kernel_rfl)) (fun _ _ _ h => h) (Or.inl ⟨by rfl, ?_⟩) hHeld ?_ ?_
            rotate_left
            ·rintro w' ⟨s0, s1, s2, s3, s4, s5, s6, s7, s8, s9, s10, s11, s12, s13, s14, s15, s16⟩
             go_simp
             with_reducible rfl
            rotate_left
            ·simp only [Act.put, zp1, zp2, zp3, i64_w, i32_w]
             rfl
            refine pure_ (i := 26) (N := some 62) (v := ?_) (a' := ?_) #[zT, zT, zT, zT, zT, zT, zT, zT, zT, zT, zT, zT, zT, zT, zT, zT, zT, zT, zT, zT, zT, zT, zT, zT, zT, zT, zT, zF, zF, zF, zT, zF, zF, zF] rfl rfl (any_of HT_.out (by kernel_rfl)) (fun _ _ _ h => h) (Or.inl ⟨by rfl, ?_⟩) ?_ ?_
            rotate_left
            ·intro w'
             go_simp
             with_reducible rfl
            rotate_left
            ·simp only [Act.put, zp1, zp2, zp3, i64_w, i32_w]
             rfl
            refine pure_ (i := 27) (N := some 63) (v := ?_) (a' := ?_) #[zT, zT, zT, zT, zT, zT, zT, zT, zT, zT, zT, zT, zT, zT, zT, zT, zT, zT, zT, zT, zT, zT, zT, zT, zT, zT, zT, zT, zF, zF, zT, zF, zF, zF] rfl rfl (any_of HT_.out (by kernel_rfl)) (fun _ _ _ h => h) (Or.inl ⟨by rfl, ?_⟩) ?_ ?_
            rotate_left
            ·intro w'
             go_simp
             with_reducible rfl
            rotate_left
            ·simp only [Act.put, zp1, zp2, zp3, i64_w, i32_w]
             rfl
            refine take_ (i := 28) (N := some 64) (v := ?_) (a' := ?_) #[zT, zT, zT, zT, zT, zT, zT, zT, zT, zT, zT, zT, zT, zT, zT, zT, zT, zT, zT, zT, zT, zT, zT, zT, zT, zT, zT, zT, zT, zF, zT, zF, zF, zF] rfl rfl (take_ofW HT_.out HW_.out (by kernel_rfl)) (fun _ _ _ h => h) (Or.inl ⟨by rfl, ?_⟩) hHeld ?_ ?_
            rotate_left
            ·rintro w' ⟨s0, s1, s2, s3, s4, s5, s6, s7, s8, s9, s10, s11, s12, s13, s14, s15, s16⟩
             go_simp
             with_reducible rfl
            rotate_left
            ·simp only [Act.put, zp1, zp2, zp3, i64_w, i32_w]
             rfl
            refine pure_ (i := 29) (N := some 65) (v := ?_) (a' := ?_) #[zT, zT, zT, zT, zT, zT, zT, zT, zT, zT, zT, zT, zT, zT, zT, zT, zT, zT, zT, zT, zT, zT, zT, zT, zT, zT, zT, zT, zT, zT, zT, zF, zF, zF] rfl rfl (any_of HT_.out (by kernel_rfl)) (fun _ _ _ h => h) (Or.inl ⟨by rfl, ?_⟩) ?_ ?_
            rotate_left
            ·intro w'
             go_simp
             with_reducible rfl
            rotate_left
            ·simp only [Act.put, zp1, zp2, zp3, i64_w, i32_w]
             rfl
            refine take_ (i := 31) (N := some 67) (v := ?_) (a' := ?_) #[zT, zT, zT, zT, zT, zT, zT, zT, zT, zT, zT, zT, zT, zT, zT, zT, zT, zT, zT, zT, zT, zT, zT, zT, zT, zT, zT, zT, zT, zT, zT, zT, zF, zF] rfl rfl (take_ofW HT_.out HW_.out (by kernel_rfl)) (fun _ _ _ h => h) (Or.inl ⟨by rfl, ?_⟩) hHeld ?_ ?_
            rotate_left
            ·rintro w' ⟨s0, s1, s2, s3, s4, s5, s6, s7, s8, s9, s10, s11, s12, s13, s14, s15, s16⟩
             go_simp
             with_reducible rfl
            rotate_left
            ·simp only [Act.put, zp1, zp2, zp3, i64_w, i32_w]
             rfl
            refine pure_ (i := 32) (N := some 68) (v := ?_) (a' := ?_) #[zT, zT, zT, zT, zT, zT, zT, zT, zT, zT, zT, zT, zT, zT, zT, zT, zT, zT, zT, zT, zT, zT, zT, zT, zT, zT, zT, zT, zT, zT, zT, zT, zT, zF] rfl rfl (any_of HT_.out (by kernel_rfl)) (fun _ _ _ h => h) (Or.inl ⟨by rfl, ?_⟩) ?_ ?_
            rotate_left
            ·intro w'
             go_simp
             with_reducible rfl
            rotate_left
            ·simp only [Act.put, zp1, zp2, zp3, i64_w, i32_w]
             rfl
            refine pure_ (i := 33) (N := some 69) (v := ?_) (a' := ?_) #[zT, zT, zT, zT, zT, zT, zT, zT, zT, zT, zT, zT, zT, zT, zT, zT, zT, zT, zT, zT, zT, zT, zT, zT, zT, zT, zT, zT, zT, zT, zT, zT, zT, zT] rfl rfl (any_of HT_.out (by kernel_rfl)) (fun _ _ _ h => h) (Or.inl ⟨by rfl, ?_⟩) ?_ ?_
            rotate_left
            ·intro w'
             go_simp
             with_reducible rfl
            rotate_left
            ·simp only [Act.put, zp1, zp2, zp3, i64_w, i32_w]
             rfl
            refine done_ (done_of HT_.out (by kernel_rfl)) ?_
            try go_wp2
            replace HO_198000 := Aside0.mk (Kd.R_drew HO_198000.out)
            replace BK190 := Aside0.mk (blk_drew BK190.out)
            replace BK191 := Aside0.mk (blk_drew BK191.out)
            replace BK192 := Aside0.mk (blk_drew BK192.out)
            replace BK197 := Aside0.mk (blk_drew BK197.out)
            replace BK199 := Aside0.mk (blk_drew BK199.out)
            replace HB := Aside0.mk (below_drew1 HB.out)
            have p203 : 0 ≤ ((ji42) : Int) := of_decide_eq_true (by first | (with_reducible assumption) | assumption)
            have q203 : (ji42) < (x198000_1.length : Int) := of_decide_eq_true (by first | (with_reducible assumption) | assumption)
            obtain ⟨ad203, e203, hx203_0, hx203_1, hx203_2, hx203_3⟩ := at_T61 (Kd.R_reads' HO_198000.out).2.2 (ji42) p203 q203
            obtain rfl : ad200 = ad203 := (by injection e203)
            replace p203 := eq_true p203
            replace q203 := eq_true q203
            refine start_ (n := 11) (S := fun w' => w'.cell? ⟨gb197, 0, none⟩ = some (.slice (some ad200) x198000_1.length co53) ∧ w'.cell? ⟨gb199, 0, none⟩ = some (.int .i64 ((rd_T61 l1_0 x7_1).f0)) ∧ w'.cell? ⟨gb199, 1, none⟩ = some (.int .i64 ((rd_T61 l1_0 x7_1).f1)) ∧ w'.cell? ⟨gb199, 2, none⟩ = some (.int .i64 ((rd_T61 l1_0 x7_1).f2)) ∧ w'.cell? ⟨gb199, 3, none⟩ = some (.int .i64 ((rd_T61 l1_0 x7_1).f3)) ∧ w'.cell? (ad200.add (((ji42)).toNat * 4)) = some (.int .i64 ((rd_T61 x198000_1 (ji42)).f0)) ∧ w'.cell? ⟨(ad200.add (((ji42)).toNat * 4)).block, (ad200.add (((ji42)).toNat * 4)).off + 1, none⟩ = some (.int .i64 ((rd_T61 x198000_1 (ji42)).f1)) ∧ w'.cell? ⟨(ad200.add (((ji42)).toNat * 4)).block, (ad200.add (((ji42)).toNat * 4)).off + 2, none⟩ = some (.int .i64 ((rd_T61 x198000_1 (ji42)).f2)) ∧ w'.cell? ⟨(ad200.add (((ji42)).toNat * 4)).block, (ad200.add (((ji42)).toNat * 4)).off + 3, none⟩ = some (.int .i64 ((rd_T61 x198000_1 (ji42)).f3))) (ds := []) #[zF, zF, zF, zF, zF, zF, zF, zF, zF, zF, zF] (by kernel_rfl) rfl rfl ⟨zc0 BK197 0 rfl, zc0 BK199 0 rfl, zc0 BK199 1 rfl, zc0 BK199 2 rfl, zc0 BK199 3 rfl, hx203_0, hx203_1, hx203_2, hx203_3⟩ (fun hHeld => ?_); refine with_tabW spec_MergeParts.tab10 spec_MergeParts.bits10 (fun HT_ HW_ => ?_)
            generalize w65.drew = w66 at HO_198000 BK190 BK191 BK192 BK197 BK199 HB hx203_0 hx203_1 hx203_2 hx203_3 hHeld ⊢
            refine pure_ (i := 0) (N := some 70) (v := ?_) (a' := ?_) #[zT, zF, zF, zF, zF, zF, zF, zF, zF, zF, zF] rfl rfl (any_of HT_.out (by kernel_rfl)) (fun _ _ _ h => h) (Or.inl ⟨by rfl, ?_⟩) ?_ ?_
            rotate_left
            ·intro w'
             go_simp
             with_reducible rfl
            rotate_left
            ·simp only [Act.put, zp1, zp2, zp3, i64_w, i32_w]
             rfl
            refine pure_ (i := 2) (N := some 72) (v := ?_) (a' := ?_) #[zT, zF, zT, zF, zF, zF, zF, zF, zF, zF, zF] rfl rfl (any_of HT_.out (by kernel_rfl)) (fun _ _ _ h => h) (Or.inl ⟨by rfl, ?_⟩) ?_ ?_
            rotate_left
            ·intro w'
             go_simp
             with_reducible rfl
            rotate_left
            ·simp only [Act.put, zp1, zp2, zp3, i64_w, i32_w]
             rfl
            refine pure_ (i := 3) (N := some 73) (v := ?_) (a' := ?_) #[zT, zF, zT, zT, zF, zF, zF, zF, zF, zF, zF] rfl rfl (any_of HT_.out (by kernel_rfl)) (fun _ _ _ h => h) (Or.inl ⟨by rfl, ?_⟩) ?_ ?_
            rotate_left
            ·intro w'
             go_simp
             with_reducible rfl
            rotate_left
            ·simp only [Act.put, zp1, zp2, zp3, i64_w, i32_w]
             rfl
            refine pure_ (i := 7) (N := some 77) (v := ?_) (a' := ?_) #[zT, zF, zT, zT, zF, zF, zF, zT, zF, zF, zF] rfl rfl (any_of HT_.out (by kernel_rfl)) (fun _ _ _ h => h) (Or.inl ⟨by rfl, ?_⟩) ?_ ?_
            rotate_left
            ·intro w'
             go_simp
             with_reducible rfl
            rotate_left
            ·simp only [Act.put, zp1, zp2, zp3, i64_w, i32_w]
             rfl
            refine take_ (i := 1) (N := some 71) (v := ?_) (a' := ?_) #[zT, zT, zT, zT, zF, zF, zF, zT, zF, zF, zF] rfl rfl (take_ofW HT_.out HW_.out (by kernel_rfl)) (fun _ _ _ h => h) (Or.inl ⟨by rfl, ?_⟩) hHeld ?_ ?_
            rotate_left
            ·rintro w' ⟨s0, s1, s2, s3, s4, s5, s6, s7, s8⟩
             go_simp
             with_reducible rfl
            rotate_left
            ·simp only [Act.put, zp1, zp2, zp3, i64_w, i32_w]
             rfl
            refine pure_ (i := 4) (N := some 74) (v := ?_) (a' := ?_) #[zT, zT, zT, zT, zT, zF, zF, zT, zF, zF, zF] rfl rfl (any_of HT_.out (by kernel_rfl)) (fun _ _ _ h => h) (Or.inl ⟨by rfl, ?_⟩) ?_ ?_
            rotate_left
            ·intro w'
             go_simp
             with_reducible rfl
            rotate_left
            ·simp only [Act.put, zp1, zp2, zp3, i64_w, i32_w]
             rfl
            refine pure_ (i := 5) (N := some 75) (v := ?_) (a' := ?_) #[zT, zT, zT, zT, zT, zT, zF, zT, zF, zF, zF] rfl rfl (any_of HT_.out (by kernel_rfl)) (fun _ _ _ h => h) (Or.inl ⟨by rfl, ?_⟩) ?_ ?_
            rotate_left
            ·intro w'
             go_simp
             with_reducible rfl
            rotate_left
            ·simp only [Act.put, zp1, zp2, zp3, i64_w, i32_w]
             rfl
            refine take_ (i := 6) (N := some 76) (v := ?_) (a' := ?_) #[zT, zT, zT, zT, zT, zT, zT, zT, zF, zF, zF] rfl rfl (take_ofW HT_.out HW_.out (by kernel_rfl)) (fun _ _ _ h => h) (Or.inl ⟨by rfl, ?_⟩) hHeld ?_ ?_
            rotate_left
            ·rintro w' ⟨s0, s1, s2, s3, s4, s5, s6, s7, s8⟩
             go_simp
             with_reducible rfl
            rotate_left
            ·simp only [Act.put, zp1, zp2, zp3, i64_w, i32_w]
             rfl
            refine take_ (i := 8) (N := some 78) (v := ?_) (a' := ?_) #[zT, zT, zT, zT, zT, zT, zT, zT, zT, zF, zF] rfl rfl (take_ofW HT_.out HW_.out (by kernel_rfl)) (fun _ _ _ h => h) (Or.inl ⟨by rfl, ?_⟩) hHeld ?_ ?_
            rotate_left
            ·rintro w' ⟨s0, s1, s2, s3, s4, s5, s6, s7, s8⟩
             go_simp
             with_reducible rfl
            rotate_left
            ·simp only [Act.put, zp1, zp2, zp3, i64_w, i32_w]
             rfl
            refine pure_ (i := 9) (N := some 79) (v := ?_) (a' := ?_) #[zT, zT, zT, zT, zT, zT, zT, zT, zT, zT, zF] rfl rfl (any_of HT_.out (by kernel_rfl)) (fun _ _ _ h => h) (Or.inl ⟨by rfl, ?_⟩) ?_ ?_
            rotate_left
            ·intro w'
             go_simp
             with_reducible rfl
            rotate_left
            ·simp only [Act.put, zp1, zp2, zp3, i64_w, i32_w]
             rfl
            refine pure_ (i := 10) (N := some 10) (v := ?_) (a' := ?_) #[zT, zT, zT, zT, zT, zT, zT, zT, zT, zT, zT] rfl rfl (any_of HT_.out (by kernel_rfl)) (fun _ _ _ h => h) (Or.inl ⟨by rfl, ?_⟩) ?_ ?_
            rotate_left
            ·intro w'
             go_simp
             with_reducible rfl
            rotate_left
            ·simp only [Act.put, zp1, zp2, zp3, i64_w, i32_w]
             rfl
            refine done_ (done_of HT_.out (by kernel_rfl)) ?_
            try go_wp2
            replace HO_198000 := Aside0.mk (Kd.R_drew HO_198000.out)
            replace BK190 := Aside0.mk (blk_drew BK190.out)
            replace BK191 := Aside0.mk (blk_drew BK191.out)
            replace BK192 := Aside0.mk (blk_drew BK192.out)
            replace BK197 := Aside0.mk (blk_drew BK197.out)
            replace BK199 := Aside0.mk (blk_drew BK199.out)
            replace HB := Aside0.mk (below_drew1 HB.out)
            have p204 : 0 ≤ ((ji42) : Int) := of_decide_eq_true (by first | (with_reducible assumption) | assumption)
            have q204 : (ji42) < (x198000_1.length : Int) := of_decide_eq_true (by first | (with_reducible assumption) | assumption)
            obtain ⟨ad204, e204, hx204_0, hx204_1, hx204_2, hx204_3⟩ := at_T61 (Kd.R_reads' HO_198000.out).2.2 (ji42) p204 q204
            obtain rfl : ad200 = ad204 := (by injection e204)
            replace p204 := eq_true p204
            replace q204 := eq_true q204
            have p47 : 0 ≤ ((ji42) : Int) := of_decide_eq_true (by first | (with_reducible assumption) | assumption)
            have q47 : ((ji42) : Int) < ((x198000_1.length : Int) : Int) := of_decide_eq_true (by first | (with_reducible assumption) | assumption)
            obtain ⟨go47, co47, eo47, gb47, gl47, cl47, HG47⟩ := Kd.R_form HO_198000.out (by omega)
            (first | cases eo47 | (injection eo47 with ea_ en_ ec_; (first | subst ea_ | (injection ea_ with ea_; subst ea_)); subst ec_; clear en_))
            have GB47 := Aside0.mk gb47
            have GG47 := Aside0.mk HG47
            clear gb47 gl47 HG47
            (first | simp only [add_plain] at hx200_0 | skip)
            (first | simp only [add_plain] at hx200_1 | skip)
            (first | simp only [add_plain] at hx200_2 | skip)
            (first | simp only [add_plain] at hx200_3 | skip)
            (first | simp only [add_plain] at hx201_0 | skip)
            (first | simp only [add_plain] at hx201_1 | skip)
            (first | simp only [add_plain] at hx201_2 | skip)
            (first | simp only [add_plain] at hx201_3 | skip)
            (first | simp only [add_plain] at hx202_0 | skip)
            (first | simp only [add_plain] at hx202_1 | skip)
            (first | simp only [add_plain] at hx202_2 | skip)
            (first | simp only [add_plain] at hx202_3 | skip)
            (first | simp only [add_plain] at hx203_0 | skip)
            (first | simp only [add_plain] at hx203_1 | skip)
            (first | simp only [add_plain] at hx203_2 | skip)
            (first | simp only [add_plain] at hx203_3 | skip)
            (first | simp only [add_plain] at hx204_0 | skip)
            (first | simp only [add_plain] at hx204_1 | skip)
            (first | simp only [add_plain] at hx204_2 | skip)
            (first | simp only [add_plain] at hx204_3 | skip)
            obtain ⟨ce47, hcl47, hM47, hcc47, hfr47⟩ := Kd.R_elem HO_198000.out z61 ((ji42) : Int) p47 q47
            obtain rfl := k61_openM hM47
            have hx47_0 : World.cell? _ ⟨go47, ((ji42) : Int).toNat * 4, none⟩ = some (.int .i64 ((rd_T61 x198000_1 (ji42)).f0)) := hcc47 0 _ rfl
            have hx47_1 : World.cell? _ ⟨go47, ((ji42) : Int).toNat * 4 + 1, none⟩ = some (.int .i64 ((rd_T61 x198000_1 (ji42)).f1)) := hcc47 1 _ rfl
            have hx47_2 : World.cell? _ ⟨go47, ((ji42) : Int).toNat * 4 + 2, none⟩ = some (.int .i64 ((rd_T61 x198000_1 (ji42)).f2)) := hcc47 2 _ rfl
            have hx47_3 : World.cell? _ ⟨go47, ((ji42) : Int).toNat * 4 + 3, none⟩ = some (.int .i64 ((rd_T61 x198000_1 (ji42)).f3)) := hcc47 3 _ rfl
            have hf47_0 : World.frozen? _ ⟨go47, ((ji42) : Int).toNat * 4, none⟩ = false := hfr47 0
            have hf47_1 : World.frozen? _ ⟨go47, ((ji42) : Int).toNat * 4 + 1, none⟩ = false := hfr47 1
            have hf47_2 : World.frozen? _ ⟨go47, ((ji42) : Int).toNat * 4 + 2, none⟩ = false := hfr47 2
            have hf47_3 : World.frozen? _ ⟨go47, ((ji42) : Int).toNat * 4 + 3, none⟩ = false := hfr47 3
            clear hcl47 hcc47 hfr47; (try clear hM47)
            replace p47 := eq_true p47
            replace q47 := eq_true q47
            obtain ⟨ce68, hcl68, hM68, hcc68, hfr68⟩ := Kd.R_elem HO_198000.out z61 ((ji42) : Int) (of_decide_eq_true (by first | (with_reducible assumption) | assumption)) (by have h_ : ((ji42) : Int) < ((x198000_1.length : Int) : Int) := of_decide_eq_true (by first | (with_reducible assumption) | assumption); first | exact h_ | (have e_ := (Kd.R_reads' HO_198000.out).1; omega) | simpa using h_)
            obtain rfl := k61_openM hM68
            have HP68 := (Kd.R_seg HO_198000.out ((ji42) : Int) (of_decide_eq_true (by first | (with_reducible assumption) | assumption)) (by have h_ : ((ji42) : Int) < ((x198000_1.length : Int) : Int) := of_decide_eq_true (by first | (with_reducible assumption) | assumption); first | exact h_ | (have e_ := (Kd.R_reads' HO_198000.out).1; omega) | simpa using h_) (seg := [.int .i64 ((rd_T61 l1_0 x7_1).f0), .int .i64 ((rd_T61 x198000_1 (ji42)).f1), .int .i64 (wrap64 (((rd_T61 x198000_1 (ji42)).f2) + ((rd_T61 l1_0 x7_1).f2))), .int .i64 (wrap64 (((rd_T61 x198000_1 (ji42)).f2) + ((rd_T61 l1_0 x7_1).f2)))]) (j := 0) hcl68 hcc68 (show 4 ≤ 4 from by decide) (x' := (⟨(rd_T61 l1_0 x7_1).f0, (rd_T61 x198000_1 (ji42)).f1, wrap64 (((rd_T61 x198000_1 (ji42)).f2) + ((rd_T61 l1_0 x7_1).f2)), wrap64 (((rd_T61 x198000_1 (ji42)).f2) + ((rd_T61 l1_0 x7_1).f2))⟩ : S61)) (k61_mkM _ _ _ (⟨(rd_T61 l1_0 x7_1).f0, (rd_T61 x198000_1 (ji42)).f1, wrap64 (((rd_T61 x198000_1 (ji42)).f2) + ((rd_T61 l1_0 x7_1).f2)), wrap64 (((rd_T61 x198000_1 (ji42)).f2) + ((rd_T61 l1_0 x7_1).f2))⟩ : S61) ) (fun _ hk => hk)).1
            rw [← Ny205.out] at HP68
            have HQ68 := Aside0.mk HP68
            clear hcl68 hcc68 hfr68 HP68; (try clear hM68)
            refine start_ (n := 18) (S := fun w' => w'.cell? ⟨gb197, 0, none⟩ = some (.slice (some ⟨go47, 0, none⟩) x198000_1.length co53) ∧ w'.cell? ⟨gb199, 0, none⟩ = some (.int .i64 ((rd_T61 l1_0 x7_1).f0)) ∧ w'.cell? ⟨gb199, 1, none⟩ = some (.int .i64 ((rd_T61 l1_0 x7_1).f1)) ∧ w'.cell? ⟨gb199, 2, none⟩ = some (.int .i64 ((rd_T61 l1_0 x7_1).f2)) ∧ w'.cell? ⟨gb199, 3, none⟩ = some (.int .i64 ((rd_T61 l1_0 x7_1).f3)) ∧ w'.cell? ⟨go47, ((ji42)).toNat * 4, none⟩ = some (.int .i64 ((rd_T61 x198000_1 (ji42)).f0)) ∧ w'.cell? ⟨go47, ((ji42)).toNat * 4 + 1, none⟩ = some (.int .i64 ((rd_T61 x198000_1 (ji42)).f1)) ∧ w'.cell? ⟨go47, ((ji42)).toNat * 4 + 2, none⟩ = some (.int .i64 ((rd_T61 x198000_1 (ji42)).f2)) ∧ w'.cell? ⟨go47, ((ji42)).toNat * 4 + 3, none⟩ = some (.int .i64 ((rd_T61 x198000_1 (ji42)).f3))) (ds := [17]) #[zF, zF, zF, zF, zF, zF, zF, zF, zF, zF, zF, zF, zF, zF, zF, zF, zF, zF] (by kernel_rfl) rfl rfl ⟨zc0 BK197 0 rfl, zc0 BK199 0 rfl, zc0 BK199 1 rfl, zc0 BK199 2 rfl, zc0 BK199 3 rfl, hx204_0, hx204_1, hx204_2, hx204_3⟩ (fun hHeld => ?_); refine with_tabW spec_MergeParts.tab11 spec_MergeParts.bits11 (fun HT_ HW_ => ?_)
            generalize w66.drew = w67 at HO_198000 BK190 BK191 BK192 BK197 BK199 HB GG47 HQ68 hf47_0 hf47_1 hf47_2 hf47_3 hx200_0 hx200_1 hx200_2 hx200_3 hx201_0 hx201_1 hx201_2 hx201_3 hx202_0 hx202_1 hx202_2 hx202_3 hx203_0 hx203_1 hx203_2 hx203_3 hx204_0 hx204_1 hx204_2 hx204_3 hx47_0 hx47_1 hx47_2 hx47_3 hHeld ⊢
            refine pure_ (i := 0) (N := some 80) (v := ?_) (a' := ?_) #[zT, zF, zF, zF, zF, zF, zF, zF, zF, zF, zF, zF, zF, zF, zF, zF, zF, zF] rfl rfl (any_of HT_.out (by kernel_rfl)) (fun _ _ _ h => h) (Or.inl ⟨by rfl, ?_⟩) ?_ ?_
            rotate_left
            ·intro w'
             go_simp
             with_reducible rfl
            rotate_left
            ·simp only [Act.put, zp1, zp2, zp3, i64_w, i32_w]
             rfl
            refine pure_ (i := 2) (N := some 82) (v := ?_) (a' := ?_) #[zT, zF, zT, zF, zF, zF, zF, zF, zF, zF, zF, zF, zF, zF, zF, zF, zF, zF] rfl rfl (any_of HT_.out (by kernel_rfl)) (fun _ _ _ h => h) (Or.inl ⟨by rfl, ?_⟩) ?_ ?_
            rotate_left
            ·intro w'
             go_simp
             with_reducible rfl
            rotate_left
            ·simp only [Act.put, zp1, zp2, zp3, i64_w, i32_w]
             rfl
            refine pure_ (i := 3) (N := some 83) (v := ?_) (a' := ?_) #[zT, zF, zT, zT, zF, zF, zF, zF, zF, zF, zF, zF, zF, zF, zF, zF, zF, zF] rfl rfl (any_of HT_.out (by kernel_rfl)) (fun _ _ _ h => h) (Or.inl ⟨by rfl, ?_⟩) ?_ ?_
            rotate_left
            ·intro w'
             go_simp
             with_reducible rfl
            rotate_left
            ·simp only [Act.put, zp1, zp2, zp3, i64_w, i32_w]
             rfl
            refine pure_ (i := 4) (N := some 84) (v := ?_) (a' := ?_) #[zT, zF, zT, zT, zT, zF, zF, zF, zF, zF, zF, zF, zF, zF, zF, zF, zF, zF] rfl rfl (any_of HT_.out (by kernel_rfl)) (fun _ _ _ h => h) (Or.inl ⟨by rfl, ?_⟩) ?_ ?_
            rotate_left
            ·intro w'
             go_simp
             with_reducible rfl
            rotate_left
            ·simp only [Act.put, zp1, zp2, zp3, i64_w, i32_w]
             rfl
            refine pure_ (i := 6) (N := some 86) (v := ?_) (a' := ?_) #[zT, zF, zT, zT, zT, zF, zT, zF, zF, zF, zF, zF, zF, zF, zF, zF, zF, zF] rfl rfl (any_of HT_.out (by kernel_rfl)) (fun _ _ _ h => h) (Or.inl ⟨by rfl, ?_⟩) ?_ ?_
            rotate_left
            ·intro w'
             go_simp
             with_reducible rfl
            rotate_left
            ·simp only [Act.put, zp1, zp2, zp3, i64_w, i32_w]
             rfl
            refine pure_ (i := 8) (N := some 88) (v := ?_) (a' := ?_) #[zT, zF, zT, zT, zT, zF, zT, zF, zT, zF, zF, zF, zF, zF, zF, zF, zF, zF] rfl rfl (any_of HT_.out (by kernel_rfl)) (fun _ _ _ h => h) (Or.inl ⟨by rfl, ?_⟩) ?_ ?_
            rotate_left
            ·intro w'
             go_simp
             with_reducible rfl
            rotate_left
            ·simp only [Act.put, zp1, zp2, zp3, i64_w, i32_w]
             rfl
            refine pure_ (i := 9) (N := some 89) (v := ?_) (a' := ?_) #[zT, zF, zT, zT, zT, zF, zT, zF, zT, zT, zF, zF, zF, zF, zF, zF, zF, zF] rfl rfl (any_of HT_.out (by kernel_rfl)) (fun _ _ _ h => h) (Or.inl ⟨by rfl, ?_⟩) ?_ ?_
            rotate_left
            ·intro w'
             go_simp
             with_reducible rfl
            rotate_left
            ·simp only [Act.put, zp1, zp2, zp3, i64_w, i32_w]
             rfl
            refine pure_ (i := 13) (N := some 93) (v := ?_) (a' := ?_) #[zT, zF, zT, zT, zT, zF, zT, zF, zT, zT, zF, zF, zF, zT, zF, zF, zF, zF] rfl rfl (any_of HT_.out (by kernel_rfl)) (fun _ _ _ h => h) (Or.inl ⟨by rfl, ?_⟩) ?_ ?_
            rotate_left
            ·intro w'
             go_simp
             with_reducible rfl
            rotate_left
            ·simp only [Act.put, zp1, zp2, zp3, i64_w, i32_w]
             rfl
            refine pure_ (i := 14) (N := some 94) (v := ?_) (a' := ?_) #[zT, zF, zT, zT, zT, zF, zT, zF, zT, zT, zF, zF, zF, zT, zT, zF, zF, zF] rfl rfl (any_of HT_.out (by kernel_rfl)) (fun _ _ _ h => h) (Or.inl ⟨by rfl, ?_⟩) ?_ ?_
            rotate_left
            ·intro w'
             go_simp
             with_reducible rfl
            rotate_left
            ·simp only [Act.put, zp1, zp2, zp3, i64_w, i32_w]
             rfl
            refine take_ (i := 1) (N := some 81) (v := ?_) (a' := ?_) #[zT, zT, zT, zT, zT, zF, zT, zF, zT, zT, zF, zF, zF, zT, zT, zF, zF, zF] rfl rfl (take_ofW HT_.out HW_.out (by kernel_rfl)) (fun _ _ _ h => h) (Or.inl ⟨by rfl, ?_⟩) hHeld ?_ ?_
            rotate_left
            ·rintro w' ⟨s0, s1, s2, s3, s4, s5, s6, s7, s8⟩
             go_simp
             with_reducible rfl
            rotate_left
            ·simp only [Act.put, zp1, zp2, zp3, i64_w, i32_w]
             rfl
            refine take_ (i := 5) (N := some 85) (v := ?_) (a' := ?_) #[zT, zT, zT, zT, zT, zT, zT, zF, zT, zT, zF, zF, zF, zT, zT, zF, zF, zF] rfl rfl (take_ofW HT_.out HW_.out (by kernel_rfl)) (fun _ _ _ h => h) (Or.inl ⟨by rfl, ?_⟩) hHeld ?_ ?_
            rotate_left
            ·rintro w' ⟨s0, s1, s2, s3, s4, s5, s6, s7, s8⟩
             go_simp
             with_reducible rfl
            rotate_left
            ·simp only [Act.put, zp1, zp2, zp3, i64_w, i32_w]
             rfl
            refine take_ (i := 7) (N := some 87) (v := ?_) (a' := ?_) #[zT, zT, zT, zT, zT, zT, zT, zT, zT, zT, zF, zF, zF, zT, zT, zF, zF, zF] rfl rfl (take_ofW HT_.out HW_.out (by kernel_rfl)) (fun _ _ _ h => h) (Or.inl ⟨by rfl, ?_⟩) hHeld ?_ ?_
            rotate_left
            ·rintro w' ⟨s0, s1, s2, s3, s4, s5, s6, s7, s8⟩
             go_simp
             with_reducible rfl
            rotate_left
            ·simp only [Act.put, zp1, zp2, zp3, i64_w, i32_w]
             rfl
            refine pure_ (i := 10) (N := some 90) (v := ?_) (a' := ?_) #[zT, zT, zT, zT, zT, zT, zT, zT, zT, zT, zT, zF, zF, zT, zT, zF, zF, zF] rfl rfl (any_of HT_.out (by kernel_rfl)) (fun _ _ _ h => h) (Or.inl ⟨by rfl, ?_⟩) ?_ ?_
            rotate_left
            ·intro w'
             go_simp
             with_reducible rfl
            rotate_left
            ·simp only [Act.put, zp1, zp2, zp3, i64_w, i32_w]
             rfl
            refine pure_ (i := 11) (N := some 91) (v := ?_) (a' := ?_) #[zT, zT, zT, zT, zT, zT, zT, zT, zT, zT, zT, zT, zF, zT, zT, zF, zF, zF] rfl rfl (any_of HT_.out (by kernel_rfl)) (fun _ _ _ h => h) (Or.inl ⟨by rfl, ?_⟩) ?_ ?_
            rotate_left
            ·intro w'
             go_simp
             with_reducible rfl
            rotate_left
            ·simp only [Act.put, zp1, zp2, zp3, i64_w, i32_w]
             rfl
            refine take_ (i := 12) (N := some 92) (v := ?_) (a' := ?_) #[zT, zT, zT, zT, zT, zT, zT, zT, zT, zT, zT, zT, zT, zT, zT, zF, zF, zF] rfl rfl (take_ofW HT_.out HW_.out (by kernel_rfl)) (fun _ _ _ h => h) (Or.inl ⟨by rfl, ?_⟩) hHeld ?_ ?_
            rotate_left
            ·rintro w' ⟨s0, s1, s2, s3, s4, s5, s6, s7, s8⟩
             go_simp
             with_reducible rfl
            rotate_left
            ·simp only [Act.put, zp1, zp2, zp3, i64_w, i32_w]
             rfl
            refine pure_ (i := 15) (N := some 95) (v := ?_) (a' := ?_) #[zT, zT, zT, zT, zT, zT, zT, zT, zT, zT, zT, zT, zT, zT, zT, zT, zF, zF] rfl rfl (any_of HT_.out (by kernel_rfl)) (fun _ _ _ h => h) (Or.inl ⟨by rfl, ?_⟩) ?_ ?_
            rotate_left
            ·intro w'
             go_simp
             with_reducible rfl
            rotate_left
            ·simp only [Act.put, zp1, zp2, zp3, i64_w, i32_w]
             rfl
            refine pure_ (i := 16) (N := some 96) (v := ?_) (a' := ?_) #[zT, zT, zT, zT, zT, zT, zT, zT, zT, zT, zT, zT, zT, zT, zT, zT, zT, zF] rfl rfl (any_of HT_.out (by kernel_rfl)) (fun _ _ _ h => h) (Or.inl ⟨by rfl, ?_⟩) ?_ ?_
            rotate_left
            ·intro w'
             go_simp
             with_reducible rfl
            rotate_left
            ·simp only [Act.put, zp1, zp2, zp3, i64_w, i32_w]
             rfl
            refine last_ (i := 17) (N := none) #[zT, zT, zT, zT, zT, zT, zT, zT, zT, zT, zT, zT, zT, zT, zT, zT, zT, zT] rfl rfl (one_of HT_.out (by kernel_rfl)) (by decide) (fun K hK => ?_)
            refine skip_ (w1 := ?_) (by rfl) rfl ?_ ?_
            rotate_left
            ·go_simp
             rfl
            refine hK.out _ _ ?_
            clear hK K
            refine done_ (done_of HT_.out (by kernel_rfl)) ?_
            try go_wp2
            go_roundg k1
            case measure => have := HK1.out; omega
            case rel => exact ⟨(wrap64 (x7_1 + 1)), (y205), (.slice (some ⟨go47, 0, none⟩) x198000_1.length co53), (by first | rfl | (simp; done) | (simp [*]; done)), H', ⟨by have := HK1.out; omega⟩, ⟨by (with_reducible repeat (first | apply Kd.R_alloc | apply Kd.R_drewN | apply Kd.R_drew)); exact Kd.R_mono HQ68.out (fun _ hk => trivial)⟩, ⟨by (with_reducible repeat (first | refine blk_drewN ?_ _ | refine blk_drew ?_ | refine blk_alloc ?_ _)); refine blk_far ?_ (by have h_ := Kd.R_ne HO_198000.out BK190.out (by decide); intro e_; exact h_ (by rw [e_]; rfl)) _; (with_reducible repeat (first | refine blk_drewN ?_ _ | refine blk_drew ?_ | refine blk_alloc ?_ _)); refine blk_far ?_ (by have h_ := Kd.R_ne HO_198000.out BK190.out (by decide); intro e_; exact h_ (by rw [e_]; rfl)) _; (with_reducible repeat (first | refine blk_drewN ?_ _ | refine blk_drew ?_ | refine blk_alloc ?_ _)); refine blk_far ?_ (by have h_ := Kd.R_ne HO_198000.out BK190.out (by decide); intro e_; exact h_ (by rw [e_]; rfl)) _; (with_reducible repeat (first | refine blk_drewN ?_ _ | refine blk_drew ?_ | refine blk_alloc ?_ _)); refine blk_far ?_ (by have h_ := Kd.R_ne HO_198000.out BK190.out (by decide); intro e_; exact h_ (by rw [e_]; rfl)) _; (with_reducible repeat (first | refine blk_drewN ?_ _ | refine blk_drew ?_ | refine blk_alloc ?_ _)); exact BK190.out⟩, ⟨by (with_reducible repeat (first | refine blk_drewN ?_ _ | refine blk_drew ?_ | refine blk_alloc ?_ _)); refine blk_far ?_ (by have h_ := Kd.R_ne HO_198000.out BK191.out (by decide); intro e_; exact h_ (by rw [e_]; rfl)) _; (with_reducible repeat (first | refine blk_drewN ?_ _ | refine blk_drew ?_ | refine blk_alloc ?_ _)); refine blk_far ?_ (by have h_ := Kd.R_ne HO_198000.out BK191.out (by decide); intro e_; exact h_ (by rw [e_]; rfl)) _; (with_reducible repeat (first | refine blk_drewN ?_ _ | refine blk_drew ?_ | refine blk_alloc ?_ _)); refine blk_far ?_ (by have h_ := Kd.R_ne HO_198000.out BK191.out (by decide); intro e_; exact h_ (by rw [e_]; rfl)) _; (with_reducible repeat (first | refine blk_drewN ?_ _ | refine blk_drew ?_ | refine blk_alloc ?_ _)); refine blk_far ?_ (by have h_ := Kd.R_ne HO_198000.out BK191.out (by decide); intro e_; exact h_ (by rw [e_]; rfl)) _; (with_reducible repeat (first | refine blk_drewN ?_ _ | refine blk_drew ?_ | refine blk_alloc ?_ _)); exact BK191.out⟩, ⟨by (with_reducible repeat (first | refine blk_drewN ?_ _ | refine blk_drew ?_ | refine blk_alloc ?_ _)); refine blk_far ?_ (by have h_ := Kd.R_ne HO_198000.out BK192.out (by decide); intro e_; exact h_ (by rw [e_]; rfl)) _; (with_reducible repeat (first | refine blk_drewN ?_ _ | refine blk_drew ?_ | refine blk_alloc ?_ _)); refine blk_far ?_ (by have h_ := Kd.R_ne HO_198000.out BK192.out (by decide); intro e_; exact h_ (by rw [e_]; rfl)) _; (with_reducible repeat (first | refine blk_drewN ?_ _ | refine blk_drew ?_ | refine blk_alloc ?_ _)); refine blk_far ?_ (by have h_ := Kd.R_ne HO_198000.out BK192.out (by decide); intro e_; exact h_ (by rw [e_]; rfl)) _; (with_reducible repeat (first | refine blk_drewN ?_ _ | refine blk_drew ?_ | refine blk_alloc ?_ _)); refine blk_far ?_ (by have h_ := Kd.R_ne HO_198000.out BK192.out (by decide); intro e_; exact h_ (by rw [e_]; rfl)) _; (with_reducible repeat (first | refine blk_drewN ?_ _ | refine blk_drew ?_ | refine blk_alloc ?_ _)); exact BK192.out⟩, ⟨by (with_reducible repeat (first | refine blk_drewN ?_ _ | refine blk_drew ?_ | refine blk_alloc ?_ _)); refine blk_far ?_ (by have h_ := Kd.R_ne HO_198000.out BK197.out (by decide); intro e_; exact h_ (by rw [e_]; rfl)) _; (with_reducible repeat (first | refine blk_drewN ?_ _ | refine blk_drew ?_ | refine blk_alloc ?_ _)); refine blk_far ?_ (by have h_ := Kd.R_ne HO_198000.out BK197.out (by decide); intro e_; exact h_ (by rw [e_]; rfl)) _; (with_reducible repeat (first | refine blk_drewN ?_ _ | refine blk_drew ?_ | refine blk_alloc ?_ _)); refine blk_far ?_ (by have h_ := Kd.R_ne HO_198000.out BK197.out (by decide); intro e_; exact h_ (by rw [e_]; rfl)) _; (with_reducible repeat (first | refine blk_drewN ?_ _ | refine blk_drew ?_ | refine blk_alloc ?_ _)); refine blk_far ?_ (by have h_ := Kd.R_ne HO_198000.out BK197.out (by decide); intro e_; exact h_ (by rw [e_]; rfl)) _; (with_reducible repeat (first | refine blk_drewN ?_ _ | refine blk_drew ?_ | refine blk_alloc ?_ _)); exact BK197.out⟩, ⟨by repeat (first | (with_reducible first | exact HB.out | apply below_alloc | apply pw_below_drewN | apply below_drew1 | refine below_set ?_ GB47.out | refine below_set ?_ GB47.out | refine below_set ?_ GB47.out | refine below_set ?_ GB47.out | refine below_set ?_ GE190.out | refine below_set ?_ GE191.out | refine below_set ?_ GE192.out | refine below_set ?_ GE197.out | refine below_set ?_ GE199.out) | exact HB.out)⟩⟩
           ·rw [if_neg c46] at H
            have c46b0 : ((wrap64 (((rd_T61 x198000_1 (ji42)).f1) + ((rd_T61 x198000_1 (ji42)).f2))) == ((rd_T61 l1_0 x7_1).f1)) = false := beq_eq_false_iff_ne.mpr c46
            have c46b1 : ((wrap64 (((rd_T61 x198000_1 (ji42)).f1) + ((rd_T61 x198000_1 (ji42)).f2))) != ((rd_T61 l1_0 x7_1).f1)) = true := bne_iff_ne.mpr c46
            by_cases c69 : x198000_1.length < 4398046511104
            ·rw [if_pos c69] at H
             have LMc69 := Aside0.mk c69
             clear c69
             obtain ⟨y206, hy206⟩ : ∃ y_ : List (S61), y_ = (x198000_1 ++ [(⟨(rd_T61 l1_0 x7_1).f0, (rd_T61 l1_0 x7_1).f1, (rd_T61 l1_0 x7_1).f2, (rd_T61 l1_0 x7_1).f3⟩ : S61)]) := ⟨_, rfl⟩
             replace H : (spec_MergeParts.l0 k1 (wrap64 (x7_1 + 1)) l1_0 y206) = some (r1, r2) := by first | (rw [hy206]; with_reducible exact H) | (have H2_ := (Option.bind_some _ _).symm.trans H; rw [hy206]; with_reducible exact H2_) | (have H2_ := (Option.bind_some _ _).symm.trans H; with_reducible exact H2_) | with_reducible exact H | (rw [hy206]; exact H) | exact H
             have Ny206 := Aside0.mk hy206
             clear hy206
             have H' := Aside0.mk H
             clear H
             have hnb70 := NB191_190.out
             have hnc70 := NB190_191.out
             have hnb71 := NB191_192.out
             have hnc71 := NB192_191.out
             have hnb72 := NB191_197.out
             have hnc72 := NB197_191.out
             have hcz73_0 := zc0 BK191 0 rfl
             have hfz73_0 := blk_frozen BK191.out 0
             try go_wp2
             replace HO_198000 := Aside0.mk (Kd.R_drew HO_198000.out)
             replace BK190 := Aside0.mk (blk_drew BK190.out)
             replace BK191 := Aside0.mk (blk_drew BK191.out)
             replace BK192 := Aside0.mk (blk_drew BK192.out)
             replace BK197 := Aside0.mk (blk_drew BK197.out)
             replace HB := Aside0.mk (below_drew1 HB.out)
             have p198 : 0 ≤ (x7_1 : Int) := of_decide_eq_true (by first | (with_reducible assumption) | assumption)
             have q198 : x7_1 < (l1_0.length : Int) := of_decide_eq_true (by first | (with_reducible assumption) | assumption)
             obtain ⟨ad198, e198, hx198_0, hx198_1, hx198_2, hx198_3⟩ := at_T61 HR1_0.out x7_1 p198 q198
             have hw198_3 := hx198_3
             have hw198_2 := hx198_2
             have hw198_1 := hx198_1
             have hw198_0 := hx198_0
             cases e198
             replace hx198_0 := (HB.out.cell (World.block_lt_of_cell? w _ hx198_0)).trans hx198_0
             replace hx198_1 := (HB.out.cell (World.block_lt_of_cell? w _ hx198_1)).trans hx198_1
             replace hx198_2 := (HB.out.cell (World.block_lt_of_cell? w _ hx198_2)).trans hx198_2
             replace hx198_3 := (HB.out.cell (World.block_lt_of_cell? w _ hx198_3)).trans hx198_3
             replace p198 := eq_true p198
             replace q198 := eq_true q198
             obtain ⟨Ao75, co75, eo75⟩ := Kd.R_slice HO_198000.out
             (first | subst eo75 | (injection eo75 with f1_ f2_ f3_; have f4_ := f1_.symm; have f5_ := f3_.symm; clear f1_ f2_ f3_; subst f4_; subst f5_))
             refine start_ (n := 11) (S := fun w' => w'.cell? ⟨gb191, 0, none⟩ = some (.slice (some ad198) l1_0.length c1_0) ∧ w'.cell? ⟨gb197, 0, none⟩ = some (.slice Ao75 x198000_1.length co75) ∧ w'.cell? (ad198.add ((x7_1).toNat * 4)) = some (.int .i64 ((rd_T61 l1_0 x7_1).f0)) ∧ w'.cell? ⟨(ad198.add ((x7_1).toNat * 4)).block, (ad198.add ((x7_1).toNat * 4)).off + 1, none⟩ = some (.int .i64 ((rd_T61 l1_0 x7_1).f1)) ∧ w'.cell? ⟨(ad198.add ((x7_1).toNat * 4)).block, (ad198.add ((x7_1).toNat * 4)).off + 2, none⟩ = some (.int .i64 ((rd_T61 l1_0 x7_1).f2)) ∧ w'.cell? ⟨(ad198.add ((x7_1).toNat * 4)).block, (ad198.add ((x7_1).toNat * 4)).off + 3, none⟩ = some (.int .i64 ((rd_T61 l1_0 x7_1).f3))) (ds := []) #[zF, zF, zF, zF, zF, zF, zF, zF, zF, zF, zF] (by kernel_rfl) rfl rfl ⟨zc0 BK191 0 rfl, zc0 BK197 0 rfl, ((HB.out.cell (World.block_lt_of_cell? w _ hw198_0)).trans hw198_0), ((HB.out.cell (World.block_lt_of_cell? w _ hw198_1)).trans hw198_1), ((HB.out.cell (World.block_lt_of_cell? w _ hw198_2)).trans hw198_2), ((HB.out.cell (World.block_lt_of_cell? w _ hw198_3)).trans hw198_3)⟩ (fun hHeld => ?_); refine with_tabW spec_MergeParts.tab7 spec_MergeParts.bits7 (fun HT_ HW_ => ?_)
             generalize wr.drew = w74 at HO_198000 BK190 BK191 BK192 BK197 HB hx198_0 hx198_1 hx198_2 hx198_3 hHeld ⊢
             refine pure_ (i := 0) (N := some 25) (v := ?_) (a' := ?_) #[zT, zF, zF, zF, zF, zF, zF, zF, zF, zF, zF] rfl rfl (any_of HT_.out (by kernel_rfl)) (fun _ _ _ h => h) (Or.inl ⟨by rfl, ?_⟩) ?_ ?_
             rotate_left
             ·intro w'
              go_simp
              with_reducible rfl
             rotate_left
             ·simp only [Act.put, zp1, zp2, zp3, i64_w, i32_w]
              rfl
             refine pure_ (i := 2) (N := some 27) (v := ?_) (a' := ?_) #[zT, zF, zT, zF, zF, zF, zF, zF, zF, zF, zF] rfl rfl (any_of HT_.out (by kernel_rfl)) (fun _ _ _ h => h) (Or.inl ⟨by rfl, ?_⟩) ?_ ?_
             rotate_left
             ·intro w'
              go_simp
              with_reducible rfl
             rotate_left
             ·simp only [Act.put, zp1, zp2, zp3, i64_w, i32_w]
              rfl
             refine pure_ (i := 5) (N := some 30) (v := ?_) (a' := ?_) #[zT, zF, zT, zF, zF, zT, zF, zF, zF, zF, zF] rfl rfl (any_of HT_.out (by kernel_rfl)) (fun _ _ _ h => h) (Or.inl ⟨by rfl, ?_⟩) ?_ ?_
             rotate_left
             ·intro w'
              go_simp
              with_reducible rfl
             rotate_left
             ·simp only [Act.put, zp1, zp2, zp3, i64_w, i32_w]
              rfl
             refine take_ (i := 1) (N := some 26) (v := ?_) (a' := ?_) #[zT, zT, zT, zF, zF, zT, zF, zF, zF, zF, zF] rfl rfl (take_ofW HT_.out HW_.out (by kernel_rfl)) (fun _ _ _ h => h) (Or.inl ⟨by rfl, ?_⟩) hHeld ?_ ?_
             rotate_left
             ·rintro w' ⟨s0, s1, s2, s3, s4, s5⟩
              go_simp
              with_reducible rfl
             rotate_left
             ·simp only [Act.put, zp1, zp2, zp3, i64_w, i32_w]
              rfl
             refine pure_ (i := 3) (N := some 28) (v := ?_) (a' := ?_) #[zT, zT, zT, zT, zF, zT, zF, zF, zF, zF, zF] rfl rfl (any_of HT_.out (by kernel_rfl)) (fun _ _ _ h => h) (Or.inl ⟨by rfl, ?_⟩) ?_ ?_
             rotate_left
             ·intro w'
              go_simp
              with_reducible rfl
             rotate_left
             ·simp only [Act.put, zp1, zp2, zp3, i64_w, i32_w]
              rfl
             refine take_ (i := 4) (N := some 29) (v := ?_) (a' := ?_) #[zT, zT, zT, zT, zT, zT, zF, zF, zF, zF, zF] rfl rfl (take_ofW HT_.out HW_.out (by kernel_rfl)) (fun _ _ _ h => h) (Or.inl ⟨by rfl, ?_⟩) hHeld ?_ ?_
             rotate_left
             ·rintro w' ⟨s0, s1, s2, s3, s4, s5⟩
              go_simp
              with_reducible rfl
             rotate_left
             ·simp only [Act.put, zp1, zp2, zp3, i64_w, i32_w]
              rfl
             refine take_ (i := 6) (N := some 31) (v := ?_) (a' := ?_) #[zT, zT, zT, zT, zT, zT, zT, zF, zF, zF, zF] rfl rfl (take_ofW HT_.out HW_.out (by kernel_rfl)) (fun _ _ _ h => h) (Or.inl ⟨by rfl, ?_⟩) hHeld ?_ ?_
             rotate_left
             ·rintro w' ⟨s0, s1, s2, s3, s4, s5⟩
              go_simp
              with_reducible rfl
             rotate_left
             ·simp only [Act.put, zp1, zp2, zp3, i64_w, i32_w]
              rfl
             refine pure_ (i := 7) (N := some 32) (v := ?_) (a' := ?_) #[zT, zT, zT, zT, zT, zT, zT, zT, zF, zF, zF] rfl rfl (any_of HT_.out (by kernel_rfl)) (fun _ _ _ h => h) (Or.inl ⟨by rfl, ?_⟩) ?_ ?_
             rotate_left
             ·intro w'
              go_simp
              with_reducible rfl
             rotate_left
             ·simp only [Act.put, zp1, zp2, zp3, i64_w, i32_w]
              rfl
             refine one_ (i := 8) (N := some 8) #[zT, zT, zT, zT, zT, zT, zT, zT, zT, zF, zF] rfl rfl (one_of HT_.out (by kernel_rfl)) (by decide) (fun K hK => ?_)
             refine box_step ?hg (N := 8) ?hd (cs := #[.int .i64 0, .int .i64 0, .int .i64 0, .int .i64 0]) (t := 61) ?hr ?_; (case hd => rfl); (case hg => rfl); (case hr => first | (go_simp; done) | (go_simp; rfl))
             intro gb199 hg w76 hbox hb
             have BK199 := Aside0.mk (hbox)
             have GW199 := Aside0.mk ((by rw [hg]; exact (below_size (by repeat (first | exact zh0 HB | refine below_set ?_ GE190.out | refine below_set ?_ GE191.out | refine below_set ?_ GE192.out | refine below_set ?_ GE197.out))) : w.heap.size ≤ gb199))
             have GE199 := Aside0.mk ((by rw [hg]; exact (below_size (by repeat (first | exact zh0 HB | refine below_set ?_ GE190.out | refine below_set ?_ GE191.out | refine below_set ?_ GE192.out | refine below_set ?_ GE197.out))) : w.heap.size ≤ gb199))
             have NB190_199 := znl BK190 hg
             have NB199_190 := znr BK190 hg
             have NB191_199 := znl BK191 hg
             have NB199_191 := znr BK191 hg
             have NB192_199 := znl BK192 hg
             have NB199_192 := znr BK192 hg
             have NB197_199 := znl BK197 hg
             have NB199_197 := znr BK197 hg
             replace HO_198000 := Aside0.mk (Kd.R_below (Kd.R_elderB (zr0 HO_198000) gb199 (Nat.le_of_eq hg.symm)) hb)
             replace BK190 := zb0 BK190 hb
             replace BK191 := zb0 BK191 hb
             replace BK192 := zb0 BK192 hb
             replace BK197 := zb0 BK197 hb
             replace HB := Aside0.mk (below_step (by repeat (first | exact zh0 HB | refine below_set ?_ GE190.out | refine below_set ?_ GE191.out | refine below_set ?_ GE192.out | refine below_set ?_ GE197.out)) hb)
             clear hb hbox hg
             refine hK.out _ _ ⟨zc0 BK191 0 rfl, zc0 BK197 0 rfl, ((HB.out.cell (World.block_lt_of_cell? w _ hw198_0)).trans hw198_0), ((HB.out.cell (World.block_lt_of_cell? w _ hw198_1)).trans hw198_1), ((HB.out.cell (World.block_lt_of_cell? w _ hw198_2)).trans hw198_2), ((HB.out.cell (World.block_lt_of_cell? w _ hw198_3)).trans hw198_3)⟩ (fun hHeld => ?_)
             clear hK K
             refine norm_ (a' := ?_) ?_ ?_
             rotate_left
             ·show Act.put _ (some 8) _ = _
              simp only [Act.put, zp1, zp2, zp3, i64_w, i32_w]
              rfl
             refine one_ (i := 9) (N := none) #[zT, zT, zT, zT, zT, zT, zT, zT, zT, zT, zF] rfl rfl (one_of HT_.out (by kernel_rfl)) (by decide) (fun K hK => ?_)
             have hs77 : w76.cell? ⟨gb199, 0, none⟩ = some (.int .i64 0) := zc0 BK199 0 rfl
             have hfs77 := blk_frozen BK199.out 0
             have hns77_0 := NB190_199.out
             have hns77_1 := NB191_199.out
             have hns77_2 := NB192_199.out
             have hns77_3 := NB197_199.out
             have hms77_0 := NB199_190.out
             have hms77_1 := NB199_191.out
             have hms77_2 := NB199_192.out
             have hms77_3 := NB199_197.out
             have hs78 : w76.cell? ⟨gb199, 1, none⟩ = some (.int .i64 0) := zc0 BK199 1 rfl
             have hfs78 := blk_frozen BK199.out 1
             have hns78_0 := NB190_199.out
             have hns78_1 := NB191_199.out
             have hns78_2 := NB192_199.out
             have hns78_3 := NB197_199.out
             have hms78_0 := NB199_190.out
             have hms78_1 := NB199_191.out
             have hms78_2 := NB199_192.out
             have hms78_3 := NB199_197.out
             have hs79 : w76.cell? ⟨gb199, 2, none⟩ = some (.int .i64 0) := zc0 BK199 2 rfl
             have hfs79 := blk_frozen BK199.out 2
             have hns79_0 := NB190_199.out
             have hns79_1 := NB191_199.out
             have hns79_2 := NB192_199.out
             have hns79_3 := NB197_199.out
             have hms79_0 := NB199_190.out
             have hms79_1 := NB199_191.out
             have hms79_2 := NB199_192.out
             have hms79_3 := NB199_197.out
             have hs80 : w76.cell? ⟨gb199, 3, none⟩ = some (.int .i64 0) := zc0 BK199 3 rfl
             have hfs80 := blk_frozen BK199.out 3
             have hns80_0 := NB190_199.out
             have hns80_1 := NB191_199.out
             have hns80_2 := NB192_199.out
             have hns80_3 := NB197_199.out
             have hms80_0 := NB199_190.out
             have hms80_1 := NB199_191.out
             have hms80_2 := NB199_192.out
             have hms80_3 := NB199_197.out
             refine skip_ (w1 := ?_) (by rfl) rfl ?_ ?_
             rotate_left
             ·go_simp
              rfl
             refine hK.out _ _ ⟨((zfar NB191_199).trans (((zfar NB191_199).trans (((zfar NB191_199).trans (((zfar NB191_199).trans (hHeld.1)))))))), ((zfar NB197_199).trans (((zfar NB197_199).trans (((zfar NB197_199).trans (((zfar NB197_199).trans (hHeld.2.1)))))))), ((cell_far (p := ⟨gb199, _, none⟩) (znb hw198_0 GW199.out (by first | rfl | simp only [add_block])) _).trans (((cell_far (p := ⟨gb199, _, none⟩) (znb hw198_0 GW199.out (by first | rfl | simp only [add_block])) _).trans (((cell_far (p := ⟨gb199, _, none⟩) (znb hw198_0 GW199.out (by first | rfl | simp only [add_block])) _).trans (((cell_far (p := ⟨gb199, _, none⟩) (znb hw198_0 GW199.out (by first | rfl | simp only [add_block])) _).trans (hHeld.2.2.1)))))))), ((cell_far (p := ⟨gb199, _, none⟩) (znb hw198_1 GW199.out (by first | rfl | simp only [add_block])) _).trans (((cell_far (p := ⟨gb199, _, none⟩) (znb hw198_1 GW199.out (by first | rfl | simp only [add_block])) _).trans (((cell_far (p := ⟨gb199, _, none⟩) (znb hw198_1 GW199.out (by first | rfl | simp only [add_block])) _).trans (((cell_far (p := ⟨gb199, _, none⟩) (znb hw198_1 GW199.out (by first | rfl | simp only [add_block])) _).trans (hHeld.2.2.2.1)))))))), ((cell_far (p := ⟨gb199, _, none⟩) (znb hw198_2 GW199.out (by first | rfl | simp only [add_block])) _).trans (((cell_far (p := ⟨gb199, _, none⟩) (znb hw198_2 GW199.out (by first | rfl | simp only [add_block])) _).trans (((cell_far (p := ⟨gb199, _, none⟩) (znb hw198_2 GW199.out (by first | rfl | simp only [add_block])) _).trans (((cell_far (p := ⟨gb199, _, none⟩) (znb hw198_2 GW199.out (by first | rfl | simp only [add_block])) _).trans (hHeld.2.2.2.2.1)))))))), ((cell_far (p := ⟨gb199, _, none⟩) (znb hw198_3 GW199.out (by first | rfl | simp only [add_block])) _).trans (((cell_far (p := ⟨gb199, _, none⟩) (znb hw198_3 GW199.out (by first | rfl | simp only [add_block])) _).trans (((cell_far (p := ⟨gb199, _, none⟩) (znb hw198_3 GW199.out (by first | rfl | simp only [add_block])) _).trans (((cell_far (p := ⟨gb199, _, none⟩) (znb hw198_3 GW199.out (by first | rfl | simp only [add_block])) _).trans (hHeld.2.2.2.2.2))))))))⟩ (fun hHeld => ?_)
             clear hK K
             refine pure_ (i := 10) (N := some 9) (v := ?_) (a' := ?_) #[zT, zT, zT, zT, zT, zT, zT, zT, zT, zT, zT] rfl rfl (any_of HT_.out (by kernel_rfl)) (fun _ _ _ h => h) (Or.inl ⟨by rfl, ?_⟩) ?_ ?_
             rotate_left
             ·intro w'
              go_simp
              with_reducible rfl
             rotate_left
             ·simp only [Act.put, zp1, zp2, zp3, i64_w, i32_w]
              rfl
             refine done_ (done_of HT_.out (by kernel_rfl)) ?_
             have hnb81 := NB199_190.out
             have hnc81 := NB190_199.out
             have hnb82 := NB199_191.out
             have hnc82 := NB191_199.out
             have hnb83 := NB199_192.out
             have hnc83 := NB192_199.out
             have hnb84 := NB199_197.out
             have hnc84 := NB197_199.out
             have hcz85_0 := zc0 BK199 0 rfl
             have hcz85_1 := zc0 BK199 1 rfl
             have hcz85_2 := zc0 BK199 2 rfl
             have hcz85_3 := zc0 BK199 3 rfl
             have hfz85_0 := blk_frozen BK199.out 0
             have hfz85_1 := blk_frozen BK199.out 1
             have hfz85_2 := blk_frozen BK199.out 2
             have hfz85_3 := blk_frozen BK199.out 3
             try go_wp2
             have n0_ : Aside0 (Kd.R k61 61 ((((w76.setCell ⟨gb199, 0, none⟩ (.int .i64 ((rd_T61 l1_0 x7_1).f0))).setCell ⟨gb199, 1, none⟩ (.int .i64 ((rd_T61 l1_0 x7_1).f1))).setCell ⟨gb199, 2, none⟩ (.int .i64 ((rd_T61 l1_0 x7_1).f2))).setCell ⟨gb199, 3, none⟩ (.int .i64 ((rd_T61 l1_0 x7_1).f3))) w.heap.size (fun k_ => k_ ≠ gb199) (.slice Ao75 x198000_1.length co75) x198000_1) := ⟨by (with_reducible repeat (first | apply Kd.R_alloc | apply Kd.R_drewN | apply Kd.R_drew)); exact Kd.R_mono (Kd.R_far (p := ⟨gb199, 3, none⟩) (Kd.R_far (p := ⟨gb199, 2, none⟩) (Kd.R_far (p := ⟨gb199, 1, none⟩) (Kd.R_far (p := ⟨gb199, 0, none⟩) (Kd.R_mono HO_198000.out (fun k_ hk => (⟨hk, hk.2⟩ : _ ∧ k_ ≠ gb199))) (fun _ hk => hk.2) (.int .i64 ((rd_T61 l1_0 x7_1).f0))) (fun _ hk => hk.2) (.int .i64 ((rd_T61 l1_0 x7_1).f1))) (fun _ hk => hk.2) (.int .i64 ((rd_T61 l1_0 x7_1).f2))) (fun _ hk => hk.2) (.int .i64 ((rd_T61 l1_0 x7_1).f3))) (fun _ hk => hk.1.2)⟩
             have n1_ : Aside0 (((((w76.setCell ⟨gb199, 0, none⟩ (.int .i64 ((rd_T61 l1_0 x7_1).f0))).setCell ⟨gb199, 1, none⟩ (.int .i64 ((rd_T61 l1_0 x7_1).f1))).setCell ⟨gb199, 2, none⟩ (.int .i64 ((rd_T61 l1_0 x7_1).f2))).setCell ⟨gb199, 3, none⟩ (.int .i64 ((rd_T61 l1_0 x7_1).f3))).heap[gb190]? = some (.cells #[.slice A0_0 l0_0.length c0_0] 35 (0, 0))) := ⟨by (with_reducible repeat (first | refine blk_drewN ?_ _ | refine blk_drew ?_ | refine blk_alloc ?_ _)); refine blk_far ?_ NB190_199.out _; refine blk_far ?_ NB190_199.out _; refine blk_far ?_ NB190_199.out _; refine blk_far ?_ NB190_199.out _; (with_reducible repeat (first | refine blk_drewN ?_ _ | refine blk_drew ?_ | refine blk_alloc ?_ _)); exact BK190.out⟩
             have n2_ : Aside0 (((((w76.setCell ⟨gb199, 0, none⟩ (.int .i64 ((rd_T61 l1_0 x7_1).f0))).setCell ⟨gb199, 1, none⟩ (.int .i64 ((rd_T61 l1_0 x7_1).f1))).setCell ⟨gb199, 2, none⟩ (.int .i64 ((rd_T61 l1_0 x7_1).f2))).setCell ⟨gb199, 3, none⟩ (.int .i64 ((rd_T61 l1_0 x7_1).f3))).heap[gb191]? = some (.cells #[.slice (some ad198) l1_0.length c1_0] 32 (0, 0))) := ⟨by (with_reducible repeat (first | refine blk_drewN ?_ _ | refine blk_drew ?_ | refine blk_alloc ?_ _)); refine blk_far ?_ NB191_199.out _; refine blk_far ?_ NB191_199.out _; refine blk_far ?_ NB191_199.out _; refine blk_far ?_ NB191_199.out _; (with_reducible repeat (first | refine blk_drewN ?_ _ | refine blk_drew ?_ | refine blk_alloc ?_ _)); exact BK191.out⟩
             have n3_ : Aside0 (((((w76.setCell ⟨gb199, 0, none⟩ (.int .i64 ((rd_T61 l1_0 x7_1).f0))).setCell ⟨gb199, 1, none⟩ (.int .i64 ((rd_T61 l1_0 x7_1).f1))).setCell ⟨gb199, 2, none⟩ (.int .i64 ((rd_T61 l1_0 x7_1).f2))).setCell ⟨gb199, 3, none⟩ (.int .i64 ((rd_T61 l1_0 x7_1).f3))).heap[gb192]? = some (.cells #[.slice none 0 0] 32 (0, 0))) := ⟨by (with_reducible repeat (first | refine blk_drewN ?_ _ | refine blk_drew ?_ | refine blk_alloc ?_ _)); refine blk_far ?_ NB192_199.out _; refine blk_far ?_ NB192_199.out _; refine blk_far ?_ NB192_199.out _; refine blk_far ?_ NB192_199.out _; (with_reducible repeat (first | refine blk_drewN ?_ _ | refine blk_drew ?_ | refine blk_alloc ?_ _)); exact BK192.out⟩
             have n4_ : Aside0 (((((w76.setCell ⟨gb199, 0, none⟩ (.int .i64 ((rd_T61 l1_0 x7_1).f0))).setCell ⟨gb199, 1, none⟩ (.int .i64 ((rd_T61 l1_0 x7_1).f1))).setCell ⟨gb199, 2, none⟩ (.int .i64 ((rd_T61 l1_0 x7_1).f2))).setCell ⟨gb199, 3, none⟩ (.int .i64 ((rd_T61 l1_0 x7_1).f3))).heap[gb197]? = some (.cells #[.slice Ao75 x198000_1.length co75] 32 (0, 0))) := ⟨by (with_reducible repeat (first | refine blk_drewN ?_ _ | refine blk_drew ?_ | refine blk_alloc ?_ _)); refine blk_far ?_ NB197_199.out _; refine blk_far ?_ NB197_199.out _; refine blk_far ?_ NB197_199.out _; refine blk_far ?_ NB197_199.out _; (with_reducible repeat (first | refine blk_drewN ?_ _ | refine blk_drew ?_ | refine blk_alloc ?_ _)); exact BK197.out⟩
             have n5_ : Aside0 (((((w76.setCell ⟨gb199, 0, none⟩ (.int .i64 ((rd_T61 l1_0 x7_1).f0))).setCell ⟨gb199, 1, none⟩ (.int .i64 ((rd_T61 l1_0 x7_1).f1))).setCell ⟨gb199, 2, none⟩ (.int .i64 ((rd_T61 l1_0 x7_1).f2))).setCell ⟨gb199, 3, none⟩ (.int .i64 ((rd_T61 l1_0 x7_1).f3))).heap[gb199]? = some (.cells #[.int .i64 ((rd_T61 l1_0 x7_1).f0), .int .i64 ((rd_T61 l1_0 x7_1).f1), .int .i64 ((rd_T61 l1_0 x7_1).f2), .int .i64 ((rd_T61 l1_0 x7_1).f3)] 61 (0, 0))) := ⟨by (with_reducible repeat (first | refine blk_drewN ?_ _ | refine blk_drew ?_ | refine blk_alloc ?_ _)); refine blk_put (cs := #[.int .i64 ((rd_T61 l1_0 x7_1).f0), .int .i64 ((rd_T61 l1_0 x7_1).f1), .int .i64 ((rd_T61 l1_0 x7_1).f2), .int .i64 0]) ?_ 3 _ rfl; refine blk_put (cs := #[.int .i64 ((rd_T61 l1_0 x7_1).f0), .int .i64 ((rd_T61 l1_0 x7_1).f1), .int .i64 0, .int .i64 0]) ?_ 2 _ rfl; refine blk_put (cs := #[.int .i64 ((rd_T61 l1_0 x7_1).f0), .int .i64 0, .int .i64 0, .int .i64 0]) ?_ 1 _ rfl; refine blk_put (cs := #[.int .i64 0, .int .i64 0, .int .i64 0, .int .i64 0]) ?_ 0 _ rfl; (with_reducible repeat (first | refine blk_drewN ?_ _ | refine blk_drew ?_ | refine blk_alloc ?_ _)); exact BK199.out⟩
             have n6_ : Aside0 (Below w.heap.size w ((((w76.setCell ⟨gb199, 0, none⟩ (.int .i64 ((rd_T61 l1_0 x7_1).f0))).setCell ⟨gb199, 1, none⟩ (.int .i64 ((rd_T61 l1_0 x7_1).f1))).setCell ⟨gb199, 2, none⟩ (.int .i64 ((rd_T61 l1_0 x7_1).f2))).setCell ⟨gb199, 3, none⟩ (.int .i64 ((rd_T61 l1_0 x7_1).f3)))) := ⟨by repeat (first | exact zh0 HB | refine below_set ?_ GE190.out | refine below_set ?_ GE191.out | refine below_set ?_ GE192.out | refine below_set ?_ GE197.out | refine below_set ?_ GE199.out)⟩
             (try clear HO_198000)
             (try clear BK190)
             (try clear BK191)
             (try clear BK192)
             (try clear BK197)
             (try clear BK199)
             (try clear HB)
             generalize ((((w76.setCell ⟨gb199, 0, none⟩ (.int .i64 ((rd_T61 l1_0 x7_1).f0))).setCell ⟨gb199, 1, none⟩ (.int .i64 ((rd_T61 l1_0 x7_1).f1))).setCell ⟨gb199, 2, none⟩ (.int .i64 ((rd_T61 l1_0 x7_1).f2))).setCell ⟨gb199, 3, none⟩ (.int .i64 ((rd_T61 l1_0 x7_1).f3))) = w86 at n0_ n1_ n2_ n3_ n4_ n5_ n6_ ⊢
             have HO_198000 := n0_
             have BK190 := n1_
             have BK191 := n2_
             have BK192 := n3_
             have BK197 := n4_
             have BK199 := n5_
             have HB := n6_
             clear n0_ n1_ n2_ n3_ n4_ n5_ n6_
             replace HO_198000 := Aside0.mk (Kd.R_drew HO_198000.out)
             replace BK190 := Aside0.mk (blk_drew BK190.out)
             replace BK191 := Aside0.mk (blk_drew BK191.out)
             replace BK192 := Aside0.mk (blk_drew BK192.out)
             replace BK197 := Aside0.mk (blk_drew BK197.out)
             replace BK199 := Aside0.mk (blk_drew BK199.out)
             replace HB := Aside0.mk (below_drew1 HB.out)
             have p200 : 0 ≤ ((ji42) : Int) := of_decide_eq_true (by first | (with_reducible assumption) | assumption)
             have q200 : (ji42) < (x198000_1.length : Int) := of_decide_eq_true (by first | (with_reducible assumption) | assumption)
             obtain ⟨ad200, e200, hx200_0, hx200_1, hx200_2, hx200_3⟩ := at_T61 (Kd.R_reads' HO_198000.out).2.2 (ji42) p200 q200
             cases e200
             replace p200 := eq_true p200
             replace q200 := eq_true q200
             have p201 : 0 ≤ ((ji42) : Int) := of_decide_eq_true (by first | (with_reducible assumption) | assumption)
             have q201 : (ji42) < (x198000_1.length : Int) := of_decide_eq_true (by first | (with_reducible assumption) | assumption)
             obtain ⟨ad201, e201, hx201_0, hx201_1, hx201_2, hx201_3⟩ := at_T61 (Kd.R_reads' HO_198000.out).2.2 (ji42) p201 q201
             obtain rfl : ad200 = ad201 := (by injection e201)
             replace p201 := eq_true p201
             replace q201 := eq_true q201
             have p202 : 0 ≤ ((ji42) : Int) := of_decide_eq_true (by first | (with_reducible assumption) | assumption)
             have q202 : (ji42) < (x198000_1.length : Int) := of_decide_eq_true (by first | (with_reducible assumption) | assumption)
             obtain ⟨ad202, e202, hx202_0, hx202_1, hx202_2, hx202_3⟩ := at_T61 (Kd.R_reads' HO_198000.out).2.2 (ji42) p202 q202
             obtain rfl : ad200 = ad202 := (by injection e202)
             replace p202 := eq_true p202
             replace q202 := eq_true q202
             refine start_ (n := 34) (S := fun w' => w'.cell? ⟨gb197, 0, none⟩ = some (.slice (some ad200) x198000_1.length co75) ∧ w'.cell? ⟨gb199, 0, none⟩ = some (.int .i64 ((rd_T61 l1_0 x7_1).f0)) ∧ w'.cell? ⟨gb199, 1, none⟩ = some (.int .i64 ((rd_T61 l1_0 x7_1).f1)) ∧ w'.cell? ⟨gb199, 2, none⟩ = some (.int .i64 ((rd_T61 l1_0 x7_1).f2)) ∧ w'.cell? ⟨gb199, 3, none⟩ = some (.int .i64 ((rd_T61 l1_0 x7_1).f3)) ∧ w'.cell? (ad200.add (((ji42)).toNat * 4)) = some (.int .i64 ((rd_T61 x198000_1 (ji42)).f0)) ∧ w'.cell? ⟨(ad200.add (((ji42)).toNat * 4)).block, (ad200.add (((ji42)).toNat * 4)).off + 1, none⟩ = some (.int .i64 ((rd_T61 x198000_1 (ji42)).f1)) ∧ w'.cell? ⟨(ad200.add (((ji42)).toNat * 4)).block, (ad200.add (((ji42)).toNat * 4)).off + 2, none⟩ = some (.int .i64 ((rd_T61 x198000_1 (ji42)).f2)) ∧ w'.cell? ⟨(ad200.add (((ji42)).toNat * 4)).block, (ad200.add (((ji42)).toNat * 4)).off + 3, none⟩ = some (.int .i64 ((rd_T61 x198000_1 (ji42)).f3)) ∧ w'.cell? (ad200.add (((ji42)).toNat * 4)) = some (.int .i64 ((rd_T61 x198000_1 (ji42)).f0)) ∧ w'.cell? ⟨(ad200.add (((ji42)).toNat * 4)).block, (ad200.add (((ji42)).toNat * 4)).off + 1, none⟩ = some (.int .i64 ((rd_T61 x198000_1 (ji42)).f1)) ∧ w'.cell? ⟨(ad200.add (((ji42)).toNat * 4)).block, (ad200.add (((ji42)).toNat * 4)).off + 2, none⟩ = some (.int .i64 ((rd_T61 x198000_1 (ji42)).f2)) ∧ w'.cell? ⟨(ad200.add (((ji42)).toNat * 4)).block, (ad200.add (((ji42)).toNat * 4)).off + 3, none⟩ = some (.int .i64 ((rd_T61 x198000_1 (ji42)).f3)) ∧ w'.cell? (ad200.add (((ji42)).toNat * 4)) = some (.int .i64 ((rd_T61 x198000_1 (ji42)).f0)) ∧ w'.cell? ⟨(ad200.add (((ji42)).toNat * 4)).block, (ad200.add (((ji42)).toNat * 4)).off + 1, none⟩ = some (.int .i64 ((rd_T61 x198000_1 (ji42)).f1)) ∧ w'.cell? ⟨(ad200.add (((ji42)).toNat * 4)).block, (ad200.add (((ji42)).toNat * 4)).off + 2, none⟩ = some (.int .i64 ((rd_T61 x198000_1 (ji42)).f2)) ∧ w'.cell? ⟨(ad200.add (((ji42)).toNat * 4)).block, (ad200.add (((ji42)).toNat * 4)).off + 3, none⟩ = some (.int .i64 ((rd_T61 x198000_1 (ji42)).f3))) (ds := []) #[zF, zF, zF, zF, zF, zF, zF, zF, zF, zF, zF, zF, zF, zF, zF, zF, zF, zF, zF, zF, zF, zF, zF, zF, zF, zF, zF, zF, zF, zF, zF, zF, zF, zF] (by kernel_rfl) rfl rfl ⟨zc0 BK197 0 rfl, zc0 BK199 0 rfl, zc0 BK199 1 rfl, zc0 BK199 2 rfl, zc0 BK199 3 rfl, hx200_0, hx200_1, hx200_2, hx200_3, hx201_0, hx201_1, hx201_2, hx201_3, hx202_0, hx202_1, hx202_2, hx202_3⟩ (fun hHeld => ?_); refine with_tabW spec_MergeParts.tab9 spec_MergeParts.bits9 (fun HT_ HW_ => ?_)
             generalize w86.drew = w87 at HO_198000 BK190 BK191 BK192 BK197 BK199 HB hx200_0 hx200_1 hx200_2 hx200_3 hx201_0 hx201_1 hx201_2 hx201_3 hx202_0 hx202_1 hx202_2 hx202_3 hHeld ⊢
             refine pure_ (i := 0) (N := some 36) (v := ?_) (a' := ?_) #[zT, zF, zF, zF, zF, zF, zF, zF, zF, zF, zF, zF, zF, zF, zF, zF, zF, zF, zF, zF, zF, zF, zF, zF, zF, zF, zF, zF, zF, zF, zF, zF, zF, zF] rfl rfl (any_of HT_.out (by kernel_rfl)) (fun _ _ _ h => h) (Or.inl ⟨by rfl, ?_⟩) ?_ ?_
             rotate_left
             ·intro w'
              go_simp
              with_reducible rfl
             rotate_left
             ·simp only [Act.put, zp1, zp2, zp3, i64_w, i32_w]
              rfl
             refine pure_ (i := 1) (N := some 37) (v := ?_) (a' := ?_) #[zT, zT, zF, zF, zF, zF, zF, zF, zF, zF, zF, zF, zF, zF, zF, zF, zF, zF, zF, zF, zF, zF, zF, zF, zF, zF, zF, zF, zF, zF, zF, zF, zF, zF] rfl rfl (any_of HT_.out (by kernel_rfl)) (fun _ _ _ h => h) (Or.inl ⟨by rfl, ?_⟩) ?_ ?_
             rotate_left
             ·intro w'
              go_simp
              with_reducible rfl
             rotate_left
             ·simp only [Act.put, zp1, zp2, zp3, i64_w, i32_w]
              rfl
             refine pure_ (i := 2) (N := some 38) (v := ?_) (a' := ?_) #[zT, zT, zT, zF, zF, zF, zF, zF, zF, zF, zF, zF, zF, zF, zF, zF, zF, zF, zF, zF, zF, zF, zF, zF, zF, zF, zF, zF, zF, zF, zF, zF, zF, zF] rfl rfl (any_of HT_.out (by kernel_rfl)) (fun _ _ _ h => h) (Or.inl ⟨by rfl, ?_⟩) ?_ ?_
             rotate_left
             ·intro w'
              go_simp
              with_reducible rfl
             rotate_left
             ·simp only [Act.put, zp1, zp2, zp3, i64_w, i32_w]
              rfl
             refine pure_ (i := 3) (N := some 39) (v := ?_) (a' := ?_) #[zT, zT, zT, zT, zF, zF, zF, zF, zF, zF, zF, zF, zF, zF, zF, zF, zF, zF, zF, zF, zF, zF, zF, zF, zF, zF, zF, zF, zF, zF, zF, zF, zF, zF] rfl rfl (any_of HT_.out (by kernel_rfl)) (fun _ _ _ h => h) (Or.inl ⟨by rfl, ?_⟩) ?_ ?_
             rotate_left
             ·intro w'
              go_simp
              with_reducible rfl
             rotate_left
             ·simp only [Act.put, zp1, zp2, zp3, i64_w, i32_w]
              rfl
             refine pure_ (i := 5) (N := some 41) (v := ?_) (a' := ?_) #[zT, zT, zT, zT, zF, zT, zF, zF, zF, zF, zF, zF, zF, zF, zF, zF, zF, zF, zF, zF, zF, zF, zF, zF, zF, zF, zF, zF, zF, zF, zF, zF, zF, zF] rfl rfl (any_of HT_.out (by kernel_rfl)) (fun _ _ _ h => h) (Or.inl ⟨by rfl, ?_⟩) ?_ ?_
             rotate_left
             ·intro w'
              go_simp
              with_reducible rfl
             rotate_left
             ·simp only [Act.put, zp1, zp2, zp3, i64_w, i32_w]
              rfl
             refine pure_ (i := 6) (N := some 42) (v := ?_) (a' := ?_) #[zT, zT, zT, zT, zF, zT, zT, zF, zF, zF, zF, zF, zF, zF, zF, zF, zF, zF, zF, zF, zF, zF, zF, zF, zF, zF, zF, zF, zF, zF, zF, zF, zF, zF] rfl rfl (any_of HT_.out (by kernel_rfl)) (fun _ _ _ h => h) (Or.inl ⟨by rfl, ?_⟩) ?_ ?_
             rotate_left
             ·intro w'
              go_simp
              with_reducible rfl
             rotate_left
             ·simp only [Act.put, zp1, zp2, zp3, i64_w, i32_w]
              rfl
             refine pure_ (i := 10) (N := some 46) (v := ?_) (a' := ?_) #[zT, zT, zT, zT, zF, zT, zT, zF, zF, zF, zT, zF, zF, zF, zF, zF, zF, zF, zF, zF, zF, zF, zF, zF, zF, zF, zF, zF, zF, zF, zF, zF, zF, zF] rfl rfl (any_of HT_.out (by kernel_rfl)) (fun _ _ _ h => h) (Or.inl ⟨by rfl, ?_⟩) ?_ ?_
             rotate_left
             ·intro w'
              go_simp
              with_reducible rfl
             rotate_left
             ·simp only [Act.put, zp1, zp2, zp3, i64_w, i32_w]
              rfl
             refine take_ (i := 4) (N := some 40) (v := ?_) (a' := ?_) #[zT, zT, zT, zT, zT, zT, zT, zF, zF, zF, zT, zF, zF, zF, zF, zF, zF, zF, zF, zF, zF, zF, zF, zF, zF, zF, zF, zF, zF, zF, zF, zF, zF, zF] rfl rfl (take_ofW HT_.out HW_.out (by kernel_rfl)) (fun _ _ _ h => h) (Or.inl ⟨by rfl, ?_⟩) hHeld ?_ ?_
             rotate_left
             ·rintro w' ⟨s0, s1, s2, s3, s4, s5, s6, s7, s8, s9, s10, s11, s12, s13, s14, s15, s16⟩
              go_simp
              with_reducible rfl
             rotate_left
             ·simp only [Act.put, zp1, zp2, zp3, i64_w, i32_w]
              rfl
             refine pure_ (i := 7) (N := some 43) (v := ?_) (a' := ?_) #[zT, zT, zT, zT, zT, zT, zT, zT, zF, zF, zT, zF, zF, zF, zF, zF, zF, zF, zF, zF, zF, zF, zF, zF, zF, zF, zF, zF, zF, zF, zF, zF, zF, zF] rfl rfl (any_of HT_.out (by kernel_rfl)) (fun _ _ _ h => h) (Or.inl ⟨by rfl, ?_⟩) ?_ ?_
             rotate_left
             ·intro w'
              go_simp
              with_reducible rfl
             rotate_left
             ·simp only [Act.put, zp1, zp2, zp3, i64_w, i32_w]
              rfl
             refine pure_ (i := 8) (N := some 44) (v := ?_) (a' := ?_) #[zT, zT, zT, zT, zT, zT, zT, zT, zT, zF, zT, zF, zF, zF, zF, zF, zF, zF, zF, zF, zF, zF, zF, zF, zF, zF, zF, zF, zF, zF, zF, zF, zF, zF] rfl rfl (any_of HT_.out (by kernel_rfl)) (fun _ _ _ h => h) (Or.inl ⟨by rfl, ?_⟩) ?_ ?_
             rotate_left
             ·intro w'
              go_simp
              with_reducible rfl
             rotate_left
             ·simp only [Act.put, zp1, zp2, zp3, i64_w, i32_w]
              rfl
             refine take_ (i := 9) (N := some 45) (v := ?_) (a' := ?_) #[zT, zT, zT, zT, zT, zT, zT, zT, zT, zT, zT, zF, zF, zF, zF, zF, zF, zF, zF, zF, zF, zF, zF, zF, zF, zF, zF, zF, zF, zF, zF, zF, zF, zF] rfl rfl (take_ofW HT_.out HW_.out (by kernel_rfl)) (fun _ _ _ h => h) (Or.inl ⟨by rfl, ?_⟩) hHeld ?_ ?_
             rotate_left
             ·rintro w' ⟨s0, s1, s2, s3, s4, s5, s6, s7, s8, s9, s10, s11, s12, s13, s14, s15, s16⟩
              go_simp
              with_reducible rfl
             rotate_left
             ·simp only [Act.put, zp1, zp2, zp3, i64_w, i32_w]
              rfl
             refine take_ (i := 11) (N := some 47) (v := ?_) (a' := ?_) #[zT, zT, zT, zT, zT, zT, zT, zT, zT, zT, zT, zT, zF, zF, zF, zF, zF, zF, zF, zF, zF, zF, zF, zF, zF, zF, zF, zF, zF, zF, zF, zF, zF, zF] rfl rfl (take_ofW HT_.out HW_.out (by kernel_rfl)) (fun _ _ _ h => h) (Or.inl ⟨by rfl, ?_⟩) hHeld ?_ ?_
             rotate_left
             ·rintro w' ⟨s0, s1, s2, s3, s4, s5, s6, s7, s8, s9, s10, s11, s12, s13, s14, s15, s16⟩
              go_simp
              with_reducible rfl
             rotate_left
             ·simp only [Act.put, zp1, zp2, zp3, i64_w, i32_w]
              rfl
             refine pure_ (i := 12) (N := some 48) (v := ?_) (a' := ?_) #[zT, zT, zT, zT, zT, zT, zT, zT, zT, zT, zT, zT, zT, zF, zF, zF, zF, zF, zF, zF, zF, zF, zF, zF, zF, zF, zF, zF, zF, zF, zF, zF, zF, zF] rfl rfl (any_of HT_.out (by kernel_rfl)) (fun _ _ _ h => h) (Or.inl ⟨by rfl, ?_⟩) ?_ ?_
             rotate_left
             ·intro w'
              go_simp
              with_reducible rfl
             rotate_left
             ·simp only [Act.put, zp1, zp2, zp3, i64_w, i32_w]
              rfl
             refine pure_ (i := 13) (N := some 49) (v := ?_) (a' := ?_) #[zT, zT, zT, zT, zT, zT, zT, zT, zT, zT, zT, zT, zT, zT, zF, zF, zF, zF, zF, zF, zF, zF, zF, zF, zF, zF, zF, zF, zF, zF, zF, zF, zF, zF] rfl rfl (any_of HT_.out (by kernel_rfl)) (fun _ _ _ h => h) (Or.inl ⟨by rfl, ?_⟩) ?_ ?_
             rotate_left
             ·intro w'
              go_simp
              with_reducible rfl
             rotate_left
             ·simp only [Act.put, zp1, zp2, zp3, i64_w, i32_w]
              rfl
             refine pure_ (i := 14) (N := some 50) (v := ?_) (a' := ?_) #[zT, zT, zT, zT, zT, zT, zT, zT, zT, zT, zT, zT, zT, zT, zT, zF, zF, zF, zF, zF, zF, zF, zF, zF, zF, zF, zF, zF, zF, zF, zF, zF, zF, zF] rfl rfl (any_of HT_.out (by kernel_rfl)) (fun _ _ _ h => h) (Or.inl ⟨by rfl, ?_⟩) ?_ ?_
             rotate_left
             ·intro w'
              go_simp
              with_reducible rfl
             rotate_left
             ·simp only [Act.put, zp1, zp2, zp3, i64_w, i32_w]
              rfl
             refine pure_ (i := 15) (N := some 51) (v := ?_) (a' := ?_) #[zT, zT, zT, zT, zT, zT, zT, zT, zT, zT, zT, zT, zT, zT, zT, zT, zF, zF, zF, zF, zF, zF, zF, zF, zF, zF, zF, zF, zF, zF, zF, zF, zF, zF] rfl rfl (any_of HT_.out (by kernel_rfl)) (fun _ _ _ h => h) (Or.inl ⟨by rfl, ?_⟩) ?_ ?_
             rotate_left
             ·intro w'
              go_simp
              with_reducible rfl
             rotate_left
             ·simp only [Act.put, zp1, zp2, zp3, i64_w, i32_w]
              rfl
             refine pure_ (i := 17) (N := some 53) (v := ?_) (a' := ?_) #[zT, zT, zT, zT, zT, zT, zT, zT, zT, zT, zT, zT, zT, zT, zT, zT, zF, zT, zF, zF, zF, zF, zF, zF, zF, zF, zF, zF, zF, zF, zF, zF, zF, zF] rfl rfl (any_of HT_.out (by kernel_rfl)) (fun _ _ _ h => h) (Or.inl ⟨by rfl, ?_⟩) ?_ ?_
             rotate_left
             ·intro w'
              go_simp
              with_reducible rfl
             rotate_left
             ·simp only [Act.put, zp1, zp2, zp3, i64_w, i32_w]
              rfl
             refine pure_ (i := 18) (N := some 54) (v := ?_) (a' := ?_) #[zT, zT, zT, zT, zT, zT, zT, zT, zT, zT, zT, zT, zT, zT, zT, zT, zF, zT, zT, zF, zF, zF, zF, zF, zF, zF, zF, zF, zF, zF, zF, zF, zF, zF] rfl rfl (any_of HT_.out (by kernel_rfl)) (fun _ _ _ h => h) (Or.inl ⟨by rfl, ?_⟩) ?_ ?_
             rotate_left
             ·intro w'
              go_simp
              with_reducible rfl
             rotate_left
             ·simp only [Act.put, zp1, zp2, zp3, i64_w, i32_w]
              rfl
             refine pure_ (i := 22) (N := some 58) (v := ?_) (a' := ?_) #[zT, zT, zT, zT, zT, zT, zT, zT, zT, zT, zT, zT, zT, zT, zT, zT, zF, zT, zT, zF, zF, zF, zT, zF, zF, zF, zF, zF, zF, zF, zF, zF, zF, zF] rfl rfl (any_of HT_.out (by kernel_rfl)) (fun _ _ _ h => h) (Or.inl ⟨by rfl, ?_⟩) ?_ ?_
             rotate_left
             ·intro w'
              go_simp
              with_reducible rfl
             rotate_left
             ·simp only [Act.put, zp1, zp2, zp3, i64_w, i32_w]
              rfl
             refine pure_ (i := 24) (N := some 60) (v := ?_) (a' := ?_) #[zT, zT, zT, zT, zT, zT, zT, zT, zT, zT, zT, zT, zT, zT, zT, zT, zF, zT, zT, zF, zF, zF, zT, zF, zT, zF, zF, zF, zF, zF, zF, zF, zF, zF] rfl rfl (any_of HT_.out (by kernel_rfl)) (fun _ _ _ h => h) (Or.inl ⟨by rfl, ?_⟩) ?_ ?_
             rotate_left
             ·intro w'
              go_simp
              with_reducible rfl
             rotate_left
             ·simp only [Act.put, zp1, zp2, zp3, i64_w, i32_w]
              rfl
             refine pure_ (i := 25) (N := some 61) (v := ?_) (a' := ?_) #[zT, zT, zT, zT, zT, zT, zT, zT, zT, zT, zT, zT, zT, zT, zT, zT, zF, zT, zT, zF, zF, zF, zT, zF, zT, zT, zF, zF, zF, zF, zF, zF, zF, zF] rfl rfl (any_of HT_.out (by kernel_rfl)) (fun _ _ _ h => h) (Or.inl ⟨by rfl, ?_⟩) ?_ ?_
             rotate_left
             ·intro w'
              go_simp
              with_reducible rfl
             rotate_left
             ·simp only [Act.put, zp1, zp2, zp3, i64_w, i32_w]
              rfl
             refine pure_ (i := 30) (N := some 66) (v := ?_) (a' := ?_) #[zT, zT, zT, zT, zT, zT, zT, zT, zT, zT, zT, zT, zT, zT, zT, zT, zF, zT, zT, zF, zF, zF, zT, zF, zT, zT, zF, zF, zF, zF, zT, zF, zF, zF] rfl rfl (any_of HT_.out (by kernel_rfl)) (fun _ _ _ h => h) (Or.inl ⟨by rfl, ?_⟩) ?_ ?_
             rotate_left
             ·intro w'
              go_simp
              with_reducible rfl
             rotate_left
             ·simp only [Act.put, zp1, zp2, zp3, i64_w, i32_w]
              rfl
             refine take_ (i := 16) (N := some 52) (v := ?_) (a' := ?_) #[zT, zT, zT, zT, zT, zT, zT, zT, zT, zT, zT, zT, zT, zT, zT, zT, zT, zT, zT, zF, zF, zF, zT, zF, zT, zT, zF, zF, zF, zF, zT, zF, zF, zF] rfl rfl (take_ofW HT_.out HW_.out (by kernel_rfl)) (fun _ _ _ h => h) (Or.inl ⟨by rfl, ?_⟩) hHeld ?_ ?_
             rotate_left
             ·rintro w' ⟨s0, s1, s2, s3, s4, s5, s6, s7, s8, s9, s10, s11, s12, s13, s14, s15, s16⟩
              go_simp
              with_reducible rfl
             rotate_left
             ·simp only [Act.put, zp1, zp2, zp3, i64_w, i32_w]
              rfl
             refine pure_ (i := 19) (N := some 55) (v := ?_) (a' := ?_) #[zT, zT, zT, zT, zT, zT, zT, zT, zT, zT, zT, zT, zT, zT, zT, zT, zT, zT, zT, zT, zF, zF, zT, zF, zT, zT, zF, zF, zF, zF, zT, zF, zF, zF] rfl rfl (any_of HT_.out (by kernel_rfl)) (fun _ _ _ h => h) (Or.inl ⟨by rfl, ?_⟩) ?_ ?_
             rotate_left
             ·intro w'
              go_simp
              with_reducible rfl
             rotate_left
             ·simp only [Act.put, zp1, zp2, zp3, i64_w, i32_w]
              rfl
             refine pure_ (i := 20) (N := some 56) (v := ?_) (a' := ?_) #[zT, zT, zT, zT, zT, zT, zT, zT, zT, zT, zT, zT, zT, zT, zT, zT, zT, zT, zT, zT, zT, zF, zT, zF, zT, zT, zF, zF, zF, zF, zT, zF, zF, zF] rfl rfl (any_of HT_.out (by kernel_rfl)) (fun _ _ _ h => h) (Or.inl ⟨by rfl, ?_⟩) ?_ ?_
             rotate_left
             ·intro w'
              go_simp
              with_reducible rfl
             rotate_left
             ·simp only [Act.put, zp1, zp2, zp3, i64_w, i32_w]
              rfl
             refine take_ (i := 21) (N := some 57) (v := ?_) (a' := ?_) #[zT, zT, zT, zT, zT, zT, zT, zT, zT, zT, zT, zT, zT, zT, zT, zT, zT, zT, zT, zT, zT, zT, zT, zF, zT, zT, zF, zF, zF, zF, zT, zF, zF, zF] rfl rfl (take_ofW HT_.out HW_.out (by kernel_rfl)) (fun _ _ _ h => h) (Or.inl ⟨by rfl, ?_⟩) hHeld ?_ ?_
             rotate_left
             ·rintro w' ⟨s0, s1, s2, s3, s4, s5, s6, s7, s8, s9, s10, s11, s12, s13, s14, s15, s16⟩
              go_simp
              with_reducible rfl
             rotate_left
             ·simp only [Act.put, zp1, zp2, zp3, i64_w, i32_w]
              rfl
             refine take_ (i := 23) (N := some 59) (v := ?_) (a' := ?_) #[zT, zT, zT, zT, zT, zT, zT, zT, zT, zT, zT, zT, zT, zT, zT, zT, zT, zT, zT, zT, zT, zT, zT, zT, zT, zT, zF, zF, zF, zF, zT, zF, zF, zF] rfl rfl (take_ofW HT_.out HW_.out (by kernel_rfl)) (fun _ _ _ h => h) (Or.inl ⟨by rfl, ?_⟩) hHeld ?_ ?_
             rotate_left
             ·rintro w' ⟨s0, s1, s2, s3, s4, s5, s6, s7, s8, s9, s10, s11, s12, s13, s14, s15, s16⟩
              go_simp
              with_reducible rfl
             rotate_left
             ·simp only [Act.put, zp1, zp2, zp3, i64_w, i32_w]
              rfl
             refine pure_ (i := 26) (N := some 62) (v := ?_) (a' := ?_) #[zT, zT, zT, zT, zT, zT, zT, zT, zT, zT, zT, zT, zT, zT, zT, zT, zT, zT, zT, zT, zT, zT, zT, zT, zT, zT, zT, zF, zF, zF, zT, zF, zF, zF] rfl rfl (any_of HT_.out (by kernel_rfl)) (fun _ _ _ h => h) (Or.inl ⟨by rfl, ?_⟩) ?_ ?_
             rotate_left
             ·intro w'
              go_simp
              with_reducible rfl
             rotate_left
             ·simp only [Act.put, zp1, zp2, zp3, i64_w, i32_w]
              rfl
             refine pure_ (i := 27) (N := some 63) (v := ?_) (a' := ?_) #[zT, zT, zT, zT, zT, zT, zT, zT, zT, zT, zT, zT, zT, zT, zT, zT, zT, zT, zT, zT, zT, zT, zT, zT, zT, zT, zT, zT, zF, zF, zT, zF, zF, zF] rfl rfl (any_of HT_.out (by kernel_rfl)) (fun _ _ _ h => h) (Or.inl ⟨by rfl, ?_⟩) ?_ ?_
             rotate_left
             ·intro w'
              go_simp
              with_reducible rfl
             rotate_left
             ·simp only [Act.put, zp1, zp2, zp3, i64_w, i32_w]
              rfl
             refine take_ (i := 28) (N := some 64) (v := ?_) (a' := ?_) #[zT, zT, zT, zT, zT, zT, zT, zT, zT, zT, zT, zT, zT, zT, zT, zT, zT, zT, zT, zT, zT, zT, zT, zT, zT, zT, zT, zT, zT, zF, zT, zF, zF, zF] rfl rfl (take_ofW HT_.out HW_.out (by kernel_rfl)) (fun _ _ _ h => h) (Or.inl ⟨by rfl, ?_⟩) hHeld ?_ ?_
             rotate_left
             ·rintro w' ⟨s0, s1, s2, s3, s4, s5, s6, s7, s8, s9, s10, s11, s12, s13, s14, s15, s16⟩
              go_simp
              with_reducible rfl
             rotate_left
             ·simp only [Act.put, zp1, zp2, zp3, i64_w, i32_w]
              rfl
             refine pure_ (i := 29) (N := some 65) (v := ?_) (a' := ?_) #[zT, zT, zT, zT, zT, zT, zT, zT, zT, zT, zT, zT, zT, zT, zT, zT, zT, zT, zT, zT, zT, zT, zT, zT, zT, zT, zT, zT, zT, zT, zT, zF, zF, zF] rfl rfl (any_of HT_.out (by kernel_rfl)) (fun _ _ _ h => h) (Or.inl ⟨by rfl, ?_⟩) ?_ ?_
             rotate_left
             ·intro w'
              go_simp
              with_reducible rfl
             rotate_left
             ·simp only [Act.put, zp1, zp2, zp3, i64_w, i32_w]
              rfl
             refine take_ (i := 31) (N := some 67) (v := ?_) (a' := ?_) #[zT, zT, zT, zT, zT, zT, zT, zT, zT, zT, zT, zT, zT, zT, zT, zT, zT, zT, zT, zT, zT, zT, zT, zT, zT, zT, zT, zT, zT, zT, zT, zT, zF, zF] rfl rfl (take_ofW HT_.out HW_.out (by kernel_rfl)) (fun _ _ _ h => h) (Or.inl ⟨by rfl, ?_⟩) hHeld ?_ ?_
             rotate_left
             ·rintro w' ⟨s0, s1, s2, s3, s4, s5, s6, s7, s8, s9, s10, s11, s12, s13, s14, s15, s16⟩
              go_simp
              with_reducible rfl
             rotate_left
             ·simp only [Act.put, zp1, zp2, zp3, i64_w, i32_w]
              rfl
             refine pure_ (i := 32) (N := some 68) (v := ?_) (a' := ?_) #[zT, zT, zT, zT, zT, zT, zT, zT, zT, zT, zT, zT, zT, zT, zT, zT, zT, zT, zT, zT, zT, zT, zT, zT, zT, zT, zT, zT, zT, zT, zT, zT, zT, zF] rfl rfl (any_of HT_.out (by kernel_rfl)) (fun _ _ _ h => h) (Or.inl ⟨by rfl, ?_⟩) ?_ ?_
             rotate_left
             ·intro w'
              go_simp
              with_reducible rfl
             rotate_left
             ·simp only [Act.put, zp1, zp2, zp3, i64_w, i32_w]
              rfl
             refine pure_ (i := 33) (N := some 69) (v := ?_) (a' := ?_) #[zT, zT, zT, zT, zT, zT, zT, zT, zT, zT, zT, zT, zT, zT, zT, zT, zT, zT, zT, zT, zT, zT, zT, zT, zT, zT, zT, zT, zT, zT, zT, zT, zT, zT] rfl rfl (any_of HT_.out (by kernel_rfl)) (fun _ _ _ h => h) (Or.inl ⟨by rfl, ?_⟩) ?_ ?_
             rotate_left
             ·intro w'
              go_simp
              with_reducible rfl
             rotate_left
             ·simp only [Act.put, zp1, zp2, zp3, i64_w, i32_w]
              rfl
             refine done_ (done_of HT_.out (by kernel_rfl)) ?_
             have hnb88 := NB197_190.out
             have hnc88 := NB190_197.out
             have hnb89 := NB197_192.out
             have hnc89 := NB192_197.out
             have hcz90_0 := zc0 BK197 0 rfl
             have hfz90_0 := blk_frozen BK197.out 0
             have hcz91_0 := zc0 BK199 0 rfl
             have hcz91_1 := zc0 BK199 1 rfl
             have hcz91_2 := zc0 BK199 2 rfl
             have hcz91_3 := zc0 BK199 3 rfl
             have hfz91_0 := blk_frozen BK199.out 0
             have hfz91_1 := blk_frozen BK199.out 1
             have hfz91_2 := blk_frozen BK199.out 2
             have hfz91_3 := blk_frozen BK199.out 3
             try go_wp2_with (first | ((with_reducible refine gate_builtin (b := .append) (xs := #[.tmp 98, .tmp 100]) rfl ?_); at_builtin; refine Kd.R_append k61 (w0 := w) w.heap.size rfl (.tmp 98) (.tmp 100) 30 61 (.agg #[(.int .i64 0), (.int .i64 0), (.int .i64 0), (.int .i64 0)]) 32 rfl Try.underlying30 info61 rfl (by decide) (by omega) (.slice (some ad200) x198000_1.length co75) x198000_1 (⟨(rd_T61 l1_0 x7_1).f0, (rd_T61 l1_0 x7_1).f1, (rd_T61 l1_0 x7_1).f2, (rd_T61 l1_0 x7_1).f3⟩ : S61) [.int .i64 ((rd_T61 l1_0 x7_1).f0), .int .i64 ((rd_T61 l1_0 x7_1).f1), .int .i64 ((rd_T61 l1_0 x7_1).f2), .int .i64 ((rd_T61 l1_0 x7_1).f3)] (fun k_ => k_ ≠ gb199) (fun _ => False) rfl rfl ?aP (fun _ hk => hk.elim) ?aF ?aO ?aB ?aS ?aL ?_; (case aP => exact k61_mkM _ _ _ (⟨(rd_T61 l1_0 x7_1).f0, (rd_T61 l1_0 x7_1).f1, (rd_T61 l1_0 x7_1).f2, (rd_T61 l1_0 x7_1).f3⟩ : S61)); (case aB => exact (by repeat (first | exact zh0 HB | refine below_set ?_ GE190.out | refine below_set ?_ GE191.out | refine below_set ?_ GE192.out | refine below_set ?_ GE197.out | refine below_set ?_ GE199.out))); (case aF => exact (fun k_ hk => Kd.freshB (g := gb199) (o := .cells #[.int .i64 ((rd_T61 l1_0 x7_1).f0), .int .i64 ((rd_T61 l1_0 x7_1).f1), .int .i64 ((rd_T61 l1_0 x7_1).f2), .int .i64 ((rd_T61 l1_0 x7_1).f3)] 61 (0, 0)) (zk0 BK199) k_ hk)); (case aO => exact (zr0 HO_198000)); (case aS => exact (below_size (by repeat (first | exact zh0 HB | refine below_set ?_ GE190.out | refine below_set ?_ GE191.out | refine below_set ?_ GE192.out | refine below_set ?_ GE197.out | refine below_set ?_ GE199.out)))); (case aL => have := LMc69.out; omega); intro v207 w92 ho hb hg hat; rw [← Ny206.out] at ho; have n0_ := Aside0.mk (blk_grown (g := gb190) (o := .cells #[.slice A0_0 l0_0.length c0_0] 35 (0, 0)) (zk0 BK190) hg (Kd.R_ne HO_198000.out BK190.out (by decide))); have n1_ := Aside0.mk (blk_grown (g := gb191) (o := .cells #[.slice (some ad198) l1_0.length c1_0] 32 (0, 0)) (zk0 BK191) hg (Kd.R_ne HO_198000.out BK191.out (by decide))); have n2_ := Aside0.mk (blk_grown (g := gb192) (o := .cells #[.slice none 0 0] 32 (0, 0)) (zk0 BK192) hg (Kd.R_ne HO_198000.out BK192.out (by decide))); have n3_ := Aside0.mk (blk_grown (g := gb197) (o := .cells #[.slice (some ad200) x198000_1.length co75] 32 (0, 0)) (zk0 BK197) hg (Kd.R_ne HO_198000.out BK197.out (by decide))); have n4_ := Aside0.mk (blk_grown (g := gb199) (o := .cells #[.int .i64 ((rd_T61 l1_0 x7_1).f0), .int .i64 ((rd_T61 l1_0 x7_1).f1), .int .i64 ((rd_T61 l1_0 x7_1).f2), .int .i64 ((rd_T61 l1_0 x7_1).f3)] 61 (0, 0)) (zk0 BK199) hg (Kd.R_away HO_198000.out (fun _ hk => hk))); have n5_ := Aside0.mk (hb); have n6_ := Aside0.mk (ho); clear BK190; clear BK191; clear BK192; clear BK197; clear BK199; clear HB; clear HO_198000; have BK190 := n0_; have BK191 := n1_; have BK192 := n2_; have BK197 := n3_; have BK199 := n4_; have HB := n5_; have HO208 := n6_; clear n0_ n1_ n2_ n3_ n4_ n5_ n6_; clear ho hb hg hat; obtain ⟨Ao93, co93, eo93⟩ := Kd.R_slice HO208.out; subst eo93; have hcz94_0 := zc0 BK197 0 rfl; have hfz94_0 := blk_frozen BK197.out 0))
             go_roundg k1
             case measure => have := HK1.out; omega
             case rel => exact ⟨(wrap64 (x7_1 + 1)), (y206), (.slice Ao93 y206.length co93), (by first | rfl | (simp; done) | (simp [*]; done)), H', ⟨by have := HK1.out; omega⟩, ⟨by (with_reducible repeat (first | apply Kd.R_alloc | apply Kd.R_drewN | apply Kd.R_drew)); exact Kd.R_mono (Kd.R_far (p := ⟨gb197, 0, none⟩) (Kd.R_types HO208.out BK197.out (by decide)) (fun _ hk => hk.2) (.slice Ao93 y206.length co93)) (fun _ hk => trivial)⟩, ⟨by (with_reducible repeat (first | refine blk_drewN ?_ _ | refine blk_drew ?_ | refine blk_alloc ?_ _)); refine blk_far ?_ NB190_197.out _; (with_reducible repeat (first | refine blk_drewN ?_ _ | refine blk_drew ?_ | refine blk_alloc ?_ _)); exact BK190.out⟩, ⟨by (with_reducible repeat (first | refine blk_drewN ?_ _ | refine blk_drew ?_ | refine blk_alloc ?_ _)); refine blk_far ?_ NB191_197.out _; (with_reducible repeat (first | refine blk_drewN ?_ _ | refine blk_drew ?_ | refine blk_alloc ?_ _)); exact BK191.out⟩, ⟨by (with_reducible repeat (first | refine blk_drewN ?_ _ | refine blk_drew ?_ | refine blk_alloc ?_ _)); refine blk_far ?_ NB192_197.out _; (with_reducible repeat (first | refine blk_drewN ?_ _ | refine blk_drew ?_ | refine blk_alloc ?_ _)); exact BK192.out⟩, ⟨by (with_reducible repeat (first | refine blk_drewN ?_ _ | refine blk_drew ?_ | refine blk_alloc ?_ _)); refine blk_put (cs := #[.slice (some ad200) x198000_1.length co75]) ?_ 0 _ rfl; (with_reducible repeat (first | refine blk_drewN ?_ _ | refine blk_drew ?_ | refine blk_alloc ?_ _)); exact BK197.out⟩, ⟨by repeat (first | exact zh0 HB | refine below_set ?_ GE190.out | refine below_set ?_ GE191.out | refine below_set ?_ GE192.out | refine below_set ?_ GE197.out | refine below_set ?_ GE199.out)⟩⟩
            ·rw [if_neg c69] at H
             exact absurd H (by simp)
          ·rw [if_neg c45] at H
           have c45b0 : (((rd_T61 x198000_1 (ji42)).f0) == ((rd_T61 l1_0 x7_1).f0)) = false := beq_eq_false_iff_ne.mpr c45
           have c45b1 : (((rd_T61 x198000_1 (ji42)).f0) != ((rd_T61 l1_0 x7_1).f0)) = true := bne_iff_ne.mpr c45
           by_cases c95 : x198000_1.length < 4398046511104
           ·rw [if_pos c95] at H
            have LMc95 := Aside0.mk c95
            clear c95
            obtain ⟨y209, hy209⟩ : ∃ y_ : List (S61), y_ = (x198000_1 ++ [(⟨(rd_T61 l1_0 x7_1).f0, (rd_T61 l1_0 x7_1).f1, (rd_T61 l1_0 x7_1).f2, (rd_T61 l1_0 x7_1).f3⟩ : S61)]) := ⟨_, rfl⟩
            replace H : (spec_MergeParts.l0 k1 (wrap64 (x7_1 + 1)) l1_0 y209) = some (r1, r2) := by first | (rw [hy209]; with_reducible exact H) | (have H2_ := (Option.bind_some _ _).symm.trans H; rw [hy209]; with_reducible exact H2_) | (have H2_ := (Option.bind_some _ _).symm.trans H; with_reducible exact H2_) | with_reducible exact H | (rw [hy209]; exact H) | exact H
            have Ny209 := Aside0.mk hy209
            clear hy209
            have H' := Aside0.mk H
            clear H
            have hnb96 := NB191_190.out
            have hnc96 := NB190_191.out
            have hnb97 := NB191_192.out
            have hnc97 := NB192_191.out
            have hnb98 := NB191_197.out
            have hnc98 := NB197_191.out
            have hcz99_0 := zc0 BK191 0 rfl
            have hfz99_0 := blk_frozen BK191.out 0
            try go_wp2
            replace HO_198000 := Aside0.mk (Kd.R_drew HO_198000.out)
            replace BK190 := Aside0.mk (blk_drew BK190.out)
            replace BK191 := Aside0.mk (blk_drew BK191.out)
            replace BK192 := Aside0.mk (blk_drew BK192.out)
            replace BK197 := Aside0.mk (blk_drew BK197.out)
            replace HB := Aside0.mk (below_drew1 HB.out)
            have p198 : 0 ≤ (x7_1 : Int) := of_decide_eq_true (by first | (with_reducible assumption) | assumption)
            have q198 : x7_1 < (l1_0.length : Int) := of_decide_eq_true (by first | (with_reducible assumption) | assumption)
            obtain ⟨ad198, e198, hx198_0, hx198_1, hx198_2, hx198_3⟩ := at_T61 HR1_0.out x7_1 p198 q198
            have hw198_3 := hx198_3
            have hw198_2 := hx198_2
            have hw198_1 := hx198_1
            have hw198_0 := hx198_0
            cases e198
            replace hx198_0 := (HB.out.cell (World.block_lt_of_cell? w _ hx198_0)).trans hx198_0
            replace hx198_1 := (HB.out.cell (World.block_lt_of_cell? w _ hx198_1)).trans hx198_1
            replace hx198_2 := (HB.out.cell (World.block_lt_of_cell? w _ hx198_2)).trans hx198_2
            replace hx198_3 := (HB.out.cell (World.block_lt_of_cell? w _ hx198_3)).trans hx198_3
            replace p198 := eq_true p198
            replace q198 := eq_true q198
            obtain ⟨Ao101, co101, eo101⟩ := Kd.R_slice HO_198000.out
            (first | subst eo101 | (injection eo101 with f1_ f2_ f3_; have f4_ := f1_.symm; have f5_ := f3_.symm; clear f1_ f2_ f3_; subst f4_; subst f5_))
            refine start_ (n := 11) (S := fun w' => w'.cell? ⟨gb191, 0, none⟩ = some (.slice (some ad198) l1_0.length c1_0) ∧ w'.cell? ⟨gb197, 0, none⟩ = some (.slice Ao101 x198000_1.length co101) ∧ w'.cell? (ad198.add ((x7_1).toNat * 4)) = some (.int .i64 ((rd_T61 l1_0 x7_1).f0)) ∧ w'.cell? ⟨(ad198.add ((x7_1).toNat * 4)).block, (ad198.add ((x7_1).toNat * 4)).off + 1, none⟩ = some (.int .i64 ((rd_T61 l1_0 x7_1).f1)) ∧ w'.cell? ⟨(ad198.add ((x7_1).toNat * 4)).block, (ad198.add ((x7_1).toNat * 4)).off + 2, none⟩ = some (.int .i64 ((rd_T61 l1_0 x7_1).f2)) ∧ w'.cell? ⟨(ad198.add ((x7_1).toNat * 4)).block, (ad198.add ((x7_1).toNat * 4)).off + 3, none⟩ = some (.int .i64 ((rd_T61 l1_0 x7_1).f3))) (ds := []) #[zF, zF, zF, zF, zF, zF, zF, zF, zF, zF, zF] (by kernel_rfl) rfl rfl ⟨zc0 BK191 0 rfl, zc0 BK197 0 rfl, ((HB.out.cell (World.block_lt_of_cell? w _ hw198_0)).trans hw198_0), ((HB.out.cell (World.block_lt_of_cell? w _ hw198_1)).trans hw198_1), ((HB.out.cell (World.block_lt_of_cell? w _ hw198_2)).trans hw198_2), ((HB.out.cell (World.block_lt_of_cell? w _ hw198_3)).trans hw198_3)⟩ (fun hHeld => ?_); refine with_tabW spec_MergeParts.tab7 spec_MergeParts.bits7 (fun HT_ HW_ => ?_)
            generalize wr.drew = w100 at HO_198000 BK190 BK191 BK192 BK197 HB hx198_0 hx198_1 hx198_2 hx198_3 hHeld ⊢
            refine pure_ (i := 0) (N := some 25) (v := ?_) (a' := ?_) #[zT, zF, zF, zF, zF, zF, zF, zF, zF, zF, zF] rfl rfl (any_of HT_.out (by kernel_rfl)) (fun _ _ _ h => h) (Or.inl ⟨by rfl, ?_⟩) ?_ ?_
            rotate_left
            ·intro w'
             go_simp
             with_reducible rfl
            rotate_left
            ·simp only [Act.put, zp1, zp2, zp3, i64_w, i32_w]
             rfl
            refine pure_ (i := 2) (N := some 27) (v := ?_) (a' := ?_) #[zT, zF, zT, zF, zF, zF, zF, zF, zF, zF, zF] rfl rfl (any_of HT_.out (by kernel_rfl)) (fun _ _ _ h => h) (Or.inl ⟨by rfl, ?_⟩) ?_ ?_
            rotate_left
            ·intro w'
             go_simp
             with_reducible rfl
            rotate_left
            ·simp only [Act.put, zp1, zp2, zp3, i64_w, i32_w]
             rfl
            refine pure_ (i := 5) (N := some 30) (v := ?_) (a' := ?_) #[zT, zF, zT, zF, zF, zT, zF, zF, zF, zF, zF] rfl rfl (any_of HT_.out (by kernel_rfl)) (fun _ _ _ h => h) (Or.inl ⟨by rfl, ?_⟩) ?_ ?_
            rotate_left
            ·intro w'
             go_simp
             with_reducible rfl
            rotate_left
            ·simp only [Act.put, zp1, zp2, zp3, i64_w, i32_w]
             rfl
            refine take_ (i := 1) (N := some 26) (v := ?_) (a' := ?_) #[zT, zT, zT, zF, zF, zT, zF, zF, zF, zF, zF] rfl rfl (take_ofW HT_.out HW_.out (by kernel_rfl)) (fun _ _ _ h => h) (Or.inl ⟨by rfl, ?_⟩) hHeld ?_ ?_
            rotate_left
            ·rintro w' ⟨s0, s1, s2, s3, s4, s5⟩
             go_simp
             with_reducible rfl
            rotate_left
            ·simp only [Act.put, zp1, zp2, zp3, i64_w, i32_w]
             rfl
            refine pure_ (i := 3) (N := some 28) (v := ?_) (a' := ?_) #[zT, zT, zT, zT, zF, zT, zF, zF, zF, zF, zF] rfl rfl (any_of HT_.out (by kernel_rfl)) (fun _ _ _ h => h) (Or.inl ⟨by rfl, ?_⟩) ?_ ?_
            rotate_left
            ·intro w'
             go_simp
             with_reducible rfl
            rotate_left
            ·simp only [Act.put, zp1, zp2, zp3, i64_w, i32_w]
             rfl
            refine take_ (i := 4) (N := some 29) (v := ?_) (a' := ?_) #[zT, zT, zT, zT, zT, zT, zF, zF, zF, zF, zF] rfl rfl (take_ofW HT_.out HW_.out (by kernel_rfl)) (fun _ _ _ h => h) (Or.inl ⟨by rfl, ?_⟩) hHeld ?_ ?_
            rotate_left
            ·rintro w' ⟨s0, s1, s2, s3, s4, s5⟩
             go_simp
             with_reducible rfl
            rotate_left
            ·simp only [Act.put, zp1, zp2, zp3, i64_w, i32_w]
             rfl
            refine take_ (i := 6) (N := some 31) (v := ?_) (a' := ?_) #[zT, zT, zT, zT, zT, zT, zT, zF, zF, zF, zF] rfl rfl (take_ofW HT_.out HW_.out (by kernel_rfl)) (fun _ _ _ h => h) (Or.inl ⟨by rfl, ?_⟩) hHeld ?_ ?_
            rotate_left
            ·rintro w' ⟨s0, s1, s2, s3, s4, s5⟩
             go_simp
             with_reducible rfl
            rotate_left
            ·simp only [Act.put, zp1, zp2, zp3, i64_w, i32_w]
             rfl
            refine pure_ (i := 7) (N := some 32) (v := ?_) (a' := ?_) #[zT, zT, zT, zT, zT, zT, zT, zT, zF, zF, zF] rfl rfl (any_of HT_.out (by kernel_rfl)) (fun _ _ _ h => h) (Or.inl ⟨by rfl, ?_⟩) ?_ ?_
            rotate_left
            ·intro w'
             go_simp
             with_reducible rfl
            rotate_left
            ·simp only [Act.put, zp1, zp2, zp3, i64_w, i32_w]
             rfl
            refine one_ (i := 8) (N := some 8) #[zT, zT, zT, zT, zT, zT, zT, zT, zT, zF, zF] rfl rfl (one_of HT_.out (by kernel_rfl)) (by decide) (fun K hK => ?_)
            refine box_step ?hg (N := 8) ?hd (cs := #[.int .i64 0, .int .i64 0, .int .i64 0, .int .i64 0]) (t := 61) ?hr ?_; (case hd => rfl); (case hg => rfl); (case hr => first | (go_simp; done) | (go_simp; rfl))
            intro gb199 hg w102 hbox hb
            have BK199 := Aside0.mk (hbox)
            have GW199 := Aside0.mk ((by rw [hg]; exact (below_size (by repeat (first | exact zh0 HB | refine below_set ?_ GE190.out | refine below_set ?_ GE191.out | refine below_set ?_ GE192.out | refine below_set ?_ GE197.out))) : w.heap.size ≤ gb199))
            have GE199 := Aside0.mk ((by rw [hg]; exact (below_size (by repeat (first | exact zh0 HB | refine below_set ?_ GE190.out | refine below_set ?_ GE191.out | refine below_set ?_ GE192.out | refine below_set ?_ GE197.out))) : w.heap.size ≤ gb199))
            have NB190_199 := znl BK190 hg
            have NB199_190 := znr BK190 hg
            have NB191_199 := znl BK191 hg
            have NB199_191 := znr BK191 hg
            have NB192_199 := znl BK192 hg
            have NB199_192 := znr BK192 hg
            have NB197_199 := znl BK197 hg
            have NB199_197 := znr BK197 hg
            replace HO_198000 := Aside0.mk (Kd.R_below (Kd.R_elderB (zr0 HO_198000) gb199 (Nat.le_of_eq hg.symm)) hb)
            replace BK190 := zb0 BK190 hb
            replace BK191 := zb0 BK191 hb
            replace BK192 := zb0 BK192 hb
            replace BK197 := zb0 BK197 hb
            replace HB := Aside0.mk (below_step (by repeat (first | exact zh0 HB | refine below_set ?_ GE190.out | refine below_set ?_ GE191.out | refine below_set ?_ GE192.out | refine below_set ?_ GE197.out)) hb)
            clear hb hbox hg
            refine hK.out _ _ ⟨zc0 BK191 0 rfl, zc0 BK197 0 rfl, ((HB.out.cell (World.block_lt_of_cell? w _ hw198_0)).trans hw198_0), ((HB.out.cell (World.block_lt_of_cell? w _ hw198_1)).trans hw198_1), ((HB.out.cell (World.block_lt_of_cell? w _ hw198_2)).trans hw198_2), ((HB.out.cell (World.block_lt_of_cell? w _ hw198_3)).trans hw198_3)⟩ (fun hHeld => ?_)
            clear hK K
            refine norm_ (a' := ?_) ?_ ?_
            rotate_left
            ·show Act.put _ (some 8) _ = _
             simp only [Act.put, zp1, zp2, zp3, i64_w, i32_w]
             rfl
            refine one_ (i := 9) (N := none) #[zT, zT, zT, zT, zT, zT, zT, zT, zT, zT, zF] rfl rfl (one_of HT_.out (by kernel_rfl)) (by decide) (fun K hK => ?_)
            have hs103 : w102.cell? ⟨gb199, 0, none⟩ = some (.int .i64 0) := zc0 BK199 0 rfl
            have hfs103 := blk_frozen BK199.out 0
            have hns103_0 := NB190_199.out
            have hns103_1 := NB191_199.out
            have hns103_2 := NB192_199.out
            have hns103_3 := NB197_199.out
            have hms103_0 := NB199_190.out
            have hms103_1 := NB199_191.out
            have hms103_2 := NB199_192.out
            have hms103_3 := NB199_197.out
            have hs104 : w102.cell? ⟨gb199, 1, none⟩ = some (.int .i64 0) := zc0 BK199 1 rfl
            have hfs104 := blk_frozen BK199.out 1
            have hns104_0 := NB190_199.out
            have hns104_1 := NB191_199.out
            have hns104_2 := NB192_199.out
            have hns104_3 := NB197_199.out
            have hms104_0 := NB199_190.out
            have hms104_1 := NB199_191.out
            have hms104_2 := NB199_192.out
            have hms104_3 := NB199_197.out
            have hs105 : w102.cell? ⟨gb199, 2, none⟩ = some (.int .i64 0) := zc0 BK199 2 rfl
            have hfs105 := blk_frozen BK199.out 2
            have hns105_0 := NB190_199.out
            have hns105_1 := NB191_199.out
            have hns105_2 := NB192_199.out
            have hns105_3 := NB197_199.out
            have hms105_0 := NB199_190.out
            have hms105_1 := NB199_191.out
            have hms105_2 := NB199_192.out
            have hms105_3 := NB199_197.out
            have hs106 : w102.cell? ⟨gb199, 3, none⟩ = some (.int .i64 0) := zc0 BK199 3 rfl
            have hfs106 := blk_frozen BK199.out 3
            have hns106_0 := NB190_199.out
            have hns106_1 := NB191_199.out
            have hns106_2 := NB192_199.out
            have hns106_3 := NB197_199.out
            have hms106_0 := NB199_190.out
            have hms106_1 := NB199_191.out
            have hms106_2 := NB199_192.out
            have hms106_3 := NB199_197.out
            refine skip_ (w1 := ?_) (by rfl) rfl ?_ ?_
            rotate_left
            ·go_simp
             rfl
            refine hK.out _ _ ⟨((zfar NB191_199).trans (((zfar NB191_199).trans (((zfar NB191_199).trans (((zfar NB191_199).trans (hHeld.1)))))))), ((zfar NB197_199).trans (((zfar NB197_199).trans (((zfar NB197_199).trans (((zfar NB197_199).trans (hHeld.2.1)))))))), ((cell_far (p := ⟨gb199, _, none⟩) (znb hw198_0 GW199.out (by first | rfl | simp only [add_block])) _).trans (((cell_far (p := ⟨gb199, _, none⟩) (znb hw198_0 GW199.out (by first | rfl | simp only [add_block])) _).trans (((cell_far (p := ⟨gb199, _, none⟩) (znb hw198_0 GW199.out (by first | rfl | simp only [add_block])) _).trans (((cell_far (p := ⟨gb199, _, none⟩) (znb hw198_0 GW199.out (by first | rfl | simp only [add_block])) _).trans (hHeld.2.2.1)))))))), ((cell_far (p := ⟨gb199, _, none⟩) (znb hw198_1 GW199.out (by first | rfl | simp only [add_block])) _).trans (((cell_far (p := ⟨gb199, _, none⟩) (znb hw198_1 GW199.out (by first | rfl | simp only [add_block])) _).trans (((cell_far (p := ⟨gb199, _, none⟩) (znb hw198_1 GW199.out (by first | rfl | simp only [add_block])) _).trans (((cell_far (p := ⟨gb199, _, none⟩) (znb hw198_1 GW199.out (by first | rfl | simp only [add_block])) _).trans (hHeld.2.2.2.1)))))))), ((cell_far (p := ⟨gb199, _, none⟩) (znb hw198_2 GW199.out (by first | rfl | simp only [add_block])) _).trans (((cell_far (p := ⟨gb199, _, none⟩) (znb hw198_2 GW199.out (by first | rfl | simp only [add_block])) _).trans (((cell_far (p := ⟨gb199, _, none⟩) (znb hw198_2 GW199.out (by first | rfl | simp only [add_block])) _).trans (((cell_far (p := ⟨gb199, _, none⟩) (znb hw198_2 GW199.out (by first | rfl | simp only [add_block])) _).trans (hHeld.2.2.2.2.1)))))))), ((cell_far (p := ⟨gb199, _, none⟩) (znb hw198_3 GW199.out (by first | rfl | simp only [add_block])) _).trans (((cell_far (p := ⟨gb199, _, none⟩) (znb hw198_3 GW199.out (by first | rfl | simp only [add_block])) _).trans (((cell_far (p := ⟨gb199, _, none⟩) (znb hw198_3 GW199.out (by first | rfl | simp only [add_block])) _).trans (((cell_far (p := ⟨gb199, _, none⟩) (znb hw198_3 GW199.out (by first | rfl | simp only [add_block])) _).trans (hHeld.2.2.2.2.2))))))))⟩ (fun hHeld => ?_)
            clear hK K
            refine pure_ (i := 10) (N := some 9) (v := ?_) (a' := ?_) #[zT, zT, zT, zT, zT, zT, zT, zT, zT, zT, zT] rfl rfl (any_of HT_.out (by kernel_rfl)) (fun _ _ _ h => h) (Or.inl ⟨by rfl, ?_⟩) ?_ ?_
            rotate_left
            ·intro w'
             go_simp
             with_reducible rfl
            rotate_left
            ·simp only [Act.put, zp1, zp2, zp3, i64_w, i32_w]
             rfl
            refine done_ (done_of HT_.out (by kernel_rfl)) ?_
            have hnb107 := NB199_190.out
            have hnc107 := NB190_199.out
            have hnb108 := NB199_191.out
            have hnc108 := NB191_199.out
            have hnb109 := NB199_192.out
            have hnc109 := NB192_199.out
            have hnb110 := NB199_197.out
            have hnc110 := NB197_199.out
            have hcz111_0 := zc0 BK199 0 rfl
            have hcz111_1 := zc0 BK199 1 rfl
            have hcz111_2 := zc0 BK199 2 rfl
            have hcz111_3 := zc0 BK199 3 rfl
            have hfz111_0 := blk_frozen BK199.out 0
            have hfz111_1 := blk_frozen BK199.out 1
            have hfz111_2 := blk_frozen BK199.out 2
            have hfz111_3 := blk_frozen BK199.out 3
            try go_wp2
            have n0_ : Aside0 (Kd.R k61 61 ((((w102.setCell ⟨gb199, 0, none⟩ (.int .i64 ((rd_T61 l1_0 x7_1).f0))).setCell ⟨gb199, 1, none⟩ (.int .i64 ((rd_T61 l1_0 x7_1).f1))).setCell ⟨gb199, 2, none⟩ (.int .i64 ((rd_T61 l1_0 x7_1).f2))).setCell ⟨gb199, 3, none⟩ (.int .i64 ((rd_T61 l1_0 x7_1).f3))) w.heap.size (fun k_ => k_ ≠ gb199) (.slice Ao101 x198000_1.length co101) x198000_1) := ⟨by (with_reducible repeat (first | apply Kd.R_alloc | apply Kd.R_drewN | apply Kd.R_drew)); exact Kd.R_mono (Kd.R_far (p := ⟨gb199, 3, none⟩) (Kd.R_far (p := ⟨gb199, 2, none⟩) (Kd.R_far (p := ⟨gb199, 1, none⟩) (Kd.R_far (p := ⟨gb199, 0, none⟩) (Kd.R_mono HO_198000.out (fun k_ hk => (⟨hk, hk.2⟩ : _ ∧ k_ ≠ gb199))) (fun _ hk => hk.2) (.int .i64 ((rd_T61 l1_0 x7_1).f0))) (fun _ hk => hk.2) (.int .i64 ((rd_T61 l1_0 x7_1).f1))) (fun _ hk => hk.2) (.int .i64 ((rd_T61 l1_0 x7_1).f2))) (fun _ hk => hk.2) (.int .i64 ((rd_T61 l1_0 x7_1).f3))) (fun _ hk => hk.1.2)⟩
            have n1_ : Aside0 (((((w102.setCell ⟨gb199, 0, none⟩ (.int .i64 ((rd_T61 l1_0 x7_1).f0))).setCell ⟨gb199, 1, none⟩ (.int .i64 ((rd_T61 l1_0 x7_1).f1))).setCell ⟨gb199, 2, none⟩ (.int .i64 ((rd_T61 l1_0 x7_1).f2))).setCell ⟨gb199, 3, none⟩ (.int .i64 ((rd_T61 l1_0 x7_1).f3))).heap[gb190]? = some (.cells #[.slice A0_0 l0_0.length c0_0] 35 (0, 0))) := ⟨by (with_reducible repeat (first | refine blk_drewN ?_ _ | refine blk_drew ?_ | refine blk_alloc ?_ _)); refine blk_far ?_ NB190_199.out _; refine blk_far ?_ NB190_199.out _; refine blk_far ?_ NB190_199.out _; refine blk_far ?_ NB190_199.out _; (with_reducible repeat (first | refine blk_drewN ?_ _ | refine blk_drew ?_ | refine blk_alloc ?_ _)); exact BK190.out⟩
            have n2_ : Aside0 (((((w102.setCell ⟨gb199, 0, none⟩ (.int .i64 ((rd_T61 l1_0 x7_1).f0))).setCell ⟨gb199, 1, none⟩ (.int .i64 ((rd_T61 l1_0 x7_1).f1))).setCell ⟨gb199, 2, none⟩ (.int .i64 ((rd_T61 l1_0 x7_1).f2))).setCell ⟨gb199, 3, none⟩ (.int .i64 ((rd_T61 l1_0 x7_1).f3))).heap[gb191]? = some (.cells #[.slice (some ad198) l1_0.length c1_0] 32 (0, 0))) := ⟨by (with_reducible repeat (first | refine blk_drewN ?_ _ | refine blk_drew ?_ | refine blk_alloc ?_ _)); refine blk_far ?_ NB191_199.out _; refine blk_far ?_ NB191_199.out _; refine blk_far ?_ NB191_199.out _; refine blk_far ?_ NB191_199.out _; (with_reducible repeat (first | refine blk_drewN ?_ _ | refine blk_drew ?_ | refine blk_alloc ?_ _)); exact BK191.out⟩
            have n3_ : Aside0 (((((w102.setCell ⟨gb199, 0, none⟩ (.int .i64 ((rd_T61 l1_0 x7_1).f0))).setCell ⟨gb199, 1, none⟩ (.int .i64 ((rd_T61 l1_0 x7_1).f1))).setCell ⟨gb199, 2, none⟩ (.int .i64 ((rd_T61 l1_0 x7_1).f2))).setCell ⟨gb199, 3, none⟩ (.int .i64 ((rd_T61 l1_0 x7_1).f3))).heap[gb192]? = some (.cells #[.slice none 0 0] 32 (0, 0))) := ⟨by (with_reducible repeat (first | refine blk_drewN ?_ _ | refine blk_drew ?_ | refine blk_alloc ?_ _)); refine blk_far ?_ NB192_199.out _; refine blk_far ?_ NB192_199.out _; refine blk_far ?_ NB192_199.out _; refine blk_far ?_ NB192_199.out _; (with_reducible repeat (first | refine blk_drewN ?_ _ | refine blk_drew ?_ | refine blk_alloc ?_ _)); exact BK192.out⟩
            have n4_ : Aside0 (((((w102.setCell ⟨gb199, 0, none⟩ (.int .i64 ((rd_T61 l1_0 x7_1).f0))).setCell ⟨gb199, 1, none⟩ (.int .i64 ((rd_T61 l1_0 x7_1).f1))).setCell ⟨gb199, 2, none⟩ (.int .i64 ((rd_T61 l1_0 x7_1).f2))).setCell ⟨gb199, 3, none⟩ (.int .i64 ((rd_T61 l1_0 x7_1).f3))).heap[gb197]? = some (.cells #[.slice Ao101 x198000_1.length co101] 32 (0, 0))) := ⟨by (with_reducible repeat (first | refine blk_drewN ?_ _ | refine blk_drew ?_ | refine blk_alloc ?_ _)); refine blk_far ?_ NB197_199.out _; refine blk_far ?_ NB197_199.out _; refine blk_far ?_ NB197_199.out _; refine blk_far ?_ NB197_199.out _; (with_reducible repeat (first | refine blk_drewN ?_ _ | refine blk_drew ?_ | refine blk_alloc ?_ _)); exact BK197.out⟩
            have n5_ : Aside0 (((((w102.setCell ⟨gb199, 0, none⟩ (.int .i64 ((rd_T61 l1_0 x7_1).f0))).setCell ⟨gb199, 1, none⟩ (.int .i64 ((rd_T61 l1_0 x7_1).f1))).setCell ⟨gb199, 2, none⟩ (.int .i64 ((rd_T61 l1_0 x7_1).f2))).setCell ⟨gb199, 3, none⟩ (.int .i64 ((rd_T61 l1_0 x7_1).f3))).heap[gb199]? = some (.cells #[.int .i64 ((rd_T61 l1_0 x7_1).f0), .int .i64 ((rd_T61 l1_0 x7_1).f1), .int .i64 ((rd_T61 l1_0 x7_1).f2), .int .i64 ((rd_T61 l1_0 x7_1).f3)] 61 (0, 0))) := ⟨by (with_reducible repeat (first | refine blk_drewN ?_ _ | refine blk_drew ?_ | refine blk_alloc ?_ _)); refine blk_put (cs := #[.int .i64 ((rd_T61 l1_0 x7_1).f0), .int .i64 ((rd_T61 l1_0 x7_1).f1), .int .i64 ((rd_T61 l1_0 x7_1).f2), .int .i64 0]) ?_ 3 _ rfl; refine blk_put (cs := #[.int .i64 ((rd_T61 l1_0 x7_1).f0), .int .i64 ((rd_T61 l1_0 x7_1).f1), .int .i64 0, .int .i64 0]) ?_ 2 _ rfl; refine blk_put (cs := #[.int .i64 ((rd_T61 l1_0 x7_1).f0), .int .i64 0, .int .i64 0, .int .i64 0]) ?_ 1 _ rfl; refine blk_put (cs := #[.int .i64 0, .int .i64 0, .int .i64 0, .int .i64 0]) ?_ 0 _ rfl; (with_reducible repeat (first | refine blk_drewN ?_ _ | refine blk_drew ?_ | refine blk_alloc ?_ _)); exact BK199.out⟩
            have n6_ : Aside0 (Below w.heap.size w ((((w102.setCell ⟨gb199, 0, none⟩ (.int .i64 ((rd_T61 l1_0 x7_1).f0))).setCell ⟨gb199, 1, none⟩ (.int .i64 ((rd_T61 l1_0 x7_1).f1))).setCell ⟨gb199, 2, none⟩ (.int .i64 ((rd_T61 l1_0 x7_1).f2))).setCell ⟨gb199, 3, none⟩ (.int .i64 ((rd_T61 l1_0 x7_1).f3)))) := ⟨by repeat (first | exact zh0 HB | refine below_set ?_ GE190.out | refine below_set ?_ GE191.out | refine below_set ?_ GE192.out | refine below_set ?_ GE197.out | refine below_set ?_ GE199.out)⟩
            (try clear HO_198000)
            (try clear BK190)
            (try clear BK191)
            (try clear BK192)
            (try clear BK197)
            (try clear BK199)
            (try clear HB)
            generalize ((((w102.setCell ⟨gb199, 0, none⟩ (.int .i64 ((rd_T61 l1_0 x7_1).f0))).setCell ⟨gb199, 1, none⟩ (.int .i64 ((rd_T61 l1_0 x7_1).f1))).setCell ⟨gb199, 2, none⟩ (.int .i64 ((rd_T61 l1_0 x7_1).f2))).setCell ⟨gb199, 3, none⟩ (.int .i64 ((rd_T61 l1_0 x7_1).f3))) = w112 at n0_ n1_ n2_ n3_ n4_ n5_ n6_ ⊢
            have HO_198000 := n0_
            have BK190 := n1_
            have BK191 := n2_
            have BK192 := n3_
            have BK197 := n4_
            have BK199 := n5_
            have HB := n6_
            clear n0_ n1_ n2_ n3_ n4_ n5_ n6_
            replace HO_198000 := Aside0.mk (Kd.R_drew HO_198000.out)
            replace BK190 := Aside0.mk (blk_drew BK190.out)
            replace BK191 := Aside0.mk (blk_drew BK191.out)
            replace BK192 := Aside0.mk (blk_drew BK192.out)
            replace BK197 := Aside0.mk (blk_drew BK197.out)
            replace BK199 := Aside0.mk (blk_drew BK199.out)
            replace HB := Aside0.mk (below_drew1 HB.out)
            have p200 : 0 ≤ ((ji42) : Int) := of_decide_eq_true (by first | (with_reducible assumption) | assumption)
            have q200 : (ji42) < (x198000_1.length : Int) := of_decide_eq_true (by first | (with_reducible assumption) | assumption)
            obtain ⟨ad200, e200, hx200_0, hx200_1, hx200_2, hx200_3⟩ := at_T61 (Kd.R_reads' HO_198000.out).2.2 (ji42) p200 q200
            cases e200
            replace p200 := eq_true p200
            replace q200 := eq_true q200
            refine start_ (n := 34) (S := fun w' => w'.cell? ⟨gb197, 0, none⟩ = some (.slice (some ad200) x198000_1.length co101) ∧ w'.cell? ⟨gb199, 0, none⟩ = some (.int .i64 ((rd_T61 l1_0 x7_1).f0)) ∧ w'.cell? ⟨gb199, 1, none⟩ = some (.int .i64 ((rd_T61 l1_0 x7_1).f1)) ∧ w'.cell? ⟨gb199, 2, none⟩ = some (.int .i64 ((rd_T61 l1_0 x7_1).f2)) ∧ w'.cell? ⟨gb199, 3, none⟩ = some (.int .i64 ((rd_T61 l1_0 x7_1).f3)) ∧ w'.cell? (ad200.add (((ji42)).toNat * 4)) = some (.int .i64 ((rd_T61 x198000_1 (ji42)).f0)) ∧ w'.cell? ⟨(ad200.add (((ji42)).toNat * 4)).block, (ad200.add (((ji42)).toNat * 4)).off + 1, none⟩ = some (.int .i64 ((rd_T61 x198000_1 (ji42)).f1)) ∧ w'.cell? ⟨(ad200.add (((ji42)).toNat * 4)).block, (ad200.add (((ji42)).toNat * 4)).off + 2, none⟩ = some (.int .i64 ((rd_T61 x198000_1 (ji42)).f2)) ∧ w'.cell? ⟨(ad200.add (((ji42)).toNat * 4)).block, (ad200.add (((ji42)).toNat * 4)).off + 3, none⟩ = some (.int .i64 ((rd_T61 x198000_1 (ji42)).f3))) (ds := []) #[zF, zF, zF, zF, zF, zF, zF, zF, zF, zF, zF, zF, zF, zF, zF, zF, zF, zF, zF, zF, zF, zF, zF, zF, zF, zF, zF, zF, zF, zF, zF, zF, zF, zF] (by kernel_rfl) rfl rfl ⟨zc0 BK197 0 rfl, zc0 BK199 0 rfl, zc0 BK199 1 rfl, zc0 BK199 2 rfl, zc0 BK199 3 rfl, hx200_0, hx200_1, hx200_2, hx200_3⟩ (fun hHeld => ?_); refine with_tabW spec_MergeParts.tab9 spec_MergeParts.bits9 (fun HT_ HW_ => ?_)
            generalize w112.drew = w113 at HO_198000 BK190 BK191 BK192 BK197 BK199 HB hx200_0 hx200_1 hx200_2 hx200_3 hHeld ⊢
            refine pure_ (i := 0) (N := some 36) (v := ?_) (a' := ?_) #[zT, zF, zF, zF, zF, zF, zF, zF, zF, zF, zF, zF, zF, zF, zF, zF, zF, zF, zF, zF, zF, zF, zF, zF, zF, zF, zF, zF, zF, zF, zF, zF, zF, zF] rfl rfl (any_of HT_.out (by kernel_rfl)) (fun _ _ _ h => h) (Or.inl ⟨by rfl, ?_⟩) ?_ ?_
            rotate_left
            ·intro w'
             go_simp
             with_reducible rfl
            rotate_left
            ·simp only [Act.put, zp1, zp2, zp3, i64_w, i32_w]
             rfl
            refine pure_ (i := 1) (N := some 37) (v := ?_) (a' := ?_) #[zT, zT, zF, zF, zF, zF, zF, zF, zF, zF, zF, zF, zF, zF, zF, zF, zF, zF, zF, zF, zF, zF, zF, zF, zF, zF, zF, zF, zF, zF, zF, zF, zF, zF] rfl rfl (any_of HT_.out (by kernel_rfl)) (fun _ _ _ h => h) (Or.inl ⟨by rfl, ?_⟩) ?_ ?_
            rotate_left
            ·intro w'
             go_simp
             with_reducible rfl
            rotate_left
            ·simp only [Act.put, zp1, zp2, zp3, i64_w, i32_w]
             rfl
            refine pure_ (i := 2) (N := some 38) (v := ?_) (a' := ?_) #[zT, zT, zT, zF, zF, zF, zF, zF, zF, zF, zF, zF, zF, zF, zF, zF, zF, zF, zF, zF, zF, zF, zF, zF, zF, zF, zF, zF, zF, zF, zF, zF, zF, zF] rfl rfl (any_of HT_.out (by kernel_rfl)) (fun _ _ _ h => h) (Or.inl ⟨by rfl, ?_⟩) ?_ ?_
            rotate_left
            ·intro w'
             go_simp
             with_reducible rfl
            rotate_left
            ·simp only [Act.put, zp1, zp2, zp3, i64_w, i32_w]
             rfl
            refine pure_ (i := 3) (N := some 39) (v := ?_) (a' := ?_) #[zT, zT, zT, zT, zF, zF, zF, zF, zF, zF, zF, zF, zF, zF, zF, zF, zF, zF, zF, zF, zF, zF, zF, zF, zF, zF, zF, zF, zF, zF, zF, zF, zF, zF] rfl rfl (any_of HT_.out (by kernel_rfl)) (fun _ _ _ h => h) (Or.inl ⟨by rfl, ?_⟩) ?_ ?_
            rotate_left
            ·intro w'
             go_simp
             with_reducible rfl
            rotate_left
            ·simp only [Act.put, zp1, zp2, zp3, i64_w, i32_w]
             rfl
            refine pure_ (i := 5) (N := some 41) (v := ?_) (a' := ?_) #[zT, zT, zT, zT, zF, zT, zF, zF, zF, zF, zF, zF, zF, zF, zF, zF, zF, zF, zF, zF, zF, zF, zF, zF, zF, zF, zF, zF, zF, zF, zF, zF, zF, zF] rfl rfl (any_of HT_.out (by kernel_rfl)) (fun _ _ _ h => h) (Or.inl ⟨by rfl, ?_⟩) ?_ ?_
            rotate_left
            ·intro w'
             go_simp
             with_reducible rfl
            rotate_left
            ·simp only [Act.put, zp1, zp2, zp3, i64_w, i32_w]
             rfl
            refine pure_ (i := 6) (N := some 42) (v := ?_) (a' := ?_) #[zT, zT, zT, zT, zF, zT, zT, zF, zF, zF, zF, zF, zF, zF, zF, zF, zF, zF, zF, zF, zF, zF, zF, zF, zF, zF, zF, zF, zF, zF, zF, zF, zF, zF] rfl rfl (any_of HT_.out (by kernel_rfl)) (fun _ _ _ h => h) (Or.inl ⟨by rfl, ?_⟩) ?_ ?_
            rotate_left
            ·intro w'
             go_simp
             with_reducible rfl
            rotate_left
            ·simp only [Act.put, zp1, zp2, zp3, i64_w, i32_w]
             rfl
            refine pure_ (i := 10) (N := some 46) (v := ?_) (a' := ?_) #[zT, zT, zT, zT, zF, zT, zT, zF, zF, zF, zT, zF, zF, zF, zF, zF, zF, zF, zF, zF, zF, zF, zF, zF, zF, zF, zF, zF, zF, zF, zF, zF, zF, zF] rfl rfl (any_of HT_.out (by kernel_rfl)) (fun _ _ _ h => h) (Or.inl ⟨by rfl, ?_⟩) ?_ ?_
            rotate_left
            ·intro w'
             go_simp
             with_reducible rfl
            rotate_left
            ·simp only [Act.put, zp1, zp2, zp3, i64_w, i32_w]
             rfl
            refine take_ (i := 4) (N := some 40) (v := ?_) (a' := ?_) #[zT, zT, zT, zT, zT, zT, zT, zF, zF, zF, zT, zF, zF, zF, zF, zF, zF, zF, zF, zF, zF, zF, zF, zF, zF, zF, zF, zF, zF, zF, zF, zF, zF, zF] rfl rfl (take_ofW HT_.out HW_.out (by kernel_rfl)) (fun _ _ _ h => h) (Or.inl ⟨by rfl, ?_⟩) hHeld ?_ ?_
            rotate_left
            ·rintro w' ⟨s0, s1, s2, s3, s4, s5, s6, s7, s8⟩
             go_simp
             with_reducible rfl
            rotate_left
            ·simp only [Act.put, zp1, zp2, zp3, i64_w, i32_w]
             rfl
            refine pure_ (i := 7) (N := some 43) (v := ?_) (a' := ?_) #[zT, zT, zT, zT, zT, zT, zT, zT, zF, zF, zT, zF, zF, zF, zF, zF, zF, zF, zF, zF, zF, zF, zF, zF, zF, zF, zF, zF, zF, zF, zF, zF, zF, zF] rfl rfl (any_of HT_.out (by kernel_rfl)) (fun _ _ _ h => h) (Or.inl ⟨by rfl, ?_⟩) ?_ ?_
            rotate_left
            ·intro w'
             go_simp
             with_reducible rfl
            rotate_left
            ·simp only [Act.put, zp1, zp2, zp3, i64_w, i32_w]
             rfl
            refine pure_ (i := 8) (N := some 44) (v := ?_) (a' := ?_) #[zT, zT, zT, zT, zT, zT, zT, zT, zT, zF, zT, zF, zF, zF, zF, zF, zF, zF, zF, zF, zF, zF, zF, zF, zF, zF, zF, zF, zF, zF, zF, zF, zF, zF] rfl rfl (any_of HT_.out (by kernel_rfl)) (fun _ _ _ h => h) (Or.inl ⟨by rfl, ?_⟩) ?_ ?_
            rotate_left
            ·intro w'
             go_simp
             with_reducible rfl
            rotate_left
            ·simp only [Act.put, zp1, zp2, zp3, i64_w, i32_w]
             rfl
            refine take_ (i := 9) (N := some 45) (v := ?_) (a' := ?_) #[zT, zT, zT, zT, zT, zT, zT, zT, zT, zT, zT, zF, zF, zF, zF, zF, zF, zF, zF, zF, zF, zF, zF, zF, zF, zF, zF, zF, zF, zF, zF, zF, zF, zF] rfl rfl (take_ofW HT_.out HW_.out (by kernel_rfl)) (fun _ _ _ h => h) (Or.inl ⟨by rfl, ?_⟩) hHeld ?_ ?_
            rotate_left
            ·rintro w' ⟨s0, s1, s2, s3, s4, s5, s6, s7, s8⟩
             go_simp
             with_reducible rfl
            rotate_left
            ·simp only [Act.put, zp1, zp2, zp3, i64_w, i32_w]
             rfl
            refine take_ (i := 11) (N := some 47) (v := ?_) (a' := ?_) #[zT, zT, zT, zT, zT, zT, zT, zT, zT, zT, zT, zT, zF, zF, zF, zF, zF, zF, zF, zF, zF, zF, zF, zF, zF, zF, zF, zF, zF, zF, zF, zF, zF, zF] rfl rfl (take_ofW HT_.out HW_.out (by kernel_rfl)) (fun _ _ _ h => h) (Or.inl ⟨by rfl, ?_⟩) hHeld ?_ ?_
            rotate_left
            ·rintro w' ⟨s0, s1, s2, s3, s4, s5, s6, s7, s8⟩
             go_simp
             with_reducible rfl
            rotate_left
            ·simp only [Act.put, zp1, zp2, zp3, i64_w, i32_w]
             rfl
            refine pure_ (i := 12) (N := some 48) (v := ?_) (a' := ?_) #[zT, zT, zT, zT, zT, zT, zT, zT, zT, zT, zT, zT, zT, zF, zF, zF, zF, zF, zF, zF, zF, zF, zF, zF, zF, zF, zF, zF, zF, zF, zF, zF, zF, zF] rfl rfl (any_of HT_.out (by kernel_rfl)) (fun _ _ _ h => h) (Or.inl ⟨by rfl, ?_⟩) ?_ ?_
            rotate_left
            ·intro w'
             go_simp
             with_reducible rfl
            rotate_left
            ·simp only [Act.put, zp1, zp2, zp3, i64_w, i32_w]
             rfl
            refine pure_ (i := 13) (N := some 49) (v := ?_) (a' := ?_) #[zT, zT, zT, zT, zT, zT, zT, zT, zT, zT, zT, zT, zT, zT, zF, zF, zF, zF, zF, zF, zF, zF, zF, zF, zF, zF, zF, zF, zF, zF, zF, zF, zF, zF] rfl rfl (any_of HT_.out (by kernel_rfl)) (fun _ _ _ h => h) (Or.inl ⟨by rfl, ?_⟩) ?_ ?_
            rotate_left
            ·intro w'
             go_simp
             with_reducible rfl
            rotate_left
            ·simp only [Act.put, zp1, zp2, zp3, i64_w, i32_w]
             rfl
            refine pure_ (i := 14) (N := some 50) (v := ?_) (a' := ?_) #[zT, zT, zT, zT, zT, zT, zT, zT, zT, zT, zT, zT, zT, zT, zT, zF, zF, zF, zF, zF, zF, zF, zF, zF, zF, zF, zF, zF, zF, zF, zF, zF, zF, zF] rfl rfl (any_of HT_.out (by kernel_rfl)) (fun _ _ _ h => h) (Or.inl ⟨by rfl, ?_⟩) ?_ ?_
            rotate_left
            ·intro w'
             go_simp
             with_reducible rfl
            rotate_left
            ·simp only [Act.put, zp1, zp2, zp3, i64_w, i32_w]
             rfl
            refine pure_ (i := 15) (N := some 51) (v := undef) (a' := ?_) #[zT, zT, zT, zT, zT, zT, zT, zT, zT, zT, zT, zT, zT, zT, zT, zT, zF, zF, zF, zF, zF, zF, zF, zF, zF, zF, zF, zF, zF, zF, zF, zF, zF, zF] rfl rfl (any_of HT_.out (by kernel_rfl)) (fun _ _ _ h => h) (Or.inr ⟨by rfl, rfl⟩) ?_ ?_
            rotate_left
            ·simp only [Act.put, zp1, zp2, zp3, i64_w, i32_w]
             rfl
            refine pure_ (i := 16) (N := some 52) (v := undef) (a' := ?_) #[zT, zT, zT, zT, zT, zT, zT, zT, zT, zT, zT, zT, zT, zT, zT, zT, zT, zF, zF, zF, zF, zF, zF, zF, zF, zF, zF, zF, zF, zF, zF, zF, zF, zF] rfl rfl (any_of HT_.out (by kernel_rfl)) (fun _ _ _ h => h) (Or.inr ⟨by rfl, rfl⟩) ?_ ?_
            rotate_left
            ·simp only [Act.put, zp1, zp2, zp3, i64_w, i32_w]
             rfl
            refine pure_ (i := 17) (N := some 53) (v := undef) (a' := ?_) #[zT, zT, zT, zT, zT, zT, zT, zT, zT, zT, zT, zT, zT, zT, zT, zT, zT, zT, zF, zF, zF, zF, zF, zF, zF, zF, zF, zF, zF, zF, zF, zF, zF, zF] rfl rfl (any_of HT_.out (by kernel_rfl)) (fun _ _ _ h => h) (Or.inr ⟨by rfl, rfl⟩) ?_ ?_
            rotate_left
            ·simp only [Act.put, zp1, zp2, zp3, i64_w, i32_w]
             rfl
            refine pure_ (i := 18) (N := some 54) (v := undef) (a' := ?_) #[zT, zT, zT, zT, zT, zT, zT, zT, zT, zT, zT, zT, zT, zT, zT, zT, zT, zT, zT, zF, zF, zF, zF, zF, zF, zF, zF, zF, zF, zF, zF, zF, zF, zF] rfl rfl (any_of HT_.out (by kernel_rfl)) (fun _ _ _ h => h) (Or.inr ⟨by rfl, rfl⟩) ?_ ?_
            rotate_left
            ·simp only [Act.put, zp1, zp2, zp3, i64_w, i32_w]
             rfl
            refine pure_ (i := 19) (N := some 55) (v := undef) (a' := ?_) #[zT, zT, zT, zT, zT, zT, zT, zT, zT, zT, zT, zT, zT, zT, zT, zT, zT, zT, zT, zT, zF, zF, zF, zF, zF, zF, zF, zF, zF, zF, zF, zF, zF, zF] rfl rfl (any_of HT_.out (by kernel_rfl)) (fun _ _ _ h => h) (Or.inr ⟨by rfl, rfl⟩) ?_ ?_
            rotate_left
            ·simp only [Act.put, zp1, zp2, zp3, i64_w, i32_w]
             rfl
            refine pure_ (i := 20) (N := some 56) (v := undef) (a' := ?_) #[zT, zT, zT, zT, zT, zT, zT, zT, zT, zT, zT, zT, zT, zT, zT, zT, zT, zT, zT, zT, zT, zF, zF, zF, zF, zF, zF, zF, zF, zF, zF, zF, zF, zF] rfl rfl (any_of HT_.out (by kernel_rfl)) (fun _ _ _ h => h) (Or.inr ⟨by rfl, rfl⟩) ?_ ?_
            rotate_left
            ·simp only [Act.put, zp1, zp2, zp3, i64_w, i32_w]
             rfl
            refine pure_ (i := 21) (N := some 57) (v := undef) (a' := ?_) #[zT, zT, zT, zT, zT, zT, zT, zT, zT, zT, zT, zT, zT, zT, zT, zT, zT, zT, zT, zT, zT, zT, zF, zF, zF, zF, zF, zF, zF, zF, zF, zF, zF, zF] rfl rfl (any_of HT_.out (by kernel_rfl)) (fun _ _ _ h => h) (Or.inr ⟨by rfl, rfl⟩) ?_ ?_
            rotate_left
            ·simp only [Act.put, zp1, zp2, zp3, i64_w, i32_w]
             rfl
            refine pure_ (i := 22) (N := some 58) (v := undef) (a' := ?_) #[zT, zT, zT, zT, zT, zT, zT, zT, zT, zT, zT, zT, zT, zT, zT, zT, zT, zT, zT, zT, zT, zT, zT, zF, zF, zF, zF, zF, zF, zF, zF, zF, zF, zF] rfl rfl (any_of HT_.out (by kernel_rfl)) (fun _ _ _ h => h) (Or.inr ⟨by rfl, rfl⟩) ?_ ?_
            rotate_left
            ·simp only [Act.put, zp1, zp2, zp3, i64_w, i32_w]
             rfl
            refine pure_ (i := 23) (N := some 59) (v := undef) (a' := ?_) #[zT, zT, zT, zT, zT, zT, zT, zT, zT, zT, zT, zT, zT, zT, zT, zT, zT, zT, zT, zT, zT, zT, zT, zT, zF, zF, zF, zF, zF, zF, zF, zF, zF, zF] rfl rfl (any_of HT_.out (by kernel_rfl)) (fun _ _ _ h => h) (Or.inr ⟨by rfl, rfl⟩) ?_ ?_
            rotate_left
            ·simp only [Act.put, zp1, zp2, zp3, i64_w, i32_w]
             rfl
            refine pure_ (i := 24) (N := some 60) (v := undef) (a' := ?_) #[zT, zT, zT, zT, zT, zT, zT, zT, zT, zT, zT, zT, zT, zT, zT, zT, zT, zT, zT, zT, zT, zT, zT, zT, zT, zF, zF, zF, zF, zF, zF, zF, zF, zF] rfl rfl (any_of HT_.out (by kernel_rfl)) (fun _ _ _ h => h) (Or.inr ⟨by rfl, rfl⟩) ?_ ?_
            rotate_left
            ·simp only [Act.put, zp1, zp2, zp3, i64_w, i32_w]
             rfl
            refine pure_ (i := 25) (N := some 61) (v := undef) (a' := ?_) #[zT, zT, zT, zT, zT, zT, zT, zT, zT, zT, zT, zT, zT, zT, zT, zT, zT, zT, zT, zT, zT, zT, zT, zT, zT, zT, zF, zF, zF, zF, zF, zF, zF, zF] rfl rfl (any_of HT_.out (by kernel_rfl)) (fun _ _ _ h => h) (Or.inr ⟨by rfl, rfl⟩) ?_ ?_
            rotate_left
            ·simp only [Act.put, zp1, zp2, zp3, i64_w, i32_w]
             rfl
            refine pure_ (i := 26) (N := some 62) (v := undef) (a' := ?_) #[zT, zT, zT, zT, zT, zT, zT, zT, zT, zT, zT, zT, zT, zT, zT, zT, zT, zT, zT, zT, zT, zT, zT, zT, zT, zT, zT, zF, zF, zF, zF, zF, zF, zF] rfl rfl (any_of HT_.out (by kernel_rfl)) (fun _ _ _ h => h) (Or.inr ⟨by rfl, rfl⟩) ?_ ?_
            rotate_left
            ·simp only [Act.put, zp1, zp2, zp3, i64_w, i32_w]
             rfl
            refine pure_ (i := 27) (N := some 63) (v := undef) (a' := ?_) #[zT, zT, zT, zT, zT, zT, zT, zT, zT, zT, zT, zT, zT, zT, zT, zT, zT, zT, zT, zT, zT, zT, zT, zT, zT, zT, zT, zT, zF, zF, zF, zF, zF, zF] rfl rfl (any_of HT_.out (by kernel_rfl)) (fun _ _ _ h => h) (Or.inr ⟨by rfl, rfl⟩) ?_ ?_
            rotate_left
            ·simp only [Act.put, zp1, zp2, zp3, i64_w, i32_w]
             rfl
            refine pure_ (i := 28) (N := some 64) (v := undef) (a' := ?_) #[zT, zT, zT, zT, zT, zT, zT, zT, zT, zT, zT, zT, zT, zT, zT, zT, zT, zT, zT, zT, zT, zT, zT, zT, zT, zT, zT, zT, zT, zF, zF, zF, zF, zF] rfl rfl (any_of HT_.out (by kernel_rfl)) (fun _ _ _ h => h) (Or.inr ⟨by rfl, rfl⟩) ?_ ?_
            rotate_left
            ·simp only [Act.put, zp1, zp2, zp3, i64_w, i32_w]
             rfl
            refine pure_ (i := 29) (N := some 65) (v := undef) (a' := ?_) #[zT, zT, zT, zT, zT, zT, zT, zT, zT, zT, zT, zT, zT, zT, zT, zT, zT, zT, zT, zT, zT, zT, zT, zT, zT, zT, zT, zT, zT, zT, zF, zF, zF, zF] rfl rfl (any_of HT_.out (by kernel_rfl)) (fun _ _ _ h => h) (Or.inr ⟨by rfl, rfl⟩) ?_ ?_
            rotate_left
            ·simp only [Act.put, zp1, zp2, zp3, i64_w, i32_w]
             rfl
            refine pure_ (i := 30) (N := some 66) (v := undef) (a' := ?_) #[zT, zT, zT, zT, zT, zT, zT, zT, zT, zT, zT, zT, zT, zT, zT, zT, zT, zT, zT, zT, zT, zT, zT, zT, zT, zT, zT, zT, zT, zT, zT, zF, zF, zF] rfl rfl (any_of HT_.out (by kernel_rfl)) (fun _ _ _ h => h) (Or.inr ⟨by rfl, rfl⟩) ?_ ?_
            rotate_left
            ·simp only [Act.put, zp1, zp2, zp3, i64_w, i32_w]
             rfl
            refine pure_ (i := 31) (N := some 67) (v := undef) (a' := ?_) #[zT, zT, zT, zT, zT, zT, zT, zT, zT, zT, zT, zT, zT, zT, zT, zT, zT, zT, zT, zT, zT, zT, zT, zT, zT, zT, zT, zT, zT, zT, zT, zT, zF, zF] rfl rfl (any_of HT_.out (by kernel_rfl)) (fun _ _ _ h => h) (Or.inr ⟨by rfl, rfl⟩) ?_ ?_
            rotate_left
            ·simp only [Act.put, zp1, zp2, zp3, i64_w, i32_w]
             rfl
            refine pure_ (i := 32) (N := some 68) (v := undef) (a' := ?_) #[zT, zT, zT, zT, zT, zT, zT, zT, zT, zT, zT, zT, zT, zT, zT, zT, zT, zT, zT, zT, zT, zT, zT, zT, zT, zT, zT, zT, zT, zT, zT, zT, zT, zF] rfl rfl (any_of HT_.out (by kernel_rfl)) (fun _ _ _ h => h) (Or.inr ⟨by rfl, rfl⟩) ?_ ?_
            rotate_left
            ·simp only [Act.put, zp1, zp2, zp3, i64_w, i32_w]
             rfl
            refine pure_ (i := 33) (N := some 69) (v := ?_) (a' := ?_) #[zT, zT, zT, zT, zT, zT, zT, zT, zT, zT, zT, zT, zT, zT, zT, zT, zT, zT, zT, zT, zT, zT, zT, zT, zT, zT, zT, zT, zT, zT, zT, zT, zT, zT] rfl rfl (any_of HT_.out (by kernel_rfl)) (fun _ _ _ h => h) (Or.inl ⟨by rfl, ?_⟩) ?_ ?_
            rotate_left
            ·intro w'
             go_simp
             with_reducible rfl
            rotate_left
            ·simp only [Act.put, zp1, zp2, zp3, i64_w, i32_w]
             rfl
            refine done_ (done_of HT_.out (by kernel_rfl)) ?_
            have hnb114 := NB197_190.out
            have hnc114 := NB190_197.out
            have hnb115 := NB197_192.out
            have hnc115 := NB192_197.out
            have hcz116_0 := zc0 BK197 0 rfl
            have hfz116_0 := blk_frozen BK197.out 0
            have hcz117_0 := zc0 BK199 0 rfl
            have hcz117_1 := zc0 BK199 1 rfl
            have hcz117_2 := zc0 BK199 2 rfl
            have hcz117_3 := zc0 BK199 3 rfl
            have hfz117_0 := blk_frozen BK199.out 0
            have hfz117_1 := blk_frozen BK199.out 1
            have hfz117_2 := blk_frozen BK199.out 2
            have hfz117_3 := blk_frozen BK199.out 3
            try go_wp2_with (first | ((with_reducible refine gate_builtin (b := .append) (xs := #[.tmp 98, .tmp 100]) rfl ?_); at_builtin; refine Kd.R_append k61 (w0 := w) w.heap.size rfl (.tmp 98) (.tmp 100) 30 61 (.agg #[(.int .i64 0), (.int .i64 0), (.int .i64 0), (.int .i64 0)]) 32 rfl Try.underlying30 info61 rfl (by decide) (by omega) (.slice (some ad200) x198000_1.length co101) x198000_1 (⟨(rd_T61 l1_0 x7_1).f0, (rd_T61 l1_0 x7_1).f1, (rd_T61 l1_0 x7_1).f2, (rd_T61 l1_0 x7_1).f3⟩ : S61) [.int .i64 ((rd_T61 l1_0 x7_1).f0), .int .i64 ((rd_T61 l1_0 x7_1).f1), .int .i64 ((rd_T61 l1_0 x7_1).f2), .int .i64 ((rd_T61 l1_0 x7_1).f3)] (fun k_ => k_ ≠ gb199) (fun _ => False) rfl rfl ?aP (fun _ hk => hk.elim) ?aF ?aO ?aB ?aS ?aL ?_; (case aP => exact k61_mkM _ _ _ (⟨(rd_T61 l1_0 x7_1).f0, (rd_T61 l1_0 x7_1).f1, (rd_T61 l1_0 x7_1).f2, (rd_T61 l1_0 x7_1).f3⟩ : S61)); (case aB => exact (by repeat (first | exact zh0 HB | refine below_set ?_ GE190.out | refine below_set ?_ GE191.out | refine below_set ?_ GE192.out | refine below_set ?_ GE197.out | refine below_set ?_ GE199.out))); (case aF => exact (fun k_ hk => Kd.freshB (g := gb199) (o := .cells #[.int .i64 ((rd_T61 l1_0 x7_1).f0), .int .i64 ((rd_T61 l1_0 x7_1).f1), .int .i64 ((rd_T61 l1_0 x7_1).f2), .int .i64 ((rd_T61 l1_0 x7_1).f3)] 61 (0, 0)) (zk0 BK199) k_ hk)); (case aO => exact (zr0 HO_198000)); (case aS => exact (below_size (by repeat (first | exact zh0 HB | refine below_set ?_ GE190.out | refine below_set ?_ GE191.out | refine below_set ?_ GE192.out | refine below_set ?_ GE197.out | refine below_set ?_ GE199.out)))); (case aL => have := LMc95.out; omega); intro v210 w118 ho hb hg hat; rw [← Ny209.out] at ho; have n0_ := Aside0.mk (blk_grown (g := gb190) (o := .cells #[.slice A0_0 l0_0.length c0_0] 35 (0, 0)) (zk0 BK190) hg (Kd.R_ne HO_198000.out BK190.out (by decide))); have n1_ := Aside0.mk (blk_grown (g := gb191) (o := .cells #[.slice (some ad198) l1_0.length c1_0] 32 (0, 0)) (zk0 BK191) hg (Kd.R_ne HO_198000.out BK191.out (by decide))); have n2_ := Aside0.mk (blk_grown (g := gb192) (o := .cells #[.slice none 0 0] 32 (0, 0)) (zk0 BK192) hg (Kd.R_ne HO_198000.out BK192.out (by decide))); have n3_ := Aside0.mk (blk_grown (g := gb197) (o := .cells #[.slice (some ad200) x198000_1.length co101] 32 (0, 0)) (zk0 BK197) hg (Kd.R_ne HO_198000.out BK197.out (by decide))); have n4_ := Aside0.mk (blk_grown (g := gb199) (o := .cells #[.int .i64 ((rd_T61 l1_0 x7_1).f0), .int .i64 ((rd_T61 l1_0 x7_1).f1), .int .i64 ((rd_T61 l1_0 x7_1).f2), .int .i64 ((rd_T61 l1_0 x7_1).f3)] 61 (0, 0)) (zk0 BK199) hg (Kd.R_away HO_198000.out (fun _ hk => hk))); have n5_ := Aside0.mk (hb); have n6_ := Aside0.mk (ho); clear BK190; clear BK191; clear BK192; clear BK197; clear BK199; clear HB; clear HO_198000; have BK190 := n0_; have BK191 := n1_; have BK192 := n2_; have BK197 := n3_; have BK199 := n4_; have HB := n5_; have HO211 := n6_; clear n0_ n1_ n2_ n3_ n4_ n5_ n6_; clear ho hb hg hat; obtain ⟨Ao119, co119, eo119⟩ := Kd.R_slice HO211.out; subst eo119; have hcz120_0 := zc0 BK197 0 rfl; have hfz120_0 := blk_frozen BK197.out 0))
            go_roundg k1
            case measure => have := HK1.out; omega
            case rel => exact ⟨(wrap64 (x7_1 + 1)), (y209), (.slice Ao119 y209.length co119), (by first | rfl | (simp; done) | (simp [*]; done)), H', ⟨by have := HK1.out; omega⟩, ⟨by (with_reducible repeat (first | apply Kd.R_alloc | apply Kd.R_drewN | apply Kd.R_drew)); exact Kd.R_mono (Kd.R_far (p := ⟨gb197, 0, none⟩) (Kd.R_types HO211.out BK197.out (by decide)) (fun _ hk => hk.2) (.slice Ao119 y209.length co119)) (fun _ hk => trivial)⟩, ⟨by (with_reducible repeat (first | refine blk_drewN ?_ _ | refine blk_drew ?_ | refine blk_alloc ?_ _)); refine blk_far ?_ NB190_197.out _; (with_reducible repeat (first | refine blk_drewN ?_ _ | refine blk_drew ?_ | refine blk_alloc ?_ _)); exact BK190.out⟩, ⟨by (with_reducible repeat (first | refine blk_drewN ?_ _ | refine blk_drew ?_ | refine blk_alloc ?_ _)); refine blk_far ?_ NB191_197.out _; (with_reducible repeat (first | refine blk_drewN ?_ _ | refine blk_drew ?_ | refine blk_alloc ?_ _)); exact BK191.out⟩, ⟨by (with_reducible repeat (first | refine blk_drewN ?_ _ | refine blk_drew ?_ | refine blk_alloc ?_ _)); refine blk_far ?_ NB192_197.out _; (with_reducible repeat (first | refine blk_drewN ?_ _ | refine blk_drew ?_ | refine blk_alloc ?_ _)); exact BK192.out⟩, ⟨by (with_reducible repeat (first | refine blk_drewN ?_ _ | refine blk_drew ?_ | refine blk_alloc ?_ _)); refine blk_put (cs := #[.slice (some ad200) x198000_1.length co101]) ?_ 0 _ rfl; (with_reducible repeat (first | refine blk_drewN ?_ _ | refine blk_drew ?_ | refine blk_alloc ?_ _)); exact BK197.out⟩, ⟨by repeat (first | exact zh0 HB | refine below_set ?_ GE190.out | refine below_set ?_ GE191.out | refine below_set ?_ GE192.out | refine below_set ?_ GE197.out | refine below_set ?_ GE199.out)⟩⟩
           ·rw [if_neg c95] at H
            exact absurd H (by simp)
         ·rw [if_neg c44] at H
          exact absurd H (by simp)
        ·rw [if_neg c43] at H
         exact absurd H (by simp)
       ·rw [if_neg c41] at H
        have c41b0 : decide (0 < (x198000_1.length : Int)) = false := decide_eq_false c41
        have c41b1 : decide (0 < x198000_1.length) = false := decide_eq_false (by omega)
        clear c41
        by_cases c121 : x198000_1.length < 4398046511104
        ·rw [if_pos c121] at H
         have LMc121 := Aside0.mk c121
         clear c121
         obtain ⟨y212, hy212⟩ : ∃ y_ : List (S61), y_ = (x198000_1 ++ [(⟨(rd_T61 l1_0 x7_1).f0, (rd_T61 l1_0 x7_1).f1, (rd_T61 l1_0 x7_1).f2, (rd_T61 l1_0 x7_1).f3⟩ : S61)]) := ⟨_, rfl⟩
         replace H : (spec_MergeParts.l0 k1 (wrap64 (x7_1 + 1)) l1_0 y212) = some (r1, r2) := by first | (rw [hy212]; with_reducible exact H) | (have H2_ := (Option.bind_some _ _).symm.trans H; rw [hy212]; with_reducible exact H2_) | (have H2_ := (Option.bind_some _ _).symm.trans H; with_reducible exact H2_) | with_reducible exact H | (rw [hy212]; exact H) | exact H
         have Ny212 := Aside0.mk hy212
         clear hy212
         have H' := Aside0.mk H
         clear H
         have hnb122 := NB191_190.out
         have hnc122 := NB190_191.out
         have hnb123 := NB191_192.out
         have hnc123 := NB192_191.out
         have hnb124 := NB191_197.out
         have hnc124 := NB197_191.out
         have hcz125_0 := zc0 BK191 0 rfl
         have hfz125_0 := blk_frozen BK191.out 0
         try go_wp2
         replace HO_198000 := Aside0.mk (Kd.R_drew HO_198000.out)
         replace BK190 := Aside0.mk (blk_drew BK190.out)
         replace BK191 := Aside0.mk (blk_drew BK191.out)
         replace BK192 := Aside0.mk (blk_drew BK192.out)
         replace BK197 := Aside0.mk (blk_drew BK197.out)
         replace HB := Aside0.mk (below_drew1 HB.out)
         have p198 : 0 ≤ (x7_1 : Int) := of_decide_eq_true (by first | (with_reducible assumption) | assumption)
         have q198 : x7_1 < (l1_0.length : Int) := of_decide_eq_true (by first | (with_reducible assumption) | assumption)
         obtain ⟨ad198, e198, hx198_0, hx198_1, hx198_2, hx198_3⟩ := at_T61 HR1_0.out x7_1 p198 q198
         have hw198_3 := hx198_3
         have hw198_2 := hx198_2
         have hw198_1 := hx198_1
         have hw198_0 := hx198_0
         cases e198
         replace hx198_0 := (HB.out.cell (World.block_lt_of_cell? w _ hx198_0)).trans hx198_0
         replace hx198_1 := (HB.out.cell (World.block_lt_of_cell? w _ hx198_1)).trans hx198_1
         replace hx198_2 := (HB.out.cell (World.block_lt_of_cell? w _ hx198_2)).trans hx198_2
         replace hx198_3 := (HB.out.cell (World.block_lt_of_cell? w _ hx198_3)).trans hx198_3
         replace p198 := eq_true p198
         replace q198 := eq_true q198
         obtain ⟨Ao127, co127, eo127⟩ := Kd.R_slice HO_198000.out
         (first | subst eo127 | (injection eo127 with f1_ f2_ f3_; have f4_ := f1_.symm; have f5_ := f3_.symm; clear f1_ f2_ f3_; subst f4_; subst f5_))
         refine start_ (n := 11) (S := fun w' => w'.cell? ⟨gb191, 0, none⟩ = some (.slice (some ad198) l1_0.length c1_0) ∧ w'.cell? ⟨gb197, 0, none⟩ = some (.slice Ao127 x198000_1.length co127) ∧ w'.cell? (ad198.add ((x7_1).toNat * 4)) = some (.int .i64 ((rd_T61 l1_0 x7_1).f0)) ∧ w'.cell? ⟨(ad198.add ((x7_1).toNat * 4)).block, (ad198.add ((x7_1).toNat * 4)).off + 1, none⟩ = some (.int .i64 ((rd_T61 l1_0 x7_1).f1)) ∧ w'.cell? ⟨(ad198.add ((x7_1).toNat * 4)).block, (ad198.add ((x7_1).toNat * 4)).off + 2, none⟩ = some (.int .i64 ((rd_T61 l1_0 x7_1).f2)) ∧ w'.cell? ⟨(ad198.add ((x7_1).toNat * 4)).block, (ad198.add ((x7_1).toNat * 4)).off + 3, none⟩ = some (.int .i64 ((rd_T61 l1_0 x7_1).f3))) (ds := []) #[zF, zF, zF, zF, zF, zF, zF, zF, zF, zF, zF] (by kernel_rfl) rfl rfl ⟨zc0 BK191 0 rfl, zc0 BK197 0 rfl, ((HB.out.cell (World.block_lt_of_cell? w _ hw198_0)).trans hw198_0), ((HB.out.cell (World.block_lt_of_cell? w _ hw198_1)).trans hw198_1), ((HB.out.cell (World.block_lt_of_cell? w _ hw198_2)).trans hw198_2), ((HB.out.cell (World.block_lt_of_cell? w _ hw198_3)).trans hw198_3)⟩ (fun hHeld => ?_); refine with_tabW spec_MergeParts.tab7 spec_MergeParts.bits7 (fun HT_ HW_ => ?_)
         generalize wr.drew = w126 at HO_198000 BK190 BK191 BK192 BK197 HB hx198_0 hx198_1 hx198_2 hx198_3 hHeld ⊢
         refine pure_ (i := 0) (N := some 25) (v := ?_) (a' := ?_) #[zT, zF, zF, zF, zF, zF, zF, zF, zF, zF, zF] rfl rfl (any_of HT_.out (by kernel_rfl)) (fun _ _ _ h => h) (Or.inl ⟨by rfl, ?_⟩) ?_ ?_
         rotate_left
         ·intro w'
          go_simp
          with_reducible rfl
         rotate_left
         ·simp only [Act.put, zp1, zp2, zp3, i64_w, i32_w]
          rfl
         refine pure_ (i := 2) (N := some 27) (v := ?_) (a' := ?_) #[zT, zF, zT, zF, zF, zF, zF, zF, zF, zF, zF] rfl rfl (any_of HT_.out (by kernel_rfl)) (fun _ _ _ h => h) (Or.inl ⟨by rfl, ?_⟩) ?_ ?_
         rotate_left
         ·intro w'
          go_simp
          with_reducible rfl
         rotate_left
         ·simp only [Act.put, zp1, zp2, zp3, i64_w, i32_w]
          rfl
         refine pure_ (i := 5) (N := some 30) (v := ?_) (a' := ?_) #[zT, zF, zT, zF, zF, zT, zF, zF, zF, zF, zF] rfl rfl (any_of HT_.out (by kernel_rfl)) (fun _ _ _ h => h) (Or.inl ⟨by rfl, ?_⟩) ?_ ?_
         rotate_left
         ·intro w'
          go_simp
          with_reducible rfl
         rotate_left
         ·simp only [Act.put, zp1, zp2, zp3, i64_w, i32_w]
          rfl
         refine take_ (i := 1) (N := some 26) (v := ?_) (a' := ?_) #[zT, zT, zT, zF, zF, zT, zF, zF, zF, zF, zF] rfl rfl (take_ofW HT_.out HW_.out (by kernel_rfl)) (fun _ _ _ h => h) (Or.inl ⟨by rfl, ?_⟩) hHeld ?_ ?_
         rotate_left
         ·rintro w' ⟨s0, s1, s2, s3, s4, s5⟩
          go_simp
          with_reducible rfl
         rotate_left
         ·simp only [Act.put, zp1, zp2, zp3, i64_w, i32_w]
          rfl
         refine pure_ (i := 3) (N := some 28) (v := ?_) (a' := ?_) #[zT, zT, zT, zT, zF, zT, zF, zF, zF, zF, zF] rfl rfl (any_of HT_.out (by kernel_rfl)) (fun _ _ _ h => h) (Or.inl ⟨by rfl, ?_⟩) ?_ ?_
         rotate_left
         ·intro w'
          go_simp
          with_reducible rfl
         rotate_left
         ·simp only [Act.put, zp1, zp2, zp3, i64_w, i32_w]
          rfl
         refine take_ (i := 4) (N := some 29) (v := ?_) (a' := ?_) #[zT, zT, zT, zT, zT, zT, zF, zF, zF, zF, zF] rfl rfl (take_ofW HT_.out HW_.out (by kernel_rfl)) (fun _ _ _ h => h) (Or.inl ⟨by rfl, ?_⟩) hHeld ?_ ?_
         rotate_left
         ·rintro w' ⟨s0, s1, s2, s3, s4, s5⟩
          go_simp
          with_reducible rfl
         rotate_left
         ·simp only [Act.put, zp1, zp2, zp3, i64_w, i32_w]
          rfl
         refine take_ (i := 6) (N := some 31) (v := ?_) (a' := ?_) #[zT, zT, zT, zT, zT, zT, zT, zF, zF, zF, zF] rfl rfl (take_ofW HT_.out HW_.out (by kernel_rfl)) (fun _ _ _ h => h) (Or.inl ⟨by rfl, ?_⟩) hHeld ?_ ?_
         rotate_left
         ·rintro w' ⟨s0, s1, s2, s3, s4, s5⟩
          go_simp
          with_reducible rfl
         rotate_left
         ·simp only [Act.put, zp1, zp2, zp3, i64_w, i32_w]
          rfl
         refine pure_ (i := 7) (N := some 32) (v := ?_) (a' := ?_) #[zT, zT, zT, zT, zT, zT, zT, zT, zF, zF, zF] rfl rfl (any_of HT_.out (by kernel_rfl)) (fun _ _ _ h => h) (Or.inl ⟨by rfl, ?_⟩) ?_ ?_
         rotate_left
         ·intro w'
          go_simp
          with_reducible rfl
         rotate_left
         ·simp only [Act.put, zp1, zp2, zp3, i64_w, i32_w]
          rfl
         refine one_ (i := 8) (N := some 8) #[zT, zT, zT, zT, zT, zT, zT, zT, zT, zF, zF] rfl rfl (one_of HT_.out (by kernel_rfl)) (by decide) (fun K hK => ?_)
         refine box_step ?hg (N := 8) ?hd (cs := #[.int .i64 0, .int .i64 0, .int .i64 0, .int .i64 0]) (t := 61) ?hr ?_; (case hd => rfl); (case hg => rfl); (case hr => first | (go_simp; done) | (go_simp; rfl))
         intro gb199 hg w128 hbox hb
         have BK199 := Aside0.mk (hbox)
         have GW199 := Aside0.mk ((by rw [hg]; exact (below_size (by repeat (first | exact zh0 HB | refine below_set ?_ GE190.out | refine below_set ?_ GE191.out | refine below_set ?_ GE192.out | refine below_set ?_ GE197.out))) : w.heap.size ≤ gb199))
         have GE199 := Aside0.mk ((by rw [hg]; exact (below_size (by repeat (first | exact zh0 HB | refine below_set ?_ GE190.out | refine below_set ?_ GE191.out | refine below_set ?_ GE192.out | refine below_set ?_ GE197.out))) : w.heap.size ≤ gb199))
         have NB190_199 := znl BK190 hg
         have NB199_190 := znr BK190 hg
         have NB191_199 := znl BK191 hg
         have NB199_191 := znr BK191 hg
         have NB192_199 := znl BK192 hg
         have NB199_192 := znr BK192 hg
         have NB197_199 := znl BK197 hg
         have NB199_197 := znr BK197 hg
         replace HO_198000 := Aside0.mk (Kd.R_below (Kd.R_elderB (zr0 HO_198000) gb199 (Nat.le_of_eq hg.symm)) hb)
         replace BK190 := zb0 BK190 hb
         replace BK191 := zb0 BK191 hb
         replace BK192 := zb0 BK192 hb
         replace BK197 := zb0 BK197 hb
         replace HB := Aside0.mk (below_step (by repeat (first | exact zh0 HB | refine below_set ?_ GE190.out | refine below_set ?_ GE191.out | refine below_set ?_ GE192.out | refine below_set ?_ GE197.out)) hb)
         clear hb hbox hg
         refine hK.out _ _ ⟨zc0 BK191 0 rfl, zc0 BK197 0 rfl, ((HB.out.cell (World.block_lt_of_cell? w _ hw198_0)).trans hw198_0), ((HB.out.cell (World.block_lt_of_cell? w _ hw198_1)).trans hw198_1), ((HB.out.cell (World.block_lt_of_cell? w _ hw198_2)).trans hw198_2), ((HB.out.cell (World.block_lt_of_cell? w _ hw198_3)).trans hw198_3)⟩ (fun hHeld => ?_)
         clear hK K
         refine norm_ (a' := ?_) ?_ ?_
         rotate_left
         ·show Act.put _ (some 8) _ = _
          simp only [Act.put, zp1, zp2, zp3, i64_w, i32_w]
          rfl
         refine one_ (i := 9) (N := none) #[zT, zT, zT, zT, zT, zT, zT, zT, zT, zT, zF] rfl rfl (one_of HT_.out (by kernel_rfl)) (by decide) (fun K hK => ?_)
         have hs129 : w128.cell? ⟨gb199, 0, none⟩ = some (.int .i64 0) := zc0 BK199 0 rfl
         have hfs129 := blk_frozen BK199.out 0
         have hns129_0 := NB190_199.out
         have hns129_1 := NB191_199.out
         have hns129_2 := NB192_199.out
         have hns129_3 := NB197_199.out
         have hms129_0 := NB199_190.out
         have hms129_1 := NB199_191.out
         have hms129_2 := NB199_192.out
         have hms129_3 := NB199_197.out
         have hs130 : w128.cell? ⟨gb199, 1, none⟩ = some (.int .i64 0) := zc0 BK199 1 rfl
         have hfs130 := blk_frozen BK199.out 1
         have hns130_0 := NB190_199.out
         have hns130_1 := NB191_199.out
         have hns130_2 := NB192_199.out
         have hns130_3 := NB197_199.out
         have hms130_0 := NB199_190.out
         have hms130_1 := NB199_191.out
         have hms130_2 := NB199_192.out
         have hms130_3 := NB199_197.out
         have hs131 : w128.cell? ⟨gb199, 2, none⟩ = some (.int .i64 0) := zc0 BK199 2 rfl
         have hfs131 := blk_frozen BK199.out 2
         have hns131_0 := NB190_199.out
         have hns131_1 := NB191_199.out
         have hns131_2 := NB192_199.out
         have hns131_3 := NB197_199.out
         have hms131_0 := NB199_190.out
         have hms131_1 := NB199_191.out
         have hms131_2 := NB199_192.out
         have hms131_3 := NB199_197.out
         have hs132 : w128.cell? ⟨gb199, 3, none⟩ = some (.int .i64 0) := zc0 BK199 3 rfl
         have hfs132 := blk_frozen BK199.out 3
         have hns132_0 := NB190_199.out
         have hns132_1 := NB191_199.out
         have hns132_2 := NB192_199.out
         have hns132_3 := NB197_199.out
         have hms132_0 := NB199_190.out
         have hms132_1 := NB199_191.out
         have hms132_2 := NB199_192.out
         have hms132_3 := NB199_197.out
         refine skip_ (w1 := ?_) (by rfl) rfl ?_ ?_
         rotate_left
         ·go_simp
          rfl
         refine hK.out _ _ ⟨((zfar NB191_199).trans (((zfar NB191_199).trans (((zfar NB191_199).trans (((zfar NB191_199).trans (hHeld.1)))))))), ((zfar NB197_199).trans (((zfar NB197_199).trans (((zfar NB197_199).trans (((zfar NB197_199).trans (hHeld.2.1)))))))), ((cell_far (p := ⟨gb199, _, none⟩) (znb hw198_0 GW199.out (by first | rfl | simp only [add_block])) _).trans (((cell_far (p := ⟨gb199, _, none⟩) (znb hw198_0 GW199.out (by first | rfl | simp only [add_block])) _).trans (((cell_far (p := ⟨gb199, _, none⟩) (znb hw198_0 GW199.out (by first | rfl | simp only [add_block])) _).trans (((cell_far (p := ⟨gb199, _, none⟩) (znb hw198_0 GW199.out (by first | rfl | simp only [add_block])) _).trans (hHeld.2.2.1)))))))), ((cell_far (p := ⟨gb199, _, none⟩) (znb hw198_1 GW199.out (by first | rfl | simp only [add_block])) _).trans (((cell_far (p := ⟨gb199, _, none⟩) (znb hw198_1 GW199.out (by first | rfl | simp only [add_block])) _).trans (((cell_far (p := ⟨gb199, _, none⟩) (znb hw198_1 GW199.out (by first | rfl | simp only [add_block])) _).trans (((cell_far (p := ⟨gb199, _, none⟩) (znb hw198_1 GW199.out (by first | rfl | simp only [add_block])) _).trans (hHeld.2.2.2.1)))))))), ((cell_far (p := ⟨gb199, _, none⟩) (znb hw198_2 GW199.out (by first | rfl | simp only [add_block])) _).trans (((cell_far (p := ⟨gb199, _, none⟩) (znb hw198_2 GW199.out (by first | rfl | simp only [add_block])) _).trans (((cell_far (p := ⟨gb199, _, none⟩) (znb hw198_2 GW199.out (by first | rfl | simp only [add_block])) _).trans (((cell_far (p := ⟨gb199, _, none⟩) (znb hw198_2 GW199.out (by first | rfl | simp only [add_block])) _).trans (hHeld.2.2.2.2.1)))))))), ((cell_far (p := ⟨gb199, _, none⟩) (znb hw198_3 GW199.out (by first | rfl | simp only [add_block])) _).trans (((cell_far (p := ⟨gb199, _, none⟩) (znb hw198_3 GW199.out (by first | rfl | simp only [add_block])) _).trans (((cell_far (p := ⟨gb199, _, none⟩) (znb hw198_3 GW199.out (by first | rfl | simp only [add_block])) _).trans (((cell_far (p := ⟨gb199, _, none⟩) (znb hw198_3 GW199.out (by first | rfl | simp only [add_block])) _).trans (hHeld.2.2.2.2.2))))))))⟩ (fun hHeld => ?_)
         clear hK K
         refine pure_ (i := 10) (N := some 9) (v := ?_) (a' := ?_) #[zT, zT, zT, zT, zT, zT, zT, zT, zT, zT, zT] rfl rfl (any_of HT_.out (by kernel_rfl)) (fun _ _ _ h => h) (Or.inl ⟨by rfl, ?_⟩) ?_ ?_
         rotate_left
         ·intro w'
          go_simp
          with_reducible rfl
         rotate_left
         ·simp only [Act.put, zp1, zp2, zp3, i64_w, i32_w]
          rfl
         refine done_ (done_of HT_.out (by kernel_rfl)) ?_
         have hnb133 := NB199_190.out
         have hnc133 := NB190_199.out
         have hnb134 := NB199_191.out
         have hnc134 := NB191_199.out
         have hnb135 := NB199_192.out
         have hnc135 := NB192_199.out
         have hnb136 := NB199_197.out
         have hnc136 := NB197_199.out
         have hcz137_0 := zc0 BK199 0 rfl
         have hcz137_1 := zc0 BK199 1 rfl
         have hcz137_2 := zc0 BK199 2 rfl
         have hcz137_3 := zc0 BK199 3 rfl
         have hfz137_0 := blk_frozen BK199.out 0
         have hfz137_1 := blk_frozen BK199.out 1
         have hfz137_2 := blk_frozen BK199.out 2
         have hfz137_3 := blk_frozen BK199.out 3
         try go_wp2
         have n0_ : Aside0 (Kd.R k61 61 ((((w128.setCell ⟨gb199, 0, none⟩ (.int .i64 ((rd_T61 l1_0 x7_1).f0))).setCell ⟨gb199, 1, none⟩ (.int .i64 ((rd_T61 l1_0 x7_1).f1))).setCell ⟨gb199, 2, none⟩ (.int .i64 ((rd_T61 l1_0 x7_1).f2))).setCell ⟨gb199, 3, none⟩ (.int .i64 ((rd_T61 l1_0 x7_1).f3))) w.heap.size (fun k_ => k_ ≠ gb199) (.slice Ao127 x198000_1.length co127) x198000_1) := ⟨by (with_reducible repeat (first | apply Kd.R_alloc | apply Kd.R_drewN | apply Kd.R_drew)); exact Kd.R_mono (Kd.R_far (p := ⟨gb199, 3, none⟩) (Kd.R_far (p := ⟨gb199, 2, none⟩) (Kd.R_far (p := ⟨gb199, 1, none⟩) (Kd.R_far (p := ⟨gb199, 0, none⟩) (Kd.R_mono HO_198000.out (fun k_ hk => (⟨hk, hk.2⟩ : _ ∧ k_ ≠ gb199))) (fun _ hk => hk.2) (.int .i64 ((rd_T61 l1_0 x7_1).f0))) (fun _ hk => hk.2) (.int .i64 ((rd_T61 l1_0 x7_1).f1))) (fun _ hk => hk.2) (.int .i64 ((rd_T61 l1_0 x7_1).f2))) (fun _ hk => hk.2) (.int .i64 ((rd_T61 l1_0 x7_1).f3))) (fun _ hk => hk.1.2)⟩
         have n1_ : Aside0 (((((w128.setCell ⟨gb199, 0, none⟩ (.int .i64 ((rd_T61 l1_0 x7_1).f0))).setCell ⟨gb199, 1, none⟩ (.int .i64 ((rd_T61 l1_0 x7_1).f1))).setCell ⟨gb199, 2, none⟩ (.int .i64 ((rd_T61 l1_0 x7_1).f2))).setCell ⟨gb199, 3, none⟩ (.int .i64 ((rd_T61 l1_0 x7_1).f3))).heap[gb190]? = some (.cells #[.slice A0_0 l0_0.length c0_0] 35 (0, 0))) := ⟨by (with_reducible repeat (first | refine blk_drewN ?_ _ | refine blk_drew ?_ | refine blk_alloc ?_ _)); refine blk_far ?_ NB190_199.out _; refine blk_far ?_ NB190_199.out _; refine blk_far ?_ NB190_199.out _; refine blk_far ?_ NB190_199.out _; (with_reducible repeat (first | refine blk_drewN ?_ _ | refine blk_drew ?_ | refine blk_alloc ?_ _)); exact BK190.out⟩
         have n2_ : Aside0 (((((w128.setCell ⟨gb199, 0, none⟩ (.int .i64 ((rd_T61 l1_0 x7_1).f0))).setCell ⟨gb199, 1, none⟩ (.int .i64 ((rd_T61 l1_0 x7_1).f1))).setCell ⟨gb199, 2, none⟩ (.int .i64 ((rd_T61 l1_0 x7_1).f2))).setCell ⟨gb199, 3, none⟩ (.int .i64 ((rd_T61 l1_0 x7_1).f3))).heap[gb191]? = some (.cells #[.slice (some ad198) l1_0.length c1_0] 32 (0, 0))) := ⟨by (with_reducible repeat (first | refine blk_drewN ?_ _ | refine blk_drew ?_ | refine blk_alloc ?_ _)); refine blk_far ?_ NB191_199.out _; refine blk_far ?_ NB191_199.out _; refine blk_far ?_ NB191_199.out _; refine blk_far ?_ NB191_199.out _; (with_reducible repeat (first | refine blk_drewN ?_ _ | refine blk_drew ?_ | refine blk_alloc ?_ _)); exact BK191.out⟩
         have n3_ : Aside0 (((((w128.setCell ⟨gb199, 0, none⟩ (.int .i64 ((rd_T61 l1_0 x7_1).f0))).setCell ⟨gb199, 1, none⟩ (.int .i64 ((rd_T61 l1_0 x7_1).f1))).setCell ⟨gb199, 2, none⟩ (.int .i64 ((rd_T61 l1_0 x7_1).f2))).setCell ⟨gb199, 3, none⟩ (.int .i64 ((rd_T61 l1_0 x7_1).f3))).heap[gb192]? = some (.cells #[.slice none 0 0] 32 (0, 0))) := ⟨by (with_reducible repeat (first | refine blk_drewN ?_ _ | refine blk_drew ?_ | refine blk_alloc ?_ _)); refine blk_far ?_ NB192_199.out _; refine blk_far ?_ NB192_199.out _; refine blk_far ?_ NB192_199.out _; refine blk_far ?_ NB192_199.out _; (with_reducible repeat (first | refine blk_drewN ?_ _ | refine blk_drew ?_ | refine blk_alloc ?_ _)); exact BK192.out⟩
         have n4_ : Aside0 (((((w128.setCell ⟨gb199, 0, none⟩ (.int .i64 ((rd_T61 l1_0 x7_1).f0))).setCell ⟨gb199, 1, none⟩ (.int .i64 ((rd_T61 l1_0 x7_1).f1))).setCell ⟨gb199, 2, none⟩ (.int .i64 ((rd_T61 l1_0 x7_1).f2))).setCell ⟨gb199, 3, none⟩ (.int .i64 ((rd_T61 l1_0 x7_1).f3))).heap[gb197]? = some (.cells #[.slice Ao127 x198000_1.length co127] 32 (0, 0))) := ⟨by (with_reducible repeat (first | refine blk_drewN ?_ _ | refine blk_drew ?_ | refine blk_alloc ?_ _)); refine blk_far ?_ NB197_199.out _; refine blk_far ?_ NB197_199.out _; refine blk_far ?_ NB197_199.out _; refine blk_far ?_ NB197_199.out _; (with_reducible repeat (first | refine blk_drewN ?_ _ | refine blk_drew ?_ | refine blk_alloc ?_ _)); exact BK197.out⟩
         have n5_ : Aside0 (((((w128.setCell ⟨gb199, 0, none⟩ (.int .i64 ((rd_T61 l1_0 x7_1).f0))).setCell ⟨gb199, 1, none⟩ (.int .i64 ((rd_T61 l1_0 x7_1).f1))).setCell ⟨gb199, 2, none⟩ (.int .i64 ((rd_T61 l1_0 x7_1).f2))).setCell ⟨gb199, 3, none⟩ (.int .i64 ((rd_T61 l1_0 x7_1).f3))).heap[gb199]? = some (.cells #[.int .i64 ((rd_T61 l1_0 x7_1).f0), .int .i64 ((rd_T61 l1_0 x7_1).f1), .int .i64 ((rd_T61 l1_0 x7_1).f2), .int .i64 ((rd_T61 l1_0 x7_1).f3)] 61 (0, 0))) := ⟨by (with_reducible repeat (first | refine blk_drewN ?_ _ | refine blk_drew ?_ | refine blk_alloc ?_ _)); refine blk_put (cs := #[.int .i64 ((rd_T61 l1_0 x7_1).f0), .int .i64 ((rd_T61 l1_0 x7_1).f1), .int .i64 ((rd_T61 l1_0 x7_1).f2), .int .i64 0]) ?_ 3 _ rfl; refine blk_put (cs := #[.int .i64 ((rd_T61 l1_0 x7_1).f0), .int .i64 ((rd_T61 l1_0 x7_1).f1), .int .i64 0, .int .i64 0]) ?_ 2 _ rfl; refine blk_put (cs := #[.int .i64 ((rd_T61 l1_0 x7_1).f0), .int .i64 0, .int .i64 0, .int .i64 0]) ?_ 1 _ rfl; refine blk_put (cs := #[.int .i64 0, .int .i64 0, .int .i64 0, .int .i64 0]) ?_ 0 _ rfl; (with_reducible repeat (first | refine blk_drewN ?_ _ | refine blk_drew ?_ | refine blk_alloc ?_ _)); exact BK199.out⟩
         have n6_ : Aside0 (Below w.heap.size w ((((w128.setCell ⟨gb199, 0, none⟩ (.int .i64 ((rd_T61 l1_0 x7_1).f0))).setCell ⟨gb199, 1, none⟩ (.int .i64 ((rd_T61 l1_0 x7_1).f1))).setCell ⟨gb199, 2, none⟩ (.int .i64 ((rd_T61 l1_0 x7_1).f2))).setCell ⟨gb199, 3, none⟩ (.int .i64 ((rd_T61 l1_0 x7_1).f3)))) := ⟨by repeat (first | exact zh0 HB | refine below_set ?_ GE190.out | refine below_set ?_ GE191.out | refine below_set ?_ GE192.out | refine below_set ?_ GE197.out | refine below_set ?_ GE199.out)⟩
         (try clear HO_198000)
         (try clear BK190)
         (try clear BK191)
         (try clear BK192)
         (try clear BK197)
         (try clear BK199)
         (try clear HB)
         generalize ((((w128.setCell ⟨gb199, 0, none⟩ (.int .i64 ((rd_T61 l1_0 x7_1).f0))).setCell ⟨gb199, 1, none⟩ (.int .i64 ((rd_T61 l1_0 x7_1).f1))).setCell ⟨gb199, 2, none⟩ (.int .i64 ((rd_T61 l1_0 x7_1).f2))).setCell ⟨gb199, 3, none⟩ (.int .i64 ((rd_T61 l1_0 x7_1).f3))) = w138 at n0_ n1_ n2_ n3_ n4_ n5_ n6_ ⊢
         have HO_198000 := n0_
         have BK190 := n1_
         have BK191 := n2_
         have BK192 := n3_
         have BK197 := n4_
         have BK199 := n5_
         have HB := n6_
         clear n0_ n1_ n2_ n3_ n4_ n5_ n6_
         replace HO_198000 := Aside0.mk (Kd.R_drew HO_198000.out)
         replace BK190 := Aside0.mk (blk_drew BK190.out)
         replace BK191 := Aside0.mk (blk_drew BK191.out)
         replace BK192 := Aside0.mk (blk_drew BK192.out)
         replace BK197 := Aside0.mk (blk_drew BK197.out)
         replace BK199 := Aside0.mk (blk_drew BK199.out)
         replace HB := Aside0.mk (below_drew1 HB.out)
         refine start_ (n := 34) (S := fun w' => True) (ds := []) #[zF, zF, zF, zF, zF, zF, zF, zF, zF, zF, zF, zF, zF, zF, zF, zF, zF, zF, zF, zF, zF, zF, zF, zF, zF, zF, zF, zF, zF, zF, zF, zF, zF, zF] (by kernel_rfl) rfl rfl trivial (fun hHeld => ?_); refine with_tabW spec_MergeParts.tab9 spec_MergeParts.bits9 (fun HT_ HW_ => ?_)
         generalize w138.drew = w139 at HO_198000 BK190 BK191 BK192 BK197 BK199 HB hHeld ⊢
         refine pure_ (i := 0) (N := some 36) (v := ?_) (a' := ?_) #[zT, zF, zF, zF, zF, zF, zF, zF, zF, zF, zF, zF, zF, zF, zF, zF, zF, zF, zF, zF, zF, zF, zF, zF, zF, zF, zF, zF, zF, zF, zF, zF, zF, zF] rfl rfl (any_of HT_.out (by kernel_rfl)) (fun _ _ _ h => h) (Or.inl ⟨by rfl, ?_⟩) ?_ ?_
         rotate_left
         ·intro w'
          go_simp
          with_reducible rfl
         rotate_left
         ·simp only [Act.put, zp1, zp2, zp3, i64_w, i32_w]
          rfl
         refine pure_ (i := 1) (N := some 37) (v := ?_) (a' := ?_) #[zT, zT, zF, zF, zF, zF, zF, zF, zF, zF, zF, zF, zF, zF, zF, zF, zF, zF, zF, zF, zF, zF, zF, zF, zF, zF, zF, zF, zF, zF, zF, zF, zF, zF] rfl rfl (any_of HT_.out (by kernel_rfl)) (fun _ _ _ h => h) (Or.inl ⟨by rfl, ?_⟩) ?_ ?_
         rotate_left
         ·intro w'
          go_simp
          with_reducible rfl
         rotate_left
         ·simp only [Act.put, zp1, zp2, zp3, i64_w, i32_w]
          rfl
         refine pure_ (i := 2) (N := some 38) (v := ?_) (a' := ?_) #[zT, zT, zT, zF, zF, zF, zF, zF, zF, zF, zF, zF, zF, zF, zF, zF, zF, zF, zF, zF, zF, zF, zF, zF, zF, zF, zF, zF, zF, zF, zF, zF, zF, zF] rfl rfl (any_of HT_.out (by kernel_rfl)) (fun _ _ _ h => h) (Or.inl ⟨by rfl, ?_⟩) ?_ ?_
         rotate_left
         ·intro w'
          go_simp
          with_reducible rfl
         rotate_left
         ·simp only [Act.put, zp1, zp2, zp3, i64_w, i32_w]
          rfl
         refine pure_ (i := 3) (N := some 39) (v := undef) (a' := ?_) #[zT, zT, zT, zT, zF, zF, zF, zF, zF, zF, zF, zF, zF, zF, zF, zF, zF, zF, zF, zF, zF, zF, zF, zF, zF, zF, zF, zF, zF, zF, zF, zF, zF, zF] rfl rfl (any_of HT_.out (by kernel_rfl)) (fun _ _ _ h => h) (Or.inr ⟨by rfl, rfl⟩) ?_ ?_
         rotate_left
         ·simp only [Act.put, zp1, zp2, zp3, i64_w, i32_w]
          rfl
         refine pure_ (i := 4) (N := some 40) (v := undef) (a' := ?_) #[zT, zT, zT, zT, zT, zF, zF, zF, zF, zF, zF, zF, zF, zF, zF, zF, zF, zF, zF, zF, zF, zF, zF, zF, zF, zF, zF, zF, zF, zF, zF, zF, zF, zF] rfl rfl (any_of HT_.out (by kernel_rfl)) (fun _ _ _ h => h) (Or.inr ⟨by rfl, rfl⟩) ?_ ?_
         rotate_left
         ·simp only [Act.put, zp1, zp2, zp3, i64_w, i32_w]
          rfl
         refine pure_ (i := 5) (N := some 41) (v := undef) (a' := ?_) #[zT, zT, zT, zT, zT, zT, zF, zF, zF, zF, zF, zF, zF, zF, zF, zF, zF, zF, zF, zF, zF, zF, zF, zF, zF, zF, zF, zF, zF, zF, zF, zF, zF, zF] rfl rfl (any_of HT_.out (by kernel_rfl)) (fun _ _ _ h => h) (Or.inr ⟨by rfl, rfl⟩) ?_ ?_
         rotate_left
         ·simp only [Act.put, zp1, zp2, zp3, i64_w, i32_w]
          rfl
         refine pure_ (i := 6) (N := some 42) (v := undef) (a' := ?_) #[zT, zT, zT, zT, zT, zT, zT, zF, zF, zF, zF, zF, zF, zF, zF, zF, zF, zF, zF, zF, zF, zF, zF, zF, zF, zF, zF, zF, zF, zF, zF, zF, zF, zF] rfl rfl (any_of HT_.out (by kernel_rfl)) (fun _ _ _ h => h) (Or.inr ⟨by rfl, rfl⟩) ?_ ?_
         rotate_left
         ·simp only [Act.put, zp1, zp2, zp3, i64_w, i32_w]
          rfl
         refine pure_ (i := 7) (N := some 43) (v := undef) (a' := ?_) #[zT, zT, zT, zT, zT, zT, zT, zT, zF, zF, zF, zF, zF, zF, zF, zF, zF, zF, zF, zF, zF, zF, zF, zF, zF, zF, zF, zF, zF, zF, zF, zF, zF, zF] rfl rfl (any_of HT_.out (by kernel_rfl)) (fun _ _ _ h => h) (Or.inr ⟨by rfl, rfl⟩) ?_ ?_
         rotate_left
         ·simp only [Act.put, zp1, zp2, zp3, i64_w, i32_w]
          rfl
         refine pure_ (i := 8) (N := some 44) (v := undef) (a' := ?_) #[zT, zT, zT, zT, zT, zT, zT, zT, zT, zF, zF, zF, zF, zF, zF, zF, zF, zF, zF, zF, zF, zF, zF, zF, zF, zF, zF, zF, zF, zF, zF, zF, zF, zF] rfl rfl (any_of HT_.out (by kernel_rfl)) (fun _ _ _ h => h) (Or.inr ⟨by rfl, rfl⟩) ?_ ?_
         rotate_left
         ·simp only [Act.put, zp1, zp2, zp3, i64_w, i32_w]
          rfl
         refine pure_ (i := 9) (N := some 45) (v := undef) (a' := ?_) #[zT, zT, zT, zT, zT, zT, zT, zT, zT, zT, zF, zF, zF, zF, zF, zF, zF, zF, zF, zF, zF, zF, zF, zF, zF, zF, zF, zF, zF, zF, zF, zF, zF, zF] rfl rfl (any_of HT_.out (by kernel_rfl)) (fun _ _ _ h => h) (Or.inr ⟨by rfl, rfl⟩) ?_ ?_
         rotate_left
         ·simp only [Act.put, zp1, zp2, zp3, i64_w, i32_w]
          rfl
         refine pure_ (i := 10) (N := some 46) (v := undef) (a' := ?_) #[zT, zT, zT, zT, zT, zT, zT, zT, zT, zT, zT, zF, zF, zF, zF, zF, zF, zF, zF, zF, zF, zF, zF, zF, zF, zF, zF, zF, zF, zF, zF, zF, zF, zF] rfl rfl (any_of HT_.out (by kernel_rfl)) (fun _ _ _ h => h) (Or.inr ⟨by rfl, rfl⟩) ?_ ?_
         rotate_left
         ·simp only [Act.put, zp1, zp2, zp3, i64_w, i32_w]
          rfl
         refine pure_ (i := 11) (N := some 47) (v := undef) (a' := ?_) #[zT, zT, zT, zT, zT, zT, zT, zT, zT, zT, zT, zT, zF, zF, zF, zF, zF, zF, zF, zF, zF, zF, zF, zF, zF, zF, zF, zF, zF, zF, zF, zF, zF, zF] rfl rfl (any_of HT_.out (by kernel_rfl)) (fun _ _ _ h => h) (Or.inr ⟨by rfl, rfl⟩) ?_ ?_
         rotate_left
         ·simp only [Act.put, zp1, zp2, zp3, i64_w, i32_w]
          rfl
         refine pure_ (i := 12) (N := some 48) (v := undef) (a' := ?_) #[zT, zT, zT, zT, zT, zT, zT, zT, zT, zT, zT, zT, zT, zF, zF, zF, zF, zF, zF, zF, zF, zF, zF, zF, zF, zF, zF, zF, zF, zF, zF, zF, zF, zF] rfl rfl (any_of HT_.out (by kernel_rfl)) (fun _ _ _ h => h) (Or.inr ⟨by rfl, rfl⟩) ?_ ?_
         rotate_left
         ·simp only [Act.put, zp1, zp2, zp3, i64_w, i32_w]
          rfl
         refine pure_ (i := 13) (N := some 49) (v := ?_) (a' := ?_) #[zT, zT, zT, zT, zT, zT, zT, zT, zT, zT, zT, zT, zT, zT, zF, zF, zF, zF, zF, zF, zF, zF, zF, zF, zF, zF, zF, zF, zF, zF, zF, zF, zF, zF] rfl rfl (any_of HT_.out (by kernel_rfl)) (fun _ _ _ h => h) (Or.inl ⟨by rfl, ?_⟩) ?_ ?_
         rotate_left
         ·intro w'
          go_simp
          with_reducible rfl
         rotate_left
         ·simp only [Act.put, zp1, zp2, zp3, i64_w, i32_w]
          rfl
         refine pure_ (i := 14) (N := some 50) (v := ?_) (a' := ?_) #[zT, zT, zT, zT, zT, zT, zT, zT, zT, zT, zT, zT, zT, zT, zT, zF, zF, zF, zF, zF, zF, zF, zF, zF, zF, zF, zF, zF, zF, zF, zF, zF, zF, zF] rfl rfl (any_of HT_.out (by kernel_rfl)) (fun _ _ _ h => h) (Or.inl ⟨by rfl, ?_⟩) ?_ ?_
         rotate_left
         ·intro w'
          go_simp
          with_reducible rfl
         rotate_left
         ·simp only [Act.put, zp1, zp2, zp3, i64_w, i32_w]
          rfl
         refine pure_ (i := 15) (N := some 51) (v := undef) (a' := ?_) #[zT, zT, zT, zT, zT, zT, zT, zT, zT, zT, zT, zT, zT, zT, zT, zT, zF, zF, zF, zF, zF, zF, zF, zF, zF, zF, zF, zF, zF, zF, zF, zF, zF, zF] rfl rfl (any_of HT_.out (by kernel_rfl)) (fun _ _ _ h => h) (Or.inr ⟨by rfl, rfl⟩) ?_ ?_
         rotate_left
         ·simp only [Act.put, zp1, zp2, zp3, i64_w, i32_w]
          rfl
         refine pure_ (i := 16) (N := some 52) (v := undef) (a' := ?_) #[zT, zT, zT, zT, zT, zT, zT, zT, zT, zT, zT, zT, zT, zT, zT, zT, zT, zF, zF, zF, zF, zF, zF, zF, zF, zF, zF, zF, zF, zF, zF, zF, zF, zF] rfl rfl (any_of HT_.out (by kernel_rfl)) (fun _ _ _ h => h) (Or.inr ⟨by rfl, rfl⟩) ?_ ?_
         rotate_left
         ·simp only [Act.put, zp1, zp2, zp3, i64_w, i32_w]
          rfl
         refine pure_ (i := 17) (N := some 53) (v := undef) (a' := ?_) #[zT, zT, zT, zT, zT, zT, zT, zT, zT, zT, zT, zT, zT, zT, zT, zT, zT, zT, zF, zF, zF, zF, zF, zF, zF, zF, zF, zF, zF, zF, zF, zF, zF, zF] rfl rfl (any_of HT_.out (by kernel_rfl)) (fun _ _ _ h => h) (Or.inr ⟨by rfl, rfl⟩) ?_ ?_
         rotate_left
         ·simp only [Act.put, zp1, zp2, zp3, i64_w, i32_w]
          rfl
         refine pure_ (i := 18) (N := some 54) (v := undef) (a' := ?_) #[zT, zT, zT, zT, zT, zT, zT, zT, zT, zT, zT, zT, zT, zT, zT, zT, zT, zT, zT, zF, zF, zF, zF, zF, zF, zF, zF, zF, zF, zF, zF, zF, zF, zF] rfl rfl (any_of HT_.out (by kernel_rfl)) (fun _ _ _ h => h) (Or.inr ⟨by rfl, rfl⟩) ?_ ?_
         rotate_left
         ·simp only [Act.put, zp1, zp2, zp3, i64_w, i32_w]
          rfl
         refine pure_ (i := 19) (N := some 55) (v := undef) (a' := ?_) #[zT, zT, zT, zT, zT, zT, zT, zT, zT, zT, zT, zT, zT, zT, zT, zT, zT, zT, zT, zT, zF, zF, zF, zF, zF, zF, zF, zF, zF, zF, zF, zF, zF, zF] rfl rfl (any_of HT_.out (by kernel_rfl)) (fun _ _ _ h => h) (Or.inr ⟨by rfl, rfl⟩) ?_ ?_
         rotate_left
         ·simp only [Act.put, zp1, zp2, zp3, i64_w, i32_w]
          rfl
         refine pure_ (i := 20) (N := some 56) (v := undef) (a' := ?_) #[zT, zT, zT, zT, zT, zT, zT, zT, zT, zT, zT, zT, zT, zT, zT, zT, zT, zT, zT, zT, zT, zF, zF, zF, zF, zF, zF, zF, zF, zF, zF, zF, zF, zF] rfl rfl (any_of HT_.out (by kernel_rfl)) (fun _ _ _ h => h) (Or.inr ⟨by rfl, rfl⟩) ?_ ?_
         rotate_left
         ·simp only [Act.put, zp1, zp2, zp3, i64_w, i32_w]
          rfl
         refine pure_ (i := 21) (N := some 57) (v := undef) (a' := ?_) #[zT, zT, zT, zT, zT, zT, zT, zT, zT, zT, zT, zT, zT, zT, zT, zT, zT, zT, zT, zT, zT, zT, zF, zF, zF, zF, zF, zF, zF, zF, zF, zF, zF, zF] rfl rfl (any_of HT_.out (by kernel_rfl)) (fun _ _ _ h => h) (Or.inr ⟨by rfl, rfl⟩) ?_ ?_
         rotate_left
         ·simp only [Act.put, zp1, zp2, zp3, i64_w, i32_w]
          rfl
         refine pure_ (i := 22) (N := some 58) (v := undef) (a' := ?_) #[zT, zT, zT, zT, zT, zT, zT, zT, zT, zT, zT, zT, zT, zT, zT, zT, zT, zT, zT, zT, zT, zT, zT, zF, zF, zF, zF, zF, zF, zF, zF, zF, zF, zF] rfl rfl (any_of HT_.out (by kernel_rfl)) (fun _ _ _ h => h) (Or.inr ⟨by rfl, rfl⟩) ?_ ?_
         rotate_left
         ·simp only [Act.put, zp1, zp2, zp3, i64_w, i32_w]
          rfl
         refine pure_ (i := 23) (N := some 59) (v := undef) (a' := ?_) #[zT, zT, zT, zT, zT, zT, zT, zT, zT, zT, zT, zT, zT, zT, zT, zT, zT, zT, zT, zT, zT, zT, zT, zT, zF, zF, zF, zF, zF, zF, zF, zF, zF, zF] rfl rfl (any_of HT_.out (by kernel_rfl)) (fun _ _ _ h => h) (Or.inr ⟨by rfl, rfl⟩) ?_ ?_
         rotate_left
         ·simp only [Act.put, zp1, zp2, zp3, i64_w, i32_w]
          rfl
         refine pure_ (i := 24) (N := some 60) (v := undef) (a' := ?_) #[zT, zT, zT, zT, zT, zT, zT, zT, zT, zT, zT, zT, zT, zT, zT, zT, zT, zT, zT, zT, zT, zT, zT, zT, zT, zF, zF, zF, zF, zF, zF, zF, zF, zF] rfl rfl (any_of HT_.out (by kernel_rfl)) (fun _ _ _ h => h) (Or.inr ⟨by rfl, rfl⟩) ?_ ?_
         rotate_left
         ·simp only [Act.put, zp1, zp2, zp3, i64_w, i32_w]
          rfl
         refine pure_ (i := 25) (N := some 61) (v := undef) (a' := ?_) #[zT, zT, zT, zT, zT, zT, zT, zT, zT, zT, zT, zT, zT, zT, zT, zT, zT, zT, zT, zT, zT, zT, zT, zT, zT, zT, zF, zF, zF, zF, zF, zF, zF, zF] rfl rfl (any_of HT_.out (by kernel_rfl)) (fun _ _ _ h => h) (Or.inr ⟨by rfl, rfl⟩) ?_ ?_
         rotate_left
         ·simp only [Act.put, zp1, zp2, zp3, i64_w, i32_w]
          rfl
         refine pure_ (i := 26) (N := some 62) (v := undef) (a' := ?_) #[zT, zT, zT, zT, zT, zT, zT, zT, zT, zT, zT, zT, zT, zT, zT, zT, zT, zT, zT, zT, zT, zT, zT, zT, zT, zT, zT, zF, zF, zF, zF, zF, zF, zF] rfl rfl (any_of HT_.out (by kernel_rfl)) (fun _ _ _ h => h) (Or.inr ⟨by rfl, rfl⟩) ?_ ?_
         rotate_left
         ·simp only [Act.put, zp1, zp2, zp3, i64_w, i32_w]
          rfl
         refine pure_ (i := 27) (N := some 63) (v := undef) (a' := ?_) #[zT, zT, zT, zT, zT, zT, zT, zT, zT, zT, zT, zT, zT, zT, zT, zT, zT, zT, zT, zT, zT, zT, zT, zT, zT, zT, zT, zT, zF, zF, zF, zF, zF, zF] rfl rfl (any_of HT_.out (by kernel_rfl)) (fun _ _ _ h => h) (Or.inr ⟨by rfl, rfl⟩) ?_ ?_
         rotate_left
         ·simp only [Act.put, zp1, zp2, zp3, i64_w, i32_w]
          rfl
         refine pure_ (i := 28) (N := some 64) (v := undef) (a' := ?_) #[zT, zT, zT, zT, zT, zT, zT, zT, zT, zT, zT, zT, zT, zT, zT, zT, zT, zT, zT, zT, zT, zT, zT, zT, zT, zT, zT, zT, zT, zF, zF, zF, zF, zF] rfl rfl (any_of HT_.out (by kernel_rfl)) (fun _ _ _ h => h) (Or.inr ⟨by rfl, rfl⟩) ?_ ?_
         rotate_left
         ·simp only [Act.put, zp1, zp2, zp3, i64_w, i32_w]
          rfl
         refine pure_ (i := 29) (N := some 65) (v := undef) (a' := ?_) #[zT, zT, zT, zT, zT, zT, zT, zT, zT, zT, zT, zT, zT, zT, zT, zT, zT, zT, zT, zT, zT, zT, zT, zT, zT, zT, zT, zT, zT, zT, zF, zF, zF, zF] rfl rfl (any_of HT_.out (by kernel_rfl)) (fun _ _ _ h => h) (Or.inr ⟨by rfl, rfl⟩) ?_ ?_
         rotate_left
         ·simp only [Act.put, zp1, zp2, zp3, i64_w, i32_w]
          rfl
         refine pure_ (i := 30) (N := some 66) (v := undef) (a' := ?_) #[zT, zT, zT, zT, zT, zT, zT, zT, zT, zT, zT, zT, zT, zT, zT, zT, zT, zT, zT, zT, zT, zT, zT, zT, zT, zT, zT, zT, zT, zT, zT, zF, zF, zF] rfl rfl (any_of HT_.out (by kernel_rfl)) (fun _ _ _ h => h) (Or.inr ⟨by rfl, rfl⟩) ?_ ?_
         rotate_left
         ·simp only [Act.put, zp1, zp2, zp3, i64_w, i32_w]
          rfl
         refine pure_ (i := 31) (N := some 67) (v := undef) (a' := ?_) #[zT, zT, zT, zT, zT, zT, zT, zT, zT, zT, zT, zT, zT, zT, zT, zT, zT, zT, zT, zT, zT, zT, zT, zT, zT, zT, zT, zT, zT, zT, zT, zT, zF, zF] rfl rfl (any_of HT_.out (by kernel_rfl)) (fun _ _ _ h => h) (Or.inr ⟨by rfl, rfl⟩) ?_ ?_
         rotate_left
         ·simp only [Act.put, zp1, zp2, zp3, i64_w, i32_w]
          rfl
         refine pure_ (i := 32) (N := some 68) (v := undef) (a' := ?_) #[zT, zT, zT, zT, zT, zT, zT, zT, zT, zT, zT, zT, zT, zT, zT, zT, zT, zT, zT, zT, zT, zT, zT, zT, zT, zT, zT, zT, zT, zT, zT, zT, zT, zF] rfl rfl (any_of HT_.out (by kernel_rfl)) (fun _ _ _ h => h) (Or.inr ⟨by rfl, rfl⟩) ?_ ?_
         rotate_left
         ·simp only [Act.put, zp1, zp2, zp3, i64_w, i32_w]
          rfl
         refine pure_ (i := 33) (N := some 69) (v := ?_) (a' := ?_) #[zT, zT, zT, zT, zT, zT, zT, zT, zT, zT, zT, zT, zT, zT, zT, zT, zT, zT, zT, zT, zT, zT, zT, zT, zT, zT, zT, zT, zT, zT, zT, zT, zT, zT] rfl rfl (any_of HT_.out (by kernel_rfl)) (fun _ _ _ h => h) (Or.inl ⟨by rfl, ?_⟩) ?_ ?_
         rotate_left
         ·intro w'
          go_simp
          with_reducible rfl
         rotate_left
         ·simp only [Act.put, zp1, zp2, zp3, i64_w, i32_w]
          rfl
         refine done_ (done_of HT_.out (by kernel_rfl)) ?_
         have hnb140 := NB197_190.out
         have hnc140 := NB190_197.out
         have hnb141 := NB197_192.out
         have hnc141 := NB192_197.out
         have hcz142_0 := zc0 BK197 0 rfl
         have hfz142_0 := blk_frozen BK197.out 0
         have hcz143_0 := zc0 BK199 0 rfl
         have hcz143_1 := zc0 BK199 1 rfl
         have hcz143_2 := zc0 BK199 2 rfl
         have hcz143_3 := zc0 BK199 3 rfl
         have hfz143_0 := blk_frozen BK199.out 0
         have hfz143_1 := blk_frozen BK199.out 1
         have hfz143_2 := blk_frozen BK199.out 2
         have hfz143_3 := blk_frozen BK199.out 3
         try go_wp2_with (first | ((with_reducible refine gate_builtin (b := .append) (xs := #[.tmp 98, .tmp 100]) rfl ?_); at_builtin; refine Kd.R_append k61 (w0 := w) w.heap.size rfl (.tmp 98) (.tmp 100) 30 61 (.agg #[(.int .i64 0), (.int .i64 0), (.int .i64 0), (.int .i64 0)]) 32 rfl Try.underlying30 info61 rfl (by decide) (by omega) (.slice Ao127 x198000_1.length co127) x198000_1 (⟨(rd_T61 l1_0 x7_1).f0, (rd_T61 l1_0 x7_1).f1, (rd_T61 l1_0 x7_1).f2, (rd_T61 l1_0 x7_1).f3⟩ : S61) [.int .i64 ((rd_T61 l1_0 x7_1).f0), .int .i64 ((rd_T61 l1_0 x7_1).f1), .int .i64 ((rd_T61 l1_0 x7_1).f2), .int .i64 ((rd_T61 l1_0 x7_1).f3)] (fun k_ => k_ ≠ gb199) (fun _ => False) rfl rfl ?aP (fun _ hk => hk.elim) ?aF ?aO ?aB ?aS ?aL ?_; (case aP => exact k61_mkM _ _ _ (⟨(rd_T61 l1_0 x7_1).f0, (rd_T61 l1_0 x7_1).f1, (rd_T61 l1_0 x7_1).f2, (rd_T61 l1_0 x7_1).f3⟩ : S61)); (case aB => exact (by repeat (first | exact zh0 HB | refine below_set ?_ GE190.out | refine below_set ?_ GE191.out | refine below_set ?_ GE192.out | refine below_set ?_ GE197.out | refine below_set ?_ GE199.out))); (case aF => exact (fun k_ hk => Kd.freshB (g := gb199) (o := .cells #[.int .i64 ((rd_T61 l1_0 x7_1).f0), .int .i64 ((rd_T61 l1_0 x7_1).f1), .int .i64 ((rd_T61 l1_0 x7_1).f2), .int .i64 ((rd_T61 l1_0 x7_1).f3)] 61 (0, 0)) (zk0 BK199) k_ hk)); (case aO => exact (zr0 HO_198000)); (case aS => exact (below_size (by repeat (first | exact zh0 HB | refine below_set ?_ GE190.out | refine below_set ?_ GE191.out | refine below_set ?_ GE192.out | refine below_set ?_ GE197.out | refine below_set ?_ GE199.out)))); (case aL => have := LMc121.out; omega); intro v213 w144 ho hb hg hat; rw [← Ny212.out] at ho; have n0_ := Aside0.mk (blk_grown (g := gb190) (o := .cells #[.slice A0_0 l0_0.length c0_0] 35 (0, 0)) (zk0 BK190) hg (Kd.R_ne HO_198000.out BK190.out (by decide))); have n1_ := Aside0.mk (blk_grown (g := gb191) (o := .cells #[.slice (some ad198) l1_0.length c1_0] 32 (0, 0)) (zk0 BK191) hg (Kd.R_ne HO_198000.out BK191.out (by decide))); have n2_ := Aside0.mk (blk_grown (g := gb192) (o := .cells #[.slice none 0 0] 32 (0, 0)) (zk0 BK192) hg (Kd.R_ne HO_198000.out BK192.out (by decide))); have n3_ := Aside0.mk (blk_grown (g := gb197) (o := .cells #[.slice Ao127 x198000_1.length co127] 32 (0, 0)) (zk0 BK197) hg (Kd.R_ne HO_198000.out BK197.out (by decide))); have n4_ := Aside0.mk (blk_grown (g := gb199) (o := .cells #[.int .i64 ((rd_T61 l1_0 x7_1).f0), .int .i64 ((rd_T61 l1_0 x7_1).f1), .int .i64 ((rd_T61 l1_0 x7_1).f2), .int .i64 ((rd_T61 l1_0 x7_1).f3)] 61 (0, 0)) (zk0 BK199) hg (Kd.R_away HO_198000.out (fun _ hk => hk))); have n5_ := Aside0.mk (hb); have n6_ := Aside0.mk (ho); clear BK190; clear BK191; clear BK192; clear BK197; clear BK199; clear HB; clear HO_198000; have BK190 := n0_; have BK191 := n1_; have BK192 := n2_; have BK197 := n3_; have BK199 := n4_; have HB := n5_; have HO214 := n6_; clear n0_ n1_ n2_ n3_ n4_ n5_ n6_; clear ho hb hg hat; obtain ⟨Ao145, co145, eo145⟩ := Kd.R_slice HO214.out; subst eo145; have hcz146_0 := zc0 BK197 0 rfl; have hfz146_0 := blk_frozen BK197.out 0))
         go_roundg k1
         case measure => have := HK1.out; omega
         case rel => exact ⟨(wrap64 (x7_1 + 1)), (y212), (.slice Ao145 y212.length co145), (by first | rfl | (simp; done) | (simp [*]; done)), H', ⟨by have := HK1.out; omega⟩, ⟨by (with_reducible repeat (first | apply Kd.R_alloc | apply Kd.R_drewN | apply Kd.R_drew)); exact Kd.R_mono (Kd.R_far (p := ⟨gb197, 0, none⟩) (Kd.R_types HO214.out BK197.out (by decide)) (fun _ hk => hk.2) (.slice Ao145 y212.length co145)) (fun _ hk => trivial)⟩, ⟨by (with_reducible repeat (first | refine blk_drewN ?_ _ | refine blk_drew ?_ | refine blk_alloc ?_ _)); refine blk_far ?_ NB190_197.out _; (with_reducible repeat (first | refine blk_drewN ?_ _ | refine blk_drew ?_ | refine blk_alloc ?_ _)); exact BK190.out⟩, ⟨by (with_reducible repeat (first | refine blk_drewN ?_ _ | refine blk_drew ?_ | refine blk_alloc ?_ _)); refine blk_far ?_ NB191_197.out _; (with_reducible repeat (first | refine blk_drewN ?_ _ | refine blk_drew ?_ | refine blk_alloc ?_ _)); exact BK191.out⟩, ⟨by (with_reducible repeat (first | refine blk_drewN ?_ _ | refine blk_drew ?_ | refine blk_alloc ?_ _)); refine blk_far ?_ NB192_197.out _; (with_reducible repeat (first | refine blk_drewN ?_ _ | refine blk_drew ?_ | refine blk_alloc ?_ _)); exact BK192.out⟩, ⟨by (with_reducible repeat (first | refine blk_drewN ?_ _ | refine blk_drew ?_ | refine blk_alloc ?_ _)); refine blk_put (cs := #[.slice Ao127 x198000_1.length co127]) ?_ 0 _ rfl; (with_reducible repeat (first | refine blk_drewN ?_ _ | refine blk_drew ?_ | refine blk_alloc ?_ _)); exact BK197.out⟩, ⟨by repeat (first | exact zh0 HB | refine below_set ?_ GE190.out | refine below_set ?_ GE191.out | refine below_set ?_ GE192.out | refine below_set ?_ GE197.out | refine below_set ?_ GE199.out)⟩⟩
        ·rw [if_neg c121] at H
         exact absurd H (by simp)
     ·rw [if_neg c23] at H
      exact absurd H (by simp)
    ·rw [if_neg c22] at H
     have c22b0 : decide (x7_1 < (l1_0.length : Int)) = false := decide_eq_false c22
     clear c22
     simp only [Option.some.injEq, Prod.mk.injEq] at H
     obtain ⟨rfl, rfl⟩ := H
     have hnb147 := NB191_190.out
     have hnc147 := NB190_191.out
     have hnb148 := NB191_192.out
     have hnc148 := NB192_191.out
     have hnb149 := NB191_197.out
     have hnc149 := NB197_191.out
     have hcz150_0 := zc0 BK191 0 rfl
     have hfz150_0 := blk_frozen BK191.out 0
     have hnb151 := NB197_190.out
     have hnc151 := NB190_197.out
     have hnb152 := NB197_192.out
     have hnc152 := NB192_197.out
     have hcz153_0 := zc0 BK197 0 rfl
     have hfz153_0 := blk_frozen BK197.out 0
     obtain ⟨Ao154, co154, eo154⟩ := Kd.R_slice HO_198000.out
     subst eo154
     have hnb155 := NB192_190.out
     have hnc155 := NB190_192.out
     have hcz156_0 := zc0 BK192 0 rfl
     have hfz156_0 := blk_frozen BK192.out 0
     go_wp2
     refine bodyPost_ret (results_ct rfl _ _ gb192 32 #[.slice Ao154 x198000_1.length co154] (0, 0) _ rfl (by (with_reducible repeat (first | refine blk_drewN ?_ _ | refine blk_drew ?_ | refine blk_alloc ?_ _)); refine blk_put (cs := #[.slice none 0 0]) ?_ 0 _ rfl; (with_reducible repeat (first | refine blk_drewN ?_ _ | refine blk_drew ?_ | refine blk_alloc ?_ _)); exact BK192.out) Try.underlying32 rfl (by kernel_rfl)) rfl ?_
     exact ⟨_, by first | rfl | (simp <;> rfl) | (simp [*] <;> rfl), by (with_reducible repeat (first | apply Kd.R_alloc | apply Kd.R_drewN | apply Kd.R_drew)); exact Kd.R_mono (Kd.R_far (p := ⟨gb192, 0, none⟩) (Kd.R_types HO_198000.out BK192.out (by decide)) (fun _ hk => hk.2) (.slice Ao154 x198000_1.length co154)) (fun _ hk => trivial), by repeat (first | exact zh0 HB | refine below_set ?_ GE190.out | refine below_set ?_ GE191.out | refine below_set ?_ GE192.out | refine below_set ?_ GE197.out)⟩
 ·replace c4 := Bool.eq_false_iff.mpr c4
  subst c4
  have H1 : (some (([] : List (S61)), false)) = some (r1, r2) := by rw [if_neg (show ¬ (false = true) by decide)] at H; exact H
  clear H
  have H := H1
  clear H1
  simp only [Option.some.injEq, Prod.mk.injEq] at H
  obtain ⟨rfl, rfl⟩ := H
  go_enter Try.func25, Try.ntmps25
  go_wp2_with (first | ((with_reducible refine gate_dst (N := 2) rfl ?_); refine box_event ?hg (N := 2) ?hd (cs := #[.slice A0_0 l0_0.length c0_0]) (t := 35) ?hr ?_; (case hd => rfl); (case hg => rfl); (case hr => first | (go_simp; done) | (go_simp; rfl)); intro gb190 hg w157 hbox hb; have BK190 := Aside0.mk (hbox); have GW190 := zge HB hg; have GE190 := zge HB hg; replace HB := zhs HB hb; clear hb hbox hg) | ((with_reducible refine gate_dst (N := 3) rfl ?_); refine box_event ?hg (N := 3) ?hd (cs := #[.slice A1_0 l1_0.length c1_0]) (t := 32) ?hr ?_; (case hd => rfl); (case hg => rfl); (case hr => first | (go_simp; done) | (go_simp; rfl)); intro gb191 hg w158 hbox hb; have BK191 := Aside0.mk (hbox); have GW191 := zge HB hg; have GE191 := zge HB hg; have NB190_191 := znl BK190 hg; have NB191_190 := znr BK190 hg; replace BK190 := zb0 BK190 hb; replace HB := zhs HB hb; clear hb hbox hg) | ((with_reducible refine gate_dst (N := 4) rfl ?_); refine box_event ?hg (N := 4) ?hd (cs := #[.slice none 0 0]) (t := 32) ?hr ?_; (case hd => rfl); (case hg => rfl); (case hr => first | (go_simp; done) | (go_simp; rfl)); intro gb192 hg w159 hbox hb; have BK192 := Aside0.mk (hbox); have GW192 := zge HB hg; have GE192 := zge HB hg; have NB190_192 := znl BK190 hg; have NB192_190 := znr BK190 hg; have NB191_192 := znl BK191 hg; have NB192_191 := znr BK191 hg; replace BK190 := zb0 BK190 hb; replace BK191 := zb0 BK191 hb; replace HB := zhs HB hb; clear hb hbox hg; have hnb160 := NB190_191.out; have hnc160 := NB191_190.out; have hnb161 := NB190_192.out; have hnc161 := NB192_190.out; have hcz162_0 := zc0 BK190 0 rfl; have hfz162_0 := blk_frozen BK190.out 0; have hnb163 := NB191_192.out; have hnc163 := NB192_191.out; have hcz164_0 := zc0 BK191 0 rfl; have hfz164_0 := blk_frozen BK191.out 0) | ((with_reducible refine gate_callee (f := 89) rfl ?_); refine goesL_ (some 13) rfl rfl Try.func89 (by kernel_rfl) rfl #[.agg #[.slice A0_0 l0_0.length c0_0], .agg #[.slice A1_0 l1_0.length c1_0]] rfl (by (try simp only [zq1, zq2, zq3]); first | done | rfl | (simp only [List.length_drop, List.length_take]; rfl)) ?_; (with_reducible refine (spec_l7Rope.calls k _ _ l0_0 _ _ l1_0 false _ ?side1 ?side2 ?side3 ?side4 A3.out).mono ?_); (case side1 => exact Kd.C_below HR0_0.out (zh0 HB)); (case side2 => exact HC0_0.out); (case side3 => exact Kd.C_below HR1_0.out (zh0 HB)); (case side4 => exact HC1_0.out); rintro e w165 ⟨rfl, hb⟩; refine ⟨_, rfl, ?_⟩; replace BK190 := zb0 BK190 hb; replace BK191 := zb0 BK191 hb; replace BK192 := zb0 BK192 hb; replace HB := Aside0.mk (below_step (by repeat (first | exact zh0 HB | refine below_set ?_ GE190.out | refine below_set ?_ GE191.out | refine below_set ?_ GE192.out)) hb); (try clear hb); (try clear hb2); (try clear hk); (try clear hi); have hcz166_0 := zc0 BK192 0 rfl; have hfz166_0 := blk_frozen BK192.out 0))
  refine bodyPost_ret (results_ct rfl _ _ gb192 32 #[.slice none 0 0] (0, 0) _ rfl (by (with_reducible repeat (first | refine blk_drewN ?_ _ | refine blk_drew ?_ | refine blk_alloc ?_ _)); refine blk_put (cs := #[.slice none 0 0]) ?_ 0 _ rfl; (with_reducible repeat (first | refine blk_drewN ?_ _ | refine blk_drew ?_ | refine blk_alloc ?_ _)); exact BK192.out) Try.underlying32 rfl (by kernel_rfl)) rfl ?_
  exact ⟨_, by first | rfl | (simp <;> rfl) | (simp [*] <;> rfl), by first | exact Kd.R_nil _ _ _ _ _ | exact Kd.N_nil _ _ _ _ _ | exact Kd.V_nil _ _ _ _ _ | exact Kd.Q_nil _ _ _ _ _ | exact Kd.S_nil _ _ _ _ _, by repeat (first | exact zh0 HB | refine below_set ?_ GE190.out | refine below_set ?_ GE191.out | refine below_set ?_ GE192.out)⟩

end Go.Proofs.Ytldkbeccpheckab.PFnExactMergeParts
